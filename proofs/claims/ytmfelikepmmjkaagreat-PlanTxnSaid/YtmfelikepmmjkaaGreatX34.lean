/-
Keys of nodes, of the lease; kinds of keys.
-/
import Derived.Test.YtmfelikepmmjkaaGreatX33
import Derived.Test.YtmfelikepmmjkaaGreatX23
import Derived.Test.YtmfelikepmmjkaaGreatX11
set_option linter.unusedVariables false
set_option linter.unusedSimpArgs false
set_option maxHeartbeats 16000000
namespace Go.Eng
open Go
def dK (s:aU):aU:=[110,47]++s
def oT:aU:=[108]
theorem P5 (s:aU):((bO s).take (((bO s).length:Nat):Int).toNat).drop (Int.toNat 2)=s:=by
 rw [Int.toNat_natCast,List.take_length];rfl
theorem P6 (s:aU):((dK s).take (((dK s).length:Nat):Int).toNat).drop (Int.toNat 2)=s:=by
 rw [Int.toNat_natCast,List.take_length];rfl
section
variable {P:Program} (hG:bP P AF.fns.get)
include hG
theorem keyn_at {h:aA} (s:aU) (hl:s.length<=9223372036854775807) (hs:bI s=true) {K:V->aA->Prop} (hK:K (.s (dK s)) h):aC P 52 [.i .i64 2,.s s] h K:=by
 have hk:=fun K hK=>name_at (K:=K) hG (h:=h) s hl hK
 rw [hs] at hk
 have hlen:s.length<=12:=(nameB_ok hs).1
 refine aQ (hG _ AF.f52 rfl) rfl ?_
 (refine iG @hk (decide_eq_true (show ((([110,47]:aU).length+s.length:Nat):Int)<=9223372036854775807 by simp;omega)) ?_)
 exact hK
theorem VN {h:aA} (s:aU) (hl:s.length<=9223372036854775807) (hs:bI s=false) {K:V->aA->Prop} (hK:K (.s []) h):aC P 52 [.i .i64 2,.s s] h K:=by
 have hk:=fun K hK=>name_at (K:=K) hG (h:=h) s hl hK
 rw [hs] at hk
 refine aQ (hG _ AF.f52 rfl) rfl ?_
 (refine cD @hk ?_)
 exact hK
theorem keyl_at {h:aA} {K:V->aA->Prop} (hK:K (.s oT) h):aC P 52 [.i .i64 3,.s []] h K:=by
 refine aQ (hG _ AF.f52 rfl) rfl ?_
 (refine zr ?_)
 exact hK
theorem kindp_at {h:aA} (s:aU) (hs:bI s=true) {K:V->aA->Prop} (hK:K (.i .i64 1) h):aC P 57 [.s (bO s)] h K:=by
 have hlen:s.length<=12:=(nameB_ok hs).1
 have h1:1<=s.length:=by unfold bI at hs;simp only [Bool.and_eq_true,decide_eq_true_eq] at hs;exact hs.1.1
 have hk:∀ (K:V->aA->Prop) (_:K (.b true) h),aC P 125 [.s (((bO s).take (((bO s).length:Nat):Int).toNat).drop (Int.toNat 2))] h K:=fun K hK=>by
  rw [P5]
  exact name_at hG s (by omega) (by rw [hs];exact hK)
 have W3:(bO s).length=s.length+2:=by simp [bO]
 refine aQ (hG _ AF.f57 rfl) rfl ?_
 ((conv=>whnf);repeat ((first|refine aH.dt (show (((bO s).length:Nat):Int)>2 by omega) ?_|refine cA (hk _) ?_|refine aM.d3 (by omega) (by omega) (by omega) ?_|refine zz ?_)<;>(conv=>whnf)))
 exact hK
theorem kindn_at {h:aA} (s:aU) (hs:bI s=true) {K:V->aA->Prop} (hK:K (.i .i64 2) h):aC P 57 [.s (dK s)] h K:=by
 have hlen:s.length<=12:=(nameB_ok hs).1
 have h1:1<=s.length:=by unfold bI at hs;simp only [Bool.and_eq_true,decide_eq_true_eq] at hs;exact hs.1.1
 have hk:∀ (K:V->aA->Prop) (_:K (.b true) h),aC P 125 [.s (((dK s).take (((dK s).length:Nat):Int).toNat).drop (Int.toNat 2))] h K:=fun K hK=>by
  rw [P6]
  exact name_at hG s (by omega) (by rw [hs];exact hK)
 have W3:(dK s).length=s.length+2:=by simp [dK]
 refine aQ (hG _ AF.f57 rfl) rfl ?_
 ((conv=>whnf);repeat ((first|refine aH.dt (show (((dK s).length:Nat):Int)>2 by omega) ?_|refine cA (hk _) ?_|refine aM.d3 (by omega) (by omega) (by omega) ?_|refine zz ?_)<;>(conv=>whnf)))
 exact hK
theorem kindl_at {h:aA} {K:V->aA->Prop} (hK:K (.i .i64 3) h):aC P 57 [.s oT] h K:=by
 refine aQ (hG _ AF.f57 rfl) rfl ?_
 (refine zr ?_)
 exact hK
end
open Go
theorem aA.aJ.comp {b b2:Nat->Prop} {h1 h2 h3:aA} (a:aA.aJ b h1 h2) (c:aA.aJ b2 h2 h3) (hs:∀ n,n<h1.next->b2 n->b n):aA.aJ b h1 h3:=
 ⟨Nat.le_trans a.next c.next,fun n hn hb=>(c.same n (Nat.lt_of_lt_of_le hn a.next) fun e=>hb (hs n hn e)).trans (a.same n hn hb)⟩
def DP:List V:=[.i .i64 0,.s [],.aS,.b false]
theorem FH (L:List kJ) (d:Nat):(L.map lU++List.replicate d DP).length=L.length+d:=by simp
theorem TD {L:List kJ} {d i:Nat} {x:kJ} {j:Nat} (hj:j=i) (h:L[i]? =some x):(L.map lU++List.replicate d DP)[0+j]? =some (lU x):=by
 subst hj
 have:=(List.getElem?_eq_some_iff.1 h).1
 rw [Nat.zero_add,List.getElem?_append_left (by simpa using this),List.getElem?_map,h];rfl
def mQ (p:kJ->Bool) (L:List kJ):List kJ:=L.filter fun o=>!p o
structure Dj (p:kJ->Bool) (L M:List kJ) (j m:Nat):Prop where
 len:M.length=L.length
 take:M.take j=mQ p (L.take m)
 drop:M.drop m=L.drop m
 jm:j<=m
 jl:j=(mQ p (L.take m)).length
theorem FI {p:kJ->Bool} {L:List kJ} (h:∀ (j:Nat) (e:kJ),L[j]? =some e->p e=false):mQ p L=L:=by
 unfold mQ
 refine List.filter_eq_self.2 fun a ha=>?_
 obtain ⟨j,hj⟩:=List.mem_iff_getElem?.1 ha
 rw [h j a hj];rfl
theorem Dj.start {p:kJ->Bool} {L:List kJ} {i:Nat} {e:kJ} (he:L[i]? =some e) (hp:p e=true) (pH:∀ (j:Nat) (x:kJ),j<i->L[j]? =some x->p x=false):Dj p L L i (i+1):=by
 have hi:=(List.getElem?_eq_some_iff.1 he).1
 have h1:mQ p (L.take i)=L.take i:=FI fun j x hj=>by
  have zE:j<i:=by have:=(List.getElem?_eq_some_iff.1 hj).1;simp at this;omega
  rw [List.getElem?_take_of_lt zE] at hj
  exact pH j x zE hj
 have h2:mQ p (L.take (i+1))=L.take i:=by
  rw [List.take_add_one,he]
  unfold mQ at h1 ⊢
  rw [List.filter_append,h1]
  simp [hp]
 exact ⟨rfl,h2.symm,rfl,by omega,by rw [h2,List.length_take];omega⟩
theorem Dj.skip {p:kJ->Bool} {L M:List kJ} {j m:Nat} (h:Dj p L M j m) {x:kJ} (hx:L[m]? =some x) (hp:p x=true):Dj p L M j (m+1):=by
 have h2:mQ p (L.take (m+1))=mQ p (L.take m):=by
  rw [List.take_add_one,hx];unfold mQ;simp [List.filter_append,hp]
 have hm:=(List.getElem?_eq_some_iff.1 hx).1
 refine ⟨h.len,by rw [h2];exact h.take,?_,by have:=h.jm;omega,by rw [h2];exact h.jl⟩
 have:=congrArg (List.drop 1) h.drop
 rwa [List.drop_drop,List.drop_drop] at this
theorem Dj.dZ {p:kJ->Bool} {L M:List kJ} {j m:Nat} (h:Dj p L M j m) {x:kJ} (hx:L[m]? =some x) (hp:p x=false):Dj p L (M.set j x) (j+1) (m+1):=by
 have hm:=(List.getElem?_eq_some_iff.1 hx).1
 have hj:j<M.length:=by have:=h.jm;have:=h.len;omega
 have h2:mQ p (L.take (m+1))=mQ p (L.take m)++[x]:=by
  rw [List.take_add_one,hx];unfold mQ;simp [List.filter_append,hp]
 refine ⟨by rw [List.length_set];exact h.len,?_,?_,by have:=h.jm;omega,by rw [h2,List.length_append,<-h.jl];rfl⟩
 · rw [h2,<-h.take,List.take_add_one,List.getElem?_set_self hj,List.take_set_of_le (Nat.le_refl j)];rfl
 · rw [List.drop_set_of_lt (by have:=h.jm;omega)]
   have:=congrArg (List.drop 1) h.drop
   rwa [List.drop_drop,List.drop_drop] at this
theorem Dj.get {p:kJ->Bool} {L M:List kJ} {j m:Nat} (h:Dj p L M j m) {x:kJ} (hx:L[m]? =some x):M[m]? =some x:=by
 have h1:(M.drop m)[0]? =(L.drop m)[0]? :=by rw [h.drop]
 rw [List.getElem?_drop,List.getElem?_drop,Nat.add_zero] at h1
 rw [h1];exact hx
theorem K9 {M:List kJ} {J:List (List V)} {k i:Nat} {x:kJ} (hk:k=i) (h:M[i]? =some x):(M.map lU++J)[0+k]? =some (lU x):=by
 subst hk
 have:=(List.getElem?_eq_some_iff.1 h).1
 rw [Nat.zero_add,List.getElem?_append_left (by simpa using this),List.getElem?_map,h];rfl
theorem TE {M:List kJ} {J:List (List V)} {k j:Nat} {x:kJ} (hk:k=j) (h:j<M.length):(M.map lU++J).set (0+k) (lU x)=(M.set j x).map lU++J:=by
 subst hk
 rw [Nat.zero_add,List.set_append_left _ _ (by simpa using h),<-List.map_set]
theorem Nc {M K:List kJ} {d n j a b c:Nat} (ha:a=j) (hb:b=n - j) (hc:c=n) (hn:M.length=n) (hj:j<=n) (hK:M.take j=K):
 List.take a (M.map lU++List.replicate d DP)++List.replicate b DP++List.drop c (M.map lU++List.replicate d DP)=K.map lU++List.replicate (n - j+d) DP:=by
 subst ha hb hc hK
 have h1:(M.map lU).length=c:=by simpa using hn
 rw [List.take_append_of_le_length (by omega),List.drop_append,List.drop_of_length_le (by omega),h1,Nat.sub_self,List.drop_zero,List.nil_append,<-List.map_take,List.append_assoc,List.replicate_append_replicate]
section
variable {P:Program} (hG:bP P AF.fns.get)
include hG
theorem eidx_at {h:aA} {c d g k1:Nat} {L:List kJ} (ZW:c<h.next) (hc:h.get c=some (.arr 4 (L.map lU++List.replicate d DP))) (hl:L.length<=100000) {p:kJ->Bool}
 (hg:∀ h',aA.aJ (fun n=>n=c) h h'->∀ e∈L,∀ K:V->aA->Prop,(∀ h'',aA.aJ (fun _=>False) h' h''->K (.b (p e)) h'')->aC P g (.agg (lU e)::[.p (.g k1) 0]) h' K) {K:V->aA->Prop}
 (hK:∀ h',aA.aJ (fun _=>False) h h'->K (.i .i64 (gQ p L)) h'):aC P 284 [.ms (.g c) 4 0 L.length,.fn g [] [.p (.g k1) 0]] h K:=by
 have L0:=FH L d
 refine aQ (hG _ AF.f284 rfl) rfl ?_
 (refine zr ?_)
 refine b8.by (fun q fr st=>∃ (i:Nat) (hh lc:aA),i<=L.length/\q=L.length - i/\(∀ (j:Nat) (e:kJ),j<i->L[j]? =some e->p e=false)/\aA.aJ (fun _=>False) h hh/\
  Fr.le [(8,.i .i64 i),(7,.i .i64 L.length),(1,.fn g [] [.p (.g k1) 0]),(0,.ms (.g c) 4 0 L.length)] fr/\st=⟨hh,lc⟩)
  L.length ⟨0,h,_,Nat.zero_le _,rfl,(fun j e hj=>absurd hj (Nat.not_lt_zero _)),.refl _ _,cT,rfl⟩ ?_
 rintro q fr st ⟨i,hh,lc,hi,rfl,pH,hk,dE,rfl⟩
 refine ⟨_,dE,fun R hR=>?_⟩
 by_cases cY:i<L.length
 · have he:=List.getElem?_eq_getElem cY
   have Dw:=List.getElem_mem cY
   generalize L[i]=e at he Dw
   have mV:=fun K hK=>hg hh (hk.mono fun _ _ e=>e.elim) e Dw K hK
   have H4:hh.get c=some (.arr 4 (L.map lU++List.replicate d DP)):=by rw [hk.2 c ZW (fun x=>x)];exact hc
   ((conv=>whnf);repeat ((first|refine aH.dt (show (i:Int)<(L.length:Nat) by omega) ?_|refine aM.ix (by omega) (by omega) ?_|refine aM.mk (decide_eq_true (by omega)) ?_|refine cA (mV _) ?_|refine ye (H4) ?_|refine ye (TD (by omega) he) ?_|refine zz ?_)<;>(conv=>whnf)))
   intro h2 sW
   cases hp:p e
   · (refine zr ?_)
     exact hR (L.length - (i+1)) _ _ (by omega) ⟨i+1,h2,_,by omega,rfl,(fun j x hj hx=>by
      by_cases zE:j<i
      · exact pH j x zE hx
      · obtain rfl:j=i:=by omega
        rw [he] at hx;cases hx;exact hp),hk.trans sW,cT,rfl⟩
   · (refine zr ?_)
     have:=hK h2 (hk.trans sW)
     rw [dD he hp pH] at this
     exact this
 · (refine cD (show ¬(i:Int)<(L.length:Nat) by omega) ?_)
   have:=hK hh hk
   rw [dN fun j x hx=>pH j x (by have:=(List.getElem?_eq_some_iff.1 hx).1;omega) hx] at this
   exact this
theorem edel_at {h:aA} {c d g k1:Nat} {L:List kJ} (ZW:c<h.next) (hc:h.get c=some (.arr 4 (L.map lU++List.replicate d DP))) (hl:L.length<=100000) {p:kJ->Bool}
 (hg:∀ h',aA.aJ (fun n=>n=c) h h'->∀ e∈L,∀ K:V->aA->Prop,(∀ h'',aA.aJ (fun _=>False) h' h''->K (.b (p e)) h'')->aC P g (.agg (lU e)::[.p (.g k1) 0]) h' K) {K:V->aA->Prop}
 (hK:∀ h' d',h'.get c=some (.arr 4 ((mQ p L).map lU++List.replicate d' DP))->aA.aJ (fun n=>n=c) h h'->K (.ms (.g c) 4 0 (mQ p L).length) h'):
 aC P 206 [.ms (.g c) 4 0 L.length,.fn g [] [.p (.g k1) 0]] h K:=by
 have L0:=FH L d
 have mT:=fun (K:V->aA->Prop) hK=>eidx_at (K:=K) hG ZW hc hl hg hK
 cases Az:L.findIdx? p with
 |none=>
  have pH:∀ (j:Nat) (e:kJ),L[j]? =some e->p e=false:=fun j e he=>by
   have:=List.findIdx?_eq_none_iff.1 Az e (List.mem_of_getElem? he)
   simpa using this
  rw [dN pH] at mT
  rw [FI pH] at hK
  refine aQ (hG _ AF.f206 rfl) rfl ?_
  (refine cD @mT ?_)
  intro h1 BP
  (refine zr ?_)
  exact hK h1 d (by rw [BP.2 c ZW (fun x=>x)];exact hc) (BP.mono fun _ _ e=>e.elim)
 |some i0=>
  rw [List.findIdx?_eq_some_iff_getElem] at Az
  obtain ⟨Ds,F8,uH⟩:=Az
  have Nw:=List.getElem?_eq_getElem Ds
  have pH:∀ (j:Nat) (x:kJ),j<i0->L[j]? =some x->p x=false:=fun j x hj hx=>by
   have:=uH j hj
   rw [List.getElem?_eq_getElem (by omega)] at hx
   cases hx
   simpa using this
  rw [dD Nw F8 pH] at mT
  have mY:=Dj.start Nw F8 pH
  refine aQ (hG _ AF.f206 rfl) rfl ?_
  (refine cD @mT ?_)
  intro h1 BP
  (refine cD (show ¬(i0:Int)=-1 by omega) ?_)
  refine b8.by (fun q fr st=>∃ (j m:Nat) (M:List kJ) (hh lc:aA),q=L.length - m/\m<=L.length/\Dj p L M j m/\hh.get c=some (.arr 4 (M.map lU++List.replicate d DP))/\aA.aJ (fun n=>n=c) h hh/\
   Fr.le [(6,.i .i64 m),(5,.i .i64 j),(1,.fn g [] [.p (.g k1) 0]),(0,.ms (.g c) 4 0 L.length)] fr/\st=⟨hh,lc⟩)
   (L.length - (i0+1)) ⟨i0,i0+1,L,h1,_,rfl,by omega,mY,by rw [BP.2 c ZW (fun x=>x)];exact hc,BP.mono fun _ _ e=>e.elim,cT,rfl⟩ ?_
  rintro q fr st ⟨j,m,M,hh,lc,rfl,hm,hd,Dv,hk,dE,rfl⟩
  refine ⟨_,dE,fun R hR=>?_⟩
  have hML:=hd.len
  have hjm:=hd.jm
  have CS:=FH M d
  by_cases cY:m<L.length
  · have he:=List.getElem?_eq_getElem cY
    have Dw:=List.getElem_mem cY
    generalize L[m]=e at he Dw
    have a1:∀ x,(lc.push x).get lc.next=some x:=fun x=>aA.aB _ _
    have a2:∀ x y,((lc.push x).set lc.next y).get lc.next=some y:=fun x y=>aA.aD (a1 x)
    have mV:=fun K hK=>hg hh hk e Dw K hK
    have fE:=K9 (J:=List.replicate d DP) (k:=((m:Nat):Int).toNat) (by omega) (hd.get he)
    ((conv=>whnf);repeat ((first|refine aH.dt (show (m:Int)<(L.length:Nat) by omega) ?_|refine aM.ix (by omega) (by omega) ?_|refine aM.mk (decide_eq_true (by omega)) ?_|refine cA (mV _) ?_|refine ye (Dv) ?_|refine ye (fE) ?_|refine ye (a1 _) ?_|refine ye (a2 _ _) ?_|refine zz ?_)<;>(conv=>whnf)))
    intro h2 sW
    have YY:h2.get c=some (.arr 4 (M.map lU++List.replicate d DP)):=by rw [sW.2 c (Nat.lt_of_lt_of_le ZW hk.1) (fun x=>x)];exact Dv
    have BT:aA.aJ (fun n=>n=c) h h2:=hk.trans (sW.mono fun _ _ e=>e.elim)
    cases hp:p e
    · have hj:j<M.length:=by omega
      have hy:=List.getElem?_eq_getElem hj
      generalize M[j]=y at hy
      have hgy:=K9 (J:=List.replicate d DP) (k:=((j:Nat):Int).toNat) (by omega) hy
      have LV:=TE (J:=List.replicate d DP) (k:=((j:Nat):Int).toNat) (x:=e) (by omega) hj
      ((conv=>whnf);repeat ((first|refine aH.ff (show (!true)=false from rfl) ?_|refine aM.ix (by omega) (by omega) ?_|refine aM.mk (decide_eq_true (by omega)) ?_|refine aR.gA (by omega) (by omega) ?_|refine ye (YY) ?_|refine ye (hgy) ?_|refine ye (a1 _) ?_|refine ye (a2 _ _) ?_|refine ye (congrArg some LV) ?_|refine zz ?_)<;>(conv=>whnf)))
      exact hR (L.length - (m+1)) _ _ (by omega) ⟨j+1,m+1,M.set j e,_,_,rfl,by omega,hd.dZ he hp,aA.aD YY,aA.aJ.set (b:=fun n=>n=c) BT (.inl rfl) _,cT,rfl⟩
    · (refine iG @a1 @a2 ?_)
      exact hR (L.length - (m+1)) _ _ (by omega) ⟨j,m+1,M,h2,_,rfl,by omega,hd.skip he hp,YY,BT,cT,rfl⟩
  · obtain rfl:m=L.length:=by omega
    have H6:=hd.jl
    have hta:=hd.take
    rw [List.take_length] at H6 hta
    have mV:=Nc (K:=mQ p L) (d:=d) (n:=L.length) (j:=j) (a:=0+((j:Nat):Int).toNat) (b:=(((L.length:Nat)):Int).toNat - ((j:Nat):Int).toNat) (c:=0+((j:Nat):Int).toNat+((((L.length:Nat)):Int).toNat - ((j:Nat):Int).toNat)) (by omega) (by omega) (by omega) hML hjm hta
    have:=hK (hh.set c (.arr 4 ((mQ p L).map lU++List.replicate (L.length - j+d) DP))) (L.length - j+d) (aA.aD Dv) (aA.aJ.set (b:=fun n=>n=c) hk (.inl rfl) _)
    rw [<-H6,<-mV] at this
    ((conv=>whnf);repeat ((first|refine aH.df (show ¬((L.length:Nat):Int)<(L.length:Nat) by omega) ?_|refine aM.d3 (by omega) (by omega) (by omega) ?_|refine aM.mk (decide_eq_true (by omega)) ?_|refine aM.d3 (by omega) (by omega) (by first|omega|(simp;omega)) ?_|refine ye (Dv) ?_|refine ye (aA.aD Dv) ?_|refine zz ?_)<;>(conv=>whnf)))
    exact this
end
def Dk (h:aA) (g:Nat) (r:Option Nat) (L:List kJ) (base last:Int):Prop:=
 g<h.next/\((r=none/\L=[]/\h.get g=some (.cs [.aS,.i .i64 64,.i .i64 base,.i .i64 last]))\/
  ∃ c d,r=some c/\c≠g/\c<h.next/\h.get g=some (.cs [.ms (.g c) 4 0 L.length,.i .i64 64,.i .i64 base,.i .i64 last])/\h.get c=some (.arr 4 (L.map lU++List.replicate d DP)))
theorem Dk.dZ {h h':aA} {g:Nat} {r:Option Nat} {L:List kJ} {base last:Int} (ha:Dk h g r L base last) {but:Nat->Prop} (hk:aA.aJ but h h') (hb:¬but g) (hr:∀ k,r=some k->¬but k):Dk h' g r L base last:=by
 obtain ⟨h1,⟨h2,h3,h4⟩|⟨c,d,h2,h3,h4,h5,h6⟩⟩:=ha
 · exact ⟨Nat.lt_of_lt_of_le h1 hk.1,.inl ⟨h2,h3,by rw [hk.2 g h1 hb];exact h4⟩⟩
 · exact ⟨Nat.lt_of_lt_of_le h1 hk.1,.inr ⟨c,d,h2,h3,Nat.lt_of_lt_of_le h4 hk.1,by rw [hk.2 g h1 hb];exact h5,by rw [hk.2 c h4 (hr c h2)];exact h6⟩⟩
def Bs (base last r:Int):Int:=if base<(if last<r then last else r) then (if last<r then last else r) else base
section
variable {P:Program} (hG:bP P AF.fns.get)
include hG
theorem ecut_at {e:kJ} {r:Int} {h:aA} {k:Nat} (hk:h.get k=some (.cs [.i .i64 r])) {K:V->aA->Prop} (hK:K (.b (decide (e.e.rev<=r))) h):aC P 207 [.agg (lU e),.p (.g k) 0] h K:=by
 refine dU (hG _ AF.f207 rfl) rfl ?_
 (refine cD @hk ?_)
 exact hK
theorem lcut_at {h:aA} {g:Nat} {r:Option Nat} {L:List kJ} {base last:Int} (hl:Dk h g r L base last) (hn:L.length<=100000) (rev:Int) {K:V->aA->Prop}
 (hK:∀ h',Dk h' g r (L.filter fun x=>decide (rev<x.e.rev)) (Bs base last rev) last->aA.aJ (fun n=>n=g\/r=some n) h h'->K (.bY []) h'):
 aC P 107 [.p (.g g) 0,.i .i64 rev] h K:=by
 have Qz:mQ (fun x=>decide (x.e.rev<=rev)) L=L.filter fun x=>decide (rev<x.e.rev):=by
  unfold mQ
  refine List.filter_congr fun x _=>?_
  show (!decide (x.e.rev<=rev))=decide (rev<x.e.rev)
  by_cases c:x.e.rev<=rev
  · rw [decide_eq_true c,decide_eq_false (by omega)];rfl
  · rw [decide_eq_false c,decide_eq_true (by omega)];rfl
 obtain ⟨h1,⟨GL,hL0,h2⟩|⟨c,d,GL,h2,h3,h4,h5⟩⟩:=hl
 · subst hL0
   have g1:∀ x,(h.push x).get g=some (.cs [.aS,.i .i64 64,.i .i64 base,.i .i64 last]):=fun x=>aA.gp (by omega) h2
   have g2:∀ x y,((h.push x).set g y).get g=some y:=fun x y=>aA.aD (g1 x)
   have g3:∀ x y,((h.push x).set g y).get h.next=some x:=fun x y=>aA.gs (by omega) (aA.aB _ _)
   refine dU (hG _ AF.f107 rfl) rfl ?_
   ((conv=>whnf);repeat ((first|refine cA (dU (hG _ AF.f206 rfl) rfl) ?_|refine cA (dU (hG _ AF.f284 rfl) rfl) ?_|refine cS.un rfl ?_|refine bC.of (WO (z:=if last<rev then last else rev) rfl) ?_|refine bC.of (Vk (z:=Bs base last rev) rfl) ?_|refine ye (g1 _) ?_|refine ye (g2 _ _) ?_|refine ye (g3 _ _) ?_|refine ye (aA.aD (g2 _ _)) ?_|refine zz ?_)<;>(conv=>whnf)))
   exact hK _ ⟨(by show g<h.next+1;omega),.inl ⟨GL,rfl,aA.aD (g2 _ _)⟩⟩ (aA.aJ.set (b:=fun n=>n=g\/r=some n) (aA.aJ.set (b:=fun n=>n=g\/r=some n) (.push (.refl _ _) _) (.inl (.inl rfl)) _) (.inl (.inl rfl)) _)
 · have g1:∀ x,(h.push x).get g=some (.cs [.ms (.g c) 4 0 L.length,.i .i64 64,.i .i64 base,.i .i64 last]):=fun x=>aA.gp (by omega) h4
   have g2:∀ x,(h.push x).get c=some (.arr 4 (L.map lU++List.replicate d DP)):=fun x=>aA.gp (by omega) h5
   have g3:∀ x,(h.push x).get h.next=some x:=fun x=>aA.aB _ _
   have Gt:=fun (K:V->aA->Prop) hK=>edel_at (K:=K) hG (c:=c) (d:=d) (g:=207) (k1:=h.next) (L:=L) (p:=fun x=>decide (x.e.rev<=rev)) (show c<(h.push (.cs [.i .i64 rev])).next by show c<h.next+1;omega) (g2 (.cs [.i .i64 rev])) hn (fun h' iT e he K hK=>
    ecut_at hG (by rw [iT.2 _ (Nat.lt_succ_self _) (by omega)];exact g3 _) (hK h' (.refl _ _))) hK
   rw [Qz] at Gt
   refine dU (hG _ AF.f107 rfl) rfl ?_
   (refine iG @Gt @g1 ?_)
   intro h' d' hg' iT
   have W6:h.next+1<=h'.next:=iT.1
   have p3:h'.get g=some (.cs [.ms (.g c) 4 0 L.length,.i .i64 64,.i .i64 base,.i .i64 last]):=by rw [iT.2 g (by show g<h.next+1;omega) (fun e=>h2 e.symm)];exact g1 _
   have p4:h'.get h.next=some (.cs [.i .i64 rev]):=by rw [iT.2 h.next (Nat.lt_succ_self _) (by omega)];exact g3 _
   have p5:∀ x,(h'.set g x).get g=some x:=fun x=>aA.aD p3
   have p6:∀ x,(h'.set g x).get h.next=some (.cs [.i .i64 rev]):=fun x=>aA.gs (by omega) p4
   ((conv=>whnf);repeat ((first|refine bC.of (WO (z:=if last<rev then last else rev) rfl) ?_|refine bC.of (Vk (z:=Bs base last rev) rfl) ?_|refine ye (p3) ?_|refine ye (p5 _) ?_|refine ye (p6 _) ?_|refine zz ?_)<;>(conv=>whnf)))
   have BT:aA.aJ (fun n=>n=g\/r=some n) h h':=aA.aJ.trans (b:=fun n=>n=g\/r=some n) (.push (.refl _ _) _) (iT.mono fun n _ e=>.inr (by rw [GL,e]))
   exact hK _ ⟨(by show g<h'.next;omega),.inr ⟨c,d',GL,h2,(by show c<h'.next;omega),aA.aD (p5 _),aA.gs h2 (aA.gs h2 hg')⟩⟩ (aA.aJ.set (b:=fun n=>n=g\/r=some n) (aA.aJ.set (b:=fun n=>n=g\/r=some n) BT (.inl (.inl rfl)) _) (.inl (.inl rfl)) _)
end
open Go
theorem YZ (L:List kJ) (d:Nat) (x:kJ) {n:Nat} (hn:n=L.length):(L.map lU++List.replicate (d+1) DP).take (0+n)++[lU x]++(L.map lU++List.replicate (d+1) DP).drop (0+n+1)=(L++[x]).map lU++List.replicate d DP:=by
 subst hn
 have h1:(L.map lU).length=L.length:=List.length_map _
 rw [Nat.zero_add,List.take_append_of_le_length (by omega),List.take_of_length_le (by omega),List.drop_append,List.drop_of_length_le (by omega),h1,List.replicate_succ]
 simp
theorem Y0 (L:List kJ) (x:kJ) {n:Nat} (hn:n=L.length):List.drop 0 (List.take (0+n) (L.map lU++List.replicate 0 DP))++[lU x]=(L++[x]).map lU++List.replicate 0 DP:=by
 subst hn
 have h1:(L.map lU).length=L.length:=List.length_map _
 rw [Nat.zero_add,List.replicate_zero,List.append_nil,List.drop_zero,List.take_of_length_le (by omega)]
 simp
theorem P7 {A:List kJ} {b c:Int} (h:b<=c):(A.filter fun x=>decide (b<x.e.rev)).filter (fun x=>decide (c<x.e.rev))=A.filter fun x=>decide (c<x.e.rev):=by
 rw [List.filter_filter]
 refine List.filter_congr fun x _=>?_
 by_cases k:c<x.e.rev
 · rw [decide_eq_true k,decide_eq_true (by omega)];rfl
 · rw [decide_eq_false k];rfl
theorem TF {A:List kJ} {b:Int} (h:∀ x∈A,b<x.e.rev):(A.filter fun x=>decide (b<x.e.rev))=A:=
 List.filter_eq_self.2 fun x hx=>decide_eq_true (h x hx)
theorem P8 {A:List kJ} {x:kJ} (h:A[0]? =some x):(A.filter fun y=>decide (x.e.rev<y.e.rev)).length<A.length:=by
 cases A with
 |nil=>cases h
 |cons a r=>
  simp at h
  subst h
  rw [List.filter_cons_of_neg (by simp),List.length_cons]
  have:=List.length_filter_le (fun y:kJ=>decide (a.e.rev<y.e.rev)) r
  omega
section
variable {P:Program} (hG:bP P AF.fns.get)
include hG
theorem lcop_ok (x:kJ) (h:TB x.e):Pure P 106 [.agg (lU x)] (·=.agg (lU x)):=by
 have hc:=uJ hG x.e.val h.val
 refine aP (hG _ AF.f106 rfl) rfl ?_
 (refine cD @hc ?_)
 exact aG rfl rfl
theorem ladd_at {h:aA} {g:Nat} {r:Option Nat} {L:List kJ} {base last:Int} (hl:Dk h g r L base last) (hbd:∀ x∈L,base<x.e.rev/\x.e.rev<=last) (UD:base<=last) (es:List kJ) (dJ:0<es.length) (dW:∀ x∈es,TB x.e) {R:Int} (hR:∀ x∈es,x.e.rev=R) (hlR:last<R)
 (PN:L.length<=1000) (Hf:es.length<=1000) {K:V->aA->Prop}
 (hK:∀ h' r' qY,Dk h' g r' ((L++es).filter fun x=>decide (qY<x.e.rev)) qY R->base<=qY->qY<=R->((L++es).filter fun x=>decide (qY<x.e.rev)).length<=64->(∀ k,r'=some k->r=some k\/h.next<=k)->aA.aJ (fun n=>n=g\/r=some n) h h'->K (.b true) h'):
 aC P 45 [.p (.g g) 0,.sl none 4 (es.map lU)] h K:=by
 have nQ:(es.map lU).length=es.length:=List.length_map _
 have Nw:=List.getElem?_eq_getElem dJ
 have GL:=hR _ (List.getElem_mem dJ)
 generalize es[0]=x0 at Nw GL
 have TG:∃ ZX,h.get g=some (.cs [ZX,.i .i64 64,.i .i64 base,.i .i64 last]):=by
  obtain ⟨h1,⟨_,_,h2⟩|⟨c,d,_,_,_,h4,_⟩⟩:=hl
  · exact ⟨_,h2⟩
  · exact ⟨_,h4⟩
 obtain ⟨ZX,Js⟩:=TG
 refine aQ (hG _ AF.f45 rfl) rfl ?_
 (refine N9 (show ¬((es.map lU).length:Int)=0 by omega) (show ¬x0.e.rev<=last by omega) @Js @Nw ?_)
 refine b8.by (fun q fr st=>∃ (i:Nat) (lo:aA),i<=es.length/\q=es.length - i/\Fr.le [(28,.i .i64 i),(27,.i .i64 (es.map lU).length),(1,.sl none 4 (es.map lU)),(0,.p (.g g) 0)] fr/\st=⟨h,lo⟩)
  es.length ⟨0,_,Nat.zero_le _,rfl,cT,rfl⟩ ?_
 rintro q fr st ⟨i,lo,hi,rfl,dE,rfl⟩
 refine ⟨_,dE,fun R1 DN=>?_⟩
 by_cases cY:i<es.length
 · have he:=List.getElem?_eq_getElem cY
   have P9:=hR _ (List.getElem_mem cY)
   generalize es[i]=x at he P9
   by_cases Ds:0<i
   · have hep:=List.getElem?_eq_getElem (show i - 1<es.length by omega)
     have hrp:=hR _ (List.getElem_mem (show i - 1<es.length by omega))
     generalize es[i - 1]=y at hep hrp
     ((conv=>whnf);repeat ((first|refine aH.dt (show (i:Int)<(es.map lU).length by omega) ?_|refine aH.dt (show (0:Int)<i by omega) ?_|refine aM.ix (by omega) (by omega) ?_|refine aH.df (show ¬x.e.rev<y.e.rev by omega) ?_|refine aR.gA (by omega) (by omega) ?_|refine ye (aF (f:=lU) (j:=((i:Nat):Int).toNat) (by omega) he) ?_|refine ye (aF (f:=lU) (j:=((i:Int) - 1).toNat) (by omega) hep) ?_|refine zz ?_)<;>(conv=>whnf)))
     exact DN (es.length - (i+1)) _ _ (by omega) ⟨i+1,_,by omega,rfl,cT,rfl⟩
   · (refine iG (show (i:Int)<(es.map lU).length by omega) (show ¬(0:Int)<i by omega) ?_)
     exact DN (es.length - (i+1)) _ _ (by omega) ⟨i+1,_,by omega,rfl,cT,rfl⟩
 obtain rfl:i=es.length:=by omega
 (refine cD (show ¬((es.length:Nat):Int)<(es.map lU).length by omega) ?_)
 refine b8.by (fun q fr st=>∃ (j:Nat) (hh lo:aA) (rj:Option Nat),j<=es.length/\q=es.length - j/\Dk hh g rj (L++es.take j) base last/\(∀ k,rj=some k->r=some k\/h.next<=k)/\aA.aJ (fun n=>n=g\/r=some n) h hh/\
  Fr.le [(50,.i .i64 j),(49,.i .i64 (es.map lU).length),(48,.sl none 4 (es.map lU)),(1,.sl none 4 (es.map lU)),(0,.p (.g g) 0)] fr/\st=⟨hh,lo⟩)
  es.length ⟨0,h,_,r,Nat.zero_le _,rfl,by simpa using hl,fun k hk=>.inl hk,.refl _ _,cT,rfl⟩ ?_
 clear dE DN Js
 rintro q fr st ⟨j,hh,lo,rj,hj,rfl,VI,Oq,hk,dE,rfl⟩
 refine ⟨_,dE,fun R1 DN=>?_⟩
 have W6:=hk.1
 by_cases F9:j<es.length
 · have he:=List.getElem?_eq_getElem F9
   have yK:=dW _ (List.getElem_mem F9)
   generalize es[j]=x at he yK
   have Qa:=lcop_ok hG x yK
   have jM:L++es.take (j+1)=L++es.take j++[x]:=by rw [List.take_add_one,he,List.append_assoc];rfl
   have BJ:(L++es.take j).length<=2000:=by simp;omega
   have b2:∀ o o2,((lo.push o).set lo.next o2).get lo.next=some o2:=fun o o2=>aA.aD (aA.aB _ _)
   obtain ⟨l1,⟨l2,l3,l4⟩|⟨c,d,l2,l3,l4,l5,l6⟩⟩:=VI
   · have g1:∀ o,(hh.push o).get hh.next=some o:=fun o=>aA.aB _ o
     have p1:∀ o,(hh.push o).get g=some (.cs [.aS,.i .i64 64,.i .i64 base,.i .i64 last]):=fun o=>aA.gp (by omega) l4
     have p2:∀ o o',((hh.push o).push o').get g=some (.cs [.aS,.i .i64 64,.i .i64 base,.i .i64 last]):=fun o o'=>aA.gp (by show g≠hh.next+1;omega) (p1 o)
     ((conv=>whnf);repeat ((first|refine aH.dt (show (j:Int)<(es.map lU).length by omega) ?_|refine cA (Pure.go Qa rfl) ?_|refine aR.gA (by omega) (by omega) ?_|refine ye (aF (f:=lU) (by omega) he) ?_|refine ye (b2 _ _) ?_|refine ye (aA.aB _ _) ?_|refine ye (l4) ?_|refine ye (p1 _) ?_|refine ye (p2 _ _) ?_|refine ye (g1 _) ?_|refine zz ?_)<;>(conv=>whnf)))
     refine DN (es.length - (j+1)) _ _ (by omega) ⟨j+1,_,_,some (hh.next+1),by omega,rfl,?_,fun k iT=>by cases iT;exact .inr (by omega),aA.aJ.set (b:=fun n=>n=g\/r=some n) (.push (.push hk _) _) (.inl (.inl rfl)) _,cT,rfl⟩
     rw [jM,l3]
     exact ⟨(by show g<hh.next+1+1;omega),.inr ⟨hh.next+1,0,rfl,by omega,Nat.lt_succ_self _,aA.aD (p2 _ _),aA.gs (by omega) (aA.aB _ _)⟩⟩
   · have CS:=FH (L++es.take j) d
     have g1:∀ o,(hh.push o).get hh.next=some o:=fun o=>aA.aB _ o
     have p1:∀ o,(hh.push o).get g=some (.cs [.ms (.g c) 4 0 (L++es.take j).length,.i .i64 64,.i .i64 base,.i .i64 last]):=fun o=>aA.gp (by omega) l5
     have p2:∀ o,(hh.push o).get c=some (.arr 4 ((L++es.take j).map lU++List.replicate d DP)):=fun o=>aA.gp (by omega) l6
     have QP:r=some c\/h.next<=c:=Oq c l2
     have adK:(c=g\/r=some c)\/h.next<=c:=by rcases QP with e|e<;>simp [e]
     cases d with
     |zero=>
      have p3:∀ o o',(((hh.push o).remove c).push o').get g=some (.cs [.ms (.g c) 4 0 (L++es.take j).length,.i .i64 64,.i .i64 base,.i .i64 last]):=fun o o'=>aA.gp (by show g≠hh.next+1;omega) (aA.gr (Ne.symm l3) (p1 o))
      have dR:=Y0 (L++es.take j) x rfl
      rw [<-jM] at dR
      ((conv=>whnf);repeat ((first|refine aH.dt (show (j:Int)<(es.map lU).length by omega) ?_|refine cA (Pure.go Qa rfl) ?_|refine aR.gA (by omega) (by omega) ?_|refine aM.mk (by simp [bT] at BJ ⊢;omega) ?_|refine aM.mk (decide_eq_true (by rw [CS];omega)) ?_|refine aH.df (by rw [CS];show ¬0+(L++es.take j).length+1<=(L++es.take j).length+0;omega) ?_|refine ye (aF (f:=lU) (by omega) he) ?_|refine ye (b2 _ _) ?_|refine ye (aA.aB _ _) ?_|refine ye (l5) ?_|refine ye (p1 _) ?_|refine ye (p2 _) ?_|refine ye (p3 _ _) ?_|refine ye (g1 _) ?_|refine zz ?_)<;>(conv=>whnf)))
      refine DN (es.length - (j+1)) _ _ (by omega) ⟨j+1,_,_,some (hh.next+1),by omega,rfl,?_,fun k iT=>by cases iT;exact .inr (by omega),aA.aJ.set (b:=fun n=>n=g\/r=some n) (.push (aA.aJ.remove (b:=fun n=>n=g\/r=some n) (.push hk _) adK) _) (.inl (.inl rfl)) _,cT,rfl⟩
      have UA:(L++es.take (j+1)).length=(L++es.take j).length+1:=by rw [jM];simp;omega
      refine ⟨(by show g<hh.next+1+1;omega),.inr ⟨hh.next+1,0,rfl,by omega,Nat.lt_succ_self _,?_,?_⟩⟩
      · rw [UA];exact aA.aD (p3 _ _)
      · rw [<-dR];exact aA.gs (by omega) (aA.aB _ _)
     |succ d=>
      have p3:∀ o o',((hh.push o).set c o').get g=some (.cs [.ms (.g c) 4 0 (L++es.take j).length,.i .i64 64,.i .i64 base,.i .i64 last]):=fun o o'=>aA.gs (Ne.symm l3) (p1 o)
      have dR:=YZ (L++es.take j) d x rfl
      rw [<-jM] at dR
      ((conv=>whnf);repeat ((first|refine aH.dt (show (j:Int)<(es.map lU).length by omega) ?_|refine cA (Pure.go Qa rfl) ?_|refine aR.gA (by omega) (by omega) ?_|refine aM.mk (by simp [bT] at BJ ⊢;omega) ?_|refine aM.mk (decide_eq_true (by rw [CS];omega)) ?_|refine aH.dt (by rw [CS];show 0+(L++es.take j).length+1<=(L++es.take j).length+(d+1);omega) ?_|refine ye (aF (f:=lU) (by omega) he) ?_|refine ye (b2 _ _) ?_|refine ye (aA.aB _ _) ?_|refine ye (l5) ?_|refine ye (p1 _) ?_|refine ye (p2 _) ?_|refine ye (p3 _ _) ?_|refine ye (g1 _) ?_|refine zz ?_)<;>(conv=>whnf)))
      refine DN (es.length - (j+1)) _ _ (by omega) ⟨j+1,_,_,some c,by omega,rfl,?_,fun k iT=>by cases iT;exact QP,aA.aJ.set (b:=fun n=>n=g\/r=some n) (aA.aJ.set (b:=fun n=>n=g\/r=some n) (.push hk _) adK _) (.inl (.inl rfl)) _,cT,rfl⟩
      have UA:(L++es.take (j+1)).length=(L++es.take j).length+1:=by rw [jM];simp;omega
      refine ⟨(by show g<hh.next+1;omega),.inr ⟨c,d,rfl,l3,(by show c<hh.next+1;omega),?_,?_⟩⟩
      · rw [UA];exact aA.aD (p3 _ _)
      · rw [<-dR];exact aA.gs l3 (aA.aD (p2 _))
 obtain rfl:j=es.length:=by omega
 rw [List.take_length] at VI
 have hz:=List.getElem?_eq_getElem (show es.length - 1<es.length by omega)
 have hzr:=hR _ (List.getElem_mem (show es.length - 1<es.length by omega))
 generalize es[es.length - 1]=z at hz hzr
 have adL:∀ x∈L++es,base<x.e.rev/\x.e.rev<=R:=fun x hx=>by
  rcases List.mem_append.1 hx with hx|hx
  · have:=hbd x hx;omega
  · have:=hR x hx;omega
 have AA:∃ Qw:aA,∃ ZX,hh.get g=some (.cs [ZX,.i .i64 64,.i .i64 base,.i .i64 last])/\Qw=hh.set g (.cs [ZX,.i .i64 64,.i .i64 base,.i .i64 R])/\Dk Qw g rj (L++es) base R:=by
  obtain ⟨l1,⟨l2,l3,l4⟩|⟨c,d,l2,l3,l4,l5,l6⟩⟩:=VI
  · exact ⟨_,_,l4,rfl,l1,.inl ⟨l2,l3,aA.aD l4⟩⟩
  · exact ⟨_,_,l5,rfl,l1,.inr ⟨c,d,l2,l3,l4,aA.aD l5,aA.gs l3 l6⟩⟩
 obtain ⟨Qw,ZX,ZC,adM,AA⟩:=AA
 have sW:aA.aJ (fun n=>n=g\/r=some n) h Qw:=by rw [adM];exact aA.aJ.set (b:=fun n=>n=g\/r=some n) hk (.inl (.inl rfl)) _
 have WH:(L++es).filter (fun x=>decide (base<x.e.rev))=L++es:=TF fun x hx=>(adL x hx).1
 ((conv=>whnf);repeat ((first|refine aH.df (show ¬((es.length:Nat):Int)<(es.map lU).length by omega) ?_|refine aR.gA (by omega) (by omega) ?_|refine aM.ix (by omega) (by omega) ?_|refine ye (ZC) ?_|refine ye (aF (f:=lU) (j:=(((es.map lU).length:Nat) - 1:Int).toNat) (by omega) hz) ?_|refine zz ?_)<;>(conv=>whnf)))
 rw [hzr]
 subst adM
 refine b8.by (fun q fr st=>∃ (h3 lo:aA) (b':Int),Dk h3 g rj ((L++es).filter fun x=>decide (b'<x.e.rev)) b' R/\base<=b'/\b'<=R/\q=((L++es).filter fun x=>decide (b'<x.e.rev)).length/\aA.aJ (fun n=>n=g\/r=some n) h h3/\
  Fr.le [(0,.p (.g g) 0)] fr/\st=⟨h3,lo⟩)
  (L++es).length ⟨_,_,base,?_,Int.le_refl _,by omega,by rw [WH],?_,cT,rfl⟩ ?_
 · rw [WH];exact AA
 · exact sW
 clear AA sW ZC dE DN
 rintro q fr st ⟨h3,lo,b',hl3,Jr,F5,rfl,Y1,dE,rfl⟩
 refine ⟨_,dE,fun R1 DN=>?_⟩
 have vG:((L++es).filter fun x=>decide (b'<x.e.rev)).length<=(L++es).length:=List.length_filter_le _ _
 have Bj:(L++es).length<=2000:=by simp;omega
 have We:∀ x∈(L++es).filter (fun x=>decide (b'<x.e.rev)),b'<x.e.rev/\x.e.rev<=R:=fun x hx=>by
  obtain ⟨m1,m2⟩:=List.mem_filter.1 hx
  exact ⟨by simpa using m2,(adL x m1).2⟩
 have adO:=fun (c:Int) (hc:b'<=c)=>P7 (A:=L++es) hc
 have zS:=hK h3 rj b' hl3 Jr F5
 generalize hF:((L++es).filter fun x=>decide (b'<x.e.rev))=F at*
 have ajB:=hl3
 obtain ⟨l1,⟨l2,l3,l4⟩|⟨c,d,l2,l3,l4,l5,l6⟩⟩:=ajB
 · (refine cD @l4 ?_)
   exact zS (by rw [l3];decide) Oq Y1
 · by_cases h64:F.length<=64
   · (refine iG (show ¬((F.length:Nat):Int)>64 by omega) @l5 ?_)
     exact zS h64 Oq Y1
   · have hx:=List.getElem?_eq_getElem (show 0<F.length by omega)
     have hxm:=We _ (List.getElem_mem (show 0<F.length by omega))
     generalize F[0]=x at hx hxm
     have VO:=fun (K:V->aA->Prop) hK=>lcut_at (K:=K) hG hl3 (by omega) x.e.rev hK
     have hcb:Bs b' R x.e.rev=x.e.rev:=by unfold Bs;split<;>split at*<;>omega
     have cO:=P8 hx
     have hff:=adO x.e.rev (by omega)
     rw [hcb,hff] at VO
     rw [hff] at cO
     ((conv=>whnf);repeat ((first|refine aH.dt (show ((F.length:Nat):Int)>64 by omega) ?_|refine aM.ix (by omega) (by omega) ?_|refine aM.mk (decide_eq_true (by rw [FH];omega)) ?_|refine cA (VO _) ?_|refine ye (l5) ?_|refine ye (l6) ?_|refine ye (TD (d:=d) (j:=((0:Int)).toNat) rfl hx) ?_|refine zz ?_)<;>(conv=>whnf)))
     intro h4 hl4 hk4
     (refine zr ?_)
     exact DN _ _ _ cO ⟨h4,_,x.e.rev,hl4,by omega,by omega,rfl,Y1.comp hk4 (fun n hn e=>by
      rcases e with e|e
      · exact .inl e
      · rcases Oq n e with e|e
        · exact .inr e
        · omega),cT,rfl⟩
end
open Go
theorem FJ (x y:aU):rG (.s x) (.s y)=decide (x=y):=by
 show (x==y)=_
 by_cases h:x=y
 · simp [h]
 · rw [beq_false_of_ne h,decide_eq_false h]
def Bt (S:List aU):List (V×V):=S.map fun x=>(V.s x,V.b true)
theorem CX:∀ {S:List aU} {x:aU},x∈S->mX (Bt S) (.s x)=some (.b true)
 |y::r,x,h=>by
  simp only [Bt,List.map_cons,mX,FJ]
  by_cases Gl:x=y
  · rw [if_pos (by simp [Gl])]
  · rw [if_neg (by simpa using Gl)]
    have:x∈r:=by
     cases h with
     |head=>exact absurd rfl Gl
     |tail _ h=>exact h
    exact CX this
theorem CY:∀ {S:List aU} {x:aU},x∉S->mX (Bt S) (.s x)=none
 |[],x,_=>rfl
 |y::r,x,h=>by
  simp only [Bt,List.map_cons,mX,FJ]
  have h1:x≠y:=by rintro rfl;exact h (.head _)
  rw [if_neg (by simpa using h1)]
  exact CY fun hx=>h (.tail _ hx)
theorem Hu:∀ {S:List aU} {x:aU},x∉S->vL (Bt S) (.s x) (.b true)=Bt (S++[x])
 |[],x,_=>rfl
 |y::r,x,h=>by
  simp only [Bt,List.map_cons,vL,List.cons_append,FJ]
  have h1:x≠y:=by rintro rfl;exact h (.head _)
  rw [if_neg (by simpa using h1)]
  have:=Hu (S:=r) (x:=x) fun hx=>h (.tail _ hx)
  simp only [Bt] at this
  rw [this]
open Go
structure Hv where
 key:aU
 val:List Int
 gone:Bool
def mR (w:Hv):List V:=[.s w.key,.sl none 1 (w.val.map hM),.b w.gone]
def Au (k:aU):Bool:=decide (1<=k.length)&&decide (k.length<=20)
def VP (S:List aU) (w:Hv):Bool:=Au w.key&&(!decide (w.key∈S)&&(!(w.gone&&decide (0<w.val.length))&&decide (w.val.length<=4000)))
def Gz:List aU->List Hv->Bool
 |_,[]=>true
 |S,w::r=>VP S w&&Gz (S++[w.key]) r
structure TH (w:Hv):Prop where
 key:w.key.length<=9223372036854775807
 val:w.val.length<=9223372036854775807
section
variable {P:Program} (hG:bP P AF.fns.get)
include hG
theorem gkey_ok {h:aA} (k:aU) (hk:k.length<=9223372036854775807) {K:V->aA->Prop} (hK:K (.b (Au k)) h):aC P 204 [.s k] h K:=by
 unfold Au at hK
 refine dU (hG _ AF.f204 rfl) rfl ?_
 by_cases c1:1<=k.length
 · rw [decide_eq_true c1,Bool.true_and] at hK
   by_cases c2:k.length<=20
   · rw [decide_eq_true c2] at hK
     (refine cD (show ((k.length:Nat):Int)>=1 by omega) ?_)
     rw [decide_eq_true (show ((k.length:Nat):Int)<=20 by omega)]
     exact hK
   · rw [decide_eq_false c2] at hK
     (refine cD (show ((k.length:Nat):Int)>=1 by omega) ?_)
     rw [decide_eq_false (show ¬((k.length:Nat):Int)<=20 by omega)]
     exact hK
 · rw [decide_eq_false c1,Bool.false_and] at hK
   (refine cD (show ¬((k.length:Nat):Int)>=1 by omega) ?_)
   exact hK
end
open Go
def QJ (t:aU×Int):V×V:=(.s t.1,.i .i64 t.2)
def Jc:List (aU×Int)->aU->Int->List (aU×Int)
 |[],k,r=>[(k,r)]
 |x::q,k,r=>if k=x.1 then (k,r)::q else x::Jc q k r
theorem Oy (k:aU) (r:Int):∀ T:List (aU×Int),vL (T.map QJ) (.s k) (.i .i64 r)=(Jc T k r).map QJ
 |[]=>rfl
 |x::q=>by
  simp only [List.map_cons,QJ,vL,Jc,DO]
  by_cases c:k=x.1
  · rw [if_pos c,if_pos (by simp [c])];simp [QJ,c]
  · rw [if_neg c,if_neg (by simpa using c)]
    exact congrArg _ (Oy k r q)
structure La (h:aA) (a m0 m1 lg:Nat) (rl:Option Nat) (R:Int) (D:List dG) (T:List (aU×Int)) (L:List kJ) (base:Int):Prop where
 lt:a<h.next/\m0<h.next/\m1<h.next
 ne:a≠m0/\a≠m1/\m0≠m1/\a≠lg/\m0≠lg/\m1≠lg
 nr:∀ k,rl=some k->k≠a/\k≠m0/\k≠m1
 ga:∃ rd wr,h.get a=some (.cs [.i .i64 R,.m (.g m0),.m (.g m1),.p (.g lg) 0,.i .i64 rd,.i .i64 wr])
 g0:h.get m0=some (.mp none (D.map K1))
 g1:h.get m1=some (.mp none (T.map QJ))
 log:Dk h lg rl L base R
def Hw (a m0 m1 lg:Nat) (rl:Option Nat) (n:Nat):Prop:=n=a\/n=m0\/n=m1\/n=lg\/rl=some n
theorem La.other {h h':aA} {a m0 m1 lg:Nat} {rl:Option Nat} {R:Int} {D:List dG} {T:List (aU×Int)} {L:List kJ} {base:Int} (hs:La h a m0 m1 lg rl R D T L base) {but:Nat->Prop} (hk:aA.aJ but h h') (hb:∀ n,Hw a m0 m1 lg rl n->¬but n):La h' a m0 m1 lg rl R D T L base:=by
 obtain ⟨l1,l2,l3⟩:=hs.lt
 obtain ⟨rd,wr,ga⟩:=hs.ga
 have hn:=hk.next
 exact ⟨⟨by omega,by omega,by omega⟩,hs.ne,hs.nr,⟨rd,wr,(hk.same a l1 (hb a (.inl rfl))).trans ga⟩,(hk.same m0 l2 (hb m0 (.inr (.inl rfl)))).trans hs.g0,(hk.same m1 l3 (hb m1 (.inr (.inr (.inl rfl))))).trans hs.g1,
  hs.log.dZ hk (hb lg (.inr (.inr (.inr (.inl rfl))))) (fun k iT=>hb k (.inr (.inr (.inr (.inr iT)))))⟩
def Dl (D:List dG):List Hv->Bool
 |[]=>true
 |w::r=>!(w.gone&&(eA D w.key).isNone)&&Dl D r
open Go
def AD (r:Int) (ws:List Hv):List kJ:=ws.map fun w=>⟨⟨w.key,r,w.val⟩,w.gone⟩
structure W7 (w:Hv):Prop where
 key:1<=w.key.length/\w.key.length<=20
 val:w.val.length<=4000
theorem Ct:∀ {S:List aU} {ws:List Hv},Gz S ws=true->∀ w∈ws,W7 w
 |S,x::r,h,w,hw=>by
  unfold Gz VP Au at h
  simp only [Bool.and_eq_true,decide_eq_true_eq] at h
  cases hw with
  |head=>exact ⟨h.1.1,h.1.2.2.2⟩
  |tail _ hw=>exact Ct h.2 w hw
abbrev Hx (P:Program):Prop:=∀ (args:List V) (h:aA) (r:V) (h':aA),uA args h=some (r,h')->∀ K:V->aA->Prop,K r h'->aC P 42 args h K
def xD (T:List (aU×Int)) (r:Int) (ws:List Hv):List (aU×Int):=ws.foldl (fun T w=>Jc T w.key r) T
section
variable {P:Program} (hG:bP P AF.fns.get)
include hG
theorem scop_ok (e:dG) (h:TB e):Pure P 44 [.agg (lG e)] (·=.agg (lG e)):=by
 have hc:=uJ hG e.val h.val
 refine aP (hG _ AF.f44 rfl) rfl ?_
 (refine cD @hc ?_)
 exact aG rfl rfl
end
open Go
theorem La.reads {h:aA} {a m0 m1 lg:Nat} {rl:Option Nat} {R:Int} {D:List dG} {T:List (aU×Int)} {L:List kJ} {base:Int} (hs:La h a m0 m1 lg rl R D T L base):
 ∃ (v:Int) (h1:aA) (rd wr:Int),uA [.p (.g a) 4,.i .i64 1] h=some (.i .i64 v,h1)/\La h1 a m0 m1 lg rl R D T L base/\aA.aJ (fun n=>n=a) h h1/\h1.get a=some (.cs [.i .i64 R,.m (.g m0),.m (.g m1),.p (.g lg) 0,.i .i64 rd,.i .i64 wr]):=by
 obtain ⟨rd,wr,ha⟩:=hs.ga
 obtain ⟨l1,l2,l3⟩:=hs.lt
 obtain ⟨n1,n2,n3,n4,n5,n6⟩:=hs.ne
 have uC:uA [.p (.g a) 4,.i .i64 1] h=some (.i .i64 (IntKind.i64.wrap (rd+1)),h.set a (.cs [.i .i64 R,.m (.g m0),.m (.g m1),.p (.g lg) 0,.i .i64 (IntKind.i64.wrap (rd+1)),.i .i64 wr])):=by simp only [uA,ha];rfl
 have k1:aA.aJ (fun n=>n=a) h (h.set a (.cs [.i .i64 R,.m (.g m0),.m (.g m1),.p (.g lg) 0,.i .i64 (IntKind.i64.wrap (rd+1)),.i .i64 wr])):=aA.aJ.set (b:=fun n=>n=a) (.refl _ _) (.inl rfl) _
 exact ⟨_,_,_,wr,uC,⟨⟨l1,l2,l3⟩,hs.ne,hs.nr,⟨_,wr,aA.aD ha⟩,(k1.same m0 l2 n1.symm).trans hs.g0,(k1.same m1 l3 n2.symm).trans hs.g1,hs.log.dZ k1 n4.symm (fun k hk=>(hs.nr k hk).1)⟩,k1,aA.aD ha⟩
section
variable {P:Program} (hG:bP P AF.fns.get)
include hG
theorem snew_at {h:aA} {K:V->aA->Prop} (hK:∀ h',La h' (h.next+3) h.next (h.next+1) (h.next+2) none 0 [] [] [] 0->aA.aJ (fun _=>False) h h'->h'.next=h.next+4->K (.p (.g (h.next+3)) 0) h'):aC P 9 [] h K:=by
 refine aQ (hG _ AF.f9 rfl) rfl ?_
 (refine cD (aQ (hG _ AF.f41 rfl) rfl) ?_)
 refine hK _ ⟨⟨?_,?_,?_⟩,⟨by omega,by omega,by omega,by omega,by omega,by omega⟩,(fun k hk=>by cases hk),⟨0,0,aA.aB _ _⟩,?_,?_,⟨?_,.inl ⟨rfl,rfl,?_⟩⟩⟩ (.push (.push (.push (.push (.refl _ _) _) _) _) _) rfl
 · show h.next+3<h.next+1+1+1+1;omega
 · show h.next<h.next+1+1+1+1;omega
 · show h.next+1<h.next+1+1+1+1;omega
 · exact aA.gp (by show h.next≠h.next+1+1+1;omega) (aA.gp (by show h.next≠h.next+1+1;omega) (aA.gp (by show h.next≠h.next+1;omega) (aA.aB _ _)))
 · exact aA.gp (by show h.next+1≠h.next+1+1+1;omega) (aA.gp (by show h.next+1≠h.next+1+1;omega) (aA.aB _ _))
 · show h.next+2<h.next+1+1+1+1;omega
 · exact aA.gp (by show h.next+2≠h.next+1+1+1;omega) (aA.aB _ _)
theorem srev_at {h:aA} {a m0 m1 lg:Nat} {rl:Option Nat} {R:Int} {D:List dG} {T:List (aU×Int)} {L:List kJ} {base:Int} (hs:La h a m0 m1 lg rl R D T L base) {K:V->aA->Prop} (hK:K (.i .i64 R) h):aC P 16 [.p (.g a) 0] h K:=by
 obtain ⟨rd,wr,ha⟩:=hs.ga
 refine dU (hG _ AF.f16 rfl) rfl ?_
 (refine cD @ha ?_)
 exact hK
theorem slist_at (hA:Hx P) (hS:Br P) {h:aA} {a m0 m1 lg:Nat} {rl:Option Nat} {R:Int} {D Ls:List dG} {T:List (aU×Int)} {L:List kJ} {base:Int} (QE:La h a m0 m1 lg rl R D T L base) (hD:∀ e∈D,TB e) (hn:D.length<=100000) (hr:gB D Ls) {K:V->aA->Prop}
 (hK:∀ lv h',YX lv Ls->La h' a m0 m1 lg rl R D T L base->aA.aJ (Hw a m0 m1 lg rl) h h'->K lv h'):aC P 15 [.p (.g a) 0] h K:=by
 obtain ⟨rd0,wr0,ha0⟩:=QE.ga
 obtain ⟨v,h1,rd,wr,uC,zI,k1,ha⟩:=QE.reads
 have BP:aA.aJ (Hw a m0 m1 lg rl) h h1:=k1.mono fun _ _ e=>.inl e
 obtain ⟨l1,l2,l3⟩:=zI.lt
 have h5:=zI.g0
 have hsk:=fun K=>hS.keys (h1.push (.cs [.m (.g m0)])) h1.next m0 _ (D.map K1) (D.map (·.key)) (aA.aB _ _) rfl (aA.gp (by omega) h5) (by simp [K1,Function.comp_def]) hr.nd (fun x hx=>by
  obtain ⟨e,he,rfl⟩:=List.mem_map.1 hx
  exact (hD e he).key) (by simp;omega) (K:=K)
 rw [hr.keys] at hsk
 have gK:((Ls.map (·.key)).map bE).length=Ls.length:=by simp
 have hLn:Ls.length<=100000:=by have:=hr.len;omega
 have sW:aA.aJ (fun _=>False) h1 (h1.push (.cs [.m (.g m0)])):=.push (.refl _ _) _
 have Nf:=zI.other sW (fun _ _ x=>x)
 have g4:(h1.push (.cs [.m (.g m0)])).get a=some (.cs [.i .i64 R,.m (.g m0),.m (.g m1),.p (.g lg) 0,.i .i64 rd,.i .i64 wr]):=aA.gp (by omega) ha
 have g5:(h1.push (.cs [.m (.g m0)])).get m0=some (.mp none (D.map K1)):=aA.gp (by omega) h5
 have BT:aA.aJ (Hw a m0 m1 lg rl) h (h1.push (.cs [.m (.g m0)])):=BP.trans (sW.mono fun _ _ e=>e.elim)
 refine dU (hG _ AF.f15 rfl) rfl ?_
 (refine IV (hA _ _ _ _ uC) (dU (hG _ AF.f55 rfl) rfl) @hsk @ha0 @ha ?_)
 generalize h1.push (.cs [.m (.g m0)])=hh at*
 refine cS.by (fun q fr st=>∃ (i:Nat) (lo:aA) (lv:V),i<=Ls.length/\q=Ls.length - i/\((i=0/\lv=.aS)\/(0<i/\∃ t,lv=.sl (some (.l t)) 3 ((Ls.take i).map lG)/\t<lo.next/\lo.get t=some .spare))/\
  Fr.le [(19,.i .i64 i),(18,.i .i64 ((Ls.map (·.key)).map bE).length),(17,.sl none 1 ((Ls.map (·.key)).map bE)),(3,lv),(0,.p (.g a) 0)] fr/\st=⟨hh,lo⟩)
  Ls.length ⟨0,_,.aS,Nat.zero_le _,rfl,.inl ⟨rfl,rfl⟩,cT,rfl⟩ ?_
 rintro q fr st ⟨i,lo,lv,hi,rfl,UB,dE,rfl⟩
 refine ⟨_,dE,fun R hR=>?_⟩
 by_cases cY:i<Ls.length
 · have he:=List.getElem?_eq_getElem cY
   have Dw:=List.getElem_mem cY
   generalize Ls[i]=e at he Dw
   have fE:=hr.get Dw
   have DQ:=Bn e.key D
   rw [fE] at DQ
   have hcp:=scop_ok hG e (hD e (K4 fE))
   have hkx:((Ls.map (·.key)).map bE)[((i:Nat):Int).toNat]? =some (bE e.key):=by rw [Int.toNat_natCast,List.getElem?_map,List.getElem?_map,he];rfl
   have jM:Ls.take (i+1)=Ls.take i++[e]:=by rw [List.take_add_one,he];rfl
   have BJ:((Ls.take i).map lG).length=i:=by simp;omega
   rcases UB with ⟨rfl,rfl⟩|⟨Ds,t,rfl,Jy,yU⟩
   · ((conv=>whnf);repeat ((first|refine aH.dt (by omega) ?_|refine aM.ix (by omega) (by omega) ?_|refine bC.of DQ ?_|refine cA (Pure.go hcp rfl) ?_|refine ye (x:=[lG e]) rfl ?_|refine aR.gA (by omega) (by omega) ?_|refine ye (hkx) ?_|refine ye (g4) ?_|refine ye (g5) ?_|refine zz ?_)<;>(conv=>whnf)))
     exact hR (Ls.length - (0+1)) _ _ (by omega) ⟨0+1,_,_,by omega,rfl,.inr ⟨by omega,lo.next+1,by first|(rw [jM];done)|(rw [jM];rfl),Nat.lt_succ_self _,aA.aB _ _⟩,cT,rfl⟩
   · have p1:(lo.push .spare).get t=some .spare:=aA.gp (by omega) yU
     ((conv=>whnf);repeat ((first|refine aH.dt (by omega) ?_|refine aM.ix (by omega) (by omega) ?_|refine bC.of DQ ?_|refine cA (Pure.go hcp rfl) ?_|refine aM.mk (by simp [bT];omega) ?_|refine ye (x:=[lG e]) rfl ?_|refine aR.gA (by omega) (by omega) ?_|refine ye (hkx) ?_|refine ye (g4) ?_|refine ye (g5) ?_|refine ye (p1) ?_|refine zz ?_)<;>(conv=>whnf)))
     exact hR (Ls.length - (i+1)) _ _ (by omega) ⟨i+1,_,_,by omega,rfl,.inr ⟨by omega,lo.next+1,by first|(rw [jM,List.map_append];done)|(rw [jM,List.map_append];rfl),Nat.lt_succ_self _,aA.aB _ _⟩,cT,rfl⟩
 · obtain rfl:i=Ls.length:=by omega
   rcases UB with ⟨h6,rfl⟩|⟨Ds,t,rfl,Jy,yU⟩
   · (refine zx0 ?_)
     exact hK _ _ (.inl ⟨rfl,List.length_eq_zero_iff.1 h6⟩) Nf BT
   · rw [List.take_length] at*
     (refine zx0 ?_)
     exact hK _ _ (.inr rfl) Nf BT
end
end Go.Eng
