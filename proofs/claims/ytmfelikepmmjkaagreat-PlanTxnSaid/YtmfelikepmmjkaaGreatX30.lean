/-
The writer: names.
-/
import Derived.Test.YtmfelikepmmjkaaGreatX29
set_option linter.unusedVariables false
set_option linter.unusedSimpArgs false
set_option maxHeartbeats 16000000
set_option maxRecDepth 10000
namespace Go.Eng
open Go
def qV (ds:List Nat):Nat:=ds.foldl (fun n d=>n*38+d) 0
def iO (s:aU) (i:Nat):Nat:=match s[i]? with
 |some c=>eM c.toNat
 |none=>0
def eZ (s:aU):List Nat:=(List.range 12).map (iO s)
theorem Ft (s:aU) (i:Nat):iO s i<=37:=by
 unfold iO
 split
 · exact Bh _
 · omega
theorem uK (ds:List Nat) (d:Nat):qV (ds++[d])=qV ds*38+d:=by simp [qV]
theorem Fu:∀ (n:Nat) (ds:List Nat),ds.length=n->(∀ d∈ds,d<=37)->qV ds<38 ^ n
 |0,ds,h,_=>by rw [List.length_eq_zero_iff.1 h];decide
 |n+1,ds,h,hd=>by
  have dJ:ds≠[]:=by rintro rfl;simp at h
  rw [<-List.dropLast_concat_getLast dJ,uK]
  have h1:=Fu n ds.dropLast (by simp;omega) (fun d hm=>hd d ((List.dropLast_sublist ds).subset hm))
  have h2:=hd _ (List.getLast_mem dJ)
  rw [Nat.pow_succ]
  omega
theorem Fv (s:aU):∀ d∈eZ s,d<=37:=by
 intro d hd
 obtain ⟨i,_,rfl⟩:=List.mem_map.1 hd
 exact Ft s i
theorem rV (s:aU):(eZ s).length=12:=by simp [eZ]
theorem uL (s:aU) {i:Nat} (h:i<12):(eZ s).take (i+1)=(eZ s).take i++[iO s i]:=by
 rw [List.take_add_one]
 simp [eZ,h]
theorem Cp (s:aU) {i:Nat} (h:i<=12):qV ((eZ s).take i)<38 ^ i:=Fu i _ (by rw [List.length_take,rV];omega) fun d hd=>Fv s d (List.mem_of_mem_take hd)
theorem WY {i:Nat} (h:i<=12):38 ^ i<=9065737908494995456:=Nat.le_trans (Nat.pow_le_pow_right (by decide) h) (by decide)
def Fw (s:aU):Nat:=qV (eZ s)
theorem KT (s:aU):Fw s<9065737908494995456:=by
 have:=Fu 12 (eZ s) (rV s) (Fv s)
 exact this
theorem ac4 (R:List V) {c:Nat} (hc:c<256) (x:Int) (hx:x=(c:Int)):dS (tv true++R) (0+0+3+x.toNat*1) none=some (.i .u64 (eM c:Nat)):=by
 subst hx
 show (tv true++R)[_]? =_
 rw [show 0+0+3+((c:Nat):Int).toNat*1=3+c by omega]
 rw [List.getElem?_append_left (by rw [pB];omega)]
 unfold tv pM
 rw [List.append_assoc,List.getElem?_append_right (by simp),List.getElem?_append_left (by simp;omega)]
 have h1:eM c<=37:=Bh c
 simp [hc,Hi,h1]
theorem j3.made {h h':aA} {lo a:Nat} {m:Bool} {B:List Int} (hw:j3 h lo a m B) (hk:aA.aJ (fun n=>n=a) h h') (hg:∀ R,h.get a=some (.cs (tv m++R))->h'.get a=some (.cs (tv true++R))):j3 h' lo a true B:=by
 obtain ⟨h1,h2,⟨h3,h4⟩|⟨k,h3,h4,h5,h6,h7⟩⟩:=hw
 · exact ⟨h1,Nat.lt_of_lt_of_le h2 hk.1,.inl ⟨h3,hg _ h4⟩⟩
 · exact ⟨h1,Nat.lt_of_lt_of_le h2 hk.1,.inr ⟨k,h3,h4,Nat.lt_of_lt_of_le h5 hk.1,by rw [hk.2 k h5 h4];exact h6,hg _ h7⟩⟩
section
variable {P:Program} (hG:bP P AF.fns.get)
include hG
theorem wmake_at (eN:dQ P 285) {h:aA} {lo a:Nat} {m:Bool} {B:List Int} (hw:j3 h lo a m B) {K:V->aA->Prop}
 (hK:∀ h',j3 h' lo a true B->aA.aJ (fun n=>lo<=n) h h'->K (.bY []) h'):aC P 211 [.p (.g a) 0] h K:=by
 have JI:=hw
 obtain ⟨h1,h2,⟨h3,h4⟩|⟨k,h3,h4,h5,h6,h7⟩⟩:=hw
 · exact tmake_at hG eN h2 h4 fun h' q1 q2=>hK h' (JI.made q2 fun R hR=>by rw [h4] at hR;have:=List.append_cancel_left (Obj.cs.inj (Option.some.inj hR));rw [<-this];exact q1) (q2.mono fun n _ e=>by rw [e];exact h1)
 · exact tmake_at hG eN h2 h7 fun h' q1 q2=>hK h' (JI.made q2 fun R hR=>by rw [h7] at hR;have:=List.append_cancel_left (Obj.cs.inj (Option.some.inj hR));rw [<-this];exact q1) (q2.mono fun n _ e=>by rw [e];exact h1)
theorem wname_at (eN:dQ P 285) {h:aA} {lo a:Nat} {m:Bool} {B:List Int} (hw:j3 h lo a m B) (hB:B.length<=100000000) (s:aU) {K:V->aA->Prop}
 (hK:∀ h',j3 h' lo a true (B++dI (Fw s) 8)->aA.aJ (fun n=>lo<=n) h h'->K (.bY []) h'):aC P 109 [.p (.g a) 0,.s s] h K:=by
 have YD:=fun K hK=>wmake_at (K:=K) hG eN hw hK
 refine aQ (hG _ AF.f109 rfl) rfl ?_
 (refine cD @YD ?_)
 intro h1 QH BP
 (refine zr ?_)
 refine b8.by (fun q fr st=>∃ (i:Nat) (l:aA),i<=12/\q=12 - i/\
  Fr.le [(10,.i .i64 i),(4,.i .u64 (qV ((eZ s).take i):Nat)),(1,.s s),(0,.p (.g a) 0)] fr/\st=⟨h1,l⟩)
  12 ⟨0,_,Nat.zero_le _,rfl,cT,rfl⟩ ?_
 rintro q fr st ⟨i,l,hi,rfl,dE,rfl⟩
 refine ⟨_,dE,fun R hR=>?_⟩
 have cO:=Cp s hi
 by_cases cY:i<12
 · have hp:=WY (show i+1<=12 by omega)
   have aiR:=Cp s (show i+1<=12 by omega)
   rw [uL s cY,uK] at aiR
   have oC:qV ((eZ s).take (i+1))=qV ((eZ s).take i)*38+iO s i:=by rw [uL s cY,uK]
   by_cases hs:i<s.length
   · have hc:=List.getElem?_eq_getElem hs
     generalize s[i]=c at hc
     have hd:iO s i=eM c.toNat:=by unfold iO;rw [hc]
     have hcb:c.toNat<256:=by have:=c.toNat_lt;omega
     obtain ⟨_,_,hb⟩:=QH
     obtain ⟨R0,Hm⟩:∃ R0,h1.get a=some (.cs (tv true++R0)):=by
      rcases hb with ⟨_,h4⟩|⟨k,_,_,_,_,h4⟩
      · exact ⟨_,h4⟩
      · exact ⟨_,h4⟩
     have fU:s[((i:Nat):Int).toNat]? =some c:=by rw [Int.toNat_natCast];exact hc
     ((conv=>whnf);repeat ((first|refine aH.dt (show (i:Int)<12 by omega) ?_|refine aH.dt (show (i:Int)<(s.length:Nat) by omega) ?_|refine aR.wu (by omega) (by omega) ?_|refine aR.gA (by omega) (by omega) ?_|refine aM.ix (by omega) (by omega) ?_|refine aM.mk (decide_eq_true (show (0:Int)<=(i:Int) by omega)) ?_|refine bC.of (ac4 _ hcb _ rfl) ?_|refine ye (Hm) ?_|refine ye (fU) ?_|refine zz ?_)<;>(conv=>whnf)))
     exact hR (12 - (i+1)) _ _ (by omega) ⟨i+1,_,by omega,rfl,(by rw [oC,hd];exact cT),rfl⟩
   · have hd:iO s i=0:=by unfold iO;rw [List.getElem?_eq_none (by omega)]
     rw [hd] at oC
     (refine zx2 (show (i:Int)<12 by omega) (show ¬(i:Int)<(s.length:Nat) by omega) ?_)
     exact hR (12 - (i+1)) _ _ (by omega) ⟨i+1,_,by omega,rfl,(by rw [oC];exact cT),rfl⟩
 · obtain rfl:i=12:=by omega
   have aiT:=KT s
   rw [show (eZ s).take 12=eZ s from List.take_of_length_le (by rw [rV];omega)] at*
   have Dd:=fun K hK=>wnum_at (K:=K) hG QH hB (Fw s) 8 (by omega) hK
   unfold Fw at Dd aiT
   (refine iG (show ¬((12:Nat):Int)<12 by omega) @Dd ?_)
   intro h2 M4 sW
   (refine zr ?_)
   exact hK h2 M4 (BP.trans sW)
end
open Go
def bV (s:aU):List Int:=dI (Fw s) 8
def pC (r:gW):List Int:=dI r.a 4++dI r.b 4++dI r.c 4
def bX (p:cX):List Int:=bV p.key++bV p.val
def dV (l:List cX):List Int:=dI l.length 1++l.flatMap bX
def yH (l:List aU):List Int:=dI l.length 1++l.flatMap bV
def dX (t:cM):List Int:=bV t.key++dI t.kind 1++yH t.bF
def fB (l:List cM):List Int:=dI l.length 1++l.flatMap dX
def yI (b:Bool):List Int:=dI (if b then 1 else 0) 1
def jB (t:lC):List Int:=bV t.key++bV t.val++yI t.any
def DL (l:List lC):List Int:=dI l.length 1++l.flatMap jB
def kD (n:Int):List Int:=dI n 2
def Bi (l:List Int):List Int:=dI l.length 1++l.flatMap kD
theorem aV (n:Int) (k:Nat):(dI n k).length=k:=by simp [dI]
theorem bN (s:aU):(bV s).length=8:=aV _ _
theorem nJ {α:Type} (f:α->List Int) {l:List α} {i:Nat} {x:α} (h:l[i]? =some x):(l.take (i+1)).flatMap f=(l.take i).flatMap f++f x:=by
 rw [List.take_add_one,h];simp
theorem eV {α:Type} (f:α->List Int) (n:Nat):∀ (l:List α),(∀ x∈l,(f x).length<=n)->(l.flatMap f).length<=l.length*n
 |[],_=>by simp
 |x::r,h=>by
  have h1:=eV f n r fun y hy=>h y (.tail _ hy)
  have h2:=h x (.head _)
  rw [List.flatMap_cons,List.length_append,List.length_cons,Nat.succ_mul]
  omega
theorem iF {α:Type} (f:α->List Int) (n:Nat) (l:List α) (i:Nat) (h:∀ x∈l,(f x).length<=n):((l.take i).flatMap f).length<=l.length*n:=by
 have h1:=eV f n (l.take i) fun x hx=>h x (List.mem_of_mem_take hx)
 have h2:(l.take i).length*n<=l.length*n:=Nat.mul_le_mul_right n (by simp;omega)
 omega
section
variable {P:Program} (hG:bP P AF.fns.get)
include hG
theorem wres_at {h:aA} {lo a:Nat} {m:Bool} {B:List Int} (hw:j3 h lo a m B) (hB:B.length<=10000000) (r:gW) {K:V->aA->Prop}
 (hK:∀ h',j3 h' lo a m (B++pC r)->aA.aJ (fun n=>lo<=n) h h'->K (.bY []) h'):aC P 110 [.p (.g a) 0,.agg (Aj r)] h K:=by
 have h1:=fun K hK=>wnum_at (K:=K) hG hw (by omega) r.a 4 (by omega) hK
 refine aQ (hG _ AF.f110 rfl) rfl ?_
 ((conv=>whnf);repeat ((first|refine b8.un ?_|refine cA (h1 _) ?_|refine zz ?_)<;>(conv=>whnf)))
 intro h2 w2 k2
 have h3:=fun K hK=>wnum_at (K:=K) hG w2 (by rw [List.length_append,aV];omega) r.b 4 (by omega) hK
 ((conv=>whnf);repeat ((first|refine b8.un ?_|refine cA (h3 _) ?_|refine zz ?_)<;>(conv=>whnf)))
 intro h4 w4 k4
 have h5:=fun K hK=>wnum_at (K:=K) hG w4 (by rw [List.length_append,List.length_append,aV,aV];omega) r.c 4 (by omega) hK
 ((conv=>whnf);repeat ((first|refine b8.un ?_|refine cA (h5 _) ?_|refine zz ?_)<;>(conv=>whnf)))
 intro h6 w6 k6
 ((conv=>whnf);repeat ((first|refine b8.un ?_|refine zz ?_)<;>(conv=>whnf)))
 exact hK h6 (by unfold pC;rw [<-List.append_assoc,<-List.append_assoc];exact w6) ((k2.trans k4).trans k6)
theorem wbool_at {h:aA} {lo a:Nat} {m:Bool} {B:List Int} (hw:j3 h lo a m B) (hB:B.length<=10000000) (b:Bool) {K:V->aA->Prop}
 (hK:∀ h',j3 h' lo a m (B++yI b)->aA.aJ (fun n=>lo<=n) h h'->K (.bY []) h'):aC P 117 [.p (.g a) 0,.b b] h K:=by
 have h1:=fun K hK=>wnum_at (K:=K) hG hw (by omega) (if b then 1 else 0) 1 (by omega) hK
 refine aQ (hG _ AF.f117 rfl) rfl ?_
 cases b
 all_goals
  (refine cD @h1 ?_)
  intro h2 w2 k2
  (refine zr ?_)
  exact hK h2 w2 k2
theorem wpairs_at (eN:dQ P 285) {h:aA} {lo a:Nat} {m:Bool} {B:List Int} (hw:j3 h lo a m B) (hB:B.length<=10000000) (l:List cX) (hl:l.length<=100) {K:V->aA->Prop}
 (hK:∀ h' m',j3 h' lo a m' (B++dV l)->aA.aJ (fun n=>lo<=n) h h'->K (.bY []) h'):aC P 111 [.p (.g a) 0,.sl none 2 (l.map aY),.fn 112 [] []] h K:=by
 have gK:(l.map aY).length=l.length:=List.length_map _
 have xY:∀ p:cX,(bX p).length=16:=fun p=>by simp [bX,bN]
 have h1:=fun K hK=>wnum_at (K:=K) hG hw (by omega) (l.map aY).length 1 (by omega) hK
 refine aQ (hG _ AF.f111 rfl) rfl ?_
 (refine cD @h1 ?_)
 intro h2 w2 k2
 rw [gK] at w2
 (refine zr ?_)
 refine b8.by (fun q fr st=>∃ (i:Nat) (hh lc:aA) (m':Bool),i<=l.length/\q=l.length - i/\j3 hh lo a m' (B++dI l.length 1++(l.take i).flatMap bX)/\aA.aJ (fun n=>lo<=n) h hh/\
  Fr.le [(16,.i .i64 i),(15,.i .i64 (l.map aY).length),(14,.sl none 2 (l.map aY)),(2,.fn 112 [] []),(0,.p (.g a) 0)] fr/\st=⟨hh,lc⟩)
  l.length ⟨0,h2,_,m,Nat.zero_le _,rfl,(by simpa using w2),k2,cT,rfl⟩ ?_
 rintro q fr st ⟨i,hh,lc,m',hi,rfl,CU,hk,dE,rfl⟩
 refine ⟨_,dE,fun R hR=>?_⟩
 by_cases cY:i<l.length
 · have he:=List.getElem?_eq_getElem cY
   generalize l[i]=x at he
   have Om:=nJ bX he
   have vG:=iF bX 16 l i fun p _=>Nat.le_of_eq (xY p)
   have ZN:(B++dI l.length 1++(l.take i).flatMap bX).length<=10000000+1+1600:=by
    rw [List.length_append,List.length_append,aV];omega
   have WZ:=fun K hK=>wname_at (K:=K) hG eN CU (by omega) x.key hK
   (refine zx5 (show (i:Int)<(l.map aY).length by omega) (aQ (hG _ AF.f112 rfl) rfl) @WZ @he @aA.aB ?_)
   intro h3 w3 k3
   have PV:=fun K hK=>wname_at (K:=K) hG eN w3 (by rw [List.length_append,aV];omega) x.val hK
   (refine cD @PV ?_)
   intro h4 w4 k4
   (refine zr ?_)
   exact hR (l.length - (i+1)) _ _ (by omega) ⟨i+1,h4,_,true,by omega,rfl,(by rw [Om,<-List.append_assoc];unfold bX bV;rw [<-List.append_assoc];exact w4),(hk.trans k3).trans k4,cT,rfl⟩
 · obtain rfl:i=l.length:=by omega
   rw [List.take_length] at CU
   (refine cD (show ¬((l.length:Nat):Int)<(l.map aY).length by omega) ?_)
   exact hK hh m' (by unfold dV;rw [<-List.append_assoc];exact CU) hk
end
open Go
theorem KU {l:List aU} (h:l.length<=100):(yH l).length<=801:=by
 have:=eV bV 8 l fun s _=>Nat.le_of_eq (bN s)
 unfold yH
 rw [List.length_append,aV]
 omega
theorem wW {t:cM} (h:t.bF.length<=100):(dX t).length<=810:=by
 have:=KU h
 unfold dX
 rw [List.length_append,List.length_append,aV,bN]
 omega
section
variable {P:Program} (hG:bP P AF.fns.get)
include hG
theorem wterms_at (eN:dQ P 285) {h:aA} {lo a:Nat} {m:Bool} {B:List Int} (hw:j3 h lo a m B) (hB:B.length<=10000000) (l:List cM) (hl:l.length<=100) (hv:∀ t∈l,t.bF.length<=100) {K:V->aA->Prop}
 (hK:∀ h' m',j3 h' lo a m' (B++fB l)->aA.aJ (fun n=>lo<=n) h h'->K (.bY []) h'):aC P 116 [.p (.g a) 0,.sl none 3 (l.map bA)] h K:=by
 have gK:(l.map bA).length=l.length:=List.length_map _
 have h1:=fun K hK=>wnum_at (K:=K) hG hw (by omega) (l.map bA).length 1 (by omega) hK
 refine aQ (hG _ AF.f116 rfl) rfl ?_
 (refine cD @h1 ?_)
 intro h2 w2 k2
 rw [gK] at w2
 (refine zr ?_)
 refine b8.by (fun q fr st=>∃ (i:Nat) (hh lc:aA) (m':Bool),i<=l.length/\q=l.length - i/\j3 hh lo a m' (B++dI l.length 1++(l.take i).flatMap dX)/\aA.aJ (fun n=>lo<=n) h hh/\
  Fr.le [(14,.i .i64 i),(13,.i .i64 (l.map bA).length),(12,.sl none 3 (l.map bA)),(0,.p (.g a) 0)] fr/\st=⟨hh,lc⟩)
  l.length ⟨0,h2,_,m,Nat.zero_le _,rfl,(by simpa using w2),k2,cT,rfl⟩ ?_
 rintro q fr st ⟨i,hh,lc,m',hi,rfl,CU,hk,dE,rfl⟩
 refine ⟨_,dE,fun R hR=>?_⟩
 by_cases cY:i<l.length
 · have he:=List.getElem?_eq_getElem cY
   have hvx:=hv _ (List.getElem_mem cY)
   generalize l[i]=x at he hvx
   have Om:=nJ dX he
   have vG:=iF dX 810 l i fun t ht=>wW (hv t ht)
   have ZN:(B++dI l.length 1++(l.take i).flatMap dX).length<=10000000+1+81000:=by
    rw [List.length_append,List.length_append,aV];omega
   have hvm:(x.bF.map bE).length=x.bF.length:=List.length_map _
   have WZ:=fun K hK=>wname_at (K:=K) hG eN CU (by omega) x.key hK
   (refine zx4 (show (i:Int)<(l.map bA).length by omega) @WZ @he @aA.aB ?_)
   intro h3 w3 k3
   have PV:=fun K hK=>wnum_at (K:=K) hG w3 (by rw [List.length_append,aV];omega) x.kind 1 (by omega) hK
   (refine zx2 @PV @aA.aB ?_)
   intro h4 w4 k4
   have ha3:=fun K hK=>wnum_at (K:=K) hG w4 (by rw [List.length_append,List.length_append,aV,aV];omega) (x.bF.map bE).length 1 (by omega) hK
   (refine zx2 @ha3 @aA.aB ?_)
   intro h5 w5 k5
   rw [hvm] at w5
   (refine zx1 @aA.aB ?_)
   obtain ⟨B5,hB5⟩:∃ B5,B5=(B++dI l.length 1++(l.take i).flatMap dX)++dI (Fw x.key) 8++dI x.kind 1++dI x.bF.length 1:=⟨_,rfl⟩
   have ao7:B5.length<=10000000+1+81000+10:=by rw [hB5,List.length_append,List.length_append,List.length_append,aV,aV,aV];omega
   rw [<-hB5] at w5
   refine b8.by (fun q fr st=>∃ (j:Nat) (hj lc:aA),j<=x.bF.length/\q=x.bF.length - j/\j3 hj lo a true (B5++(x.bF.take j).flatMap bV)/\aA.aJ (fun n=>lo<=n) h hj/\
    Fr.le [(34,.i .i64 j),(33,.i .i64 (x.bF.map bE).length),(32,.sl none 1 (x.bF.map bE)),(14,.i .i64 i),(13,.i .i64 (l.map bA).length),(12,.sl none 3 (l.map bA)),(0,.p (.g a) 0)] fr/\st=⟨hj,lc⟩)
    x.bF.length ⟨0,h5,_,Nat.zero_le _,rfl,(by simpa using w5),((hk.trans k3).trans k4).trans k5,cT,rfl⟩ ?_
   rintro q fr st ⟨j,hj,lc,H6,rfl,hwj,QI,Cq,rfl⟩
   refine ⟨_,Cq,fun R2 I5=>?_⟩
   by_cases F9:j<x.bF.length
   · have hv:=List.getElem?_eq_getElem F9
     generalize x.bF[j]=s at hv
     have aiW:=nJ bV hv
     have aiX:=iF bV 8 x.bF j fun s _=>Nat.le_of_eq (bN s)
     have Jr:=fun K hK=>wname_at (K:=K) hG eN hwj (by rw [List.length_append];omega) s hK
     (refine qR (show (j:Int)<(x.bF.map bE).length by omega) @Jr @hv ?_)
     intro h6 w6 k6
     (refine zr ?_)
     exact I5 (x.bF.length - (j+1)) _ _ (by omega) ⟨j+1,h6,_,by omega,rfl,(by rw [aiW,<-List.append_assoc];exact w6),QI.trans k6,cT,rfl⟩
   · obtain rfl:j=x.bF.length:=by omega
     rw [List.take_length] at hwj
     (refine cD (show ¬((x.bF.length:Nat):Int)<(x.bF.map bE).length by omega) ?_)
     exact hR (l.length - (i+1)) _ _ (by omega) ⟨i+1,hj,_,true,by omega,rfl,(by
      have e:B++dI l.length 1++(l.take (i+1)).flatMap dX=B5++x.bF.flatMap bV:=by
       rw [Om,hB5];unfold dX yH bV;simp only [List.append_assoc]
      rw [e];exact hwj),QI,cT,rfl⟩
 · obtain rfl:i=l.length:=by omega
   rw [List.take_length] at CU
   (refine cD (show ¬((l.length:Nat):Int)<(l.map bA).length by omega) ?_)
   exact hK hh m' (by unfold fB;rw [<-List.append_assoc];exact CU) hk
theorem wbytes_at {h:aA} {lo a:Nat} {m:Bool} {B:List Int} (hw:j3 h lo a m B) (hB:B.length<=1000000000) (dJ:B≠[]) {K:V->aA->Prop} (hK:K (.sl none 1 (B.map hM)) h):aC P 47 [.p (.g a) 0] h K:=by
 have hc:=uJ hG B (by omega)
 obtain ⟨h1,h2,⟨h3,_⟩|⟨k,h3,h4,h5,h6,h7⟩⟩:=hw
 · exact absurd h3 dJ
 refine aQ (hG _ AF.f47 rfl) rfl ?_
 (refine iG @mL @h7 ?_)
 refine dF.app (Pure.EV hc Yl rfl) ?_
 (refine zr ?_)
 exact hK
end
open Go
def bZ (p:aL):List Int:=dI 1 1++bV p.name++dI p.uid 8++dI p.prio 2++pC p.fQ++Bi p.aN++dV p.labels++fB p.lM++DL p.bW++bV p.eG++fB p.cV++dI p.lD 1++fB p.even++bV p.node++dI p.term 8
structure KV (p:aL):Prop where
 aN:p.aN.length<=100
 labels:p.labels.length<=100
 lM:p.lM.length<=100
 bW:p.bW.length<=100
 cV:p.cV.length<=100
 even:p.even.length<=100
 YE:∀ t∈p.lM,t.bF.length<=100
 Tm:∀ t∈p.cV,t.bF.length<=100
 Tn:∀ t∈p.even,t.bF.length<=100
theorem kE {l:List cM} (h:l.length<=100) (hv:∀ t∈l,t.bF.length<=100):(fB l).length<=81001:=by
 have:=eV dX 810 l fun t ht=>wW (hv t ht)
 unfold fB
 rw [List.length_append,aV]
 omega
theorem kG {l:List cX} (h:l.length<=100):(dV l).length<=1601:=by
 have:=eV bX 16 l fun p _=>Nat.le_of_eq (show (bX p).length=16 by simp [bX,bN])
 unfold dV
 rw [List.length_append,aV]
 omega
theorem qW (t:lC):(jB t).length=17:=by simp [jB,bN,yI,aV]
theorem nK (r:gW):(pC r).length=12:=by simp [pC,aV]
section
variable {P:Program} (hG:bP P AF.fns.get)
include hG
theorem wput_at (eN:dQ P 285) (p:aL) (hp:KV p) (hm:Pure P 115 [.agg (aI p)] (·=.b true)) {h:aA} {K:V->aA->Prop}
 (hK:∀ h',aA.aJ (fun _=>False) h h'->K (.sl none 1 ((bZ p).map hM)) h'):aC P 49 [.agg (aI p)] h K:=by
 have Xy:(p.aN.map fA).length=p.aN.length:=List.length_map _
 have cO:(p.bW.map eP).length=p.bW.length:=List.length_map _
 refine aQ (hG _ AF.f49 rfl) rfl ?_
 (refine cD @hm ?_)
 have w0:j3 (h.push (.cs (tv false++[.aS]))) h.next h.next false []:=⟨Nat.le_refl _,Nat.lt_succ_self _,.inl ⟨rfl,aA.aB _ _⟩⟩
 have k0:aA.aJ (fun n=>h.next<=n) h (h.push (.cs (tv false++[.aS]))):=.push (.refl _ _) _
 have l0:([]:List Int).length<=0:=Nat.le_refl _
 have c1:=fun K hK=>wnum_at (K:=K) hG w0 (by omega) (1) 1 (by omega) hK
 (refine cD @c1 ?_)
 intro h1 w1 q1
 obtain ⟨B1,e1⟩:∃ X,X=[]++dI (1) 1:=⟨_,rfl⟩
 have l1:B1.length<=1:=by rw [e1,List.length_append];rw [aV];omega
 rw [<-e1] at w1
 have k1:=k0.trans q1
 clear c1
 have c2:=fun K hK=>wname_at (K:=K) hG eN w1 (by omega) p.name hK
 (refine cD @c2 ?_)
 intro h2 w2 q2
 obtain ⟨B2,e2⟩:∃ X,X=B1++bV p.name:=⟨_,rfl⟩
 have l2:B2.length<=9:=by rw [e2,List.length_append];rw [bN];omega
 change j3 _ _ _ _ (_++bV p.name) at w2;rw [<-e2] at w2
 have k2:=k1.trans q2
 clear c2
 have c3:=fun K hK=>wnum_at (K:=K) hG w2 (by omega) (p.uid) 8 (by omega) hK
 (refine cD @c3 ?_)
 intro h3 w3 q3
 obtain ⟨B3,e3⟩:∃ X,X=B2++dI (p.uid) 8:=⟨_,rfl⟩
 have l3:B3.length<=17:=by rw [e3,List.length_append];rw [aV];omega
 rw [<-e3] at w3
 have k3:=k2.trans q3
 clear c3
 have c4:=fun K hK=>wnum_at (K:=K) hG w3 (by omega) (p.prio) 2 (by omega) hK
 (refine cD @c4 ?_)
 intro h4 w4 q4
 obtain ⟨B4,e4⟩:∃ X,X=B3++dI (p.prio) 2:=⟨_,rfl⟩
 have l4:B4.length<=19:=by rw [e4,List.length_append];rw [aV];omega
 rw [<-e4] at w4
 have k4:=k3.trans q4
 clear c4
 have c5:=fun K hK=>wres_at (K:=K) hG w4 (by omega) p.fQ hK
 (refine cD @c5 ?_)
 intro h5 w5 q5
 obtain ⟨B5,e5⟩:∃ X,X=B4++pC p.fQ:=⟨_,rfl⟩
 have l5:B5.length<=31:=by rw [e5,List.length_append];rw [nK];omega
 rw [<-e5] at w5
 have k5:=k4.trans q5
 clear c5
 have c6:=fun K hK=>wnum_at (K:=K) hG w5 (by omega) (p.aN.map fA).length 1 (by omega) hK
 (refine cD @c6 ?_)
 intro h6 w6 q6
 rw [Xy] at w6
 obtain ⟨B6,e6⟩:∃ X,X=B5++dI p.aN.length 1:=⟨_,rfl⟩
 have l6:B6.length<=32:=by rw [e6,List.length_append];rw [aV];omega
 rw [<-e6] at w6
 have k6:=k5.trans q6
 clear c6
 (refine zr ?_)
 refine b8.by (fun q fr st=>∃ (i:Nat) (hh:aA),i<=p.aN.length/\q=p.aN.length - i/\j3 hh h.next h.next true (B6++(p.aN.take i).flatMap kD)/\aA.aJ (fun n=>h.next<=n) h hh/\
  Fr.le [(31,.i .i64 i),(30,.i .i64 (p.aN.map fA).length),(29,.sl none 1 (p.aN.map fA)),(3,.p (.g h.next) 0),(1,.p (.l 0) 0)] fr/\st=⟨hh,⟨1,[(0,.cs (aI p))]⟩⟩)
  p.aN.length ⟨0,h6,Nat.zero_le _,rfl,(by simpa using w6),k6,cT,rfl⟩ ?_
 rintro q fr st ⟨i,hh,hi,rfl,CU,hk,dE,rfl⟩
 refine ⟨_,dE,fun R hR=>?_⟩
 have vG:=iF kD 2 p.aN i fun _ _=>Nat.le_of_eq (aV _ _)
 have Wq:=hp.aN
 have ZN:(B6++(p.aN.take i).flatMap kD).length<=32+200:=by rw [List.length_append];omega
 by_cases cY:i<p.aN.length
 · have he:=List.getElem?_eq_getElem cY
   generalize p.aN[i]=x at he
   have Om:=nJ kD he
   have c:=fun K hK=>wnum_at (K:=K) hG CU (by omega) x 2 (by omega) hK
   (refine qR (show (i:Int)<(p.aN.map fA).length by omega) @c @he ?_)
   intro h' w' q'
   (refine zr ?_)
   exact hR (p.aN.length - (i+1)) _ _ (by omega) ⟨i+1,h',by omega,rfl,(by rw [Om,<-List.append_assoc];exact w'),hk.trans q',cT,rfl⟩
 obtain rfl:i=p.aN.length:=by omega
 rw [List.take_length] at CU ZN
 obtain ⟨B7,e7⟩:∃ X,X=B6++p.aN.flatMap kD:=⟨_,rfl⟩
 rw [<-e7] at ZN
 have l7:B7.length<=232:=ZN
 have w7:j3 hh h.next h.next true B7:=by rw [e7];exact CU
 have k7:=hk
 (refine cD (show ¬((p.aN.length:Nat):Int)<(p.aN.map fA).length by omega) ?_)
 have c8:=fun K hK=>wpairs_at (K:=K) hG eN w7 (by omega) p.labels hp.labels hK
 (refine cD @c8 ?_)
 intro h8 m8 w8 q8
 obtain ⟨B8,e8⟩:∃ X,X=B7++dV p.labels:=⟨_,rfl⟩
 have l8:B8.length<=1833:=by rw [e8,List.length_append];have:=kG hp.labels;omega
 rw [<-e8] at w8
 have k8:=k7.trans q8
 clear c8
 have c9:=fun K hK=>wterms_at (K:=K) hG eN w8 (by omega) p.lM hp.lM hp.YE hK
 (refine cD @c9 ?_)
 intro h9 m9 w9 q9
 obtain ⟨B9,e9⟩:∃ X,X=B8++fB p.lM:=⟨_,rfl⟩
 have l9:B9.length<=82834:=by rw [e9,List.length_append];have:=kE hp.lM hp.YE;omega
 rw [<-e9] at w9
 have k9:=k8.trans q9
 clear c9
 have W1:=fun K hK=>wnum_at (K:=K) hG w9 (by omega) (p.bW.map eP).length 1 (by omega) hK
 (refine cD @W1 ?_)
 intro GM w10 q10
 rw [cO] at w10
 obtain ⟨B10,W2⟩:∃ X,X=B9++dI p.bW.length 1:=⟨_,rfl⟩
 have l10:B10.length<=82835:=by rw [W2,List.length_append];rw [aV];omega
 rw [<-W2] at w10
 have k10:=k9.trans q10
 clear W1
 (refine zr ?_)
 refine b8.by (fun q fr st=>∃ (i:Nat) (hh lc:aA) (m':Bool),i<=p.bW.length/\q=p.bW.length - i/\j3 hh h.next h.next m' (B10++(p.bW.take i).flatMap jB)/\aA.aJ (fun n=>h.next<=n) h hh/\0<lc.next/\lc.get 0=some (.cs (aI p))/\
  Fr.le [(51,.i .i64 i),(50,.i .i64 (p.bW.map eP).length),(49,.sl none 3 (p.bW.map eP)),(3,.p (.g h.next) 0),(1,.p (.l 0) 0)] fr/\st=⟨hh,lc⟩)
  p.bW.length ⟨0,GM,_,_,Nat.zero_le _,rfl,(by simpa using w10),k10,Nat.lt_succ_self _,rfl,cT,rfl⟩ ?_
 rintro q fr st ⟨i,hh,lc,m',hi,rfl,CU,hk,QB,u9,Cq,rfl⟩
 refine ⟨_,Cq,fun R hR=>?_⟩
 have aiX:=iF jB 17 p.bW i fun t _=>Nat.le_of_eq (qW t)
 have hts:=hp.bW
 have YF:(B10++(p.bW.take i).flatMap jB).length<=82835+1700:=by rw [List.length_append];omega
 by_cases cY:i<p.bW.length
 · have he:=List.getElem?_eq_getElem cY
   generalize p.bW[i]=x at he
   have Om:=nJ jB he
   have g0:∀ o o2,((lc.push o).set lc.next o2).get lc.next=some o2:=fun o o2=>aA.aD (aA.aB _ _)
   have g1:∀ o o2,((lc.push o).set lc.next o2).get 0=some (.cs (aI p)):=fun o o2=>aA.gs (by omega) (aA.gp (by omega) u9)
   have c:=fun K hK=>wname_at (K:=K) hG eN CU (by omega) x.key hK
   (refine IV (show (i:Int)<(p.bW.map eP).length by omega) @c @he @aA.aB @g0 ?_)
   intro h' w' q'
   have c2:=fun K hK=>wname_at (K:=K) hG eN w' (by rw [List.length_append,aV];omega) x.val hK
   (refine iG @c2 @g0 ?_)
   intro XI w2' q2'
   have c3:=fun K hK=>wbool_at (K:=K) hG w2' (by rw [List.length_append,List.length_append,aV,aV];omega) x.any hK
   (refine iG @c3 @g0 ?_)
   intro h3' w3' q3'
   (refine zr ?_)
   exact hR (p.bW.length - (i+1)) _ _ (by omega) ⟨i+1,h3',_,true,by omega,rfl,(by rw [Om,<-List.append_assoc];unfold jB bV;rw [<-List.append_assoc,<-List.append_assoc];exact w3'),((hk.trans q').trans q2').trans q3',Nat.succ_pos _,g1 _ _,cT,rfl⟩
 obtain rfl:i=p.bW.length:=by omega
 rw [List.take_length] at CU YF
 obtain ⟨B11,YG⟩:∃ X,X=B10++p.bW.flatMap jB:=⟨_,rfl⟩
 rw [<-YG] at YF
 have l11:B11.length<=84535:=YF
 have w11:j3 hh h.next h.next m' B11:=by rw [YG];exact CU
 have YH:=hk
 (refine iG (show ¬((p.bW.length:Nat):Int)<(p.bW.map eP).length by omega) @u9 ?_)
 have ZO:=fun K hK=>wname_at (K:=K) hG eN w11 (by omega) p.eG hK
 (refine iG @ZO @u9 ?_)
 intro Jx w12 q12
 obtain ⟨B12,YI⟩:∃ X,X=B11++bV p.eG:=⟨_,rfl⟩
 have l12:B12.length<=84543:=by rw [YI,List.length_append];rw [bN];omega
 change j3 _ _ _ _ (_++bV p.eG) at w12;rw [<-YI] at w12
 have VA:=YH.trans q12
 clear ZO
 have ZP:=fun K hK=>wterms_at (K:=K) hG eN w12 (by omega) p.cV hp.cV hp.Tm hK
 (refine iG @ZP @u9 ?_)
 intro Vy m13 w13 q13
 obtain ⟨B13,YJ⟩:∃ X,X=B12++fB p.cV:=⟨_,rfl⟩
 have l13:B13.length<=165544:=by rw [YJ,List.length_append];have:=kE hp.cV hp.Tm;omega
 rw [<-YJ] at w13
 have k13:=VA.trans q13
 clear ZP
 have ZQ:=fun K hK=>wnum_at (K:=K) hG w13 (by omega) (p.lD) 1 (by omega) hK
 (refine iG @ZQ @u9 ?_)
 intro ZM w14 q14
 obtain ⟨B14,YK⟩:∃ X,X=B13++dI (p.lD) 1:=⟨_,rfl⟩
 have l14:B14.length<=165545:=by rw [YK,List.length_append];rw [aV];omega
 rw [<-YK] at w14
 have VB:=k13.trans q14
 clear ZQ
 have ZR:=fun K hK=>wterms_at (K:=K) hG eN w14 (by omega) p.even hp.even hp.Tn hK
 (refine iG @ZR @u9 ?_)
 intro h15 m15 w15 q15
 obtain ⟨B15,YL⟩:∃ X,X=B14++fB p.even:=⟨_,rfl⟩
 have l15:B15.length<=246546:=by rw [YL,List.length_append];have:=kE hp.even hp.Tn;omega
 rw [<-YL] at w15
 have k15:=VB.trans q15
 clear ZR
 have c16:=fun K hK=>wname_at (K:=K) hG eN w15 (by omega) p.node hK
 (refine iG @c16 @u9 ?_)
 intro Vz w16 q16
 obtain ⟨B16,YM⟩:∃ X,X=B15++bV p.node:=⟨_,rfl⟩
 have l16:B16.length<=246554:=by rw [YM,List.length_append];rw [bN];omega
 change j3 _ _ _ _ (_++bV p.node) at w16;rw [<-YM] at w16
 have k16:=k15.trans q16
 clear c16
 have c17:=fun K hK=>wnum_at (K:=K) hG w16 (by omega) (p.term) 8 (by omega) hK
 (refine iG @c17 @u9 ?_)
 intro h17 w17 q17
 obtain ⟨B17,YN⟩:∃ X,X=B16++dI (p.term) 8:=⟨_,rfl⟩
 have l17:B17.length<=246562:=by rw [YN,List.length_append];rw [aV];omega
 rw [<-YN] at w17
 have k17:=k16.trans q17
 clear c17
 have zS:B17=bZ p:=by
  rw [YN,YM,YL,YK,YJ,YI,YG,W2,e9,e8,e7,e6,e5,e4,e3,e2,e1]
  unfold bZ Bi DL
  simp only [List.nil_append,List.append_assoc]
 have dJ:B17≠[]:=by rw [zS];unfold bZ dI;simp
 have cb:=fun K hK=>wbytes_at (K:=K) hG w17 (by omega) dJ hK
 (refine cD @cb ?_)
 rw [zS]
 exact hK _ (k17.mono fun n hn e=>absurd hn (by omega))
end
open Go
def y6 (l:List Int):Int:=l.foldl (fun n x=>n*256+x) 0
theorem yJ (l:List Int) (x:Int):y6 (l++[x])=y6 l*256+x:=by simp [y6]
theorem VE (n:Nat):IntKind.u8.wrap (n:Int)=((n%256:Nat):Int):=by
 simp [IntKind.wrap,IntKind.bits,IntKind.signed]
theorem Fx (n k:Nat) (hk:k<=8):Hl (n:Int) (8*(k:Int))=((n/256 ^ k%256:Nat):Int):=by
 unfold Hl
 have h1:(8*(k:Int)).toNat=8*k:=by omega
 have h2:min (8*k) 64=8*k:=by omega
 rw [h1,show IntKind.i64.bits=64 from rfl,h2]
 have h3:(n:Int).fdiv (2 ^ (8*k))=((n/256 ^ k:Nat):Int):=by
  have h4:((2:Int) ^ (8*k))=((256 ^ k:Nat):Int):=by
   rw [show (256:Nat)=2 ^ 8 from rfl,<-Nat.pow_mul,Int.natCast_pow];rfl
  rw [h4,Int.fdiv_eq_ediv_of_nonneg _ (Int.natCast_nonneg _)]
  rfl
 rw [h3,VE]
theorem PW (n k:Nat) (hk:k<=7):dI (n:Int) (k+1)=dI ((n/256:Nat):Int) k++[((n%256:Nat):Int)]:=by
 unfold dI
 rw [List.range_succ,List.map_append,List.map_singleton]
 congr 1
 · refine List.map_congr_left fun i hi=>?_
   have hi:=List.mem_range.1 hi
   rw [show 8*(((k+1:Nat):Int) - 1 - (i:Int))=8*((k - i:Nat):Int) by omega,show 8*((k:Int) - 1 - (i:Int))=8*((k - 1 - i:Nat):Int) by omega,Fx _ _ (by omega),Fx _ _ (by omega),Nat.div_div_eq_div_mul,show 256*256 ^ (k - 1 - i)=256 ^ (k - i) by rw [<-Nat.pow_succ'];congr 1;omega]
 · rw [show 8*(((k+1:Nat):Int) - 1 - (k:Int))=8*((0:Nat):Int) by omega,Fx _ _ (by omega),Nat.pow_zero,Nat.div_one]
theorem Hn:∀ (k n:Nat),k<=8->n<256 ^ k->y6 (dI (n:Int) k)=n
 |0,n,_,h=>by
  have:n=0:=by simpa using h
  subst this;rfl
 |k+1,n,hk,h=>by
  rw [PW n k (by omega),yJ,Hn k (n/256) (by omega) (by rw [Nat.pow_succ] at h;omega)]
  omega
theorem PX (n:Int) (k:Nat):∀ x∈dI n k,0<=x/\x<256:=by
 intro x hx
 obtain ⟨i,_,rfl⟩:=List.mem_map.1 hx
 unfold Hl
 generalize n.fdiv _=y
 simp only [IntKind.wrap,IntKind.bits,IntKind.signed]
 constructor
 · exact Int.emod_nonneg _ (by decide)
 · exact Int.emod_lt_of_pos _ (by decide)
theorem wX:∀ (n:Nat) (l:List Int),l.length=n->(∀ x∈l,0<=x/\x<256)->0<=y6 l
 |0,l,h,_=>by rw [List.length_eq_zero_iff.1 h];decide
 |n+1,l,h,hb=>by
  have dJ:l≠[]:=by rintro rfl;simp at h
  rw [<-List.dropLast_concat_getLast dJ,yJ]
  have h1:=wX n l.dropLast (by simp;omega) fun x hx=>hb x ((List.dropLast_sublist l).subset hx)
  have h2:=hb _ (List.getLast_mem dJ)
  omega
theorem wY:∀ (n:Nat) (r l:List Int),r.length=n->(∀ x∈l,0<=x/\x<256)->(∀ x∈r,0<=x/\x<256)->y6 l<=y6 (l++r)
 |0,r,l,h,_,_=>by rw [List.length_eq_zero_iff.1 h,List.append_nil];exact Int.le_refl _
 |n+1,r,l,h,hl,hb=>by
  have dJ:r≠[]:=by rintro rfl;simp at h
  rw [<-List.dropLast_concat_getLast dJ,<-List.append_assoc,yJ]
  have H0:∀ x∈r.dropLast,0<=x/\x<256:=fun x hx=>hb x ((List.dropLast_sublist r).subset hx)
  have h1:=wY n r.dropLast l (by simp;omega) hl H0
  have h2:=hb _ (List.getLast_mem dJ)
  have h3:=wX _ (l++r.dropLast) rfl fun x hx=>by
   rcases List.mem_append.1 hx with h|h
   · exact hl x h
   · exact H0 x h
  omega
theorem VF {n x:Int} (hn:0<=n) (hx:0<=x) (BU:x<256) (hm:n*256+x<=9223372036854775807):IntKind.i64.wrap ((BitVec.ofInt IntKind.i64.bits (n*2 ^ (min (8:Int).toNat IntKind.i64.bits))|||BitVec.ofInt IntKind.i64.bits x).toNat)=n*256+x:=by
 obtain ⟨a,rfl⟩:=Int.eq_ofNat_of_zero_le hn
 obtain ⟨b,rfl⟩:=Int.eq_ofNat_of_zero_le hx
 have e0:((a:Int)*2 ^ (min (8:Int).toNat IntKind.i64.bits))=((a*256:Nat):Int):=by
  rw [show min (8:Int).toNat IntKind.i64.bits=8 from rfl];omega
 have hb:b<2 ^ 8:=by omega
 have e1:(BitVec.ofInt IntKind.i64.bits ((a*256:Nat):Int)).toNat=a*256:=by
  rw [BitVec.ofInt_natCast,BitVec.toNat_ofNat]
  exact Nat.mod_eq_of_lt (by show _<2 ^ 64;omega)
 have e2:(BitVec.ofInt IntKind.i64.bits ((b:Nat):Int)).toNat=b:=by
  rw [BitVec.ofInt_natCast,BitVec.toNat_ofNat]
  exact Nat.mod_eq_of_lt (by show _<2 ^ 64;omega)
 rw [e0,BitVec.toNat_or,e1,e2,show a*256=a<<<8 by rw [Nat.shiftLeft_eq],<-Nat.shiftLeft_add_eq_or_of_lt hb,Nat.shiftLeft_eq]
 rw [pY (by show (-9223372036854775808:Int)<=_;omega) (by show _<=(9223372036854775807:Int);omega)]
 omega
open Go
def hU (h:aA) (a:Nat) (m:Bool) (B:List Int):Prop:=a<h.next/\h.get a=some (.cs (tv m++[.sl none 1 (B.map hM),.b false]))
section
variable {P:Program} (hG:bP P AF.fns.get)
include hG
theorem rnum_at {h:aA} {a:Nat} {m:Bool} {X R:List Int} (hr:hU h a m (X++R)) (size:Nat) (hX:X.length=size) (hs:size<=8) (hl:(X++R).length<=1000000000) (hb:∀ x∈X,0<=x/\x<256) (hm:y6 X<=9223372036854775807) {K:V->aA->Prop}
 (hK:∀ h',hU h' a m R->aA.aJ (fun n=>n=a) h h'->K (.i .i64 (y6 X)) h'):aC P 127 [.p (.g a) 0,.i .i64 size] h K:=by
 obtain ⟨WX,ga⟩:=hr
 have gK:((X++R).map hM).length=(X++R).length:=List.length_map _
 have hXm:(X.map hM).length=size:=by simpa using hX
 have hN:List.drop (Int.toNat 0) (List.take ((size:Nat):Int).toNat ((X++R).map hM))=X.map hM:=by
  rw [Int.toNat_natCast,List.map_append,List.take_append_of_le_length (by omega),List.take_of_length_le (by omega)];rfl
 have hD:List.drop ((size:Nat):Int).toNat ((X++R).map hM)=R.map hM:=by
  rw [Int.toNat_natCast,List.map_append,List.drop_append,List.drop_of_length_le (by omega),hXm,Nat.sub_self];rfl
 have L8:(X++R).length=size+R.length:=by rw [List.length_append,hX]
 refine aQ (hG _ AF.f127 rfl) rfl ?_
 ((conv=>whnf);repeat ((first|refine bC.of (mL _ _ _) ?_|refine aH.df (show ¬(((X++R).map hM).length:Int)<(size:Int) by omega) ?_|refine ye (congrArg some hN) ?_|refine aM.d3 (by omega) (by omega) (by omega) ?_|refine ye (ga) ?_|refine zz ?_)<;>(conv=>whnf)))
 refine b8.by (fun q fr st=>∃ (i:Nat) (l:aA),i<=size/\q=size - i/\
  Fr.le [(28,.i .i64 i),(27,.i .i64 (X.map hM).length),(26,.sl none 1 (X.map hM)),(5,.i .i64 (y6 (X.take i))),(1,.i .i64 size),(0,.p (.g a) 0)] fr/\st=⟨h,l⟩)
  size ⟨0,_,Nat.zero_le _,rfl,cT,rfl⟩ ?_
 rintro q fr st ⟨i,l,hi,rfl,dE,rfl⟩
 refine ⟨_,dE,fun R0 hR=>?_⟩
 by_cases cY:i<size
 · have he:=List.getElem?_eq_getElem (show i<X.length by omega)
   have hxb:=hb _ (List.getElem_mem (show i<X.length by omega))
   generalize X[i]=x at he hxb
   have jM:X.take (i+1)=X.take i++[x]:=by rw [List.take_add_one,he];rfl
   have mY:y6 (X.take (i+1))=y6 (X.take i)*256+x:=by rw [jM,yJ]
   have hbt:∀ y∈X.take i,0<=y/\y<256:=fun y hy=>hb y (List.mem_of_mem_take hy)
   have h0:=wX _ (X.take i) rfl hbt
   have hle:y6 (X.take (i+1))<=y6 X:=by
    have:=wY _ (X.drop (i+1)) (X.take (i+1)) rfl (fun y hy=>hb y (List.mem_of_mem_take hy)) (fun y hy=>hb y (List.mem_of_mem_drop hy))
    rwa [List.take_append_drop] at this
   have hor:=VF h0 hxb.1 hxb.2 (by omega)
   have sS:y6 (X.take i)*2 ^ (min (8:Int).toNat IntKind.i64.bits)=y6 (X.take i)*256:=rfl
   ((conv=>whnf);repeat ((first|refine aH.dt (show (i:Int)<(X.map hM).length by omega) ?_|refine aR.gA (by rw [sS];omega) (by rw [sS];omega) ?_|refine aR.gA (by omega) (by omega) ?_|refine ye (aF (by omega) he) ?_|refine zz ?_)<;>(conv=>whnf)))
   rw [hor,<-mY]
   exact hR (size - (i+1)) _ _ (by omega) ⟨i+1,_,by omega,rfl,cT,rfl⟩
 · obtain rfl:i=size:=by omega
   have ac6:X.take i=X:=List.take_of_length_le (by omega)
   rw [ac6]
   ((conv=>whnf);repeat ((first|refine aH.df (show ¬(i:Int)<(X.map hM).length by omega) ?_|refine bC.of (mL _ _ _) ?_|refine ye (congrArg some hD) ?_|refine aM.d2 (by omega) (by omega) ?_|refine aM.mk (yG _ _ _ _) ?_|refine ye (congrArg some (Hk _ _ _ _)) ?_|refine ye (ga) ?_|refine zz ?_)<;>(conv=>whnf)))
   exact hK _ ⟨WX,aA.aD ga⟩ (aA.aJ.set (b:=fun n=>n=a) (.refl _ _) (.inl rfl) _)
theorem rnumB_at {h:aA} {a:Nat} {m:Bool} {n size:Nat} {R:List Int} (hr:hU h a m (dI n size++R)) (hs:size<=8) (hn:n<256 ^ size) (Hf:(n:Int)<=9223372036854775807) (hl:R.length<=100000000) {K:V->aA->Prop}
 (hK:∀ h',hU h' a m R->aA.aJ (fun n=>n=a) h h'->K (.i .i64 n) h'):aC P 127 [.p (.g a) 0,.i .i64 size] h K:=by
 have hd:=Hn size n hs hn
 refine rnum_at hG hr size (aV _ _) hs (by rw [List.length_append,aV];omega) (PX _ _) (by rw [hd];exact Hf) fun h' q1 q2=>?_
 rw [hd]
 exact hK h' q1 q2
theorem rcount_at {h:aA} {a:Nat} {m:Bool} {n:Nat} {R:List Int} (hr:hU h a m (dI n 1++R)) (hn:n<256) (hnR:n<=R.length) (hl:R.length<=100000000) {K:V->aA->Prop}
 (hK:∀ h',hU h' a m R->aA.aJ (fun n=>n=a) h h'->K (.i .i64 n) h'):aC P 130 [.p (.g a) 0,.i .i64 1] h K:=by
 have h1:=fun K hK=>rnumB_at (K:=K) hG hr (by omega) (by omega) (by omega) hl hK
 have gK:(R.map hM).length=R.length:=List.length_map _
 refine aQ (hG _ AF.f130 rfl) rfl ?_
 (refine cD @h1 ?_)
 intro h2 r2 k2
 (refine qR @mL (show ¬((n:Nat):Int)>((R.map hM).length:Nat) by omega) @r2.2 ?_)
 exact hK h2 r2 k2
theorem rbool_at {h:aA} {a:Nat} {m:Bool} {b:Bool} {R:List Int} (hr:hU h a m (yI b++R)) (hl:R.length<=100000000) {K:V->aA->Prop}
 (hK:∀ h',hU h' a m R->aA.aJ (fun n=>n=a) h h'->K (.b b) h'):aC P 134 [.p (.g a) 0] h K:=by
 cases b
 · have h1:=fun K hK=>rnumB_at (K:=K) (n:=0) (size:=1) hG hr (by omega) (by omega) (by omega) hl hK
   refine aQ (hG _ AF.f134 rfl) rfl ?_
   (refine cD @h1 ?_)
   intro h2 r2 k2
   (refine zr ?_)
   exact hK h2 r2 k2
 · have h1:=fun K hK=>rnumB_at (K:=K) (n:=1) (size:=1) hG hr (by omega) (by omega) (by omega) hl hK
   refine aQ (hG _ AF.f134 rfl) rfl ?_
   (refine cD @h1 ?_)
   intro h2 r2 k2
   (refine zr ?_)
   exact hK h2 r2 k2
omit hG in
theorem To (m:Bool) (x y:V):dS (tv m++[x,y]) (0+298) none=some y:=by
 show (tv m++[x,y])[_]? =_
 rw [List.getElem?_append_right (by rw [pB];omega),pB];rfl
theorem rend_at {h:aA} {a:Nat} {m:Bool} (hr:hU h a m []) {K:V->aA->Prop} (hK:K (.b true) h):aC P 135 [.p (.g a) 0] h K:=by
 refine aQ (hG _ AF.f135 rfl) rfl ?_
 (refine qR @To @mL @hr.2 ?_)
 exact hK
theorem rnew_at {h:aA} (B:List Int) (hl:B.length<=100000000) {K:V->aA->Prop} (hK:∀ h',hU h' h.next false B->aA.aJ (fun _=>False) h h'->K (.p (.g h.next) 0) h'):aC P 126 [.sl none 1 (B.map hM)] h K:=by
 have hc:=uJ hG B (by omega)
 refine aQ (hG _ AF.f126 rfl) rfl ?_
 (refine cD @hc ?_)
 exact hK _ ⟨Nat.lt_succ_self _,aA.aB _ _⟩ (.push (.refl _ _) _)
end
open Go
def eH (s:aU):Prop:=s.length<=12/\∀ c∈s,0<eM c.toNat
def mM (s:aU):List Int:=s.map fun c=>(c.toNat:Int)
theorem Ho:∀ s:aU,bytesOf ((mM s).map hM)=some s
 |[]=>rfl
 |c::r=>by
  have h:=Ho r
  show bytesOf ([V.i .u8 (c.toNat:Int)]::(mM r).map hM)=_
  simp only [bytesOf,h]
  simp
section
variable {P:Program} (hG:bP P AF.fns.get)
include hG
def Hp (l r:List Int) (i:Nat):Prop:=r.length=l.length/\∀ j,j<l.length->r[j]? =if j<i\/l.length<=j+i then l[l.length - 1 - j]? else l[j]?
omit hG in
theorem Hp.step {l r:List Int} {i:Nat} (h:Hp l r i) (hi:2*i+1<l.length) {x y:Int} (hx:l[i]? =some x) (hy:l[l.length - 1 - i]? =some y):Hp l ((r.set i y).set (l.length - 1 - i) x) (i+1):=by
 obtain ⟨h1,h2⟩:=h
 refine ⟨by simp [h1],fun j hj=>?_⟩
 rw [List.getElem?_set,List.getElem?_set]
 by_cases c1:l.length - 1 - i=j
 · rw [if_pos c1,if_pos (by simp [h1];omega),if_pos (by omega),<-c1,show l.length - 1 - (l.length - 1 - i)=i by omega,hx]
 · rw [if_neg c1]
   by_cases c2:i=j
   · rw [if_pos c2,if_pos (by omega),if_pos (by omega),<-c2,hy]
   · rw [if_neg c2,h2 j hj]
     by_cases c3:j<i\/l.length<=j+i
     · rw [if_pos c3,if_pos (by omega)]
     · rw [if_neg c3,if_neg (by omega)]
omit hG in
theorem Hp.done {l r:List Int} {i:Nat} (h:Hp l r i) (hi:l.length<=2*i+1) (Ny:2*i<=l.length):r=l.reverse:=by
 obtain ⟨h1,h2⟩:=h
 apply List.ext_getElem?
 intro j
 by_cases hj:j<l.length
 · rw [h2 j hj,List.getElem?_reverse (by omega)]
   by_cases c:j<i\/l.length<=j+i
   · rw [if_pos c]
   · rw [if_neg c]
     congr 1;omega
 · rw [List.getElem?_eq_none (by omega),List.getElem?_eq_none (by simp;omega)]
theorem rev_at {h:aA} {c:Nat} {l:List Int} (hc:h.get c=some (.arr 1 (l.map hM))) (hl:l.length<=1000) {K:V->aA->Prop}
 (hK:∀ h',h'.get c=some (.arr 1 (l.reverse.map hM))->aA.aJ (fun n=>n=c) h h'->K (.bY []) h'):aC P 220 [.ms (.g c) 1 0 l.length] h K:=by
 refine aQ (hG _ AF.f220 rfl) rfl ?_
 (refine zr ?_)
 refine b8.by (fun q fr st=>∃ (i:Nat) (hh lc:aA) (r:List Int),2*i<=l.length/\q=l.length - i/\Hp l r i/\hh.get c=some (.arr 1 (r.map hM))/\aA.aJ (fun n=>n=c) h hh/\
  Fr.le [(3,.i .i64 ((l.length:Int) - 1 - i)),(2,.i .i64 i),(0,.ms (.g c) 1 0 l.length)] fr/\st=⟨hh,lc⟩)
  l.length ⟨0,h,_,l,by omega,rfl,⟨rfl,fun j hj=>by rw [if_neg (by omega)]⟩,hc,.refl _ _,(by
   have:((l.length:Int) - 1 - ((0:Nat):Int))=(l.length:Int) - 1:=by omega
   rw [this];exact cT),rfl⟩ ?_
 rintro q fr st ⟨i,hh,lc,r,hi,rfl,Tp,hg,hk,dE,rfl⟩
 refine ⟨_,dE,fun R hR=>?_⟩
 have L0:=Tp.1
 have ZK:(r.map hM).length=l.length:=by rw [List.length_map,L0]
 by_cases cY:(i:Int)<(l.length:Int) - 1 - i
 · have hj:l.length - 1 - i<l.length:=by omega
   have hx:=List.getElem?_eq_getElem (show i<l.length by omega)
   have hy:=List.getElem?_eq_getElem hj
   generalize l[i]=x at hx
   generalize l[l.length - 1 - i]=y at hy
   have xU:r[i]? =some x:=by rw [Tp.2 i (by omega),if_neg (by omega),hx]
   have hry:r[l.length - 1 - i]? =some y:=by rw [Tp.2 _ hj,if_neg (by omega),hy]
   have gx:(r.map hM)[0+((i:Nat):Int).toNat]? =some [.i .u8 x]:=by rw [Nat.zero_add,Int.toNat_natCast,List.getElem?_map,xU];rfl
   have gy:(r.map hM)[0+((l.length:Int) - 1 - (i:Int)).toNat]? =some [.i .u8 y]:=by rw [Nat.zero_add,show ((l.length:Int) - 1 - (i:Int)).toNat=l.length - 1 - i by omega,List.getElem?_map,hry];rfl
   have gy2:((r.map hM).set (0+((i:Nat):Int).toNat) [.i .u8 y])[0+((l.length:Int) - 1 - (i:Int)).toNat]? =some [.i .u8 y]:=by rw [List.getElem?_set_ne (by omega)];exact gy
   have zS:((r.map hM).set (0+((i:Nat):Int).toNat) [.i .u8 y]).set (0+((l.length:Int) - 1 - (i:Int)).toNat) [.i .u8 x]=((r.set i y).set (l.length - 1 - i) x).map hM:=by
    rw [Nat.zero_add,Nat.zero_add,Int.toNat_natCast,show ((l.length:Int) - 1 - (i:Int)).toNat=l.length - 1 - i by omega,List.map_set,List.map_set];rfl
   ((conv=>whnf);repeat ((first|refine aH.dt cY ?_|refine aM.ix (by omega) (by omega) ?_|refine aM.mk (decide_eq_true (by omega)) ?_|refine aR.gA (by omega) (by omega) ?_|refine ye (hg) ?_|refine ye (gx) ?_|refine ye (gy) ?_|refine ye (gy2) ?_|refine ye (aA.aD hg) ?_|refine zz ?_)<;>(conv=>whnf)))
   exact hR (l.length - (i+1)) _ _ (by omega) ⟨i+1,_,_,(r.set i y).set (l.length - 1 - i) x,by omega,rfl,Tp.step (by omega) hx hy,(aA.aD (aA.aD hg)).trans (congrArg (fun x=>some (Obj.arr 1 x)) zS),
    aA.aJ.set (b:=fun n=>n=c) (aA.aJ.set (b:=fun n=>n=c) hk (.inl rfl) _) (.inl rfl) _,(by
     have e1:((l.length:Int) - 1 - ((i+1:Nat):Int))=(l.length:Int) - 1 - (i:Int) - 1:=by omega
     rw [e1];exact cT),rfl⟩
 · (refine cD @cY ?_)
   exact hK hh (by rw [<-Tp.done (by omega) (by omega)];exact hg) hk
end
end Go.Eng
