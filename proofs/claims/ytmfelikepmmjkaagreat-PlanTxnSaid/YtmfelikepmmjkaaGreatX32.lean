/-
What may be: lists of terms, a pod.
-/
import Derived.Test.YtmfelikepmmjkaaGreatX31
import Derived.Test.YtmfelikepmmjkaaGreatX30
import Derived.Test.YtmfelikepmmjkaaGreatX25
set_option linter.unusedVariables false
set_option linter.unusedSimpArgs false
set_option maxHeartbeats 16000000
set_option maxRecDepth 20000
namespace Go.Eng
open Go
def Bl (p:aL):Bool:=decide (0<=p.lD)&&(decide (p.lD<=10)&&(fY p.cV&&(fY p.even&&(bI p.eG||(decide (p.eG=[])&&(decide (p.cV.length=0)&&decide (p.lD=0)))))))
def Hq (p:aL):Bool:=(bI p.node&&decide (0<p.term))||(decide (p.node=[])&&decide (p.term=0))
def gY (p:aL):Bool:=bI p.name&&(decide (1<=p.uid)&&(decide (p.uid<=1099511627776)&&(decide (0<=p.prio)&&(decide (p.prio<=1000)&&(Bk p.fQ&&((nL none p.aN&&decide (p.aN.length<=6))&&((fO none p.labels&&decide (p.labels.length<=6))&&(fY p.lM&&(xA p.bW&&(Bl p&&Hq p))))))))))
structure xB (l:List cM):Prop where
 len:l.length<=9223372036854775807
 each:∀ t∈l,I7 t
structure pE (p:aL):Prop where
 name:p.name.length<=9223372036854775807
 aN:p.aN.length<=9223372036854775807
 labels:p.labels.length<=9223372036854775807
 FB:∀ q∈p.labels,q.key.length<=9223372036854775807/\q.val.length<=9223372036854775807
 lM:xB p.lM
 bW:p.bW.length<=9223372036854775807
 ai7:∀ t∈p.bW,t.key.length<=9223372036854775807/\t.val.length<=9223372036854775807
 eG:p.eG.length<=9223372036854775807
 cV:xB p.cV
 even:xB p.even
 node:p.node.length<=9223372036854775807
section
variable {P:Program} (hG:bP P AF.fns.get)
include hG
theorem mterms1_at {h:aA} (t:cM) (hs:I7 t) {K:V->aA->Prop} (hK:K (.b (!mO t)) h):aC P 288 [.agg (bA t)] h K:=by
 have hk:=fun K hK=>mterm_at (K:=K) hG (h:=h) t hs hK
 refine aQ (hG _ AF.f288 rfl) rfl ?_
 (refine cD @hk ?_)
 exact hK
theorem mterms_at {h:aA} (l:List cM) (hs:xB l) {K:V->aA->Prop} (hK:K (.b (fY l)) h):aC P 213 [.sl none 3 (l.map bA)] h K:=by
 have gK:(l.map bA).length=l.length:=List.length_map _
 have hc:=fun (K:V->aA->Prop) (hK:K (.b (!l.all mO)) h)=>P1 (K:=K) hG (k:=0) (g:=288) (p:=fun v=>!mO v) hs.len (fun v hv K hK=>mterms1_at hG v (hs.each v hv) hK) (by rw [DM];exact hK)
 unfold fY at hK
 by_cases c:l.length<=6
 · rw [decide_eq_true c,Bool.true_and] at hK
   refine aQ (hG _ AF.f213 rfl) rfl ?_
   (refine cD @hc ?_)
   rw [Bool.not_not]
   exact hK
 · rw [decide_eq_false c] at hK
   refine aQ (hG _ AF.f213 rfl) rfl ?_
   (refine zr ?_)
   exact hK
theorem mtol_at {h:aA} (t:lC) (hs:t.key.length<=9223372036854775807/\t.val.length<=9223372036854775807) {K:V->aA->Prop} (hK:K (.b (FA t)) h):aC P 291 [.agg (eP t)] h K:=by
 have hk:=fun K hK=>name_at (K:=K) hG (h:=h) t.key hs.1 hK
 have hv:=fun K hK=>name_at (K:=K) hG (h:=h) t.val hs.2 hK
 unfold FA at hK
 have ZS:(t.val==[])=decide (t.val=[]):=by
  by_cases c:t.val=[]
  · rw [c];rfl
  · rw [decide_eq_false c];simpa using c
 by_cases c1:t.key=[]
 · have e1:(!(t.key==[]))=false:=by rw [c1];rfl
   rw [decide_eq_true c1,Bool.true_or,Bool.true_and] at hK
   cases c2:t.any
   · have dR:eP t=[.s t.key,.s t.val,.b false]:=by unfold eP;rw [c2]
     rw [c2] at hK
     rw [dR]
     refine aQ (hG _ AF.f291 rfl) rfl ?_
     (refine iG @e1 @hv ?_)
     exact hK
   · have dR:eP t=[.s t.key,.s t.val,.b true]:=by unfold eP;rw [c2]
     rw [c2] at hK
     rw [dR]
     refine aQ (hG _ AF.f291 rfl) rfl ?_
     (refine cD @e1 ?_)
     rw [ZS]
     exact hK
 · have e1:(!(t.key==[]))=true:=by simpa using c1
   rw [decide_eq_false c1,Bool.false_or] at hK
   cases c0:bI t.key
   · rw [c0] at hK hk
     refine aQ (hG _ AF.f291 rfl) rfl ?_
     (refine iG @e1 @hk ?_)
     exact hK
   rw [c0,Bool.true_and] at hK
   rw [c0] at hk
   cases c2:t.any
   · have dR:eP t=[.s t.key,.s t.val,.b false]:=by unfold eP;rw [c2]
     rw [c2] at hK
     rw [dR]
     refine aQ (hG _ AF.f291 rfl) rfl ?_
     (refine qR @e1 @hk @hv ?_)
     exact hK
   · have dR:eP t=[.s t.key,.s t.val,.b true]:=by unfold eP;rw [c2]
     rw [c2] at hK
     rw [dR]
     refine aQ (hG _ AF.f291 rfl) rfl ?_
     (refine iG @e1 @hk ?_)
     rw [ZS]
     exact hK
theorem mtols1_at {h:aA} (t:lC) (hs:t.key.length<=9223372036854775807/\t.val.length<=9223372036854775807) {K:V->aA->Prop} (hK:K (.b (!FA t)) h):aC P 290 [.agg (eP t)] h K:=by
 have hk:=fun K hK=>mtol_at (K:=K) hG (h:=h) t hs hK
 refine aQ (hG _ AF.f290 rfl) rfl ?_
 (refine cD @hk ?_)
 exact hK
theorem mtols_at {h:aA} (l:List lC) (hl:l.length<=9223372036854775807) (hs:∀ t∈l,t.key.length<=9223372036854775807/\t.val.length<=9223372036854775807) {K:V->aA->Prop} (hK:K (.b (xA l)) h):aC P 214 [.sl none 3 (l.map eP)] h K:=by
 have gK:(l.map eP).length=l.length:=List.length_map _
 have hc:=fun (K:V->aA->Prop) (hK:K (.b (!l.all FA)) h)=>Tu (K:=K) hG (k:=0) (g:=290) (p:=fun v=>!FA v) hl (fun v hv K hK=>mtols1_at hG v (hs v hv) hK) (by rw [DM];exact hK)
 unfold xA at hK
 by_cases c:l.length<=6
 · rw [decide_eq_true c,Bool.true_and] at hK
   refine aQ (hG _ AF.f214 rfl) rfl ?_
   (refine cD @hc ?_)
   rw [Bool.not_not]
   exact hK
 · rw [decide_eq_false c] at hK
   refine aQ (hG _ AF.f214 rfl) rfl ?_
   (refine zr ?_)
   exact hK
theorem mtopo_at {h:aA} (p:aL) (hp:pE p) {K:V->aA->Prop} (hK:K (.b (Bl p)) h):aC P 215 [.agg (aI p)] h K:=by
 have ha:=fun K hK=>mterms_at (K:=K) hG (h:=h) p.cV hp.cV hK
 have he:=fun K hK=>mterms_at (K:=K) hG (h:=h) p.even hp.even hK
 have ht:=fun K hK=>name_at (K:=K) hG (h:=h) p.eG hp.eG hK
 have Bj:(p.cV.map bA).length=p.cV.length:=List.length_map _
 unfold Bl at hK
 by_cases c1:0<=p.lD
 case neg=>
  rw [decide_eq_false c1] at hK
  refine aQ (hG _ AF.f215 rfl) rfl ?_
  (refine zr ?_)
  exact hK
 rw [decide_eq_true c1,Bool.true_and] at hK
 by_cases c2:p.lD<=10
 case neg=>
  rw [decide_eq_false c2] at hK
  refine aQ (hG _ AF.f215 rfl) rfl ?_
  (refine zr ?_)
  exact hK
 rw [decide_eq_true c2,Bool.true_and] at hK
 cases c3:fY p.cV
 · rw [c3] at hK ha
   refine aQ (hG _ AF.f215 rfl) rfl ?_
   (refine cD @ha ?_)
   exact hK
 rw [c3,Bool.true_and] at hK
 rw [c3] at ha
 cases c4:fY p.even
 · rw [c4] at hK he
   refine aQ (hG _ AF.f215 rfl) rfl ?_
   (refine iG @ha @he ?_)
   exact hK
 rw [c4,Bool.true_and] at hK
 rw [c4] at he
 cases c5:bI p.eG
 case true=>
  rw [c5] at hK ht
  refine aQ (hG _ AF.f215 rfl) rfl ?_
  (refine qR @ha @he @ht ?_)
  exact hK
 rw [c5,Bool.false_or] at hK
 rw [c5] at ht
 by_cases c6:p.eG=[]
 case neg=>
  have e6:(p.eG==[])=false:=by simpa using c6
  rw [decide_eq_false c6] at hK
  refine aQ (hG _ AF.f215 rfl) rfl ?_
  (refine N9 @ha @he @ht @e6 ?_)
  exact hK
 have e6:(p.eG==[])=true:=by rw [c6];rfl
 rw [decide_eq_true c6,Bool.true_and] at hK
 by_cases c7:p.cV.length=0
 case neg=>
  rw [decide_eq_false c7] at hK
  refine aQ (hG _ AF.f215 rfl) rfl ?_
  (refine IV @ha @he @ht @e6 (show ¬((p.cV.map bA).length:Int)=0 by omega) ?_)
  exact hK
 rw [decide_eq_true c7,Bool.true_and] at hK
 refine aQ (hG _ AF.f215 rfl) rfl ?_
 (refine IV @ha @he @ht @e6 (show ((p.cV.map bA).length:Int)=0 by omega) ?_)
 exact hK
theorem mpod_at {h:aA} (p:aL) (hp:pE p) {K:V->aA->Prop} (hK:K (.b (gY p)) h):aC P 115 [.agg (aI p)] h K:=by
 have hn:=fun K hK=>name_at (K:=K) hG (h:=h) p.name hp.name hK
 have hr:=fun K hK=>qmay_at (K:=K) hG (h:=h) p.fQ hK
 have ho:=fun K hK=>oports_at (K:=K) hG (h:=h) p.aN hp.aN hK
 have hb:=fun K hK=>lmay_at (K:=K) hG (h:=h) p.labels hp.labels hp.FB hK
 have hs:=fun K hK=>mterms_at (K:=K) hG (h:=h) p.lM hp.lM hK
 have ht:=fun K hK=>mtols_at (K:=K) hG (h:=h) p.bW hp.bW hp.ai7 hK
 have hx:=fun K hK=>mtopo_at (K:=K) hG (h:=h) p hp hK
 have hd:=fun K hK=>name_at (K:=K) hG (h:=h) p.node hp.node hK
 unfold gY at hK
 cases c0:bI p.name
 · rw [c0] at hK hn
   refine aQ (hG _ AF.f115 rfl) rfl ?_
   (refine cD @hn ?_)
   exact hK
 rw [c0,Bool.true_and] at hK
 rw [c0] at hn
 by_cases c1:1<=p.uid
 case neg=>
  rw [decide_eq_false c1] at hK
  refine aQ (hG _ AF.f115 rfl) rfl ?_
  (refine cD @hn ?_)
  exact hK
 rw [decide_eq_true c1,Bool.true_and] at hK
 by_cases c2:p.uid<=1099511627776
 case neg=>
  rw [decide_eq_false c2] at hK
  refine aQ (hG _ AF.f115 rfl) rfl ?_
  (refine cD @hn ?_)
  exact hK
 rw [decide_eq_true c2,Bool.true_and] at hK
 by_cases c3:0<=p.prio
 case neg=>
  rw [decide_eq_false c3] at hK
  refine aQ (hG _ AF.f115 rfl) rfl ?_
  (refine cD @hn ?_)
  exact hK
 rw [decide_eq_true c3,Bool.true_and] at hK
 by_cases c4:p.prio<=1000
 case neg=>
  rw [decide_eq_false c4] at hK
  refine aQ (hG _ AF.f115 rfl) rfl ?_
  (refine cD @hn ?_)
  exact hK
 rw [decide_eq_true c4,Bool.true_and] at hK
 cases c5:Bk p.fQ
 · rw [c5] at hK hr
   refine aQ (hG _ AF.f115 rfl) rfl ?_
   (refine iG @hn @hr ?_)
   exact hK
 rw [c5,Bool.true_and] at hK
 rw [c5] at hr
 cases c6:(nL none p.aN&&decide (p.aN.length<=6))
 · rw [c6] at hK ho
   refine aQ (hG _ AF.f115 rfl) rfl ?_
   (refine qR @hn @hr @ho ?_)
   exact hK
 rw [c6,Bool.true_and] at hK
 rw [c6] at ho
 cases c7:(fO none p.labels&&decide (p.labels.length<=6))
 · rw [c7] at hK hb
   refine aQ (hG _ AF.f115 rfl) rfl ?_
   (refine N9 @hn @hr @ho @hb ?_)
   exact hK
 rw [c7,Bool.true_and] at hK
 rw [c7] at hb
 cases c8:fY p.lM
 · rw [c8] at hK hs
   refine aQ (hG _ AF.f115 rfl) rfl ?_
   (refine IV @hn @hr @ho @hb @hs ?_)
   exact hK
 rw [c8,Bool.true_and] at hK
 rw [c8] at hs
 cases c9:xA p.bW
 · rw [c9] at hK ht
   refine aQ (hG _ AF.f115 rfl) rfl ?_
   (refine WN @hn @hr @ho @hb @hs @ht ?_)
   exact hK
 rw [c9,Bool.true_and] at hK
 rw [c9] at ht
 cases W1:Bl p
 · rw [W1] at hK hx
   refine aQ (hG _ AF.f115 rfl) rfl ?_
   (refine zr7 @hn @hr @ho @hb @hs @ht @hx ?_)
   exact hK
 rw [W1,Bool.true_and] at hK
 rw [W1] at hx
 unfold Hq at hK
 cases ZT:bI p.node
 · rw [ZT] at hK hd
   by_cases d1:0<p.term<;>by_cases d2:p.node=[]<;>by_cases d3:p.term=0
   all_goals
    simp only [d1,d2,d3,decide_true,decide_false,Bool.and_true,Bool.and_false,Bool.or_true,Bool.or_false,Bool.true_or,Bool.false_or,Bool.false_and,Bool.true_and,Bool.and_self,Bool.or_self] at hK
   all_goals
    first
    |(exfalso;omega)
    |(have e2:(p.node==[])=true:=by rw [d2];rfl
      refine aQ (hG _ AF.f115 rfl) rfl ?_
      ((conv=>whnf);repeat ((first|refine cA (hn _) ?_|refine cA (hr _) ?_|refine cA (ho _) ?_|refine cA (hb _) ?_|refine cA (hs _) ?_|refine cA (ht _) ?_|refine cA (hx _) ?_|refine cA (hd _) ?_|refine aH.tt e2 ?_|refine zz ?_)<;>(conv=>whnf)))
      first|exact hK|(rw [decide_eq_true d3];exact hK)|(rw [decide_eq_false d3];exact hK)|(rw [decide_eq_true d1];exact hK)|(rw [decide_eq_false d1];exact hK))
    |(have e2:(p.node==[])=false:=by (first|exact beq_false_of_ne d2|fail)
      refine aQ (hG _ AF.f115 rfl) rfl ?_
      ((conv=>whnf);repeat ((first|refine cA (hn _) ?_|refine cA (hr _) ?_|refine cA (ho _) ?_|refine cA (hb _) ?_|refine cA (hs _) ?_|refine cA (ht _) ?_|refine cA (hx _) ?_|refine cA (hd _) ?_|refine aH.ff e2 ?_|refine zz ?_)<;>(conv=>whnf)))
      first|exact hK|(rw [decide_eq_true d3];exact hK)|(rw [decide_eq_false d3];exact hK)|(rw [decide_eq_true d1];exact hK)|(rw [decide_eq_false d1];exact hK))
 · rw [ZT] at hK hd
   by_cases d1:0<p.term<;>by_cases d2:p.node=[]<;>by_cases d3:p.term=0
   all_goals
    simp only [d1,d2,d3,decide_true,decide_false,Bool.and_true,Bool.and_false,Bool.or_true,Bool.or_false,Bool.true_or,Bool.false_or,Bool.false_and,Bool.true_and,Bool.and_self,Bool.or_self] at hK
   all_goals
    first
    |(exfalso;omega)
    |(have e2:(p.node==[])=true:=by rw [d2];rfl
      refine aQ (hG _ AF.f115 rfl) rfl ?_
      ((conv=>whnf);repeat ((first|refine cA (hn _) ?_|refine cA (hr _) ?_|refine cA (ho _) ?_|refine cA (hb _) ?_|refine cA (hs _) ?_|refine cA (ht _) ?_|refine cA (hx _) ?_|refine cA (hd _) ?_|refine aH.tt e2 ?_|refine zz ?_)<;>(conv=>whnf)))
      first|exact hK|(rw [decide_eq_true d3];exact hK)|(rw [decide_eq_false d3];exact hK)|(rw [decide_eq_true d1];exact hK)|(rw [decide_eq_false d1];exact hK))
    |(have e2:(p.node==[])=false:=by (first|exact beq_false_of_ne d2|fail)
      refine aQ (hG _ AF.f115 rfl) rfl ?_
      ((conv=>whnf);repeat ((first|refine cA (hn _) ?_|refine cA (hr _) ?_|refine cA (ho _) ?_|refine cA (hb _) ?_|refine cA (hs _) ?_|refine cA (ht _) ?_|refine cA (hx _) ?_|refine cA (hd _) ?_|refine aH.ff e2 ?_|refine zz ?_)<;>(conv=>whnf)))
      first|exact hK|(rw [decide_eq_true d3];exact hK)|(rw [decide_eq_false d3];exact hK)|(rw [decide_eq_true d1];exact hK)|(rw [decide_eq_false d1];exact hK))
end
open Go
def kL (t:cM):List V:=[.s t.key,.i .i64 t.kind,YO 1 bE t.bF]
theorem uM (t:cM):eC [kL t]=some [kL t]:=by
 unfold kL
 cases t.bF<;>rfl
structure Ar (t:cM):Prop where
 key:eH t.key
 kind:0<=t.kind/\t.kind<256
 len:t.bF.length<=100
 bF:∀ s∈t.bF,eH s
theorem M5 (t:cM):1<=(dX t).length:=by
 unfold dX
 rw [List.length_append,List.length_append,aV]
 omega
def ac9 (lc:aA) (kt:Nat) (bv:V) (rows:List (List V)):Prop:=(rows=[]/\bv=.aS)\/∃ t,bv=.sl (some (.l t)) 1 rows/\kt<t/\t<lc.next/\lc.get t=some .spare/\rows≠[]
section
variable {P:Program} (hG:bP P AF.fns.get)
include hG
theorem rterms_at (eN:dQ P 285) {h:aA} {a:Nat} {m:Bool} {l:List cM} {R:List Int} (hr:hU h a m (fB l++R)) (hl:l.length<=100) (dW:∀ t∈l,Ar t) (hR:R.length<=1000000) {K:V->aA->Prop}
 (hK:∀ h' m',hU h' a m' R->aA.aJ (fun n=>n=a) h h'->K (YO 3 kL l) h'):aC P 133 [.p (.g a) 0] h K:=by
 have xY:∀ t∈l,(dX t).length<=810:=fun t ht=>wW (dW t ht).len
 unfold fB at hr
 rw [List.append_assoc] at hr
 have fE:=qX dX M5 l
 have hle:=eV dX 810 l xY
 have h1:=fun K hK=>rcount_at (K:=K) hG hr (by omega) (by rw [List.length_append];omega) (by rw [List.length_append];omega) hK
 refine aQ (hG _ AF.f133 rfl) rfl ?_
 (refine cD @h1 ?_)
 intro h2 r2 k2
 (refine zr ?_)
 refine b8.by (fun q fr st=>∃ (i:Nat) (hh lc:aA) (m':Bool) (bv:V),i<=l.length/\q=l.length - i/\hU hh a m' ((l.drop i).flatMap dX++R)/\aA.aJ (fun n=>n=a) h hh/\YP lc 3 bv ((l.take i).map kL)/\
  Fr.le [(7,.i .i64 i),(6,.i .i64 l.length),(3,bv),(0,.p (.g a) 0)] fr/\st=⟨hh,lc⟩)
  l.length ⟨0,h2,_,m,.aS,Nat.zero_le _,rfl,r2,k2,.inl ⟨rfl,rfl⟩,cT,rfl⟩ ?_
 rintro q fr st ⟨i,hh,lc,m',bv,hi,rfl,lW,hk,Tq,dE,rfl⟩
 refine ⟨_,dE,fun R0 LJ=>?_⟩
 have BJ:((l.take i).map kL).length<=100:=by simp;omega
 by_cases cY:i<l.length
 · have he:=List.getElem?_eq_getElem cY
   have yK:=dW _ (List.getElem_mem cY)
   generalize l[i]=x at he yK
   have hd:=lO dX he
   have vD:=eU dX 810 l (i+1) xY
   rw [hd] at lW
   unfold dX yH at lW
   simp only [List.append_assoc] at lW
   have jM:(l.take (i+1)).map kL=(l.take i).map kL++[kL x]:=by rw [List.take_add_one,he];simp
   have Jv:=eV bV 8 x.bF fun s _=>Nat.le_of_eq (bN s)
   have hvg:=qX bV (fun s=>by rw [bN];omega) x.bF
   have L7:=yK.len
   obtain ⟨R1,DN⟩:∃ R1,R1=(l.drop (i+1)).flatMap dX++R:=⟨_,rfl⟩
   have apY:R1.length<=1081000:=by rw [DN,List.length_append];omega
   change hU hh a m' (bV x.key++(dI x.kind 1++(dI x.bF.length 1++(x.bF.flatMap bV++((l.drop (i+1)).flatMap dX++R))))) at lW
   rw [<-DN] at lW
   have PN:=fun K hK=>rname_at (K:=K) hG eN lW yK.key (by simp only [List.length_append,aV];omega) hK
   have a1:∀ o,(lc.push o).get lc.next=some o:=fun o=>aA.aB _ _
   have a2:∀ o o2,((lc.push o).set lc.next o2).get lc.next=some o2:=fun o o2=>aA.aD (a1 o)
   rcases Tq with ⟨uH,rfl⟩|⟨t,rfl,Jy,yU,dJ⟩
   all_goals
    (refine iG (show (i:Int)<(l.length:Nat) by omega) @PN ?_)
    intro h3 r3 k3
    have Hf:=fun K hK=>rnumI_at (K:=K) hG r3 (by omega) yK.kind.1 (by show x.kind<(256:Int);exact yK.kind.2) (by have:=yK.kind.2;omega) (by simp only [List.length_append,aV];omega) hK
    (refine cD @Hf ?_)
    intro h4 r4 k4
    have hn3:=fun K hK=>rcount_at (K:=K) hG r4 (by omega) (by simp only [List.length_append];omega) (by simp only [List.length_append];omega) hK
    (refine qR @hn3 @a1 @a2 ?_)
    intro h5 r5 k5
    (refine iG @a1 @a2 ?_)
   · refine b8.by (fun q fr st=>∃ (j:Nat) (hj lj:aA) (m2:Bool) (VH:V),j<=x.bF.length/\q=x.bF.length - j/\hU hj a m2 ((x.bF.drop j).flatMap bV++R1)/\aA.aJ (fun n=>n=a) h hj/\
      lc.next<lj.next/\lj.get lc.next=some (.cs [.s x.key,.i .i64 x.kind,VH])/\ac9 lj lc.next VH ((x.bF.take j).map bE)/\
      Fr.le [(16,.i .i64 j),(15,.i .i64 x.bF.length),(4,.p (.l lc.next) 0),(7,.i .i64 i),(6,.i .i64 l.length),(3,.aS),(0,.p (.g a) 0)] fr/\st=⟨hj,lj⟩)
      x.bF.length ⟨0,h5,_,_,.aS,Nat.zero_le _,rfl,r5,((hk.trans k3).trans k4).trans k5,Nat.lt_succ_self _,a2 _ _,.inl ⟨rfl,rfl⟩,cT,rfl⟩ ?_
     rintro q fr st ⟨j,hj,lj,m2,VH,H6,rfl,Oq,QI,VI,b0,F5,Cq,rfl⟩
     refine ⟨_,Cq,fun R2 I5=>?_⟩
     by_cases F9:j<x.bF.length
     · have hv:=List.getElem?_eq_getElem F9
       have ZU:=yK.bF _ (List.getElem_mem F9)
       generalize x.bF[j]=s at hv ZU
       have Gf:=lO bV hv
       have YQ:=eU bV 8 x.bF (j+1) fun s _=>Nat.le_of_eq (bN s)
       rw [Gf,List.append_assoc] at Oq
       have Cr:(x.bF.take (j+1)).map bE=(x.bF.take j).map bE++[bE s]:=by rw [List.take_add_one,hv];simp
       have YR:((x.bF.take j).map bE).length<=100:=by simp;omega
       have hn6:=fun K hK=>rname_at (K:=K) hG eN Oq ZU (by rw [List.length_append];omega) hK
       have p1:(lj.push .spare).get lc.next=some (.cs [.s x.key,.i .i64 x.kind,VH]):=aA.gp (by omega) b0
       rcases F5 with ⟨I8,rfl⟩|⟨t2,rfl,YS,YT,Tv,M6⟩
       · have p2:((lj.push .spare).push .spare).get lc.next=some (.cs [.s x.key,.i .i64 x.kind,.aS]):=aA.gp (by show lc.next≠lj.next+1;omega) p1
         (refine qR (show (j:Int)<(x.bF.length:Nat) by omega) @hn6 @b0 ?_)
         intro h6 r6 k6
         (refine qR @b0 @p1 @p2 ?_)
         exact I5 (x.bF.length - (j+1)) _ _ (by omega) ⟨j+1,h6,_,true,_,by omega,rfl,r6,QI.trans k6,(by show lc.next<lj.next+1+1;omega),aA.aD p2,.inr ⟨lj.next+1,by first|(rw [Cr,I8];done)|(rw [Cr,I8];rfl),by omega,Nat.lt_succ_self _,aA.gs (by omega) (aA.aB _ _),by rw [Cr];simp⟩,cT,rfl⟩
       · have f0:(lj.push .spare).get t2=some .spare:=aA.gp (by omega) Tv
         have p3:(((lj.push .spare).remove t2).push .spare).get lc.next=some (.cs [.s x.key,.i .i64 x.kind,.sl (some (.l t2)) 1 ((x.bF.take j).map bE)]):=aA.gp (by show lc.next≠lj.next+1;omega) (aA.gr (by omega) p1)
         (refine qR (show (j:Int)<(x.bF.length:Nat) by omega) @hn6 @b0 ?_)
         intro h6 r6 k6
         ((conv=>whnf);repeat ((first|refine aR.gA (by omega) (by omega) ?_|refine aM.mk (by simp only [bT];exact decide_eq_true (by simp at YR ⊢;omega)) ?_|refine ye (b0) ?_|refine ye (p1) ?_|refine ye (p3) ?_|refine ye (f0) ?_|refine zz ?_)<;>(conv=>whnf)))
         exact I5 (x.bF.length - (j+1)) _ _ (by omega) ⟨j+1,h6,_,true,_,by omega,rfl,r6,QI.trans k6,(by show lc.next<lj.next+1+1;omega),aA.aD p3,.inr ⟨lj.next+1,by first|(rw [Cr];done)|(rw [Cr];rfl),by omega,Nat.lt_succ_self _,aA.gs (by omega) (aA.aB _ _),by rw [Cr];simp⟩,cT,rfl⟩
     obtain rfl:j=x.bF.length:=by omega
     rw [List.drop_length] at Oq
     rw [List.take_length] at F5
     have Tw:hU hj a m2 ((l.drop (i+1)).flatMap dX++R):=by rw [<-DN];exact Oq
     rcases F5 with ⟨I8,rfl⟩|⟨t2,rfl,YS,YT,Tv,M6⟩
     · have NX:x.bF=[]:=by simpa using I8
       have dR:[[V.s x.key,.i .i64 x.kind,.aS]]=[kL x]:=by unfold kL;rw [NX];rfl
       ((conv=>whnf);repeat ((first|refine aH.df (show ¬((x.bF.length:Nat):Int)<(x.bF.length:Nat) by omega) ?_|refine aR.gA (by omega) (by omega) ?_|refine ye (congrArg some dR) ?_|refine ye (uM x) ?_|refine ye (b0) ?_|refine zz ?_)<;>(conv=>whnf)))
       exact LJ (l.length - (i+1)) _ _ (by omega) ⟨i+1,hj,_,_,_,by omega,rfl,Tw,QI,.inr ⟨lj.next+1,by first|(rw [jM,uH];done)|(rw [jM,uH];rfl),Nat.lt_succ_self _,aA.aB _ _,by rw [jM];simp⟩,cT,rfl⟩
     · have dR:[[V.s x.key,.i .i64 x.kind,.sl none 1 (x.bF.map bE)]]=[kL x]:=by
        unfold kL
        cases hx:x.bF with
        |nil=>rw [hx] at M6;exact absurd rfl M6
        |cons y r=>rfl
       ((conv=>whnf);repeat ((first|refine aH.df (show ¬((x.bF.length:Nat):Int)<(x.bF.length:Nat) by omega) ?_|refine aR.gA (by omega) (by omega) ?_|refine ye (congrArg some dR) ?_|refine ye (uM x) ?_|refine ye (b0) ?_|refine zz ?_)<;>(conv=>whnf)))
       exact LJ (l.length - (i+1)) _ _ (by omega) ⟨i+1,hj,_,_,_,by omega,rfl,Tw,QI,.inr ⟨lj.next+1,by first|(rw [jM,uH];done)|(rw [jM,uH];rfl),Nat.lt_succ_self _,aA.aB _ _,by rw [jM];simp⟩,cT,rfl⟩
   · refine b8.by (fun q fr st=>∃ (j:Nat) (hj lj:aA) (m2:Bool) (VH:V),j<=x.bF.length/\q=x.bF.length - j/\hU hj a m2 ((x.bF.drop j).flatMap bV++R1)/\aA.aJ (fun n=>n=a) h hj/\
      lc.next<lj.next/\lj.get lc.next=some (.cs [.s x.key,.i .i64 x.kind,VH])/\ac9 lj lc.next VH ((x.bF.take j).map bE)/\lj.get t=some .spare/\
      Fr.le [(16,.i .i64 j),(15,.i .i64 x.bF.length),(4,.p (.l lc.next) 0),(7,.i .i64 i),(6,.i .i64 l.length),(3,.sl (some (.l t)) 3 ((l.take i).map kL)),(0,.p (.g a) 0)] fr/\st=⟨hj,lj⟩)
      x.bF.length ⟨0,h5,_,_,.aS,Nat.zero_le _,rfl,r5,((hk.trans k3).trans k4).trans k5,Nat.lt_succ_self _,a2 _ _,.inl ⟨rfl,rfl⟩,aA.gs (by omega) (aA.gp (by omega) yU),cT,rfl⟩ ?_
     rintro q fr st ⟨j,hj,lj,m2,VH,H6,rfl,Oq,QI,VI,b0,F5,ZJ,Cq,rfl⟩
     refine ⟨_,Cq,fun R2 I5=>?_⟩
     by_cases F9:j<x.bF.length
     · have hv:=List.getElem?_eq_getElem F9
       have ZU:=yK.bF _ (List.getElem_mem F9)
       generalize x.bF[j]=s at hv ZU
       have Gf:=lO bV hv
       have YQ:=eU bV 8 x.bF (j+1) fun s _=>Nat.le_of_eq (bN s)
       rw [Gf,List.append_assoc] at Oq
       have Cr:(x.bF.take (j+1)).map bE=(x.bF.take j).map bE++[bE s]:=by rw [List.take_add_one,hv];simp
       have YR:((x.bF.take j).map bE).length<=100:=by simp;omega
       have hn6:=fun K hK=>rname_at (K:=K) hG eN Oq ZU (by rw [List.length_append];omega) hK
       have p1:(lj.push .spare).get lc.next=some (.cs [.s x.key,.i .i64 x.kind,VH]):=aA.gp (by omega) b0
       rcases F5 with ⟨I8,rfl⟩|⟨t2,rfl,YS,YT,Tv,M6⟩
       · have p2:((lj.push .spare).push .spare).get lc.next=some (.cs [.s x.key,.i .i64 x.kind,.aS]):=aA.gp (by show lc.next≠lj.next+1;omega) p1
         (refine qR (show (j:Int)<(x.bF.length:Nat) by omega) @hn6 @b0 ?_)
         intro h6 r6 k6
         (refine qR @b0 @p1 @p2 ?_)
         exact I5 (x.bF.length - (j+1)) _ _ (by omega) ⟨j+1,h6,_,true,_,by omega,rfl,r6,QI.trans k6,(by show lc.next<lj.next+1+1;omega),aA.aD p2,.inr ⟨lj.next+1,by first|(rw [Cr,I8];done)|(rw [Cr,I8];rfl),by omega,Nat.lt_succ_self _,aA.gs (by omega) (aA.aB _ _),by rw [Cr];simp⟩,aA.gs (by omega) (aA.gp (by show t≠lj.next+1;omega) (aA.gp (by omega) ZJ)),cT,rfl⟩
       · have f0:(lj.push .spare).get t2=some .spare:=aA.gp (by omega) Tv
         have p3:(((lj.push .spare).remove t2).push .spare).get lc.next=some (.cs [.s x.key,.i .i64 x.kind,.sl (some (.l t2)) 1 ((x.bF.take j).map bE)]):=aA.gp (by show lc.next≠lj.next+1;omega) (aA.gr (by omega) p1)
         (refine qR (show (j:Int)<(x.bF.length:Nat) by omega) @hn6 @b0 ?_)
         intro h6 r6 k6
         ((conv=>whnf);repeat ((first|refine aR.gA (by omega) (by omega) ?_|refine aM.mk (by simp only [bT];exact decide_eq_true (by simp at YR ⊢;omega)) ?_|refine ye (b0) ?_|refine ye (p1) ?_|refine ye (p3) ?_|refine ye (f0) ?_|refine zz ?_)<;>(conv=>whnf)))
         exact I5 (x.bF.length - (j+1)) _ _ (by omega) ⟨j+1,h6,_,true,_,by omega,rfl,r6,QI.trans k6,(by show lc.next<lj.next+1+1;omega),aA.aD p3,.inr ⟨lj.next+1,by first|(rw [Cr];done)|(rw [Cr];rfl),by omega,Nat.lt_succ_self _,aA.gs (by omega) (aA.aB _ _),by rw [Cr];simp⟩,aA.gs (by omega) (aA.gp (by show t≠lj.next+1;omega) (aA.gr (by omega) (aA.gp (by omega) ZJ))),cT,rfl⟩
     obtain rfl:j=x.bF.length:=by omega
     rw [List.drop_length] at Oq
     rw [List.take_length] at F5
     have Tw:hU hj a m2 ((l.drop (i+1)).flatMap dX++R):=by rw [<-DN];exact Oq
     rcases F5 with ⟨I8,rfl⟩|⟨t2,rfl,YS,YT,Tv,M6⟩
     · have NX:x.bF=[]:=by simpa using I8
       have dR:[[V.s x.key,.i .i64 x.kind,.aS]]=[kL x]:=by unfold kL;rw [NX];rfl
       have g0:(lj.push .spare).get t=some .spare:=aA.gp (by omega) ZJ
       ((conv=>whnf);repeat ((first|refine aH.df (show ¬((x.bF.length:Nat):Int)<(x.bF.length:Nat) by omega) ?_|refine aR.gA (by omega) (by omega) ?_|refine ye (congrArg some dR) ?_|refine ye (uM x) ?_|refine aM.mk (by simp only [bT];exact decide_eq_true (by simp at BJ ⊢;omega)) ?_|refine ye (b0) ?_|refine ye (g0) ?_|refine zz ?_)<;>(conv=>whnf)))
       exact LJ (l.length - (i+1)) _ _ (by omega) ⟨i+1,hj,_,_,_,by omega,rfl,Tw,QI,.inr ⟨lj.next+1,by first|(rw [jM];done)|(rw [jM];rfl),Nat.lt_succ_self _,aA.aB _ _,by rw [jM];simp⟩,cT,rfl⟩
     · have dR:[[V.s x.key,.i .i64 x.kind,.sl none 1 (x.bF.map bE)]]=[kL x]:=by
        unfold kL
        cases hx:x.bF with
        |nil=>rw [hx] at M6;exact absurd rfl M6
        |cons y r=>rfl
       have g0:(lj.push .spare).get t=some .spare:=aA.gp (by omega) ZJ
       ((conv=>whnf);repeat ((first|refine aH.df (show ¬((x.bF.length:Nat):Int)<(x.bF.length:Nat) by omega) ?_|refine aR.gA (by omega) (by omega) ?_|refine ye (congrArg some dR) ?_|refine ye (uM x) ?_|refine aM.mk (by simp only [bT];exact decide_eq_true (by simp at BJ ⊢;omega)) ?_|refine ye (b0) ?_|refine ye (g0) ?_|refine zz ?_)<;>(conv=>whnf)))
       exact LJ (l.length - (i+1)) _ _ (by omega) ⟨i+1,hj,_,_,_,by omega,rfl,Tw,QI,.inr ⟨lj.next+1,by first|(rw [jM];done)|(rw [jM];rfl),Nat.lt_succ_self _,aA.aB _ _,by rw [jM];simp⟩,cT,rfl⟩
 · obtain rfl:i=l.length:=by omega
   rw [List.drop_length] at lW
   rw [List.take_length] at Tq
   have W4:=hK hh m' lW hk
   rcases Tq with ⟨uH,rfl⟩|⟨t,rfl,Jy,yU,dJ⟩
   · have u9:l=[]:=by simpa using uH
     subst u9
     (refine cD (show ¬(((([]:List cM)).length:Nat):Int)<(([]:List cM).length:Nat) by omega) ?_)
     exact W4
   · cases l with
     |nil=>exact absurd rfl dJ
     |cons x r=>
      (refine cD (show ¬(((x::r).length:Nat):Int)<((x::r).length:Nat) by omega) ?_)
      exact W4
end
open Go
theorem aC.more {P:Program} {f:Nat} {args:List V} {h:aA} {K K2:V->aA->Prop} (hA:aC P f args h K) (hm:∀ v h',K v h'->∃ v',(∀ (E:Env) (x:Value),Rel E v x->Rel E v' x)/\K2 v' h'):aC P f args h K2:=
 ⟨hA.1,fun E w vs hn hs hv=>(hA.2 E w vs hn hs hv).mono fun _ _ ⟨v,x,h',E',h1,h2,h3,h4,h5,h6⟩=>by
  obtain ⟨v',q1,q2⟩:=hm v h' h1
  exact ⟨v',x,h',E',q2,h2,h3,h4,h5,q1 E' x h6⟩⟩
theorem I9 {k:Nat} (E:Env) (x:Value) (h:Rel E .aS x):Rel E (.sl none k []) x:=G5 _ rfl .nil h
theorem Tx {k:Nat} {es ds:List (List V)} (hn:Df es ds) (E:Env) (x:Value) (h:Rel E (.sl none k es) x):Rel E (.sl none k ds) x:=G5 _ rfl (.rows hn) h
theorem VJ (t:cM):N7 (kL t) (bA t):=by
 unfold kL bA
 refine .cons (.refl _) (.cons (.refl _) (.cons ?_ .nil))
 cases t.bF with
 |nil=>exact .nil 1
 |cons x r=>exact .refl _
theorem KW:∀ l:List cM,Df (l.map kL) (l.map bA)
 |[]=>.nil
 |t::r=>.cons (VJ t) (KW r)
section
variable {P:Program} (hG:bP P AF.fns.get)
include hG
theorem rpairs2_at (eN:dQ P 285) {h:aA} {a:Nat} {m:Bool} {l:List cX} {R:List Int} (hr:hU h a m (dV l++R)) (hl:l.length<=100) (dW:∀ p∈l,eH p.key/\eH p.val) (hR:R.length<=1000000) {K:V->aA->Prop}
 (hK:∀ h' m',hU h' a m' R->aA.aJ (fun n=>n=a) h h'->K (.sl none 2 (l.map aY)) h'):aC P 131 [.p (.g a) 0,.fn 132 [] []] h K:=by
 refine aC.more (rpairs_at hG eN hr hl dW hR (K:=fun v h'=>v=YO 2 aY l/\K (.sl none 2 (l.map aY)) h') fun h' m' q1 q2=>⟨rfl,hK h' m' q1 q2⟩) ?_
 rintro v h' ⟨rfl,hk⟩
 refine ⟨_,fun E x hx=>?_,hk⟩
 cases l with
 |nil=>exact I9 E x hx
 |cons _ _=>exact hx
theorem rterms2_at (eN:dQ P 285) {h:aA} {a:Nat} {m:Bool} {l:List cM} {R:List Int} (hr:hU h a m (fB l++R)) (hl:l.length<=100) (dW:∀ t∈l,Ar t) (hR:R.length<=1000000) {K:V->aA->Prop}
 (hK:∀ h' m',hU h' a m' R->aA.aJ (fun n=>n=a) h h'->K (.sl none 3 (l.map bA)) h'):aC P 133 [.p (.g a) 0] h K:=by
 refine aC.more (rterms_at hG eN hr hl dW hR (K:=fun v h'=>v=YO 3 kL l/\K (.sl none 3 (l.map bA)) h') fun h' m' q1 q2=>⟨rfl,hK h' m' q1 q2⟩) ?_
 rintro v h' ⟨rfl,hk⟩
 refine ⟨_,fun E x hx=>?_,hk⟩
 cases l with
 |nil=>exact I9 E x hx
 |cons t r=>exact Tx (KW (t::r)) E x hx
theorem beq_at {h:aA} (b:List Int) {K:V->aA->Prop} (hK:K (.b true) h):aC P 136 [.sl none 1 (b.map hM),.sl none 1 (b.map hM)] h K:=by
 have hbb:bytesOf (b.map hM)=some (b.map fun n=>UInt8.ofNat n.toNat):=by
  induction b with
  |nil=>rfl
  |cons x r ih=>
   show bytesOf ([V.i .u8 x]::r.map hM)=_
   simp only [bytesOf,ih]
   rfl
 have ht:((b.map fun n=>UInt8.ofNat n.toNat)==(b.map fun n=>UInt8.ofNat n.toNat))=true:=by simp
 refine aQ (hG _ AF.f136 rfl) rfl ?_
 (refine cD @hbb ?_)
 rw [ht]
 exact hK
end
open Go
def CV (n:bK):Bool:=bI n.name&&(Bk n.cap&&((fO none n.labels&&decide (n.labels.length<=6))&&(fO none n.cR&&decide (n.cR.length<=6))))
def dO (n:bK):List Int:=dI 2 1++bV n.name++pC n.cap++dV n.labels++dV n.cR
structure Ot (n:bK):Prop where
 name:n.name.length<=9223372036854775807
 labels:n.labels.length<=9223372036854775807
 FB:∀ q∈n.labels,q.key.length<=9223372036854775807/\q.val.length<=9223372036854775807
 cR:n.cR.length<=9223372036854775807
 M7:∀ q∈n.cR,q.key.length<=9223372036854775807/\q.val.length<=9223372036854775807
section
variable {P:Program} (hG:bP P AF.fns.get)
include hG
theorem Ty {h:aA} (l:List cX) (hl:l.length<=9223372036854775807) (hs:∀ q∈l,q.key.length<=9223372036854775807/\q.val.length<=9223372036854775807) {K:V->aA->Prop} (hK:K (.b (fO none l&&decide (l.length<=6))) h):aC P 210 [.sl none 2 (l.map aY)] h K:=by
 have gK:(l.map aY).length=l.length:=List.length_map _
 refine aQ (hG _ AF.f210 rfl) rfl ?_
 (refine zr ?_)
 refine b8.by (fun q fr st=>∃ (i:Nat) (lc:aA) (o:Option aU),i<=l.length/\q=l.length - i/\fO none l=fO o (l.drop i)/\((i=0/\o=none)\/(0<i/\∃ y,l[i - 1]? =some y/\o=some y.key))/\
  Fr.le [(7,.i .i64 i),(6,.i .i64 (l.map aY).length),(5,.sl none 2 (l.map aY)),(0,.sl none 2 (l.map aY))] fr/\st=⟨h,lc⟩)
  l.length ⟨0,_,none,Nat.zero_le _,rfl,rfl,.inl ⟨rfl,rfl⟩,cT,rfl⟩ ?_
 rintro q fr st ⟨i,lc,o,hi,rfl,heq,ho,dE,rfl⟩
 refine ⟨_,dE,fun R hR=>?_⟩
 have pH:fO none l=false->K (.b false) h:=fun hf=>by rw [hf] at hK;exact hK
 have a1:∀ o,(lc.push o).get lc.next=some o:=fun o=>aA.aB _ _
 have a2:∀ o o2,((lc.push o).set lc.next o2).get lc.next=some o2:=fun o o2=>aA.aD (a1 o)
 by_cases cY:i<l.length
 · have he:=List.getElem?_eq_getElem cY
   have O0:=hs _ (List.getElem_mem cY)
   have AB:=List.drop_eq_getElem_cons cY
   generalize l[i]=x at he AB O0
   rw [AB,rW] at heq
   have hk:=fun K hK=>name_at (K:=K) hG (h:=h) x.key O0.1 hK
   have hv:=fun K hK=>name_at (K:=K) hG (h:=h) x.val O0.2 hK
   cases c1:bI x.key
   · rw [c1] at heq hk
     (refine IV (show (i:Int)<(l.map aY).length by omega) @hk @he @a1 @a2 ?_)
     exact pH (by rw [heq];rfl)
   cases c2:bI x.val
   · rw [c1,c2] at heq
     rw [c1] at hk
     rw [c2] at hv
     (refine WN (show (i:Int)<(l.map aY).length by omega) @hk @hv @he @a1 @a2 ?_)
     exact pH (by rw [heq];rfl)
   rw [c1,c2] at heq
   rw [c1] at hk
   rw [c2] at hv
   rcases ho with ⟨rfl,rfl⟩|⟨Ds,y,hy,rfl⟩
   · (refine zr7 (show ((0:Nat):Int)<(l.map aY).length by omega) @hk @hv (show ¬((0:Nat):Int)>0 by omega) @he @a1 @a2 ?_)
     exact hR (l.length - (0+1)) _ _ (by omega) ⟨0+1,_,some x.key,by omega,rfl,heq,.inr ⟨by omega,x,he,rfl⟩,cT,rfl⟩
   · cases c3:Op.bytesLess y.key x.key
     · simp only [c3] at heq
       ((conv=>whnf);repeat ((first|refine aH.dt (show (i:Int)<(l.map aY).length by omega) ?_|refine cA (hk _) ?_|refine cA (hv _) ?_|refine aH.dt (show (i:Int)>0 by omega) ?_|refine aR.gA (by omega) (by omega) ?_|refine aM.ix (by omega) (by omega) ?_|refine aH.tt (show (!Op.bytesLess y.key x.key)=true by rw [c3];rfl) ?_|refine ye (aF (by omega) he) ?_|refine ye (aF (by omega) hy) ?_|refine ye (a1 _) ?_|refine ye (a2 _ _) ?_|refine zz ?_)<;>(conv=>whnf)))
       exact pH (by rw [heq];rfl)
     · simp only [c3] at heq
       ((conv=>whnf);repeat ((first|refine aH.dt (show (i:Int)<(l.map aY).length by omega) ?_|refine cA (hk _) ?_|refine cA (hv _) ?_|refine aH.dt (show (i:Int)>0 by omega) ?_|refine aR.gA (by omega) (by omega) ?_|refine aM.ix (by omega) (by omega) ?_|refine aH.ff (show (!Op.bytesLess y.key x.key)=false by rw [c3];rfl) ?_|refine ye (aF (by omega) he) ?_|refine ye (aF (by omega) hy) ?_|refine ye (a1 _) ?_|refine ye (a2 _ _) ?_|refine zz ?_)<;>(conv=>whnf)))
       exact hR (l.length - (i+1)) _ _ (by omega) ⟨i+1,_,some x.key,by omega,rfl,heq,.inr ⟨by omega,x,he,rfl⟩,cT,rfl⟩
 · obtain rfl:i=l.length:=by omega
   rw [List.drop_length] at heq
   have heq:fO none l=true:=heq
   rw [heq,Bool.true_and] at hK
   have e:decide (((l.map aY).length:Int)<=6)=decide (l.length<=6):=by
    by_cases c:l.length<=6
    · rw [decide_eq_true c,decide_eq_true (by omega)]
    · rw [decide_eq_false c,decide_eq_false (by omega)]
   (refine cD (show ¬((l.length:Nat):Int)<(l.map aY).length by omega) ?_)
   rw [e]
   exact hK
theorem M8 (eN:dQ P 285) {h:aA} {lo a:Nat} {m:Bool} {B:List Int} (hw:j3 h lo a m B) (hB:B.length<=10000000) (l:List cX) (hl:l.length<=100) {K:V->aA->Prop}
 (hK:∀ h' m',j3 h' lo a m' (B++dV l)->aA.aJ (fun n=>lo<=n) h h'->K (.bY []) h'):aC P 113 [.p (.g a) 0,.sl none 2 (l.map aY),.fn 114 [] []] h K:=by
 have gK:(l.map aY).length=l.length:=List.length_map _
 have xY:∀ p:cX,(bX p).length=16:=fun p=>by simp [bX,bN]
 have h1:=fun K hK=>wnum_at (K:=K) hG hw (by omega) (l.map aY).length 1 (by omega) hK
 refine aQ (hG _ AF.f113 rfl) rfl ?_
 (refine cD @h1 ?_)
 intro h2 w2 k2
 rw [gK] at w2
 (refine zr ?_)
 refine b8.by (fun q fr st=>∃ (i:Nat) (hh lc:aA) (m':Bool),i<=l.length/\q=l.length - i/\j3 hh lo a m' (B++dI l.length 1++(l.take i).flatMap bX)/\aA.aJ (fun n=>lo<=n) h hh/\
  Fr.le [(16,.i .i64 i),(15,.i .i64 (l.map aY).length),(14,.sl none 2 (l.map aY)),(2,.fn 114 [] []),(0,.p (.g a) 0)] fr/\st=⟨hh,lc⟩)
  l.length ⟨0,h2,_,m,Nat.zero_le _,rfl,(by simpa using w2),k2,cT,rfl⟩ ?_
 rintro q fr st ⟨i,hh,lc,m',hi,rfl,CU,hk,dE,rfl⟩
 refine ⟨_,dE,fun R hR=>?_⟩
 by_cases cY:i<l.length
 · have he:=List.getElem?_eq_getElem cY
   generalize l[i]=x at he
   have Om:=nJ bX he
   have vG:=iF bX 16 l i fun p _=>Nat.le_of_eq (xY p)
   have ZN:(B++dI l.length 1++(l.take i).flatMap bX).length<=10000000+1+1600:=by
    rw [List.length_append,List.length_append,aV];omega
   have WZ:=fun K hK=>wname_at (K:=K) hG eN CU (by omega) x.key hK
   (refine zx5 (show (i:Int)<(l.map aY).length by omega) (aQ (hG _ AF.f114 rfl) rfl) @WZ @he @aA.aB ?_)
   intro h3 w3 k3
   have PV:=fun K hK=>wname_at (K:=K) hG eN w3 (by rw [List.length_append,aV];omega) x.val hK
   (refine cD @PV ?_)
   intro h4 w4 k4
   (refine zr ?_)
   exact hR (l.length - (i+1)) _ _ (by omega) ⟨i+1,h4,_,true,by omega,rfl,(by rw [Om,<-List.append_assoc];unfold bX bV;rw [<-List.append_assoc];exact w4),(hk.trans k3).trans k4,cT,rfl⟩
 · obtain rfl:i=l.length:=by omega
   rw [List.take_length] at CU
   (refine cD (show ¬((l.length:Nat):Int)<(l.map aY).length by omega) ?_)
   exact hK hh m' (by unfold dV;rw [<-List.append_assoc];exact CU) hk
theorem mnode_at {h:aA} (n:bK) (hp:Ot n) {K:V->aA->Prop} (hK:K (.b (CV n)) h):aC P 108 [.agg (aK n)] h K:=by
 have hn:=fun K hK=>name_at (K:=K) hG (h:=h) n.name hp.name hK
 have hr:=fun K hK=>qmay_at (K:=K) hG (h:=h) n.cap hK
 have hl:=fun K hK=>lmay_at (K:=K) hG (h:=h) n.labels hp.labels hp.FB hK
 have ht:=fun K hK=>Ty (K:=K) hG (h:=h) n.cR hp.cR hp.M7 hK
 unfold CV at hK
 refine aQ (hG _ AF.f108 rfl) rfl ?_
 cases c0:bI n.name
 · rw [c0] at hK hn
   (refine cD @hn ?_)
   exact hK
 rw [c0,Bool.true_and] at hK
 rw [c0] at hn
 cases c1:Bk n.cap
 · rw [c1] at hK hr
   (refine iG @hn @hr ?_)
   exact hK
 rw [c1,Bool.true_and] at hK
 rw [c1] at hr
 cases c2:(fO none n.labels&&decide (n.labels.length<=6))
 · rw [c2] at hK hl
   (refine qR @hn @hr @hl ?_)
   exact hK
 rw [c2,Bool.true_and] at hK
 rw [c2] at hl
 (refine N9 @hn @hr @hl @ht ?_)
 exact hK
theorem wputn_at (eN:dQ P 285) (n:bK) (hl:n.labels.length<=100) (ht:n.cR.length<=100) (hm:Pure P 108 [.agg (aK n)] (·=.b true)) {h:aA} {K:V->aA->Prop}
 (hK:∀ h',aA.aJ (fun _=>False) h h'->K (.sl none 1 ((dO n).map hM)) h'):aC P 48 [.agg (aK n)] h K:=by
 refine aQ (hG _ AF.f48 rfl) rfl ?_
 (refine cD @hm ?_)
 have w0:j3 (h.push (.cs (tv false++[.aS]))) h.next h.next false []:=⟨Nat.le_refl _,Nat.lt_succ_self _,.inl ⟨rfl,aA.aB _ _⟩⟩
 have k0:aA.aJ (fun n=>h.next<=n) h (h.push (.cs (tv false++[.aS]))):=.push (.refl _ _) _
 have l0:([]:List Int).length<=0:=Nat.le_refl _
 have c1:=fun K hK=>wnum_at (K:=K) hG w0 (by omega) 2 1 (by omega) hK
 (refine cD @c1 ?_)
 intro h1 w1 q1
 obtain ⟨B1,e1⟩:∃ X,X=[]++dI 2 1:=⟨_,rfl⟩
 have l1:B1.length<=1:=by rw [e1,List.length_append];rw [aV];omega
 rw [<-e1] at w1
 have k1:=k0.trans q1
 clear c1
 have c2:=fun K hK=>wname_at (K:=K) hG eN w1 (by omega) n.name hK
 (refine cD @c2 ?_)
 intro h2 w2 q2
 obtain ⟨B2,e2⟩:∃ X,X=B1++bV n.name:=⟨_,rfl⟩
 have l2:B2.length<=9:=by rw [e2,List.length_append];rw [bN];omega
 change j3 _ _ _ _ (_++bV n.name) at w2;rw [<-e2] at w2
 have k2:=k1.trans q2
 clear c2
 have c3:=fun K hK=>wres_at (K:=K) hG w2 (by omega) n.cap hK
 (refine cD @c3 ?_)
 intro h3 w3 q3
 obtain ⟨B3,e3⟩:∃ X,X=B2++pC n.cap:=⟨_,rfl⟩
 have l3:B3.length<=21:=by rw [e3,List.length_append];rw [nK];omega
 rw [<-e3] at w3
 have k3:=k2.trans q3
 clear c3
 have c4:=fun K hK=>wpairs_at (K:=K) hG eN w3 (by omega) n.labels hl hK
 (refine cD @c4 ?_)
 intro h4 m4 w4 q4
 obtain ⟨B4,e4⟩:∃ X,X=B3++dV n.labels:=⟨_,rfl⟩
 have l4:B4.length<=1622:=by rw [e4,List.length_append];have:=kG hl;omega
 rw [<-e4] at w4
 have k4:=k3.trans q4
 clear c4
 have c5:=fun K hK=>M8 (K:=K) hG eN w4 (by omega) n.cR ht hK
 (refine cD @c5 ?_)
 intro h5 m5 w5 q5
 obtain ⟨B5,e5⟩:∃ X,X=B4++dV n.cR:=⟨_,rfl⟩
 have l5:B5.length<=3223:=by rw [e5,List.length_append];have:=kG ht;omega
 rw [<-e5] at w5
 have k5:=k4.trans q5
 clear c5
 have zS:B5=dO n:=by
  rw [e5,e4,e3,e2,e1]
  unfold dO
  simp only [List.nil_append,List.append_assoc]
 have dJ:B5≠[]:=by rw [zS];unfold dO dI;simp
 have cb:=fun K hK=>wbytes_at (K:=K) hG w5 (by omega) dJ hK
 (refine cD @cb ?_)
 rw [zS]
 exact hK _ (k5.mono fun n hn e=>absurd hn (by omega))
end
open Go
def nM (t:Bool) (p:aL):Bool->List aL->List aL
 |d,[]=>if d then [] else [p]
 |d,e::r=>if e.name==p.name then (if d then nM t p d r else p::nM t p true r) else if !t&&(!d&&!Op.bytesLess e.name p.name) then p::e::nM t p true r else e::nM t p d r
def kV (s:dY) (p:aL):dY:=⟨s.nodes,nM (s.aE.any fun q=>q.name==p.name) p false s.aE⟩
theorem KX {α:Type} {f:α->Bool}:∀ {l:List α},(l.find? f).isSome=l.any f
 |[]=>rfl
 |a::r=>by
  rw [List.find?_cons,List.any_cons]
  cases f a
  · simpa using KX
  · rfl
section
variable {P:Program} (hG:bP P AF.fns.get)
include hG
theorem rwithX_ok (s:dY) (p:aL) (hs:s.aE.length*248+1000<=140737488355328):Pure P 8 [kS s,.agg (aI p)] (·=kS (kV s p)):=by
 have gK:(s.aE.map aI).length=s.aE.length:=List.length_map _
 have hg:=rgetpod_ok hG s p.name (by unfold bQ;omega)
 obtain ⟨o,ho⟩:∃ o,o=(s.aE.find? fun q=>q.name==p.name):=⟨_,rfl⟩
 rw [<-ho] at hg
 refine aP (hG _ AF.f8 rfl) rfl ?_
 obtain ⟨z,t,hz,ht⟩:∃ (z:aL) (t:Bool),Vo o=.bY [.agg (aI z),.b t]/\t=o.isSome:=by cases o<;>exact ⟨_,_,rfl,rfl⟩
 have hta:kV s p=⟨s.nodes,nM t p false s.aE⟩:=by unfold kV;rw [ht,ho,KX]
 rw [hta]
 obtain ⟨G,hGG⟩:∃ G,G=nM t p false s.aE:=⟨_,rfl⟩
 rw [<-hGG]
 clear ht hta
 rw [hz] at hg
 (refine cD @hg ?_)
 refine bD.by (fun q fr st=>∃ (i:Nat) (d b:Bool) (es:List aL),i<=s.aE.length/\q=s.aE.length - i/\es++nM t p d (s.aE.drop i)=G/\es.length<=i+d.toNat/\(b=false->es=[])/\
  fr=[(23,.i .i64 i),(22,.i .i64 (s.aE.map aI).length),(8,.b d),(7,.b t),(5,.p (.l 3) 0),(4,.p (.l 2) 0),(3,.p (.l 1) 0),(2,.p (.l 0) 0)]/\
  st=SM b 4 [(3,.cs [.sl none 6 (s.nodes.map aK),SL b 4 16 (es.map aI)]),(2,.cs [.aS,.aS]),(1,.cs (aI p)),(0,.cs [.sl none 6 (s.nodes.map aK),.sl none 16 (s.aE.map aI)])])
  s.aE.length ⟨_,_,?_,0,false,false,[],Nat.zero_le _,rfl,hGG.symm,Nat.zero_le _,fun _=>rfl,rfl,rfl⟩ ?_
 · exact tL [0,1,2,3]
 rintro q fr st ⟨i,d,b,es,hi,rfl,hg,nQ,hb,rfl,rfl⟩ R hR
 clear hGG
 have E6:es.length<=i+1:=by cases d<;>simp at nQ<;>omega
 (conv=>whnf)
 refine aH.ds (fun cO=>?_) (fun fE=>?_)
 · have cZ:i<s.aE.length:=by omega
   have he:=List.getElem?_eq_getElem cZ
   have AB:=List.drop_eq_getElem_cons cZ
   generalize s.aE[i]=e at he AB
   rw [AB] at hg
   clear AB
   have Tz:es.map aI++[aI p]=(es++[p]).map aI:=by rw [List.map_append];rfl
   have W5:es.map aI++[aI e]=(es++[e]).map aI:=by rw [List.map_append];rfl
   have adC:(es++[p]).map aI++[aI e]=(es++[p]++[e]).map aI:=by simp only [List.map_append,List.map_cons,List.map_nil]
   cases b<;>cases d
   · obtain rfl:es=[]:=hb rfl
     ((conv=>whnf);repeat' ((first|refine ye (aF (by omega) he) ?_|refine zz ?_|refine aH.ds (fun _=>?_) (fun _=>?_)|refine aH.ns (fun _=>?_) (fun _=>?_)|refine aH.mk (fun _=>?_) (fun _=>?_)|(intro r hr;cases r))<;>(conv=>whnf)))
     · refine hR (s.aE.length - (i+1)) _ _ (by omega) ⟨_,_,?_,i+1,true,true,[]++[p],by omega,rfl,(by first|(simp_all [nM];done)|(simp only [nM,List.nil_append] at hg;simp_all;done)|(simp only [nM,List.nil_append] at hg;revert hg;simp_all)),(by first|(simp at nQ ⊢;done)|(simp at nQ ⊢;omega)),(fun h=>by cases h),rfl,rfl⟩
       exact tL [0,1,2,3,5]
     · refine hR (s.aE.length - (i+1)) _ _ (by omega) ⟨_,_,?_,i+1,true,true,[]++[p]++[e],by omega,rfl,(by first|(simp_all [nM];done)|(simp only [nM,List.nil_append] at hg;simp_all;done)|(simp only [nM,List.nil_append] at hg;revert hg;simp_all)),(by first|(simp at nQ ⊢;done)|(simp at nQ ⊢;omega)),(fun h=>by cases h),rfl,rfl⟩
       exact tL [0,1,2,3,7]
     · refine hR (s.aE.length - (i+1)) _ _ (by omega) ⟨_,_,?_,i+1,false,true,[]++[e],by omega,rfl,(by first|(simp_all [nM];done)|(simp only [nM,List.nil_append] at hg;simp_all;done)|(simp only [nM,List.nil_append] at hg;revert hg;simp_all)),(by first|(simp at nQ ⊢;done)|(simp at nQ ⊢;omega)),(fun h=>by cases h),rfl,rfl⟩
       exact tL [0,1,2,3,5]
     · refine hR (s.aE.length - (i+1)) _ _ (by omega) ⟨_,_,?_,i+1,false,true,[]++[e],by omega,rfl,(by first|(simp_all [nM];done)|(simp only [nM,List.nil_append] at hg;simp_all;done)|(simp only [nM,List.nil_append] at hg;revert hg;simp_all)),(by first|(simp at nQ ⊢;done)|(simp at nQ ⊢;omega)),(fun h=>by cases h),rfl,rfl⟩
       exact tL [0,1,2,3,5]
   · obtain rfl:es=[]:=hb rfl
     ((conv=>whnf);repeat' ((first|refine ye (aF (by omega) he) ?_|refine zz ?_|refine aH.ds (fun _=>?_) (fun _=>?_)|refine aH.ns (fun _=>?_) (fun _=>?_)|refine aH.mk (fun _=>?_) (fun _=>?_)|(intro r hr;cases r))<;>(conv=>whnf)))
     · refine hR (s.aE.length - (i+1)) _ _ (by omega) ⟨_,_,?_,i+1,true,false,[],by omega,rfl,(by first|(simp_all [nM];done)|(simp only [nM,List.nil_append] at hg;simp_all;done)|(simp only [nM,List.nil_append] at hg;revert hg;simp_all)),(by first|(simp at nQ ⊢;done)|(simp at nQ ⊢;omega)),fun _=>rfl,rfl,rfl⟩
       exact tL [0,1,2,3]
     all_goals
      refine hR (s.aE.length - (i+1)) _ _ (by omega) ⟨_,_,?_,i+1,true,true,[]++[e],by omega,rfl,(by first|(simp_all [nM];done)|(simp only [nM,List.nil_append] at hg;simp_all;done)|(simp only [nM,List.nil_append] at hg;revert hg;simp_all)),(by first|(simp at nQ ⊢;done)|(simp at nQ ⊢;omega)),(fun h=>by cases h),rfl,rfl⟩
      exact tL [0,1,2,3,5]
   · ((conv=>whnf);repeat' ((first|refine ye (congrArg some Tz) ?_|refine ye (congrArg some W5) ?_|refine ye (congrArg some adC) ?_|refine aM.mk (by simp [bT];omega) ?_|refine ye (aF (by omega) he) ?_|refine zz ?_|refine aH.ds (fun _=>?_) (fun _=>?_)|refine aH.ns (fun _=>?_) (fun _=>?_)|refine aH.mk (fun _=>?_) (fun _=>?_)|(intro r hr;cases r))<;>(conv=>whnf)))
     · refine hR (s.aE.length - (i+1)) _ _ (by omega) ⟨_,_,?_,i+1,true,true,es++[p],by omega,rfl,(by first|(simp_all [nM];done)|(simp only [nM,List.nil_append] at hg;simp_all;done)|(simp only [nM,List.nil_append] at hg;revert hg;simp_all)),(by first|(simp at nQ ⊢;done)|(simp at nQ ⊢;omega)),(fun h=>by cases h),rfl,rfl⟩
       exact tL [0,1,2,3,6]
     · refine hR (s.aE.length - (i+1)) _ _ (by omega) ⟨_,_,?_,i+1,true,true,es++[p]++[e],by omega,rfl,(by first|(simp_all [nM];done)|(simp only [nM,List.nil_append] at hg;simp_all;done)|(simp only [nM,List.nil_append] at hg;revert hg;simp_all)),(by first|(simp at nQ ⊢;done)|(simp at nQ ⊢;omega)),(fun h=>by cases h),rfl,rfl⟩
       exact tL [0,1,2,3,8]
     · refine hR (s.aE.length - (i+1)) _ _ (by omega) ⟨_,_,?_,i+1,false,true,es++[e],by omega,rfl,(by first|(simp_all [nM];done)|(simp only [nM,List.nil_append] at hg;simp_all;done)|(simp only [nM,List.nil_append] at hg;revert hg;simp_all)),(by first|(simp at nQ ⊢;done)|(simp at nQ ⊢;omega)),(fun h=>by cases h),rfl,rfl⟩
       exact tL [0,1,2,3,6]
     · refine hR (s.aE.length - (i+1)) _ _ (by omega) ⟨_,_,?_,i+1,false,true,es++[e],by omega,rfl,(by first|(simp_all [nM];done)|(simp only [nM,List.nil_append] at hg;simp_all;done)|(simp only [nM,List.nil_append] at hg;revert hg;simp_all)),(by first|(simp at nQ ⊢;done)|(simp at nQ ⊢;omega)),(fun h=>by cases h),rfl,rfl⟩
       exact tL [0,1,2,3,6]
   · ((conv=>whnf);repeat' ((first|refine ye (congrArg some W5) ?_|refine aM.mk (by simp [bT];omega) ?_|refine ye (aF (by omega) he) ?_|refine zz ?_|refine aH.ds (fun _=>?_) (fun _=>?_)|refine aH.ns (fun _=>?_) (fun _=>?_)|refine aH.mk (fun _=>?_) (fun _=>?_)|(intro r hr;cases r))<;>(conv=>whnf)))
     · refine hR (s.aE.length - (i+1)) _ _ (by omega) ⟨_,_,?_,i+1,true,true,es,by omega,rfl,(by first|(simp_all [nM];done)|(simp only [nM,List.nil_append] at hg;simp_all;done)|(simp only [nM,List.nil_append] at hg;revert hg;simp_all)),(by first|(simp at nQ ⊢;done)|(simp at nQ ⊢;omega)),(fun h=>by cases h),rfl,rfl⟩
       exact tL [0,1,2,3,4]
     all_goals
      refine hR (s.aE.length - (i+1)) _ _ (by omega) ⟨_,_,?_,i+1,true,true,es++[e],by omega,rfl,(by first|(simp_all [nM];done)|(simp only [nM,List.nil_append] at hg;simp_all;done)|(simp only [nM,List.nil_append] at hg;revert hg;simp_all)),(by first|(simp at nQ ⊢;done)|(simp at nQ ⊢;omega)),(fun h=>by cases h),rfl,rfl⟩
      exact tL [0,1,2,3,6]
 · have CS:=nQ
   have Tz:es.map aI++[aI p]=(es++[p]).map aI:=by rw [List.map_append];rfl
   have h0:s.aE.drop i=[]:=List.drop_of_length_le (by omega)
   rw [h0] at hg
   cases b<;>cases d
   · obtain rfl:es=[]:=hb rfl
     (refine zr ?_)
     exact tF (ds:=[.sl none 6 (s.nodes.map aK),.sl none 16 ((([]++[p])).map aI)]) yZ rfl (by unfold kS;simp_all [nM])
   · obtain rfl:es=[]:=hb rfl
     (refine zr ?_)
     exact tF (ds:=[.sl none 6 (s.nodes.map aK),.sl none 16 (([]).map aI)]) yZ rfl (by unfold kS;simp_all [nM])
   · (refine zx1 (congrArg some Tz) ?_)
     exact tF (ds:=[.sl none 6 (s.nodes.map aK),.sl none 16 (((es++[p])).map aI)]) yZ rfl (by unfold kS;simp_all [nM])
   · (refine zr ?_)
     exact tF (ds:=[.sl none 6 (s.nodes.map aK),.sl none 16 ((es).map aI)]) yZ rfl (by unfold kS;simp_all [nM])
end
end Go.Eng
