/-
What may be: lists of terms, a pod.
-/
import Derived.Test.YtmfelikepmmjkaaGreatY27
import Derived.Test.YtmfelikepmmjkaaGreatY26
set_option linter.unusedVariables false
set_option linter.unusedSimpArgs false
set_option maxHeartbeats 16000000
set_option maxRecDepth 10000
namespace Go.Eng
open Go
def Au (p:aO):Bool:=decide (0<=p.j9)&&(decide (p.j9<=10)&&(fI p.cT&&(fI p.even&&(bK p.dV||(decide (p.dV=[])&&(decide (p.cT.length=0)&&decide (p.j9=0)))))))
def Gj (p:aO):Bool:=(bK p.node&&decide (0<p.term))||(decide (p.node=[])&&decide (p.term=0))
def j0 (p:aO):Bool:=bK p.name&&(decide (1<=p.uid)&&(decide (p.uid<=1099511627776)&&(decide (0<=p.prio)&&(decide (p.prio<=1000)&&(Bj p.gG&&((mJ none p.aX&&decide (p.aX.length<=6))&&((fB none p.labels&&decide (p.labels.length<=6))&&(fI p.lR&&(vB p.b8&&(Au p&&Gj p))))))))))
structure vC (l:List cM):Prop where
 len:l.length<=9223372036854775807
 each:∀ t∈l,HN t
structure qR (p:aO):Prop where
 name:p.name.length<=9223372036854775807
 aX:p.aX.length<=9223372036854775807
 labels:p.labels.length<=9223372036854775807
 LG:∀ q∈p.labels,q.key.length<=9223372036854775807/\q.val.length<=9223372036854775807
 lR:vC p.lR
 b8:p.b8.length<=9223372036854775807
 afR:∀ t∈p.b8,t.key.length<=9223372036854775807/\t.val.length<=9223372036854775807
 dV:p.dV.length<=9223372036854775807
 cT:vC p.cT
 even:vC p.even
 node:p.node.length<=9223372036854775807
section
variable {P:Program} (hG:bN P AF.fns.get)
include hG
theorem mterms1_at {h:aA} (t:cM) (hs:HN t) {K:V->aA->Prop} (hK:K (.b (!lM t)) h):aB P 288 [.agg (bD t)] h K:=by
 have hk:=fun K hK=>mterm_at (K:=K) hG (h:=h) t hs hK
 refine aN (hG _ AF.f288 rfl) rfl ?_
 (refine cJ @hk ?_)
 exact hK
theorem mterms_at {h:aA} (l:List cM) (hs:vC l) {K:V->aA->Prop} (hK:K (.b (fI l)) h):aB P 213 [.sl none 3 (l.map bD)] h K:=by
 have iO:(l.map bD).length=l.length:=List.length_map _
 have hc:=fun (K:V->aA->Prop) (hK:K (.b (!l.all lM)) h)=>Ot (K:=K) hG (k:=0) (g:=288) (p:=fun v=>!lM v) hs.len (fun v hv K hK=>mterms1_at hG v (hs.each v hv) hK) (by rw [CN];exact hK)
 unfold fI at hK
 by_cases c:l.length<=6
 · rw [decide_eq_true c,Bool.true_and] at hK
   refine aN (hG _ AF.f213 rfl) rfl ?_
   (refine cJ @hc ?_)
   rw [Bool.not_not]
   exact hK
 · rw [decide_eq_false c] at hK
   refine aN (hG _ AF.f213 rfl) rfl ?_
   (refine zr ?_)
   exact hK
theorem mtol_at {h:aA} (t:j8) (hs:t.key.length<=9223372036854775807/\t.val.length<=9223372036854775807) {K:V->aA->Prop} (hK:K (.b (Et t)) h):aB P 291 [.agg (eO t)] h K:=by
 have hk:=fun K hK=>name_at (K:=K) hG (h:=h) t.key hs.1 hK
 have hv:=fun K hK=>name_at (K:=K) hG (h:=h) t.val hs.2 hK
 unfold Et at hK
 have XY:(t.val==[])=decide (t.val=[]):=by
  by_cases c:t.val=[]
  · rw [c];rfl
  · rw [decide_eq_false c];simpa using c
 by_cases c1:t.key=[]
 · have e1:(!(t.key==[]))=false:=by rw [c1];rfl
   rw [decide_eq_true c1,Bool.true_or,Bool.true_and] at hK
   cases c2:t.any
   · have dH:eO t=[.s t.key,.s t.val,.b false]:=by unfold eO;rw [c2]
     rw [c2] at hK
     rw [dH]
     refine aN (hG _ AF.f291 rfl) rfl ?_
     (refine iU @e1 @hv ?_)
     exact hK
   · have dH:eO t=[.s t.key,.s t.val,.b true]:=by unfold eO;rw [c2]
     rw [c2] at hK
     rw [dH]
     refine aN (hG _ AF.f291 rfl) rfl ?_
     (refine cJ @e1 ?_)
     rw [XY]
     exact hK
 · have e1:(!(t.key==[]))=true:=by simpa using c1
   rw [decide_eq_false c1,Bool.false_or] at hK
   cases c0:bK t.key
   · rw [c0] at hK hk
     refine aN (hG _ AF.f291 rfl) rfl ?_
     (refine iU @e1 @hk ?_)
     exact hK
   rw [c0,Bool.true_and] at hK
   rw [c0] at hk
   cases c2:t.any
   · have dH:eO t=[.s t.key,.s t.val,.b false]:=by unfold eO;rw [c2]
     rw [c2] at hK
     rw [dH]
     refine aN (hG _ AF.f291 rfl) rfl ?_
     (refine pU @e1 @hk @hv ?_)
     exact hK
   · have dH:eO t=[.s t.key,.s t.val,.b true]:=by unfold eO;rw [c2]
     rw [c2] at hK
     rw [dH]
     refine aN (hG _ AF.f291 rfl) rfl ?_
     (refine iU @e1 @hk ?_)
     rw [XY]
     exact hK
theorem mtols1_at {h:aA} (t:j8) (hs:t.key.length<=9223372036854775807/\t.val.length<=9223372036854775807) {K:V->aA->Prop} (hK:K (.b (!Et t)) h):aB P 290 [.agg (eO t)] h K:=by
 have hk:=fun K hK=>mtol_at (K:=K) hG (h:=h) t hs hK
 refine aN (hG _ AF.f290 rfl) rfl ?_
 (refine cJ @hk ?_)
 exact hK
theorem mtols_at {h:aA} (l:List j8) (hl:l.length<=9223372036854775807) (hs:∀ t∈l,t.key.length<=9223372036854775807/\t.val.length<=9223372036854775807) {K:V->aA->Prop} (hK:K (.b (vB l)) h):aB P 214 [.sl none 3 (l.map eO)] h K:=by
 have iO:(l.map eO).length=l.length:=List.length_map _
 have hc:=fun (K:V->aA->Prop) (hK:K (.b (!l.all Et)) h)=>Ru (K:=K) hG (k:=0) (g:=290) (p:=fun v=>!Et v) hl (fun v hv K hK=>mtols1_at hG v (hs v hv) hK) (by rw [CN];exact hK)
 unfold vB at hK
 by_cases c:l.length<=6
 · rw [decide_eq_true c,Bool.true_and] at hK
   refine aN (hG _ AF.f214 rfl) rfl ?_
   (refine cJ @hc ?_)
   rw [Bool.not_not]
   exact hK
 · rw [decide_eq_false c] at hK
   refine aN (hG _ AF.f214 rfl) rfl ?_
   (refine zr ?_)
   exact hK
theorem mtopo_at {h:aA} (p:aO) (hp:qR p) {K:V->aA->Prop} (hK:K (.b (Au p)) h):aB P 215 [.agg (aJ p)] h K:=by
 have ha:=fun K hK=>mterms_at (K:=K) hG (h:=h) p.cT hp.cT hK
 have he:=fun K hK=>mterms_at (K:=K) hG (h:=h) p.even hp.even hK
 have ht:=fun K hK=>name_at (K:=K) hG (h:=h) p.dV hp.dV hK
 have Ar:(p.cT.map bD).length=p.cT.length:=List.length_map _
 unfold Au at hK
 by_cases c1:0<=p.j9
 case neg=>
  rw [decide_eq_false c1] at hK
  refine aN (hG _ AF.f215 rfl) rfl ?_
  (refine zr ?_)
  exact hK
 rw [decide_eq_true c1,Bool.true_and] at hK
 by_cases c2:p.j9<=10
 case neg=>
  rw [decide_eq_false c2] at hK
  refine aN (hG _ AF.f215 rfl) rfl ?_
  (refine zr ?_)
  exact hK
 rw [decide_eq_true c2,Bool.true_and] at hK
 cases c3:fI p.cT
 · rw [c3] at hK ha
   refine aN (hG _ AF.f215 rfl) rfl ?_
   (refine cJ @ha ?_)
   exact hK
 rw [c3,Bool.true_and] at hK
 rw [c3] at ha
 cases c4:fI p.even
 · rw [c4] at hK he
   refine aN (hG _ AF.f215 rfl) rfl ?_
   (refine iU @ha @he ?_)
   exact hK
 rw [c4,Bool.true_and] at hK
 rw [c4] at he
 cases c5:bK p.dV
 case true=>
  rw [c5] at hK ht
  refine aN (hG _ AF.f215 rfl) rfl ?_
  (refine pU @ha @he @ht ?_)
  exact hK
 rw [c5,Bool.false_or] at hK
 rw [c5] at ht
 by_cases c6:p.dV=[]
 case neg=>
  have e6:(p.dV==[])=false:=by simpa using c6
  rw [decide_eq_false c6] at hK
  refine aN (hG _ AF.f215 rfl) rfl ?_
  (refine O0 @ha @he @ht @e6 ?_)
  exact hK
 have e6:(p.dV==[])=true:=by rw [c6];rfl
 rw [decide_eq_true c6,Bool.true_and] at hK
 by_cases c7:p.cT.length=0
 case neg=>
  rw [decide_eq_false c7] at hK
  refine aN (hG _ AF.f215 rfl) rfl ?_
  (refine Jk @ha @he @ht @e6 (show ¬((p.cT.map bD).length:Int)=0 by omega) ?_)
  exact hK
 rw [decide_eq_true c7,Bool.true_and] at hK
 refine aN (hG _ AF.f215 rfl) rfl ?_
 (refine Jk @ha @he @ht @e6 (show ((p.cT.map bD).length:Int)=0 by omega) ?_)
 exact hK
theorem mpod_at {h:aA} (p:aO) (hp:qR p) {K:V->aA->Prop} (hK:K (.b (j0 p)) h):aB P 115 [.agg (aJ p)] h K:=by
 have hn:=fun K hK=>name_at (K:=K) hG (h:=h) p.name hp.name hK
 have hr:=fun K hK=>qmay_at (K:=K) hG (h:=h) p.gG hK
 have ho:=fun K hK=>oports_at (K:=K) hG (h:=h) p.aX hp.aX hK
 have hb:=fun K hK=>lmay_at (K:=K) hG (h:=h) p.labels hp.labels hp.LG hK
 have hs:=fun K hK=>mterms_at (K:=K) hG (h:=h) p.lR hp.lR hK
 have ht:=fun K hK=>mtols_at (K:=K) hG (h:=h) p.b8 hp.b8 hp.afR hK
 have hx:=fun K hK=>mtopo_at (K:=K) hG (h:=h) p hp hK
 have hd:=fun K hK=>name_at (K:=K) hG (h:=h) p.node hp.node hK
 unfold j0 at hK
 cases c0:bK p.name
 · rw [c0] at hK hn
   refine aN (hG _ AF.f115 rfl) rfl ?_
   (refine cJ @hn ?_)
   exact hK
 rw [c0,Bool.true_and] at hK
 rw [c0] at hn
 by_cases c1:1<=p.uid
 case neg=>
  rw [decide_eq_false c1] at hK
  refine aN (hG _ AF.f115 rfl) rfl ?_
  (refine cJ @hn ?_)
  exact hK
 rw [decide_eq_true c1,Bool.true_and] at hK
 by_cases c2:p.uid<=1099511627776
 case neg=>
  rw [decide_eq_false c2] at hK
  refine aN (hG _ AF.f115 rfl) rfl ?_
  (refine cJ @hn ?_)
  exact hK
 rw [decide_eq_true c2,Bool.true_and] at hK
 by_cases c3:0<=p.prio
 case neg=>
  rw [decide_eq_false c3] at hK
  refine aN (hG _ AF.f115 rfl) rfl ?_
  (refine cJ @hn ?_)
  exact hK
 rw [decide_eq_true c3,Bool.true_and] at hK
 by_cases c4:p.prio<=1000
 case neg=>
  rw [decide_eq_false c4] at hK
  refine aN (hG _ AF.f115 rfl) rfl ?_
  (refine cJ @hn ?_)
  exact hK
 rw [decide_eq_true c4,Bool.true_and] at hK
 cases c5:Bj p.gG
 · rw [c5] at hK hr
   refine aN (hG _ AF.f115 rfl) rfl ?_
   (refine iU @hn @hr ?_)
   exact hK
 rw [c5,Bool.true_and] at hK
 rw [c5] at hr
 cases c6:(mJ none p.aX&&decide (p.aX.length<=6))
 · rw [c6] at hK ho
   refine aN (hG _ AF.f115 rfl) rfl ?_
   (refine pU @hn @hr @ho ?_)
   exact hK
 rw [c6,Bool.true_and] at hK
 rw [c6] at ho
 cases c7:(fB none p.labels&&decide (p.labels.length<=6))
 · rw [c7] at hK hb
   refine aN (hG _ AF.f115 rfl) rfl ?_
   (refine O0 @hn @hr @ho @hb ?_)
   exact hK
 rw [c7,Bool.true_and] at hK
 rw [c7] at hb
 cases c8:fI p.lR
 · rw [c8] at hK hs
   refine aN (hG _ AF.f115 rfl) rfl ?_
   (refine Jk @hn @hr @ho @hb @hs ?_)
   exact hK
 rw [c8,Bool.true_and] at hK
 rw [c8] at hs
 cases c9:vB p.b8
 · rw [c9] at hK ht
   refine aN (hG _ AF.f115 rfl) rfl ?_
   (refine Wk @hn @hr @ho @hb @hs @ht ?_)
   exact hK
 rw [c9,Bool.true_and] at hK
 rw [c9] at ht
 cases Vb:Au p
 · rw [Vb] at hK hx
   refine aN (hG _ AF.f115 rfl) rfl ?_
   (refine Zr @hn @hr @ho @hb @hs @ht @hx ?_)
   exact hK
 rw [Vb,Bool.true_and] at hK
 rw [Vb] at hx
 unfold Gj at hK
 cases XZ:bK p.node
 · rw [XZ] at hK hd
   by_cases d1:0<p.term<;>by_cases d2:p.node=[]<;>by_cases d3:p.term=0
   all_goals
    simp only [d1,d2,d3,decide_true,decide_false,Bool.and_true,Bool.and_false,Bool.or_true,Bool.or_false,Bool.true_or,Bool.false_or,Bool.false_and,Bool.true_and,Bool.and_self,Bool.or_self] at hK
   all_goals
    first
    |(exfalso;omega)
    |(have e2:(p.node==[])=true:=by rw [d2];rfl
      refine aN (hG _ AF.f115 rfl) rfl ?_
      ((conv=>whnf);repeat ((first|refine cA (hn _) ?_|refine cA (hr _) ?_|refine cA (ho _) ?_|refine cA (hb _) ?_|refine cA (hs _) ?_|refine cA (ht _) ?_|refine cA (hx _) ?_|refine cA (hd _) ?_|refine aH.tt e2 ?_|refine zz ?_)<;>(conv=>whnf)))
      first|exact hK|(rw [decide_eq_true d3];exact hK)|(rw [decide_eq_false d3];exact hK)|(rw [decide_eq_true d1];exact hK)|(rw [decide_eq_false d1];exact hK))
    |(have e2:(p.node==[])=false:=by (first|exact beq_false_of_ne d2|fail)
      refine aN (hG _ AF.f115 rfl) rfl ?_
      ((conv=>whnf);repeat ((first|refine cA (hn _) ?_|refine cA (hr _) ?_|refine cA (ho _) ?_|refine cA (hb _) ?_|refine cA (hs _) ?_|refine cA (ht _) ?_|refine cA (hx _) ?_|refine cA (hd _) ?_|refine aH.ff e2 ?_|refine zz ?_)<;>(conv=>whnf)))
      first|exact hK|(rw [decide_eq_true d3];exact hK)|(rw [decide_eq_false d3];exact hK)|(rw [decide_eq_true d1];exact hK)|(rw [decide_eq_false d1];exact hK))
 · rw [XZ] at hK hd
   by_cases d1:0<p.term<;>by_cases d2:p.node=[]<;>by_cases d3:p.term=0
   all_goals
    simp only [d1,d2,d3,decide_true,decide_false,Bool.and_true,Bool.and_false,Bool.or_true,Bool.or_false,Bool.true_or,Bool.false_or,Bool.false_and,Bool.true_and,Bool.and_self,Bool.or_self] at hK
   all_goals
    first
    |(exfalso;omega)
    |(have e2:(p.node==[])=true:=by rw [d2];rfl
      refine aN (hG _ AF.f115 rfl) rfl ?_
      ((conv=>whnf);repeat ((first|refine cA (hn _) ?_|refine cA (hr _) ?_|refine cA (ho _) ?_|refine cA (hb _) ?_|refine cA (hs _) ?_|refine cA (ht _) ?_|refine cA (hx _) ?_|refine cA (hd _) ?_|refine aH.tt e2 ?_|refine zz ?_)<;>(conv=>whnf)))
      first|exact hK|(rw [decide_eq_true d3];exact hK)|(rw [decide_eq_false d3];exact hK)|(rw [decide_eq_true d1];exact hK)|(rw [decide_eq_false d1];exact hK))
    |(have e2:(p.node==[])=false:=by (first|exact beq_false_of_ne d2|fail)
      refine aN (hG _ AF.f115 rfl) rfl ?_
      ((conv=>whnf);repeat ((first|refine cA (hn _) ?_|refine cA (hr _) ?_|refine cA (ho _) ?_|refine cA (hb _) ?_|refine cA (hs _) ?_|refine cA (ht _) ?_|refine cA (hx _) ?_|refine cA (hd _) ?_|refine aH.ff e2 ?_|refine zz ?_)<;>(conv=>whnf)))
      first|exact hK|(rw [decide_eq_true d3];exact hK)|(rw [decide_eq_false d3];exact hK)|(rw [decide_eq_true d1];exact hK)|(rw [decide_eq_false d1];exact hK))
end
open Go
def HP (n:cI):Bool:=bK n.name&&(Bj n.cap&&((fB none n.labels&&decide (n.labels.length<=6))&&(fB none n.eW&&decide (n.eW.length<=6))))
def dQ (n:cI):List Int:=dB 2 1++bQ n.name++pN n.cap++eP n.labels++eP n.eW
structure MW (n:cI):Prop where
 name:n.name.length<=9223372036854775807
 labels:n.labels.length<=9223372036854775807
 LG:∀ q∈n.labels,q.key.length<=9223372036854775807/\q.val.length<=9223372036854775807
 eW:n.eW.length<=9223372036854775807
 WV:∀ q∈n.eW,q.key.length<=9223372036854775807/\q.val.length<=9223372036854775807
section
variable {P:Program} (hG:bN P AF.fns.get)
include hG
theorem Rz {h:aA} (l:List dE) (hl:l.length<=9223372036854775807) (hs:∀ q∈l,q.key.length<=9223372036854775807/\q.val.length<=9223372036854775807) {K:V->aA->Prop} (hK:K (.b (fB none l&&decide (l.length<=6))) h):aB P 210 [.sl none 2 (l.map bJ)] h K:=by
 have iO:(l.map bJ).length=l.length:=List.length_map _
 refine aN (hG _ AF.f210 rfl) rfl ?_
 (refine zr ?_)
 refine bV.by (fun q fr st=>∃ (i:Nat) (lc:aA) (o:Option aU),i<=l.length/\q=l.length - i/\fB none l=fB o (l.drop i)/\((i=0/\o=none)\/(0<i/\∃ y,l[i - 1]? =some y/\o=some y.key))/\
  Fr.le [(7,.i .i64 i),(6,.i .i64 (l.map bJ).length),(5,.sl none 2 (l.map bJ)),(0,.sl none 2 (l.map bJ))] fr/\st=⟨h,lc⟩)
  l.length ⟨0,_,none,Nat.zero_le _,rfl,rfl,.inl ⟨rfl,rfl⟩,dK,rfl⟩ ?_
 rintro q fr st ⟨i,lc,o,hi,rfl,heq,ho,dO,rfl⟩
 refine ⟨_,dO,fun R hR=>?_⟩
 have nY:fB none l=false->K (.b false) h:=fun hf=>by rw [hf] at hK;exact hK
 have a1:∀ o,(lc.push o).get lc.next=some o:=fun o=>aA.aC _ _
 have a2:∀ o o2,((lc.push o).set lc.next o2).get lc.next=some o2:=fun o o2=>aA.aD (a1 o)
 by_cases eB:i<l.length
 · have he:=List.getElem?_eq_getElem eB
   have Nt:=hs _ (List.getElem_mem eB)
   have y6:=List.drop_eq_getElem_cons eB
   generalize l[i]=x at he y6 Nt
   rw [y6,qH] at heq
   have hk:=fun K hK=>name_at (K:=K) hG (h:=h) x.key Nt.1 hK
   have hv:=fun K hK=>name_at (K:=K) hG (h:=h) x.val Nt.2 hK
   cases c1:bK x.key
   · rw [c1] at heq hk
     (refine Jk (show (i:Int)<(l.map bJ).length by omega) @hk @he @a1 @a2 ?_)
     exact nY (by rw [heq];rfl)
   cases c2:bK x.val
   · rw [c1,c2] at heq
     rw [c1] at hk
     rw [c2] at hv
     (refine Wk (show (i:Int)<(l.map bJ).length by omega) @hk @hv @he @a1 @a2 ?_)
     exact nY (by rw [heq];rfl)
   rw [c1,c2] at heq
   rw [c1] at hk
   rw [c2] at hv
   rcases ho with ⟨rfl,rfl⟩|⟨Cs,y,hy,rfl⟩
   · (refine Zr (show ((0:Nat):Int)<(l.map bJ).length by omega) @hk @hv (show ¬((0:Nat):Int)>0 by omega) @he @a1 @a2 ?_)
     exact hR (l.length - (0+1)) _ _ (by omega) ⟨0+1,_,some x.key,by omega,rfl,heq,.inr ⟨by omega,x,he,rfl⟩,dK,rfl⟩
   · cases c3:Op.bytesLess y.key x.key
     · simp only [c3] at heq
       ((conv=>whnf);repeat ((first|refine aH.dt (show (i:Int)<(l.map bJ).length by omega) ?_|refine cA (hk _) ?_|refine cA (hv _) ?_|refine aH.dt (show (i:Int)>0 by omega) ?_|refine aQ.gS (by omega) (by omega) ?_|refine aK.ix (by omega) (by omega) ?_|refine aH.tt (show (!Op.bytesLess y.key x.key)=true by rw [c3];rfl) ?_|refine ye (aG (by omega) he) ?_|refine ye (aG (by omega) hy) ?_|refine ye (a1 _) ?_|refine ye (a2 _ _) ?_|refine zz ?_)<;>(conv=>whnf)))
       exact nY (by rw [heq];rfl)
     · simp only [c3] at heq
       ((conv=>whnf);repeat ((first|refine aH.dt (show (i:Int)<(l.map bJ).length by omega) ?_|refine cA (hk _) ?_|refine cA (hv _) ?_|refine aH.dt (show (i:Int)>0 by omega) ?_|refine aQ.gS (by omega) (by omega) ?_|refine aK.ix (by omega) (by omega) ?_|refine aH.ff (show (!Op.bytesLess y.key x.key)=false by rw [c3];rfl) ?_|refine ye (aG (by omega) he) ?_|refine ye (aG (by omega) hy) ?_|refine ye (a1 _) ?_|refine ye (a2 _ _) ?_|refine zz ?_)<;>(conv=>whnf)))
       exact hR (l.length - (i+1)) _ _ (by omega) ⟨i+1,_,some x.key,by omega,rfl,heq,.inr ⟨by omega,x,he,rfl⟩,dK,rfl⟩
 · obtain rfl:i=l.length:=by omega
   rw [List.drop_length] at heq
   have heq:fB none l=true:=heq
   rw [heq,Bool.true_and] at hK
   have e:decide (((l.map bJ).length:Int)<=6)=decide (l.length<=6):=by
    by_cases c:l.length<=6
    · rw [decide_eq_true c,decide_eq_true (by omega)]
    · rw [decide_eq_false c,decide_eq_false (by omega)]
   (refine cJ (show ¬((l.length:Nat):Int)<(l.map bJ).length by omega) ?_)
   rw [e]
   exact hK
theorem LJ (fD:eD P 285) {h:aA} {lo a:Nat} {m:Bool} {B:List Int} (hw:jI h lo a m B) (hB:B.length<=10000000) (l:List dE) (hl:l.length<=100) {K:V->aA->Prop}
 (hK:∀ h' m',jI h' lo a m' (B++eP l)->aA.aI (fun n=>lo<=n) h h'->K (.bY []) h'):aB P 113 [.p (.g a) 0,.sl none 2 (l.map bJ),.fn 114 [] []] h K:=by
 have iO:(l.map bJ).length=l.length:=List.length_map _
 have Ct:∀ p:dE,(cO p).length=16:=fun p=>by simp [cO,bM]
 have h1:=fun K hK=>wnum_at (K:=K) hG hw (by omega) (l.map bJ).length 1 (by omega) hK
 refine aN (hG _ AF.f113 rfl) rfl ?_
 (refine cJ @h1 ?_)
 intro h2 w2 k2
 rw [iO] at w2
 (refine zr ?_)
 refine bV.by (fun q fr st=>∃ (i:Nat) (hh lc:aA) (m':Bool),i<=l.length/\q=l.length - i/\jI hh lo a m' (B++dB l.length 1++(l.take i).flatMap cO)/\aA.aI (fun n=>lo<=n) h hh/\
  Fr.le [(16,.i .i64 i),(15,.i .i64 (l.map bJ).length),(14,.sl none 2 (l.map bJ)),(2,.fn 114 [] []),(0,.p (.g a) 0)] fr/\st=⟨hh,lc⟩)
  l.length ⟨0,h2,_,m,Nat.zero_le _,rfl,(by simpa using w2),k2,dK,rfl⟩ ?_
 rintro q fr st ⟨i,hh,lc,m',hi,rfl,BP,hk,dO,rfl⟩
 refine ⟨_,dO,fun R hR=>?_⟩
 by_cases eB:i<l.length
 · have he:=List.getElem?_eq_getElem eB
   generalize l[i]=x at he
   have TP:=mH cO he
   have vL:=gQ cO 16 l i fun p _=>Nat.le_of_eq (Ct p)
   have XS:(B++dB l.length 1++(l.take i).flatMap cO).length<=10000000+1+1600:=by
    rw [List.length_append,List.length_append,aR];omega
   have Va:=fun K hK=>wname_at (K:=K) hG fD BP (by omega) x.key hK
   (refine zx5 (show (i:Int)<(l.map bJ).length by omega) (aN (hG _ AF.f114 rfl) rfl) @Va @he @aA.aC ?_)
   intro h3 w3 k3
   have Oi:=fun K hK=>wname_at (K:=K) hG fD w3 (by rw [List.length_append,aR];omega) x.val hK
   (refine cJ @Oi ?_)
   intro h4 w4 k4
   (refine zr ?_)
   exact hR (l.length - (i+1)) _ _ (by omega) ⟨i+1,h4,_,true,by omega,rfl,(by rw [TP,<-List.append_assoc];unfold cO bQ;rw [<-List.append_assoc];exact w4),(hk.trans k3).trans k4,dK,rfl⟩
 · obtain rfl:i=l.length:=by omega
   rw [List.take_length] at BP
   (refine cJ (show ¬((l.length:Nat):Int)<(l.map bJ).length by omega) ?_)
   exact hK hh m' (by unfold eP;rw [<-List.append_assoc];exact BP) hk
theorem mnode_at {h:aA} (n:cI) (hp:MW n) {K:V->aA->Prop} (hK:K (.b (HP n)) h):aB P 108 [.agg (aS n)] h K:=by
 have hn:=fun K hK=>name_at (K:=K) hG (h:=h) n.name hp.name hK
 have hr:=fun K hK=>qmay_at (K:=K) hG (h:=h) n.cap hK
 have hl:=fun K hK=>lmay_at (K:=K) hG (h:=h) n.labels hp.labels hp.LG hK
 have ht:=fun K hK=>Rz (K:=K) hG (h:=h) n.eW hp.eW hp.WV hK
 unfold HP at hK
 refine aN (hG _ AF.f108 rfl) rfl ?_
 cases c0:bK n.name
 · rw [c0] at hK hn
   (refine cJ @hn ?_)
   exact hK
 rw [c0,Bool.true_and] at hK
 rw [c0] at hn
 cases c1:Bj n.cap
 · rw [c1] at hK hr
   (refine iU @hn @hr ?_)
   exact hK
 rw [c1,Bool.true_and] at hK
 rw [c1] at hr
 cases c2:(fB none n.labels&&decide (n.labels.length<=6))
 · rw [c2] at hK hl
   (refine pU @hn @hr @hl ?_)
   exact hK
 rw [c2,Bool.true_and] at hK
 rw [c2] at hl
 (refine O0 @hn @hr @hl @ht ?_)
 exact hK
theorem wputn_at (fD:eD P 285) (n:cI) (hl:n.labels.length<=100) (ht:n.eW.length<=100) (hm:Pure P 108 [.agg (aS n)] (·=.b true)) {h:aA} {K:V->aA->Prop}
 (hK:∀ h',aA.aI (fun _=>False) h h'->K (.sl none 1 ((dQ n).map gH)) h'):aB P 48 [.agg (aS n)] h K:=by
 refine aN (hG _ AF.f48 rfl) rfl ?_
 (refine cJ @hm ?_)
 have w0:jI (h.push (.cs (tv false++[.aV]))) h.next h.next false []:=⟨Nat.le_refl _,Nat.lt_succ_self _,.inl ⟨rfl,aA.aC _ _⟩⟩
 have k0:aA.aI (fun n=>h.next<=n) h (h.push (.cs (tv false++[.aV]))):=.push (.refl _ _) _
 have l0:([]:List Int).length<=0:=Nat.le_refl _
 have c1:=fun K hK=>wnum_at (K:=K) hG w0 (by omega) 2 1 (by omega) hK
 (refine cJ @c1 ?_)
 intro h1 w1 q1
 obtain ⟨B1,e1⟩:∃ X,X=[]++dB 2 1:=⟨_,rfl⟩
 have l1:B1.length<=1:=by rw [e1,List.length_append];rw [aR];omega
 rw [<-e1] at w1
 have k1:=k0.trans q1
 clear c1
 have c2:=fun K hK=>wname_at (K:=K) hG fD w1 (by omega) n.name hK
 (refine cJ @c2 ?_)
 intro h2 w2 q2
 obtain ⟨B2,e2⟩:∃ X,X=B1++bQ n.name:=⟨_,rfl⟩
 have l2:B2.length<=9:=by rw [e2,List.length_append];rw [bM];omega
 change jI _ _ _ _ (_++bQ n.name) at w2;rw [<-e2] at w2
 have k2:=k1.trans q2
 clear c2
 have c3:=fun K hK=>wres_at (K:=K) hG w2 (by omega) n.cap hK
 (refine cJ @c3 ?_)
 intro h3 w3 q3
 obtain ⟨B3,e3⟩:∃ X,X=B2++pN n.cap:=⟨_,rfl⟩
 have l3:B3.length<=21:=by rw [e3,List.length_append];rw [pP];omega
 rw [<-e3] at w3
 have k3:=k2.trans q3
 clear c3
 have c4:=fun K hK=>wpairs_at (K:=K) hG fD w3 (by omega) n.labels hl hK
 (refine cJ @c4 ?_)
 intro h4 m4 w4 q4
 obtain ⟨B4,e4⟩:∃ X,X=B3++eP n.labels:=⟨_,rfl⟩
 have l4:B4.length<=1622:=by rw [e4,List.length_append];have:=nV hl;omega
 rw [<-e4] at w4
 have k4:=k3.trans q4
 clear c4
 have c5:=fun K hK=>LJ (K:=K) hG fD w4 (by omega) n.eW ht hK
 (refine cJ @c5 ?_)
 intro h5 m5 w5 q5
 obtain ⟨B5,e5⟩:∃ X,X=B4++eP n.eW:=⟨_,rfl⟩
 have l5:B5.length<=3223:=by rw [e5,List.length_append];have:=nV ht;omega
 rw [<-e5] at w5
 have k5:=k4.trans q5
 clear c5
 have xY:B5=dQ n:=by
  rw [e5,e4,e3,e2,e1]
  unfold dQ
  simp only [List.nil_append,List.append_assoc]
 have dM:B5≠[]:=by rw [xY];unfold dQ dB;simp
 have cb:=fun K hK=>wbytes_at (K:=K) hG w5 (by omega) dM hK
 (refine cJ @cb ?_)
 rw [xY]
 exact hK _ (k5.mono fun n hn e=>absurd hn (by omega))
end
end Go.Eng
