/-
What may be, by the document: then the program says so too (terms, pods, nodes).
-/
import Derived.Test.YtmfelikepmmjkaaGreatY45
import Derived.Test.YtmfelikepmmjkaaGreatY42
import Derived.Test.YtmfelikepmmjkaaGreatY43
set_option linter.unusedVariables false
set_option linter.unusedSimpArgs false
set_option maxHeartbeats 16000000
namespace Go.Eng
open Go
section
variable {P:Program} (hG:bN P AF.fns.get)
include hG
theorem rtermsB_ok (l:List cM) (hl:bP l) (ho:∀ x∈l,x.ok) (hs:∀ x∈l,x.Af):Pure P 39 [.sl none 3 (l.map bD)] (nH (fI l=true)):=by
 have iO:(l.map bD).length=l.length:=List.length_map _
 unfold bP at hl
 refine aM (hG _ AF.f39 rfl) rfl ?_
 (refine zr ?_)
 refine bC.by (fun q fr st=>∃ i:Nat,i<=l.length/\q=l.length - i/\(∀ x∈l.take i,lM x=true)/\fr=[(9,.i .i64 i),(8,.i .i64 (l.map bD).length),(0,.sl none 3 (l.map bD))]/\st=dG gZ)
  l.length ⟨_,_,?_,0,Nat.zero_le _,rfl,(fun x hx=>by cases hx),rfl,rfl⟩ ?_
 · exact yN
 rintro q fr st ⟨i,hi,rfl,Ar,rfl,rfl⟩ R hR
 (conv=>whnf)
 refine aH.ds (fun cL=>?_) (fun fC=>?_)
 · have cZ:i<l.length:=by omega
   have he:=List.getElem?_eq_getElem cZ
   have hm:=hs _ (List.getElem_mem cZ)
   have hv:l[i].bF.length<=9223372036854775807:=ho _ (List.getElem_mem cZ)
   generalize l[i]=e at he hm hv
   have hvm:(e.bF.map bG).length=e.bF.length:=List.length_map _
   ((conv=>whnf);repeat' ((first|refine cA (Pure.any (rnameB_ok hG e.key hm.1) rfl) ?_|refine ye (aG (by omega) he) ?_|refine zz ?_|refine aH.ds (fun _=>?_) (fun _=>?_)|refine aH.ns (fun _=>?_) (fun _=>?_)|refine aH.mk (fun _=>?_) (fun _=>?_)|(intro r hr;cases r))<;>(conv=>whnf)))
   all_goals try exact aE rfl ⟨false,rfl,fun h=>by cases h⟩
   all_goals
    have kV:bK e.key=true:=(by assumption:true=true->bK e.key=true) rfl
    have aaH:(if e.kind=1\/e.kind=2 then decide (1<=e.bF.length)&&decide (e.bF.length<=6) else decide (e.kind=3\/e.kind=4)&&decide (e.bF.length=0))=true:=by
     split
     · simp only [Bool.and_eq_true,decide_eq_true_eq];omega
     · simp only [Bool.and_eq_true,decide_eq_true_eq];omega
    refine bC.by (fun q fr st=>∃ j:Nat,j<=e.bF.length/\q=e.bF.length - j/\(∀ v∈e.bF.take j,bK v=true)/\fr=[(58,.i .i64 j),(57,.i .i64 (e.bF.map bG).length),(4,.p (.l 0) 0),(9,.i .i64 i),(8,.i .i64 (l.map bD).length),(0,.sl none 3 (l.map bD))]/\st=⟨gZ,⟨1,[(0,.cs (bD e))]⟩⟩)
     e.bF.length ⟨_,_,?_,0,Nat.zero_le _,rfl,(fun x hx=>by cases hx),rfl,rfl⟩ ?_
    · exact tL [0]
    rintro q fr st ⟨j,hj,rfl,H3,rfl,rfl⟩ R2 Rm
    (conv=>whnf)
    refine aH.ds (fun NN=>?_) (fun Z4=>?_)
    · have Kb:j<e.bF.length:=by omega
      have hf:=List.getElem?_eq_getElem Kb
      have Ur:=hm.2 _ (List.getElem_mem Kb)
      generalize e.bF[j]=f at hf Ur
      ((conv=>whnf);repeat' ((first|refine cA (Pure.any (rnameB_ok hG f Ur) rfl) ?_|refine ye (aG (by omega) hf) ?_|refine zz ?_|refine aH.ds (fun _=>?_) (fun _=>?_)|refine aH.ns (fun _=>?_) (fun _=>?_)|refine aH.mk (fun _=>?_) (fun _=>?_)|(intro r hr;cases r))<;>(conv=>whnf)))
      all_goals first
       |exact aE rfl ⟨false,rfl,fun h=>by cases h⟩
       |(refine Rm (e.bF.length - (j+1)) _ _ (by omega) ⟨_,_,?_,j+1,by omega,rfl,jF H3 hf ((by assumption:true=true->bK f=true) rfl),rfl,rfl⟩;exact tL [0])
    · obtain rfl:j=e.bF.length:=by omega
      rw [List.take_length] at H3
      have WD:e.bF.all bK=true:=List.all_eq_true.2 H3
      (refine zr ?_)
      refine hR (l.length - (i+1)) _ _ (by omega) ⟨_,_,?_,i+1,by omega,rfl,jF Ar he (by unfold lM;rw [aaH,kV,WD];rfl),rfl,rfl⟩
      exact yN
 · obtain rfl:i=l.length:=by omega
   rw [List.take_length] at Ar
   have eV:l.all lM=true:=List.all_eq_true.2 Ar
   ((conv=>whnf);repeat' ((first|refine zz ?_|refine aH.ds (fun _=>?_) (fun _=>?_)|refine aH.ns (fun _=>?_) (fun _=>?_)|refine aH.mk (fun _=>?_) (fun _=>?_)|(intro r hr;cases r))<;>(conv=>whnf)))
   all_goals exact aE rfl ⟨_,rfl,fun h=>by first|(cases h;done)|(unfold fI;rw [eV];simp at h ⊢;omega)⟩
theorem rnodeB_ok (n:cI) (hn:n.ok) (hs:n.Af):Pure P 34 [.agg (aS n)] (nH (HP n=true)):=by
 have k1:=(rmay_ok hG n.cap).imp fun u h=>h.imp M3
 refine aM (hG _ AF.f34 rfl) rfl ?_
 ((conv=>whnf);repeat' ((first|refine cA (Pure.any (rnameB_ok hG n.name hs.name) rfl) ?_|refine cA (Pure.any k1 rfl) ?_|refine cA (Pure.any (rpairsB_ok hG _ hn.labels hs.labels) rfl) ?_|refine cA (Pure.any (rtaintsB_ok hG _ hn.eW hs.eW) rfl) ?_|refine zz ?_|refine aH.ds (fun _=>?_) (fun _=>?_)|refine aH.ns (fun _=>?_) (fun _=>?_)|refine aH.mk (fun _=>?_) (fun _=>?_)|(intro r hr;cases r))<;>(conv=>whnf)))
 all_goals first
  |exact aE rfl ⟨false,rfl,fun h=>by cases h⟩
  |exact aE rfl ⟨_,rfl,fun h=>by first|(cases h;done)|(unfold HP;simp_all)⟩
theorem rpodB_ok (p:aO) (hp:p.ok) (hs:p.Af):Pure P 7 [.agg (aJ p)] (nH (j0 p=true)):=by
 have iO:(p.aX.map fV).length=p.aX.length:=List.length_map _
 have hl:=hp.aX
 unfold bP at hl
 have Zu:(p.cT.map bD).length=p.cT.length:=List.length_map _
 have k1:=(rmay_ok hG p.gG).imp fun u h=>h.imp M3
 refine aM (hG _ AF.f7 rfl) rfl ?_
 (refine zr ?_)
 refine bC.by (fun q fr st=>∃ i:Nat,i<=p.aX.length/\q=p.aX.length - i/\(∀ x∈p.aX.take i,1<=x/\x<=65535)/\HS p.aX i/\fr=[(7,.i .i64 i),(6,.i .i64 (p.aX.map fV).length),(1,.p (.l 0) 0)]/\st=⟨gZ,⟨1,[(0,.cs (aJ p))]⟩⟩)
  p.aX.length ⟨_,_,?_,0,Nat.zero_le _,rfl,(fun x hx=>by cases hx),(fun j y x hj=>by omega),rfl,rfl⟩ ?_
 · exact tL [0]
 rintro q fr st ⟨i,hi,rfl,Ar,Sx,rfl,rfl⟩ R hR
 (conv=>whnf)
 refine aH.ds (fun cL=>?_) (fun fC=>?_)
 · have cZ:i<p.aX.length:=by omega
   have he:=List.getElem?_eq_getElem cZ
   generalize p.aX[i]=e at he
   rcases Nat.eq_zero_or_pos i with h0|h0
   · ((conv=>whnf);repeat' ((first|refine ye (aG (by omega) he) ?_|refine zz ?_|refine aH.ds (fun _=>?_) (fun _=>?_)|refine aH.ns (fun _=>?_) (fun _=>?_)|refine aH.mk (fun _=>?_) (fun _=>?_)|(intro r hr;cases r))<;>(conv=>whnf)))
     all_goals first
      |exact aE rfl ⟨false,rfl,fun h=>by cases h⟩
      |(refine hR (p.aX.length - (i+1)) _ _ (by omega) ⟨_,_,?_,i+1,by omega,rfl,jF Ar he (by omega),(fun j y x hj=>by omega),rfl,rfl⟩;exact tL [0])
   · have L8:i - 1<p.aX.length:=by omega
     have hf:=List.getElem?_eq_getElem L8
     generalize p.aX[i - 1]=f at hf
     ((conv=>whnf);repeat' ((first|refine ye (aG (by omega) he) ?_|refine ye (aG (by omega) hf) ?_|refine zz ?_|refine aH.ds (fun _=>?_) (fun _=>?_)|refine aH.ns (fun _=>?_) (fun _=>?_)|refine aH.mk (fun _=>?_) (fun _=>?_)|(intro r hr;cases r))<;>(conv=>whnf)))
     all_goals first
      |exact aE rfl ⟨false,rfl,fun h=>by cases h⟩
      |(refine hR (p.aX.length - (i+1)) _ _ (by omega) ⟨_,_,?_,i+1,by omega,rfl,jF Ar he (by omega),LP Sx hf he (by omega),rfl,rfl⟩;exact tL [0])
 · obtain rfl:i=p.aX.length:=by omega
   rw [List.take_length] at Ar
   have W1:mJ none p.aX=true:=Gp Ar (fun y x h=>by cases h) fun j y x hy hx=>Sx j y x (List.getElem?_eq_some_iff.1 hx).1 hy hx
   ((conv=>whnf);repeat' ((first|refine cA (Pure.any (rnameB_ok hG p.name hs.name) rfl) ?_|refine cA (Pure.any (rnameB_ok hG p.dV hs.dV) rfl) ?_|refine cA (Pure.any (rnameB_ok hG p.node hs.node) rfl) ?_|refine cA (Pure.any k1 rfl) ?_|refine cA (Pure.any (rpairsB_ok hG _ hp.labels hs.labels) rfl) ?_|refine cA (Pure.any (rtermsB_ok hG p.lR hp.lR.len hp.lR.each hs.lR) rfl) ?_|refine cA (Pure.any (rtermsB_ok hG p.cT hp.cT.len hp.cT.each hs.cT) rfl) ?_|refine cA (Pure.any (rtermsB_ok hG p.even hp.even.len hp.even.each hs.even) rfl) ?_|refine cA (Pure.any (rtolsB_ok hG p.b8 hp.b8 hs.b8) rfl) ?_|refine zz ?_|refine aH.ds (fun _=>?_) (fun _=>?_)|refine aH.ns (fun _=>?_) (fun _=>?_)|refine aH.mk (fun _=>?_) (fun _=>?_)|(intro r hr;cases r))<;>(conv=>whnf)))
   all_goals first
    |exact aE rfl ⟨false,rfl,fun h=>by cases h⟩
    |exact aE rfl ⟨_,rfl,fun h=>by
      have q1:bK p.name=true:=(by assumption:true=true->bK p.name=true) rfl
      have q2:Bj p.gG=true:=(by assumption:true=true->Bj p.gG=true) rfl
      have q3:(fB none p.labels&&decide (p.labels.length<=6))=true:=(by assumption:true=true->(fB none p.labels&&decide (p.labels.length<=6))=true) rfl
      have q4:fI p.lR=true:=(by assumption:true=true->fI p.lR=true) rfl
      have q5:fI p.cT=true:=(by assumption:true=true->fI p.cT=true) rfl
      have q6:fI p.even=true:=(by assumption:true=true->fI p.even=true) rfl
      have q7:vB p.b8=true:=(by assumption:true=true->vB p.b8=true) rfl
      unfold j0 Au Gj
      rw [q1,q2,q3,q4,q5,q6,q7,W1]
      first|(simp_all;done)|(simp_all;omega)⟩
end
end Go.Eng
