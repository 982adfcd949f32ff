/-
May it be: a node by its name, all that is asked.
-/
import Derived.Test.YtmfelikepmmjkaaGreatY24
import Derived.Test.YtmfelikepmmjkaaGreatY30
import Derived.Test.YtmfelikepmmjkaaGreatY31
import Derived.Test.YtmfelikepmmjkaaGreatY32
import Derived.Test.YtmfelikepmmjkaaGreatY22
import Derived.Test.YtmfelikepmmjkaaGreatY09
set_option linter.unusedVariables false
set_option linter.unusedSimpArgs false
set_option maxHeartbeats 4000000
set_option maxRecDepth 10000
namespace Go.Eng
open Go
def Q4 (s:eG) (p:aO) (n:cI) (node:aU):Bool:=p.node==[]&&(Jn s p n&&(DX s p n&&(Lq p n&&(Lr p n&&(HE s p node&&MG s p node)))))
def hY (s:eG) (p:aO) (node:aU):Bool:=
 match s.nodes.find? (fun n=>n.name==node) with
 |some n=>Q4 s p n node
 |none=>false
theorem six (a b c d e:Bool):a=false\/(a=true/\b=false)\/(a=true/\b=true/\c=false)\/(a=true/\b=true/\c=true/\d=false)\/(a=true/\b=true/\c=true/\d=true/\e=false)\/(a=true/\b=true/\c=true/\d=true/\e=true):=by
 cases a<;>cases b<;>cases c<;>cases d<;>cases e<;>simp
section
variable {P:Program} (hG:bN P AF.fns.get)
include hG
theorem getnode_ok (s:eG) (name:aU) (hl:bP s.nodes) (hs:Small s):Pure P 70 [lT s,.s name] (·=U0 (s.nodes.find? fun p=>p.name==name)):=by
 have iO:(s.nodes.map aS).length=s.nodes.length:=List.length_map _
 unfold bP at hl
 refine aM (hG _ AF.f70 rfl) rfl ?_
 (refine zr ?_)
 refine bC.by (fun q fr st=>∃ i:Nat,i<=s.nodes.length/\q=s.nodes.length - i/\cS (fun p=>p.name==name) s.nodes i/\
  fr=[(11,.i .i64 i),(10,.i .i64 (s.nodes.map aS).length),(9,.sl none 6 (s.nodes.map aS)),(4,.p (.l 0) 0),(1,.s name)]/\st=⟨gZ,⟨1,[(0,.cs (aS Jq))]⟩⟩)
  s.nodes.length ⟨_,_,?_,0,Nat.zero_le _,rfl,cS.zero,rfl,rfl⟩ ?_
 · exact tL [1]
 rintro q fr st ⟨i,hi,rfl,dZ,rfl,rfl⟩ R hR
 (conv=>whnf)
 refine aH.ds (fun cL=>?_) (fun fC=>?_)
 · have cZ:i<s.nodes.length:=by omega
   have he:=List.getElem?_eq_getElem cZ
   have hm:=List.getElem_mem cZ
   generalize s.nodes[i]=e at he hm
   have hc:=copyNode_ok hG e (hs e hm).1 (hs e hm).2
   (refine cJ @he ?_)
   refine aH.mk (fun hp=>?_) (fun hp=>?_)
   · (refine cJ @hc ?_)
     rw [nZ he hp dZ]
     exact aE rfl rfl
   · (refine zr ?_)
     refine hR (s.nodes.length - (i+1)) _ _ (by omega) ⟨_,_,?_,i+1,by omega,rfl,dZ.succ he hp,rfl,rfl⟩
     exact tL [0]
 · (refine zr ?_)
   rw [oC (dZ.all (by omega))]
   exact rJ (ds:=aS Jq) yM rfl rfl
theorem feas_ok (s:eG) (p:aO) (node:aU) (hs:s.ok) (hp:p.fit) (y5:Small s):Pure P 31 [lT s,.agg (aJ p),.s node] (·=.b (hY s p node)):=by
 have hg:=getnode_ok hG s node hs.nodes y5
 refine aM (hG _ AF.f31 rfl) rfl ?_
 simp only [hY]
 cases hf:s.nodes.find? (fun n=>n.name==node) with
 |none=>
  rw [hf] at hg
  (refine cJ @hg ?_)
  exact aE rfl rfl
 |some n=>
  rw [hf] at hg
  have hn:=hs.node n (List.mem_of_find?_eq_some hf)
  have a1:=room_ok hG s p n hs hp.gG
  have a2:=ports_ok hG s p n hs hp.aX
  have a3:=wants_ok hG p n hp.DV hn
  have a4:=borne_ok hG p n hp.DV hn
  have a5:=apart_ok hG s p node hs hp.DV
  have a6:=even_ok hG s p node hs hp.DV
  simp only [Q4]
  generalize Jn s p n=b1 at a1
  generalize DX s p n=b2 at a2
  generalize Lq p n=b3 at a3
  generalize Lr p n=b4 at a4
  generalize HE s p node=b5 at a5
  generalize MG s p node=b6 at a6
  cases U1:(p.node==[])
  · have Ws:(!(p.node==[]))=true:=by rw [U1];rfl
    (refine iU @hg @Ws ?_)
    exact aE rfl rfl
  · have Ws:(!(p.node==[]))=false:=by rw [U1];rfl
    rcases six b1 b2 b3 b4 b5 with rfl|⟨rfl,rfl⟩|⟨rfl,rfl,rfl⟩|⟨rfl,rfl,rfl,rfl⟩|⟨rfl,rfl,rfl,rfl,rfl⟩|⟨rfl,rfl,rfl,rfl,rfl⟩
    all_goals (refine QP @hg @Ws @a1 @a2 @a3 @a4 @a5 @a6 ?_)
    all_goals exact aE rfl rfl
end
open Go
def iG (s:eG) (p:aO):List aU:=(s.nodes.filter fun n=>hY s p n.name).map (·.name)
abbrev qC (P:Program):Prop:=∀ (a b:aU) (h:aA) (K:V->aA->Prop),K (.i .i64 (mF a b)) h->aB P 144 [.s a,.s b] h K
section
variable {P:Program} (hG:bN P AF.fns.get)
include hG
theorem compare_ok (kJ:qC P) (a b:aU):Pure P 61 [.s a,.s b] (·=.i .i64 (mF a b)):=by
 refine aM (hG _ AF.f61 rfl) rfl ?_
 (refine cJ @kJ ?_)
 exact aE rfl rfl
end
open Go
section
variable {P:Program} (hG:bN P AF.fns.get)
include hG
theorem isort_ok (kJ:qC P) (es:List aU) (hl:es.length<=6) (hs:es.Pairwise cC):
 Pure P 246 [.sl none 1 (es.map bG),.i .i64 0,.i .i64 es.length,.fn 61 [] []] (·=.bY []):=by
 have iO:(es.map bG).length=es.length:=List.length_map _
 refine aM (hG _ AF.f246 rfl) rfl ?_
 (refine zr ?_)
 refine bC.by (fun q fr st=>∃ i:Nat,1<=i/\i<=es.length+1/\q=es.length+1 - i/\
  fr=[(8,.i .i64 i),(3,.fn 61 [] []),(2,.i .i64 es.length),(1,.i .i64 0),(0,.sl none 1 (es.map bG))]/\st=dG gZ)
  es.length ⟨_,_,?_,1,by omega,by omega,by omega,rfl,rfl⟩ ?_
 · exact yN
 rintro q fr st ⟨i,hi1,hi,rfl,rfl,rfl⟩ R hR
 (conv=>whnf)
 refine aH.ds (fun cL=>?_) (fun fC=>?_)
 · have cZ:i<es.length:=by omega
   have Kb:i - 1<es.length:=by omega
   have he:=List.getElem?_eq_getElem cZ
   have hf:=List.getElem?_eq_getElem Kb
   generalize es[i]=e at he
   generalize es[i - 1]=f at hf
   have pR:=lG (Ag hs (by omega:i - 1<i) hf he)
   have hc:=compare_ok hG kJ e f
   generalize mF e f=c at pR hc
   ((conv=>whnf);repeat ((first|refine cA (Pure.go hc rfl) ?_|refine ye (aG (by omega) he) ?_|refine ye (aG (by omega) hf) ?_|refine zz ?_|refine bC.un rfl ?_)<;>(conv=>whnf)))
   refine hR (es.length+1 - (i+1)) _ _ (by omega) ⟨_,_,?_,i+1,by omega,by omega,rfl,rfl,rfl⟩
   exact yN
 · (refine zr ?_)
   exact aE rfl rfl
theorem pdq_ok (kJ:qC P) (es:List aU) (hl:es.length<=6) (hs:es.Pairwise cC) (m:Int):
 Pure P 156 [.sl none 1 (es.map bG),.i .i64 0,.i .i64 es.length,.i .i64 m,.fn 61 [] []] (·=.bY []):=by
 have hc:=isort_ok hG kJ es hl hs
 refine aM (hG _ AF.f156 rfl) rfl ?_
 have h0:((es.length:Nat):Int) - 0=es.length:=Int.sub_zero _
 ((conv=>whnf);repeat ((first|refine cA (Pure.go hc rfl) ?_|refine zz ?_|refine bC.un rfl ?_)<;>(conv=>whnf)))
 exact aE rfl rfl
theorem blen_ok (n:Nat) (h:n<=6):∃ r,Pure P 143 [.i .u64 n] (·=.i .i64 r):=by
 have:n=0\/n=1\/n=2\/n=3\/n=4\/n=5\/n=6:=by omega
 rcases this with rfl|rfl|rfl|rfl|rfl|rfl|rfl
 · refine ⟨0,aM (hG _ AF.f143 rfl) rfl ?_⟩
   ((conv=>whnf);repeat ((first|refine cA (jU (hG _ _ rfl) rfl) ?_|refine aQ.gS (by decide) (by decide) ?_|refine aQ.of (by decide) (by decide) ?_|refine zz ?_|refine bC.un rfl ?_)<;>(conv=>whnf)))
   refine aE ?_ ?_<;>rfl
 · refine ⟨1,aM (hG _ AF.f143 rfl) rfl ?_⟩
   ((conv=>whnf);repeat ((first|refine cA (jU (hG _ _ rfl) rfl) ?_|refine aQ.gS (by decide) (by decide) ?_|refine aQ.of (by decide) (by decide) ?_|refine zz ?_|refine bC.un rfl ?_)<;>(conv=>whnf)))
   refine aE ?_ ?_<;>rfl
 · refine ⟨2,aM (hG _ AF.f143 rfl) rfl ?_⟩
   ((conv=>whnf);repeat ((first|refine cA (jU (hG _ _ rfl) rfl) ?_|refine aQ.gS (by decide) (by decide) ?_|refine aQ.of (by decide) (by decide) ?_|refine zz ?_|refine bC.un rfl ?_)<;>(conv=>whnf)))
   refine aE ?_ ?_<;>rfl
 · refine ⟨2,aM (hG _ AF.f143 rfl) rfl ?_⟩
   ((conv=>whnf);repeat ((first|refine cA (jU (hG _ _ rfl) rfl) ?_|refine aQ.gS (by decide) (by decide) ?_|refine aQ.of (by decide) (by decide) ?_|refine zz ?_|refine bC.un rfl ?_)<;>(conv=>whnf)))
   refine aE ?_ ?_<;>rfl
 · refine ⟨3,aM (hG _ AF.f143 rfl) rfl ?_⟩
   ((conv=>whnf);repeat ((first|refine cA (jU (hG _ _ rfl) rfl) ?_|refine aQ.gS (by decide) (by decide) ?_|refine aQ.of (by decide) (by decide) ?_|refine zz ?_|refine bC.un rfl ?_)<;>(conv=>whnf)))
   refine aE ?_ ?_<;>rfl
 · refine ⟨3,aM (hG _ AF.f143 rfl) rfl ?_⟩
   ((conv=>whnf);repeat ((first|refine cA (jU (hG _ _ rfl) rfl) ?_|refine aQ.gS (by decide) (by decide) ?_|refine aQ.of (by decide) (by decide) ?_|refine zz ?_|refine bC.un rfl ?_)<;>(conv=>whnf)))
   refine aE ?_ ?_<;>rfl
 · refine ⟨3,aM (hG _ AF.f143 rfl) rfl ?_⟩
   ((conv=>whnf);repeat ((first|refine cA (jU (hG _ _ rfl) rfl) ?_|refine aQ.gS (by decide) (by decide) ?_|refine aQ.of (by decide) (by decide) ?_|refine zz ?_|refine bC.un rfl ?_)<;>(conv=>whnf)))
   refine aE ?_ ?_<;>rfl
theorem sortf_ok (kJ:qC P) (es:List aU) (hl:es.length<=6) (hs:es.Pairwise cC):
 Pure P 81 [.sl none 1 (es.map bG),.fn 61 [] []] (·=.bY []):=by
 obtain ⟨r,hr⟩:=blen_ok hG es.length hl
 have hc:=pdq_ok hG kJ es hl hs r
 have iO:(es.map bG).length=es.length:=List.length_map _
 rw [<-iO] at hr hc
 refine aM (hG _ AF.f81 rfl) rfl ?_
 (refine XL @hr @hc ?_)
 exact aE rfl rfl
theorem where_ok (kJ:qC P) (s:eG) (p:aO) (hs:s.ok) (hp:p.fit) (y5:Small s) (h6:s.nodes.length<=6)
 (U3:s.nodes.Pairwise fun a b=>cC a.name b.name):Pure P 89 [lT s,.agg (aJ p)] (·=.sl none 1 ((iG s p).map bG)):=by
 have iO:(s.nodes.map aS).length=s.nodes.length:=List.length_map _
 obtain ⟨f,hf⟩:∃ f:cI->Bool,f=fun n=>hY s p n.name:=⟨_,rfl⟩
 refine aM (hG _ AF.f89 rfl) rfl ?_
 (refine zr ?_)
 refine bC.by (fun q fr st=>∃ (i:Nat) (b:Bool) (es:List aU),i<=s.nodes.length/\q=s.nodes.length - i/\es=((s.nodes.take i).filter f).map (·.name)/\(b=false->es=[])/\
  fr=[(11,.i .i64 i),(10,.i .i64 (s.nodes.map aS).length),(9,.sl none 6 (s.nodes.map aS)),(5,QX b 2 1 (es.map bG)),(3,.p (.l 1) 0),(2,.p (.l 0) 0)]/\
  st=QY b 2 [(1,.cs (aJ p)),(0,.cs [.sl none 6 (s.nodes.map aS),.sl none 16 (s.aF.map aJ)])])
  s.nodes.length ⟨_,_,?_,0,false,[],Nat.zero_le _,rfl,rfl,fun _=>rfl,rfl,rfl⟩ ?_
 · exact tL [0,1]
 rintro q fr st ⟨i,b,es,hi,rfl,nR,hb,rfl,rfl⟩ R hR
 have DW:es.length<=i:=by
  rw [nR,List.length_map]
  exact Nat.le_trans (List.length_filter_le _ _) (List.length_take_le _ _)
 (conv=>whnf)
 refine aH.ds (fun cL=>?_) (fun fC=>?_)
 · have cZ:i<s.nodes.length:=by omega
   have he:=List.getElem?_eq_getElem cZ
   generalize s.nodes[i]=e at he
   have h1:f e=true->es++[e.name]=((s.nodes.take (i+1)).filter f).map (·.name):=fun h=>by
    rw [cG he,List.filter_append,List.map_append,<-nR]
    simp [h]
   have h0:f e=false->es=((s.nodes.take (i+1)).filter f).map (·.name):=fun h=>by
    rw [cG he,List.filter_append,List.map_append,<-nR]
    simp [h]
   have hint:es.map bG++[bG e.name]=(es++[e.name]).map bG:=by rw [List.map_append];rfl
   have hc:=feas_ok hG s p e.name hs hp y5
   have pR:f e=hY s p e.name:=by rw [hf]
   rw [<-pR] at hc
   generalize f e=c at hc h1 h0
   cases c<;>cases b
   · obtain rfl:es=[]:=hb rfl
     (refine iU @hc @he ?_)
     refine hR (s.nodes.length - (i+1)) _ _ (by omega) ⟨_,_,?_,i+1,false,[],by omega,rfl,h0 rfl,fun _=>rfl,rfl,rfl⟩
     exact tL [0,1]
   · (refine iU @hc @he ?_)
     refine hR (s.nodes.length - (i+1)) _ _ (by omega) ⟨_,_,?_,i+1,true,es,by omega,rfl,h0 rfl,(fun h=>by cases h),rfl,rfl⟩
     exact tL [0,1,2]
   · obtain rfl:es=[]:=hb rfl
     (refine iU @hc @he ?_)
     refine hR (s.nodes.length - (i+1)) _ _ (by omega) ⟨_,_,?_,i+1,true,[]++[e.name],by omega,rfl,h1 rfl,(fun h=>by cases h),rfl,rfl⟩
     exact tL [0,1,4]
   · (refine zx3 @hc (congrArg some hint) @he ?_)
     refine hR (s.nodes.length - (i+1)) _ _ (by omega) ⟨_,_,?_,i+1,true,es++[e.name],by omega,rfl,h1 rfl,(fun h=>by cases h),rfl,rfl⟩
     exact tL [0,1,5]
 · have eV:es=iG s p:=by
    rw [nR,List.take_of_length_le (by omega),hf]
    rfl
   have ae5:es.Pairwise cC:=by
    rw [eV,iG]
    exact List.pairwise_map.2 (U3.filter _)
   have hc:=sortf_ok hG kJ es (by omega) ae5
   rw [<-eV]
   cases b
   · obtain rfl:es=[]:=hb rfl
     (refine cJ @hc ?_)
     exact pure_nil rfl
   · (refine cJ @hc ?_)
     exact hM rfl
end
end Go.Eng
