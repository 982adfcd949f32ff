/-
The other nodes: domains, who keeps apart, how many there are.
-/
import Derived.Test.YtmfelikepmmjkaaGreatY24
import Derived.Test.YtmfelikepmmjkaaGreatY09
set_option linter.unusedVariables false
set_option linter.unusedSimpArgs false
set_option maxHeartbeats 4000000
set_option maxRecDepth 10000
namespace Go.Eng
open Go
def eZ (s:eG) (key node:aU):aU×Bool:=
 match s.nodes.find? (fun n=>n.name==node) with
 |some n=>getD n.labels key
 |none=>([],false)
def MF (s:eG) (key a b:aU):Bool:=(eZ s key a).2&&((eZ s key b).2&&(eZ s key a).1==(eZ s key b).1)
def HD (s:eG) (p q:aO) (a b:aU):Bool:=!p.cT.isEmpty&&((p.cT.all fun t=>mG t q.labels)&&MF s p.dV a b)
def Tw (s:eG) (p:aO) (node:aU) (q:aO):Bool:=!(q.name==p.name||q.node==[])&&(HD s p q q.node node||HD s q p q.node node)
def HE (s:eG) (p:aO) (node:aU):Bool:=!(!p.cT.isEmpty&&!(eZ s p.dV node).2)&&!s.aF.any (Tw s p node)
def DY (s:eG) (key val:aU) (ts:List cM) (q:aO):Bool:=!(q.node==[]||!(ts.all fun t=>mG t q.labels))&&((eZ s key q.node).2&&(eZ s key q.node).1==val)
def uU (s:eG) (key val:aU) (ts:List cM):Nat:=(s.aF.filter (DY s key val ts)).length
section
variable {P:Program} (hG:bN P AF.fns.get)
include hG
theorem domain_ok (s:eG) (key node:aU) (hs:s.ok):Pure P 100 [lT s,.s key,.s node] (·=.bY [.s (eZ s key node).1,.b (eZ s key node).2]):=by
 have iO:(s.nodes.map aS).length=s.nodes.length:=List.length_map _
 have hl:=hs.nodes
 unfold bP at hl
 refine aM (hG _ AF.f100 rfl) rfl ?_
 (refine zr ?_)
 refine bC.by (fun q fr st=>∃ i:Nat,i<=s.nodes.length/\q=s.nodes.length - i/\cS (fun n=>n.name==node) s.nodes i/\
  fr=[(13,.i .i64 i),(12,.i .i64 (s.nodes.map aS).length),(11,.sl none 6 (s.nodes.map aS)),(2,.s node),(1,.s key)]/\st=dG gZ)
  s.nodes.length ⟨_,_,?_,0,Nat.zero_le _,rfl,cS.zero,rfl,rfl⟩ ?_
 · exact yN
 rintro q fr st ⟨i,hi,rfl,dZ,rfl,rfl⟩ R hR
 (conv=>whnf)
 refine aH.ds (fun cL=>?_) (fun fC=>?_)
 · have cZ:i<s.nodes.length:=by omega
   have he:=List.getElem?_eq_getElem cZ
   have hm:=List.getElem_mem cZ
   generalize s.nodes[i]=e at he hm
   (refine cJ @he ?_)
   refine aH.mk (fun hp=>?_) (fun hp=>?_)
   · (refine cJ (get_ok hG e.labels key (hs.node e hm).labels) ?_)
     refine aE rfl ?_
     simp only [eZ,nZ he hp dZ]
   · (refine zr ?_)
     refine hR (s.nodes.length - (i+1)) _ _ (by omega) ⟨_,_,?_,i+1,by omega,rfl,dZ.succ he hp,rfl,rfl⟩
     exact yN
 · (refine zr ?_)
   refine aE rfl ?_
   simp only [eZ,oC (dZ.all (by omega))]
theorem same_ok (s:eG) (key a b:aU) (hs:s.ok):Pure P 33 [lT s,.s key,.s a,.s b] (·=.b (MF s key a b)):=by
 refine aM (hG _ AF.f33 rfl) rfl ?_
 have h1:=domain_ok hG s key a hs
 have h2:=domain_ok hG s key b hs
 simp only [MF]
 generalize eZ s key a=x at h1
 generalize eZ s key b=y at h2
 obtain ⟨x1,x2⟩:=x
 obtain ⟨y1,y2⟩:=y
 cases x2<;>cases y2
 all_goals (refine iU @h1 @h2 ?_)
 all_goals exact aE rfl rfl
theorem keeps_ok (s:eG) (p q:aO) (a b:aU) (hs:s.ok) (hp:p.ok) (hq:q.ok):Pure P 199 [lT s,.agg (aJ p),.agg (aJ q),.s a,.s b] (·=.b (HD s p q a b)):=by
 refine aM (hG _ AF.f199 rfl) rfl ?_
 have hm:=match_ok hG p.cT q.labels hp.cT.each hp.cT.len hq.labels
 have j6:=same_ok hG s p.dV a b hs
 have iO:(p.cT.map bD).length=p.cT.length:=List.length_map _
 simp only [HD]
 generalize (p.cT.all fun t=>mG t q.labels)=m at hm
 generalize MF s p.dV a b=x at j6
 (refine zr ?_)
 refine aH.ds (fun h1=>?_) (fun h1=>?_)
 · have:p.cT.isEmpty=false:=by cases ha:p.cT with
    |nil=>simp [ha] at h1
    |cons _ _=>rfl
   rw [this]
   cases m
   all_goals (refine iU @hm @j6 ?_)
   all_goals exact aE rfl rfl
 · have:p.cT.isEmpty=true:=by cases ha:p.cT with
    |nil=>rfl
    |cons _ _=>simp [ha] at h1
   rw [this]
   (refine zr ?_)
   exact aE rfl rfl
theorem apart_ok (s:eG) (p:aO) (node:aU) (hs:s.ok) (hp:p.ok):Pure P 95 [lT s,.agg (aJ p),.s node] (·=.b (HE s p node)):=by
 have iO:(s.aF.map aJ).length=s.aF.length:=List.length_map _
 have Zu:(p.cT.map bD).length=p.cT.length:=List.length_map _
 have hl:=hs.aF
 unfold bP at hl
 have hd:=domain_ok hG s p.dV node hs
 have aeK:p.cT.isEmpty=!decide (0<(((p.cT.map bD).length:Nat):Int)):=by
  cases p.cT<;>simp
 refine aM (hG _ AF.f95 rfl) rfl ?_
 obtain ⟨x,hx⟩:∃ x,x=eZ s p.dV node:=⟨_,rfl⟩
 rw [<-hx] at hd
 obtain ⟨x1,x2⟩:=x
 have Ch:(eZ s p.dV node).2=x2:=by rw [<-hx]
 simp only [HE,Ch]
 (refine cJ @hd ?_)
 refine aH.ds (fun h1=>?_) (fun h1=>?_)
 all_goals cases x2
 all_goals (refine zr ?_)
 · refine aE rfl ?_
   rw [aeK,decide_eq_true h1]
   rfl
 all_goals
  refine bC.by (fun q fr st=>∃ i:Nat,i<=s.aF.length/\q=s.aF.length - i/\cS (Tw s p node) s.aF i/\
   fr=[(30,.i .i64 i),(29,.i .i64 (s.aF.map aJ).length),(28,.sl none 16 (s.aF.map aJ)),(4,.p (.l 1) 0),(3,.p (.l 0) 0),(2,.s node)]/\st=⟨gZ,⟨2,[(1,.cs (aJ p)),(0,.cs [.sl none 6 (s.nodes.map aS),.sl none 16 (s.aF.map aJ)])]⟩⟩)
   s.aF.length ⟨_,_,?_,0,Nat.zero_le _,rfl,cS.zero,rfl,rfl⟩ ?_
  · exact tL [0,1]
  rintro q fr st ⟨i,hi,rfl,dZ,rfl,rfl⟩ R hR
  (conv=>whnf)
  refine aH.ds (fun cL=>?_) (fun fC=>?_)
  · have cZ:i<s.aF.length:=by omega
    have he:=List.getElem?_eq_getElem cZ
    have hm:=List.getElem_mem cZ
    generalize s.aF[i]=e at he hm
    have XM:=(hs.uT e hm).DV
    have k1:=keeps_ok hG s p e e.node node hs hp XM
    have k2:=keeps_ok hG s e p e.node node hs XM hp
    ((conv=>whnf);repeat' ((first|refine cA (Pure.go k1 rfl) ?_|refine cA (Pure.go k2 rfl) ?_|refine ye (aG (by simp) he) ?_|refine zz ?_|refine aH.ds (fun _=>?_) (fun _=>?_)|refine aH.ns (fun _=>?_) (fun _=>?_)|refine aH.mk (fun _=>?_) (fun _=>?_)|(intro r hr;cases r))<;>(conv=>whnf)))
    all_goals first
     |(refine hR (s.aF.length - (i+1)) _ _ (by omega) ⟨_,_,?_,i+1,by omega,rfl,dZ.succ he (by (simp_all [Tw];done)),rfl,rfl⟩;exact tL [0,1])
     |(refine aE rfl ?_;rw [any_some he (by (simp_all [Tw];done))];simp)
  · (refine zr ?_)
    refine aE rfl ?_
    rw [any_none (dZ.all (by omega))]
    first
     |(simp;done)
     |(have Dh:p.cT=[]:=by
        cases hq:p.cT with
        |nil=>rfl
        |cons _ _=>exfalso;simp [hq] at h1
       simp [Dh])
theorem count_ok (s:eG) (key val:aU) (ts:List cM) (hs:s.ok) (ht:CJ ts):Pure P 200 [lT s,.s key,.s val,.sl none 3 (ts.map bD)] (·=.i .i64 (uU s key val ts)):=by
 have iO:(s.aF.map aJ).length=s.aF.length:=List.length_map _
 have hl:=hs.aF
 unfold bP at hl
 refine aM (hG _ AF.f200 rfl) rfl ?_
 (refine zr ?_)
 refine bC.by (fun q fr st=>∃ i n:Nat,i<=s.aF.length/\q=s.aF.length - i/\n=((s.aF.take i).filter (DY s key val ts)).length/\
  fr=[(17,.i .i64 i),(16,.i .i64 (s.aF.map aJ).length),(15,.sl none 16 (s.aF.map aJ)),(9,.i .i64 n),(4,.p (.l 0) 0),(3,.sl none 3 (ts.map bD)),(2,.s val),(1,.s key)]/\st=⟨gZ,⟨1,[(0,.cs [.sl none 6 (s.nodes.map aS),.sl none 16 (s.aF.map aJ)])]⟩⟩)
  s.aF.length ⟨_,_,?_,0,0,Nat.zero_le _,rfl,rfl,rfl,rfl⟩ ?_
 · exact tL [0]
 rintro q fr st ⟨i,n,hi,rfl,hn,rfl,rfl⟩ R hR
 have hni:n<=i:=by
  rw [hn]
  exact Nat.le_trans (List.length_filter_le _ _) (List.length_take_le _ _)
 (conv=>whnf)
 refine aH.ds (fun cL=>?_) (fun fC=>?_)
 · have cZ:i<s.aF.length:=by omega
   have he:=List.getElem?_eq_getElem cZ
   have hm:=List.getElem_mem cZ
   generalize s.aF[i]=e at he hm
   have XM:=(hs.uT e hm).DV
   have mW:((s.aF.take (i+1)).filter (DY s key val ts)).length=n+(if DY s key val ts e then 1 else 0):=by
    rw [cG he,List.filter_append,List.length_append,<-hn]
    by_cases h:DY s key val ts e=true<;>simp [h]
   have Kk:=match_ok hG ts e.labels ht.each ht.len XM.labels
   have XN:=domain_ok hG s key e.node hs
   obtain ⟨c,hc⟩:∃ c,c=DY s key val ts e:=⟨_,rfl⟩
   rw [<-hc] at mW
   simp only [DY] at hc
   generalize (ts.all fun t=>mG t e.labels)=m at Kk hc
   generalize eZ s key e.node=x at XN hc
   obtain ⟨x1,x2⟩:=x
   cases c<;>cases m<;>cases x2
   all_goals ((conv=>whnf);repeat' ((first|refine cA (Pure.go Kk rfl) ?_|refine cA (Pure.go XN rfl) ?_|refine ye (aG (by simp) he) ?_|refine zz ?_|refine aH.ds (fun _=>?_) (fun _=>?_)|refine aH.ns (fun _=>?_) (fun _=>?_)|refine aH.mk (fun _=>?_) (fun _=>?_)|(intro r hr;cases r))<;>(conv=>whnf)))
   all_goals try (exfalso;revert hc;simp_all;done)
   all_goals first
    |(refine hR (s.aF.length - (i+1)) _ _ (by omega) ⟨_,_,?_,i+1,n+0,by omega,rfl,mW.symm,rfl,rfl⟩;exact tL [0];done)
    |(refine hR (s.aF.length - (i+1)) _ _ (by omega) ⟨_,_,?_,i+1,n+1,by omega,rfl,mW.symm,rfl,rfl⟩;exact tL [0];done)
 · (refine zr ?_)
   refine aE rfl ?_
   rw [hn,List.take_of_length_le (by omega)]
   rfl
end
open Go
def wA (s:eG) (p:aO):eG:={ s with aF:=s.aF.filter fun q=>!(q.name==p.name) }
def qQ (o:eG) (p:aO) (here:Int):List cI->Int
 |[]=>here
 |n::r=>qQ o p (if (getD n.labels p.dV).2 then mZ here (uU o p.dV (getD n.labels p.dV).1 p.even) else here) r
def MG (s:eG) (p:aO) (node:aU):Bool:=
 if p.j9<=0 then true else
 if (eZ s p.dV node).2 then
  decide ((uU (wA s p) p.dV (eZ s p.dV node).1 p.even:Int)+(if (p.even.all fun t=>mG t p.labels) then 1 else 0) - qQ (wA s p) p (uU (wA s p) p.dV (eZ s p.dV node).1 p.even) s.nodes<=p.j9)
 else false
theorem eG.ok.others {s:eG} (h:s.ok) (p:aO):(wA s p).ok:=by
 have hl:(wA s p).aF.length<=s.aF.length:=List.length_filter_le _ _
 refine ⟨h.nodes,Nat.le_trans hl h.aF,h.node,fun q hq=>h.uT q (List.mem_filter.1 hq).1,Nat.le_trans (Nat.mul_le_mul_right _ hl) h.some⟩
section
variable {P:Program} (hG:bN P AF.fns.get)
include hG
theorem even_ok (s:eG) (p:aO) (node:aU) (hs:s.ok) (hp:p.ok):Pure P 96 [lT s,.agg (aJ p),.s node] (·=.b (MG s p node)):=by
 have iO:(s.aF.map aJ).length=s.aF.length:=List.length_map _
 have Zu:(s.nodes.map aS).length=s.nodes.length:=List.length_map _
 have hl:=hs.aF
 have XD:=hs.nodes
 have y5:=hs.some
 unfold bP at hl XD
 have hd:=domain_ok hG s p.dV node hs
 refine aM (hG _ AF.f96 rfl) rfl ?_
 simp only [MG]
 generalize eZ s p.dV node=x at hd
 obtain ⟨x1,x2⟩:=x
 (refine zr ?_)
 refine aH.ds (fun h1=>?_) (fun h1=>?_)
 · (refine zr ?_)
   refine aE rfl ?_
   rw [if_pos h1]
 rw [if_neg h1]
 cases x2
 · (refine cJ @hd ?_)
   exact aE rfl rfl
 rw [if_pos rfl]
 (refine cJ @hd ?_)
 refine bC.by (fun q fr st=>∃ (i:Nat) (b:Bool) (es:List aO),i<=s.aF.length/\q=s.aF.length - i/\es=(s.aF.take i).filter (fun q=>!(q.name==p.name))/\(b=false->es=[])/\
  fr=[(37,.i .i64 i),(36,.i .i64 (s.aF.map aJ).length),(35,.sl none 16 (s.aF.map aJ)),(9,.p (.l 2) 0),(7,.s x1),(4,.p (.l 1) 0),(3,.p (.l 0) 0)]/\
  st=QY b 3 [(2,.cs [.sl none 6 (s.nodes.map aS),QX b 3 16 (es.map aJ)]),(1,.cs (aJ p)),(0,.cs [.sl none 6 (s.nodes.map aS),.sl none 16 (s.aF.map aJ)])])
  s.aF.length ⟨_,_,?_,0,false,[],Nat.zero_le _,rfl,rfl,fun _=>rfl,rfl,rfl⟩ ?_
 · exact tL [0,1,2]
 rintro q fr st ⟨i,b,es,hi,rfl,nR,hb,rfl,rfl⟩ R hR
 have DW:es.length<=i:=by
  rw [nR]
  exact Nat.le_trans (List.length_filter_le _ _) (List.length_take_le _ _)
 (conv=>whnf)
 refine aH.ds (fun cL=>?_) (fun fC=>?_)
 · have cZ:i<s.aF.length:=by omega
   have he:=List.getElem?_eq_getElem cZ
   generalize s.aF[i]=e at he
   have mW:(s.aF.take (i+1)).filter (fun q=>!(q.name==p.name))=es++(if (!(e.name==p.name))=true then [e] else []):=by
    rw [cG he,List.filter_append,<-nR]
    by_cases h:(!(e.name==p.name))=true<;>simp [h]
   cases b
   · obtain rfl:es=[]:=hb rfl
     (refine cJ @he ?_)
     refine aH.mk (fun hc=>?_) (fun hc=>?_)
     all_goals rw [hc] at mW
     · (refine zr ?_)
       refine hR (s.aF.length - (i+1)) _ _ (by omega) ⟨_,_,?_,i+1,true,[]++[e],by omega,rfl,mW.symm,(fun h=>by cases h),rfl,rfl⟩
       exact tL [0,1,2,5]
     · (refine zr ?_)
       refine hR (s.aF.length - (i+1)) _ _ (by omega) ⟨_,_,?_,i+1,false,[],by omega,rfl,mW.symm,fun _=>rfl,rfl,rfl⟩
       exact tL [0,1,2]
   · (refine cJ @he ?_)
     refine aH.mk (fun hc=>?_) (fun hc=>?_)
     all_goals rw [hc] at mW
     · ((conv=>whnf);repeat ((first|refine ye (x:=(es++[e]).map aJ) (by rw [List.map_append];rfl) ?_|refine aK.mk (by simp [bR];omega) ?_|refine zz ?_)<;>(conv=>whnf)))
       refine hR (s.aF.length - (i+1)) _ _ (by omega) ⟨_,_,?_,i+1,true,es++[e],by omega,rfl,mW.symm,(fun h=>by cases h),rfl,rfl⟩
       exact tL [0,1,2,6]
     · (refine zr ?_)
       refine hR (s.aF.length - (i+1)) _ _ (by omega) ⟨_,_,?_,i+1,true,es++[],by omega,rfl,mW.symm,(fun h=>by cases h),rfl,rfl⟩
       rw [List.append_nil]
       exact tL [0,1,2,3]
 · obtain ⟨o,ho⟩:∃ o,o=wA s p:=⟨_,rfl⟩
   have YN:es=o.aF:=by
    rw [nR,List.take_of_length_le (by omega),ho]
    rfl
   have fD:o.nodes=s.nodes:=by rw [ho];rfl
   have dZ:=ho▸hs.others p
   have nC:∀ v,uU o p.dV v p.even<=s.aF.length:=fun v=>by
    refine Nat.le_trans (List.length_filter_le _ _) ?_
    rw [ho]
    exact List.length_filter_le _ _
   rw [<-ho]
   have Mb:=count_ok hG o p.dV x1 p.even dZ hp.even
   have hcx:=nC x1
   generalize uU o p.dV x1 p.even=here at Mb hcx
   have Kk:=match_ok hG p.even p.labels hp.even.each hp.even.len hp.labels
   rw [lT,<-YN,fD] at Mb
   cases b
   · obtain rfl:es=[]:=hb rfl
     (refine cJ @Mb ?_)
     refine bC.by (fun q fr st=>∃ (i:Nat) (m:Int),i<=s.nodes.length/\q=s.nodes.length - i/\0<=m/\m<=here/\qQ o p here s.nodes=qQ o p m (s.nodes.drop i)/\
      fr=[(64,.i .i64 i),(63,.i .i64 (s.nodes.map aS).length),(62,.sl none 6 (s.nodes.map aS)),(13,.i .i64 m),(12,.i .i64 here),(9,.p (.l 1) 0),(4,.p (.l 0) 0)]/\
      st=⟨gZ,⟨2,[(1,.cs [.sl none 6 (s.nodes.map aS),.sl none 16 (List.map aJ ([]:List aO))]),(0,.cs (aJ p))]⟩⟩)
      s.nodes.length ⟨_,_,?_,0,here,Nat.zero_le _,rfl,by omega,Int.le_refl _,rfl,rfl,rfl⟩ ?_
     · exact tL [1,2]
     rintro q fr st ⟨i,m,hi,rfl,VA,OR,DZ,rfl,rfl⟩ R hR
     (conv=>whnf)
     refine aH.ds (fun cL=>?_) (fun fC=>?_)
     · have cZ:i<s.nodes.length:=by omega
       have he:=List.getElem?_eq_getElem cZ
       have IP:=List.getElem_mem cZ
       rw [List.drop_eq_getElem_cons cZ] at DZ
       generalize s.nodes[i]=e at he DZ IP
       have hg:=get_ok hG e.labels p.dV (hs.node e IP).labels
       rw [qQ] at DZ
       generalize getD e.labels p.dV=g at hg DZ
       obtain ⟨g1,g2⟩:=g
       cases g2
       · (refine iU @hg @he ?_)
         refine hR (s.nodes.length - (i+1)) _ _ (by omega) ⟨_,_,?_,i+1,m,by omega,rfl,VA,OR,DZ,rfl,rfl⟩
         exact tL [0,1]
       · have OW:=count_ok hG o p.dV g1 p.even dZ hp.even
         have hcy:=nC g1
         rw [if_pos rfl] at DZ
         dsimp only at DZ
         generalize uU o p.dV g1 p.even=c at OW hcy DZ
         rw [lT,<-YN,fD] at OW
         have hmi:mZ m c<=m/\0<=mZ m c:=by unfold mZ;split<;>omega
         ((conv=>whnf);repeat ((first|refine cA (Pure.go hg rfl) ?_|refine cA (Pure.go OW rfl) ?_|refine aZ.of (UY (z:=mZ m c) rfl) ?_|refine ye (aG (by simp) he) ?_|refine zz ?_)<;>(conv=>whnf)))
         refine hR (s.nodes.length - (i+1)) _ _ (by omega) ⟨_,_,?_,i+1,mZ m c,by omega,rfl,hmi.2,by omega,DZ,rfl,rfl⟩
         exact tL [0,1]
     · rw [List.drop_eq_nil_of_le (by omega),qQ] at DZ
       rw [DZ]
       generalize (p.even.all fun t=>mG t p.labels)=mt at Kk
       cases mt
       all_goals (refine cJ @Kk ?_)
       · exact aE rfl (by simp)
       · exact aE rfl (by simp)
   · (refine cJ @Mb ?_)
     refine bC.by (fun q fr st=>∃ (i:Nat) (m:Int),i<=s.nodes.length/\q=s.nodes.length - i/\0<=m/\m<=here/\qQ o p here s.nodes=qQ o p m (s.nodes.drop i)/\
      fr=[(64,.i .i64 i),(63,.i .i64 (s.nodes.map aS).length),(62,.sl none 6 (s.nodes.map aS)),(13,.i .i64 m),(12,.i .i64 here),(9,.p (.l 1) 0),(4,.p (.l 0) 0)]/\
      st=⟨gZ,⟨2,[(1,.cs [.sl none 6 (s.nodes.map aS),.sl none 16 (List.map aJ es)]),(0,.cs (aJ p))]⟩⟩)
      s.nodes.length ⟨_,_,?_,0,here,Nat.zero_le _,rfl,by omega,Int.le_refl _,rfl,rfl,rfl⟩ ?_
     · exact tL [1,2]
     rintro q fr st ⟨i,m,hi,rfl,VA,OR,DZ,rfl,rfl⟩ R hR
     (conv=>whnf)
     refine aH.ds (fun cL=>?_) (fun fC=>?_)
     · have cZ:i<s.nodes.length:=by omega
       have he:=List.getElem?_eq_getElem cZ
       have IP:=List.getElem_mem cZ
       rw [List.drop_eq_getElem_cons cZ] at DZ
       generalize s.nodes[i]=e at he DZ IP
       have hg:=get_ok hG e.labels p.dV (hs.node e IP).labels
       rw [qQ] at DZ
       generalize getD e.labels p.dV=g at hg DZ
       obtain ⟨g1,g2⟩:=g
       cases g2
       · (refine iU @hg @he ?_)
         refine hR (s.nodes.length - (i+1)) _ _ (by omega) ⟨_,_,?_,i+1,m,by omega,rfl,VA,OR,DZ,rfl,rfl⟩
         exact tL [0,1]
       · have OW:=count_ok hG o p.dV g1 p.even dZ hp.even
         have hcy:=nC g1
         rw [if_pos rfl] at DZ
         dsimp only at DZ
         generalize uU o p.dV g1 p.even=c at OW hcy DZ
         rw [lT,<-YN,fD] at OW
         have hmi:mZ m c<=m/\0<=mZ m c:=by unfold mZ;split<;>omega
         ((conv=>whnf);repeat ((first|refine cA (Pure.go hg rfl) ?_|refine cA (Pure.go OW rfl) ?_|refine aZ.of (UY (z:=mZ m c) rfl) ?_|refine ye (aG (by simp) he) ?_|refine zz ?_)<;>(conv=>whnf)))
         refine hR (s.nodes.length - (i+1)) _ _ (by omega) ⟨_,_,?_,i+1,mZ m c,by omega,rfl,hmi.2,by omega,DZ,rfl,rfl⟩
         exact tL [0,1]
     · rw [List.drop_eq_nil_of_le (by omega),qQ] at DZ
       rw [DZ]
       generalize (p.even.all fun t=>mG t p.labels)=mt at Kk
       cases mt
       all_goals (refine cJ @Kk ?_)
       · exact aE rfl (by simp)
       · exact aE rfl (by simp)
end
end Go.Eng
