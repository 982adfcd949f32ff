/-
Who is on a node.
-/
import Derived.Test.YtmfelikepmmjkaaGreatY24
set_option linter.unusedVariables false
set_option linter.unusedSimpArgs false
set_option maxHeartbeats 4000000
set_option maxRecDepth 10000
namespace Go.Eng
open Go
section
variable {P:Program} (hG:bN P AF.fns.get)
include hG
theorem on_ok (s:eG) (node:aU) (hs:s.ok) (hr:∀ q∈s.aF,iP q):Pure P 69 [lT s,.s node] (·=.sl none 16 ((HC s node).map aJ)):=by
 have iO:(s.aF.map aJ).length=s.aF.length:=List.length_map _
 have hl:=hs.aF
 have y5:=hs.some
 unfold bP at hl
 obtain ⟨f,hf⟩:∃ f:aO->Bool,f=fun p=>p.node==node&&!(node==[]):=⟨_,rfl⟩
 refine aM (hG _ AF.f69 rfl) rfl ?_
 (refine zr ?_)
 refine bC.by (fun q fr st=>∃ (i:Nat) (b:Bool) (es:List aO) (n:Nat),i<=s.aF.length/\q=s.aF.length - i/\es=(s.aF.take i).filter f/\(b=false->es=[])/\n=es.length/\
  fr=[(11,.i .i64 i),(10,.i .i64 (s.aF.map aJ).length),(9,.sl none 16 (s.aF.map aJ)),(5,Wo b 16 n),(1,.s node)]/\st=⟨Wp b 16 (es.map aJ),Ia⟩)
  s.aF.length ⟨_,_,?_,0,false,[],0,Nat.zero_le _,rfl,rfl,fun _=>rfl,rfl,rfl,rfl⟩ ?_
 · exact yN
 rintro q fr st ⟨i,b,es,n,hi,rfl,nR,hb,hn,rfl,rfl⟩ R hR
 have DW:es.length<=i:=by
  rw [nR]
  exact Nat.le_trans (List.length_filter_le _ _) (List.length_take_le _ _)
 have BA:(es.map aJ).length=es.length:=List.length_map _
 (conv=>whnf)
 refine aH.ds (fun cL=>?_) (fun fC=>?_)
 · have cZ:i<s.aF.length:=by omega
   have he:=List.getElem?_eq_getElem cZ
   have QZ:=hr _ (List.getElem_mem cZ)
   generalize s.aF[i]=e at he QZ
   have hc:=copyPod_ok hG e QZ
   have h1:f e=true->es++[e]=(s.aF.take (i+1)).filter f:=fun h=>by
    rw [cG he,List.filter_append,<-nR]
    simp [h]
   have h0:f e=false->es=(s.aF.take (i+1)).filter f:=fun h=>by
    rw [cG he,List.filter_append,<-nR]
    simp [h]
   cases b
   · obtain rfl:es=[]:=hb rfl
     ((conv=>whnf);repeat' ((first|refine cA (Pure.go hc rfl) ?_|refine ye (aG (by omega) he) ?_|refine zz ?_|refine aH.ds (fun _=>?_) (fun _=>?_)|refine aH.ns (fun _=>?_) (fun _=>?_)|refine aH.mk (fun _=>?_) (fun _=>?_)|(intro r hr;cases r))<;>(conv=>whnf)))
     · have pR:f e=true:=by rw [hf];simp_all
       refine hR (s.aF.length - (i+1)) _ _ (by omega) ⟨_,_,?_,i+1,true,[]++[e],1,by omega,rfl,h1 pR,(fun h=>by cases h),rfl,rfl,rfl⟩
       exact tG [1] []
     all_goals
      have pR:f e=false:=by rw [hf];simp_all
      refine hR (s.aF.length - (i+1)) _ _ (by omega) ⟨_,_,?_,i+1,false,[],0,by omega,rfl,h0 pR,(fun _=>rfl),rfl,rfl,rfl⟩
      exact yN
   · ((conv=>whnf);repeat' ((first|refine cA (Pure.go hc rfl) ?_|refine aK.mk (by simp [bR];omega) ?_|refine aH.df (by simp only [List.length_cons,List.length_nil,List.length_map];omega) ?_|refine ye (aG (by omega) he) ?_|refine zz ?_|refine aH.ds (fun _=>?_) (fun _=>?_)|refine aH.ns (fun _=>?_) (fun _=>?_)|refine aH.mk (fun _=>?_) (fun _=>?_)|(intro r hr;cases r))<;>(conv=>whnf)))
     · have pR:f e=true:=by rw [hf];simp_all
       refine hR (s.aF.length - (i+1)) _ _ (by omega) ⟨_,_,?_,i+1,true,es++[e],n+1,by omega,rfl,h1 pR,(fun h=>by cases h),by simp [hn],rfl,rfl⟩
       exact tG [2] []
     all_goals
      have pR:f e=false:=by rw [hf];simp_all
      refine hR (s.aF.length - (i+1)) _ _ (by omega) ⟨_,_,?_,i+1,true,es,n,by omega,rfl,h0 pR,(fun h=>by cases h),hn,rfl,rfl⟩
      exact tG [0] []
 · have eV:es=HC s node:=by
    rw [nR,List.take_of_length_le (by omega),hf]
    rfl
   rw [<-eV]
   cases b
   · obtain rfl:es=[]:=hb rfl
     (refine zr ?_)
     exact pure_nil rfl
   · (refine zr ?_)
     exact sM rfl (fP (fun _=>rfl) es) (by omega) (by rw [List.drop_zero,List.take_of_length_le (by omega)])
end
end Go.Eng
