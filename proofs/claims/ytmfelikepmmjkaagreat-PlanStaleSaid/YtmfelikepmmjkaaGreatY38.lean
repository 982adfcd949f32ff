/-
A pod by its name.
-/
import Derived.Test.YtmfelikepmmjkaaGreatY24
import Derived.Test.YtmfelikepmmjkaaGreatY32
set_option linter.unusedVariables false
set_option linter.unusedSimpArgs false
set_option maxHeartbeats 4000000
set_option maxRecDepth 10000
namespace Go.Eng
open Go
section
variable {P:Program} (hG:bN P AF.fns.get)
include hG
theorem statePod_ok (s:eG) (name:aU) (hl:bP s.aF) (hs:∀ q∈s.aF,iP q):Pure P 217 [lT s,.s name] (·=Tx (s.aF.find? fun p=>p.name==name)):=by
 have iO:(s.aF.map aJ).length=s.aF.length:=List.length_map _
 unfold bP at hl
 refine aM (hG _ AF.f217 rfl) rfl ?_
 (refine zr ?_)
 refine bC.by (fun q fr st=>∃ i:Nat,i<=s.aF.length/\q=s.aF.length - i/\cS (fun p=>p.name==name) s.aF i/\
  fr=[(11,.i .i64 i),(10,.i .i64 (s.aF.map aJ).length),(9,.sl none 16 (s.aF.map aJ)),(4,.p (.l 0) 0),(1,.s name)]/\st=⟨gZ,⟨1,[(0,.cs (aJ Jp))]⟩⟩)
  s.aF.length ⟨_,_,?_,0,Nat.zero_le _,rfl,cS.zero,rfl,rfl⟩ ?_
 · exact tL [1]
 rintro q fr st ⟨i,hi,rfl,dZ,rfl,rfl⟩ R hR
 (conv=>whnf)
 refine aH.ds (fun cL=>?_) (fun fC=>?_)
 · have cZ:i<s.aF.length:=by omega
   have he:=List.getElem?_eq_getElem cZ
   have hm:=List.getElem_mem cZ
   generalize s.aF[i]=e at he hm
   have hc:=copyPod_ok hG e (hs e hm)
   (refine cJ @he ?_)
   refine aH.mk (fun hp=>?_) (fun hp=>?_)
   · (refine cJ @hc ?_)
     rw [nZ he hp dZ]
     exact aE rfl rfl
   · (refine zr ?_)
     refine hR (s.aF.length - (i+1)) _ _ (by omega) ⟨_,_,?_,i+1,by omega,rfl,dZ.succ he hp,rfl,rfl⟩
     exact tL [0]
 · (refine zr ?_)
   rw [oC (dZ.all (by omega))]
   exact rJ (ds:=aJ Jp) yM rfl rfl
end
end Go.Eng
