/-
What is told of lengths.
-/
import Derived.Test.YtmfelikepmmjkaaGreatY24
import Derived.Test.YtmfelikepmmjkaaGreatY22
set_option linter.unusedVariables false
set_option linter.unusedSimpArgs false
set_option maxHeartbeats 4000000
set_option maxRecDepth 10000
namespace Go.Eng
open Go
def nH (φ:Prop) (u:V):Prop:=∃ r:Bool,u=.b r/\(r=true->φ)
theorem Pure.any {P:Program} {f:Nat} {args:List V} {φ:Prop} (h0:Pure P f args (nH φ)) (ha:args.all V.pB=true) {h:aA} {K:V->aA->Prop} (hK:∀ r:Bool,(r=true->φ)->K (.b r) h):aB P f args h K:=
 h0.use (DQ ha) fun _ _ ⟨r,hu,hr⟩=>hu▸hK r hr
def dE.Af (p:dE):Prop:=bP p.key/\bP p.val
def cM.Af (t:cM):Prop:=bP t.key/\∀ v∈t.bF,bP v
def j8.Af (t:j8):Prop:=bP t.key/\bP t.val
structure aO.Af (p:aO):Prop where
 name:bP p.name
 dV:bP p.dV
 node:bP p.node
 labels:∀ x∈p.labels,x.Af
 lR:∀ x∈p.lR,x.Af
 b8:∀ x∈p.b8,x.Af
 cT:∀ x∈p.cT,x.Af
 even:∀ x∈p.even,x.Af
structure cI.Af (n:cI):Prop where
 name:bP n.name
 labels:∀ x∈n.labels,x.Af
 eW:∀ x∈n.eW,x.Af
open Go
structure Bd (r:hU):Prop where
 a:0<=r.a/\r.a<=1000000000
 b:0<=r.b/\r.b<=1000000000
 c:0<=r.c/\r.c<=1000000000
section
variable {P:Program} (hG:bN P AF.fns.get)
include hG
theorem rmay_ok (r:hU):Pure P 37 [Lp r] (nH (Bd r)):=by
 refine aM (hG _ AF.f37 rfl) rfl ?_
 ((conv=>whnf);repeat' ((first|refine zz ?_|refine bC.un rfl ?_|refine aH.ds (fun _=>?_) (fun _=>?_)|refine aH.ns (fun _=>?_) (fun _=>?_)|refine aH.mk (fun _=>?_) (fun _=>?_)|(intro r hr;cases r))<;>(conv=>whnf)))
 all_goals exact aE rfl ⟨_,rfl,fun h=>by first|(cases h;done)|exact ⟨by omega,by omega,by omega⟩⟩
end
open Go
structure Ah (l:List cM):Prop where
 len:l.length<=6
 each:∀ t∈l,t.bF.length<=6
structure HF (p:aO):Prop where
 aX:p.aX.length<=6
 labels:p.labels.length<=6
 lR:Ah p.lR
 b8:p.b8.length<=6
 cT:Ah p.cT
 even:Ah p.even
 gG:Bd p.gG
open Go
section
variable {P:Program} (hG:bN P AF.fns.get)
include hG
def Jo:aU:=[78,79,78,69]
end
open Go
def Jp:aO:=⟨[],0,0,⟨0,0,0⟩,[],[],[],[],[],[],0,[],[],0⟩
def Jq:cI:=⟨[],⟨0,0,0⟩,[],[]⟩
def Tx (o:Option aO):V:=
 match o with
 |some p=>.bY [.agg (aJ p),.b true]
 |none=>.bY [.agg (aJ Jp),.b false]
def U0 (o:Option cI):V:=
 match o with
 |some n=>.bY [.agg (aS n),.b true]
 |none=>.bY [.agg (aS Jq),.b false]
section
variable {P:Program} (hG:bN P AF.fns.get)
include hG
theorem rgetpod_ok (s:eG) (name:aU) (hl:bP s.aF):Pure P 18 [lT s,.s name] (·=Tx (s.aF.find? fun p=>p.name==name)):=by
 have iO:(s.aF.map aJ).length=s.aF.length:=List.length_map _
 unfold bP at hl
 refine aM (hG _ AF.f18 rfl) rfl ?_
 (refine zr ?_)
 refine bC.by (fun q fr st=>∃ i:Nat,i<=s.aF.length/\q=s.aF.length - i/\cS (fun p=>p.name==name) s.aF i/\
  fr=[(10,.i .i64 i),(9,.i .i64 (s.aF.map aJ).length),(4,.p (.l 1) 0),(2,.p (.l 0) 0),(1,.s name)]/\st=⟨gZ,⟨2,[(1,.cs (aJ Jp)),(0,.cs [.sl none 6 (s.nodes.map aS),.sl none 16 (s.aF.map aJ)])]⟩⟩)
  s.aF.length ⟨_,_,?_,0,Nat.zero_le _,rfl,cS.zero,rfl,rfl⟩ ?_
 · exact tL [0,1]
 rintro q fr st ⟨i,hi,rfl,dZ,rfl,rfl⟩ R hR
 (conv=>whnf)
 refine aH.ds (fun cL=>?_) (fun fC=>?_)
 · have cZ:i<s.aF.length:=by omega
   have he:=List.getElem?_eq_getElem cZ
   generalize s.aF[i]=e at he
   (refine cJ @he ?_)
   refine aH.mk (fun hp=>?_) (fun hp=>?_)
   · (refine cJ @he ?_)
     rw [nZ he hp dZ]
     exact aE rfl rfl
   · (refine zr ?_)
     refine hR (s.aF.length - (i+1)) _ _ (by omega) ⟨_,_,?_,i+1,by omega,rfl,dZ.succ he hp,rfl,rfl⟩
     exact tL [0,1]
 · (refine zr ?_)
   rw [oC (dZ.all (by omega))]
   exact rJ (ds:=aJ Jp) yM rfl rfl
theorem rgetnode_ok (s:eG) (name:aU) (hl:bP s.nodes):Pure P 35 [lT s,.s name] (·=U0 (s.nodes.find? fun p=>p.name==name)):=by
 have iO:(s.nodes.map aS).length=s.nodes.length:=List.length_map _
 unfold bP at hl
 refine aM (hG _ AF.f35 rfl) rfl ?_
 (refine zr ?_)
 refine bC.by (fun q fr st=>∃ i:Nat,i<=s.nodes.length/\q=s.nodes.length - i/\cS (fun p=>p.name==name) s.nodes i/\
  fr=[(10,.i .i64 i),(9,.i .i64 (s.nodes.map aS).length),(4,.p (.l 1) 0),(2,.p (.l 0) 0),(1,.s name)]/\st=⟨gZ,⟨2,[(1,.cs (aS Jq)),(0,.cs [.sl none 6 (s.nodes.map aS),.sl none 16 (s.aF.map aJ)])]⟩⟩)
  s.nodes.length ⟨_,_,?_,0,Nat.zero_le _,rfl,cS.zero,rfl,rfl⟩ ?_
 · exact tL [0,1]
 rintro q fr st ⟨i,hi,rfl,dZ,rfl,rfl⟩ R hR
 (conv=>whnf)
 refine aH.ds (fun cL=>?_) (fun fC=>?_)
 · have cZ:i<s.nodes.length:=by omega
   have he:=List.getElem?_eq_getElem cZ
   generalize s.nodes[i]=e at he
   (refine cJ @he ?_)
   refine aH.mk (fun hp=>?_) (fun hp=>?_)
   · (refine cJ @he ?_)
     rw [nZ he hp dZ]
     exact aE rfl rfl
   · (refine zr ?_)
     refine hR (s.nodes.length - (i+1)) _ _ (by omega) ⟨_,_,?_,i+1,by omega,rfl,dZ.succ he hp,rfl,rfl⟩
     exact tL [0,1]
 · (refine zr ?_)
   rw [oC (dZ.all (by omega))]
   exact rJ (ds:=aS Jq) yM rfl rfl
end
end Go.Eng
