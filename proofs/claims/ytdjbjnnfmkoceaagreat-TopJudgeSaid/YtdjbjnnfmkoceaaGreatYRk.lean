/-
The runner with what it remembers.
-/
import Derived.Test.YtdjbjnnfmkoceaaGreatYRvS
import Derived.Test.YtdjbjnnfmkoceaaGreatY16
set_option linter.unusedVariables false
set_option linter.unusedSimpArgs false
set_option maxRecDepth 100000
namespace Go.Eng
open Go
noncomputable def aAv:Nat->Option Oc:=a8 156 (mW 156) af8
noncomputable def rfG:Rf:=rfN AF.fns.get aAv (fun _=>eJ) 60
noncomputable def vR:Rf:=rfN AF.fns.get af8 (fun _=>eJ) 60
noncomputable def bJ (rf:Rf) (f:Nat) (l:List (List V×V)):Bool:=List.rec (motive:=fun _=>Bool) true (fun q _ ih=>cC (sV rf f q) ih) l
theorem allPure_ok {P:Program} {rf:Rf} (hA:Ci rf (aE P)) {f:Nat}:∀ {l:List (List V×V)},bJ rf f l=true->∀ q∈l,∀ (h:aC) (K:V->aC->Prop),K q.2 h->aE P f q.1 h K
 |[],_,_,hq,_,_,_=>by cases hq
 |p::l,h,q,hq,hh,K,hK=>by
  obtain ⟨h1,h2⟩:=bN (show cC (sV rf f p) (bJ rf f l)=true from h)
  cases hq with
  |head=>exact runPure_ok hA h1 hh K hK
  |tail _ hq=>exact allPure_ok hA h2 q hq hh K hK
def NX (k:Nat):AC->AC
 |.seq a (.seq b (.seq (.seq c (.bI i (.loop d))) x))=>match k with|0=>a|1=>b|2=>c|3=>d|_=>x
 |_=>.skip
def Ej:AC->Nat
 |.seq _ (.seq _ (.seq (.seq _ (.bI i (.loop _))) _))=>i
 |_=>0
noncomputable def cR:iE (Fc->SM->(SM->Rz)->Rz):=gcK [0,1,12,13]
def qS:AC:=NX 0 AF.f41.body
def pO:AC:=NX 1 AF.f41.body
def Ek:AC:=NX 2 AF.f41.body
def aI:AC:=NX 3 AF.f41.body
def El:AC:=NX 4 AF.f41.body
noncomputable def JP:Nat->Option Oc:=
 a8 15 (orM Me (mW 15))<|
 a8 16 (orM Mf (mW 16))<|
 a8 48 (orM Mh (mW 48))<|
 a8 53 (orM Mi (mW 53))<|
 a8 82 (orM Mk (mW 82))<|
 a8 85 (orM Ml (mW 85))<|
 a8 94 (orM Mm (mW 94))<|
 a8 95 (orM Mn (mW 95))<|
 a8 120 (orM GB (mW 120))<|
 a8 194 (orM GC (mW 194))<|
 a8 195 (orM GD (mW 195))<|
 a8 198 (orM GF (mW 198))<|
 a8 217 (orM GG (mW 217))<|
 a8 236 (orM GH (mW 236))<|
 a8 291 (orM GJ (mW 291))<|
 a8 372 (orM GK (mW 372))<|
 af8
noncomputable def CP:Rf:=rfN AF.fns.get JP (fun _=>eJ) 60
noncomputable def JQ:Nat->Option Oc:=
 a8 45 (orM Mg (mW 45))<|
 a8 69 (orM Mj (mW 69))<|
 a8 284 (orM GI (mW 284))<|
 JP
noncomputable def eK:Rf:=rfN AF.fns.get JQ (fun _=>eJ) 60
noncomputable def JR:Nat->Option Oc:=
 a8 15 (orM Mo (mW 15))<|
 a8 16 (orM Mp (mW 16))<|
 a8 48 (orM Mq (mW 48))<|
 a8 53 (orM Mr (mW 53))<|
 a8 82 (orM Mt (mW 82))<|
 a8 85 (orM Mu (mW 85))<|
 a8 94 (orM Mv (mW 94))<|
 a8 95 (orM Eg (orM Eh (mW 95)))<|
 a8 120 (orM GL (mW 120))<|
 a8 194 (orM GM (mW 194))<|
 a8 195 (orM GN (mW 195))<|
 a8 198 (orM GO (mW 198))<|
 a8 217 (orM GP (mW 217))<|
 a8 236 (orM GQ (mW 236))<|
 a8 291 (orM GS (mW 291))<|
 a8 372 (orM GU (mW 372))<|
 af8
noncomputable def wR:Rf:=rfN AF.fns.get JR (fun _=>eJ) 60
noncomputable def JS:Nat->Option Oc:=
 a8 45 (orM Ed (orM Ee (orM Ef (mW 45))))<|
 a8 69 (orM Ms (mW 69))<|
 a8 284 (orM GR (mW 284))<|
 JR
noncomputable def aD:Rf:=rfN AF.fns.get JS (fun _=>eJ) 60
end Go.Eng
