/-
The runner with what it remembers.
-/
import Derived.Test.YtdjbjnnfmkoceaaGreatRvS
import Derived.Test.YtdjbjnnfmkoceaaGreatX16
import Derived.KernelRfl
set_option linter.unusedVariables false
set_option linter.unusedSimpArgs false
set_option maxRecDepth 1000000
namespace Go.Eng
open Go
noncomputable def pP:Rf:=Sv AF.fns.get PD (fun _=>fF) 60
noncomputable def aY (rf:Rf) (f:Nat) (l:List (List V×V)):Bool:=List.rec (motive:=fun _=>Bool) true (fun q _ ih=>bQ (kU rf f q) ih) l
theorem allPure_ok {P:Program} {rf:Rf} (hA:Ai rf (aB P)) {f:Nat}:∀ {l:List (List V×V)},aY rf f l=true->∀ q∈l,∀ (h:aA) (K:V->aA->Prop),K q.2 h->aB P f q.1 h K
 |[],_,_,hq,_,_,_=>by cases hq
 |p::l,h,q,hq,hh,K,hK=>by
  obtain ⟨h1,h2⟩:=bD (show bQ (kU rf f p) (aY rf f l)=true from h)
  cases hq with
  |head=>exact runPure_ok hA h1 hh K hK
  |tail _ hq=>exact allPure_ok hA h2 q hq hh K hK
def qD (k:Nat):AC->AC
 |.seq a (.seq b (.seq (.seq c (.aW i (.loop d))) x))=>match k with|0=>a|1=>b|2=>c|3=>d|_=>x
 |_=>.skip
def zH:AC->Nat
 |.seq _ (.seq _ (.seq (.seq _ (.aW i (.loop _))) _))=>i
 |_=>0
noncomputable def dO:fM (Fc->SM->(SM->Rz)->Rz):=Z5 [0,1,12,13]
def G8:AC:=qD 0 AF.f41.body
def G9:AC:=qD 1 AF.f41.body
def Ha:AC:=qD 2 AF.f41.body
def aO:AC:=qD 3 AF.f41.body
def Hb:AC:=qD 4 AF.f41.body
def Tt:AC:=qD 0 AF.f19.body
def Tu:AC:=qD 1 AF.f19.body
def Tv:AC:=qD 2 AF.f19.body
def Lu:AC:=qD 3 AF.f19.body
def Tw:AC:=qD 4 AF.f19.body
noncomputable def Cq:Nat->Option Oc:=
 aS 15 (orM Lv (kX 15))<|
 aS 16 (orM Lw (kX 16))<|
 aS 48 (orM Lx (kX 48))<|
 aS 53 (orM Ly (kX 53))<|
 aS 82 (orM Lz (kX 82))<|
 aS 85 (orM LA (kX 85))<|
 aS 94 (orM LB (kX 94))<|
 aS 95 (orM LC (kX 95))<|
 aS 120 (orM H8 (kX 120))<|
 aS 194 (orM H9 (kX 194))<|
 aS 195 (orM Ia (kX 195))<|
 aS 198 (orM Ib (kX 198))<|
 aS 217 (orM Ic (kX 217))<|
 aS 236 (orM Ie (kX 236))<|
 aS 291 (orM Ig (kX 291))<|
 aS 372 (orM Ih (kX 372))<|
 PD
noncomputable def wV:Rf:=Sv AF.fns.get Cq (fun _=>fF) 60
noncomputable def Hc:Nat->Option Oc:=
 aS 45 (orM LD (kX 45))<|
 aS 69 (orM LF (kX 69))<|
 aS 284 (orM Ii (kX 284))<|
 Cq
noncomputable def cX:Rf:=Sv AF.fns.get Hc (fun _=>fF) 60
noncomputable def F4:Nat->Option Oc:=
 aS 15 (orM PF (kX 15))<|
 aS 16 (orM PG (kX 16))<|
 aS 48 (orM PH (kX 48))<|
 aS 53 (orM PI (kX 53))<|
 aS 82 (orM PJ (kX 82))<|
 aS 85 (orM PK (kX 85))<|
 aS 94 (orM PL (kX 94))<|
 aS 95 (orM PM (kX 95))<|
 aS 120 (orM LG (kX 120))<|
 aS 194 (orM LH (kX 194))<|
 aS 195 (orM LI (kX 195))<|
 aS 198 (orM LJ (kX 198))<|
 aS 217 (orM LK (kX 217))<|
 aS 236 (orM LL (kX 236))<|
 aS 291 (orM LM (kX 291))<|
 aS 372 (orM LN (kX 372))<|
 PD
noncomputable def uD:Rf:=Sv AF.fns.get F4 (fun _=>fF) 60
noncomputable def LO:Nat->Option Oc:=
 aS 45 (orM Ij (orM Ik (orM Il (kX 45))))<|
 aS 69 (orM PN (kX 69))<|
 aS 284 (orM LP (kX 284))<|
 F4
noncomputable def aK:Rf:=Sv AF.fns.get LO (fun _=>fF) 60
open Go
theorem PO:tW G8 G9 Ha cX AF.f41.nparams PQ PS LQ=true:=by kernel_rfl
theorem LR:aN dO aO cX 4 LQ LS=true:=by kernel_rfl
theorem LU:aN dO aO cX 7 LS LV=true:=by kernel_rfl
theorem LW:aN dO aO cX 6 LV LX=true:=by kernel_rfl
theorem LY:aN dO aO cX 7 LX LZ=true:=by kernel_rfl
theorem L0:aN dO aO cX 7 LZ L3=true:=by kernel_rfl
end Go.Eng
