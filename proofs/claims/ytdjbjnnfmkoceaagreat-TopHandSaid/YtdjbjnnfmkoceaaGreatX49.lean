/-
What the worlds' rests give.
-/
import Derived.Test.YtdjbjnnfmkoceaaGreatX20
import Derived.Test.YtdjbjnnfmkoceaaGreatX22
import Derived.Test.YtdjbjnnfmkoceaaGreatX23
import Derived.Test.YtdjbjnnfmkoceaaGreatX24
import Derived.Test.YtdjbjnnfmkoceaaGreatX25
import Derived.Test.YtdjbjnnfmkoceaaGreatX26
import Derived.Test.YtdjbjnnfmkoceaaGreatX27
import Derived.Test.YtdjbjnnfmkoceaaGreatX28
import Derived.Test.YtdjbjnnfmkoceaaGreatX29
import Derived.Test.YtdjbjnnfmkoceaaGreatX30
import Derived.Test.YtdjbjnnfmkoceaaGreatX31
import Derived.Test.YtdjbjnnfmkoceaaGreatX32
import Derived.Test.YtdjbjnnfmkoceaaGreatX33
import Derived.Test.YtdjbjnnfmkoceaaGreatX34
import Derived.Test.YtdjbjnnfmkoceaaGreatX35
import Derived.Test.YtdjbjnnfmkoceaaGreatX36
import Derived.Test.YtdjbjnnfmkoceaaGreatX37
import Derived.Test.YtdjbjnnfmkoceaaGreatX38
import Derived.Test.YtdjbjnnfmkoceaaGreatX39
import Derived.Test.YtdjbjnnfmkoceaaGreatX40
import Derived.Test.YtdjbjnnfmkoceaaGreatX41
import Derived.Test.YtdjbjnnfmkoceaaGreatX42
import Derived.Test.YtdjbjnnfmkoceaaGreatX43
import Derived.Test.YtdjbjnnfmkoceaaGreatX44
import Derived.Test.YtdjbjnnfmkoceaaGreatX45
import Derived.Test.YtdjbjnnfmkoceaaGreatX46
import Derived.Test.YtdjbjnnfmkoceaaGreatX47
import Derived.Test.YtdjbjnnfmkoceaaGreatX48
import Derived.KernelRfl
set_option linter.unusedVariables false
set_option linter.unusedSimpArgs false
set_option maxRecDepth 1000000
namespace Go.Proofs.YtdjbjnnfmkoceaaGreat
open Go Go.Eng
theorem rf0_ok:Ai pP (aB Tryz.prog):=rfN_ok bF TA (fun _=>noGc_ok) 60
theorem rfG_ok:Ai rfG (aB Tryz.prog):=rfN_ok bF (aM (fnC_ok bF _) TA) (fun _=>noGc_ok) 60
theorem gcR_ok:B5 dO:=gcK_ok _
theorem rest_ok:gB Tryz.prog 41 AF.f41=true:=bF 41 AF.f41 rfl
theorem uE:AF.f41.body=.seq G8 (.seq G9 (.seq (.seq Ha (.aW (zH AF.f41.body) (.loop aO))) Hb)):=by kernel_rfl
theorem leg_ok:gB Tryz.prog 19 AF.f19=true:=bF 19 AF.f19 rfl
theorem EF:AF.f19.body=.seq Tt (.seq Tu (.seq (.seq Tv (.aW (zH AF.f19.body) (.loop Lu))) Tw)):=by kernel_rfl
theorem begunO1_ok:KC Tryz.prog Cq:=
 aM (orM_ok (fnC_ok bF _) (allPure_ok rf0_ok Cr))<|
 aM (orM_ok (fnC_ok bF _) (allPure_ok rf0_ok Cs))<|
 aM (orM_ok (fnC_ok bF _) (allPure_ok rf0_ok Ct))<|
 aM (orM_ok (fnC_ok bF _) (allPure_ok rf0_ok Cu))<|
 aM (orM_ok (fnC_ok bF _) (allPure_ok rf0_ok Cv))<|
 aM (orM_ok (fnC_ok bF _) (allPure_ok rf0_ok Cw))<|
 aM (orM_ok (fnC_ok bF _) (allPure_ok rf0_ok Cx))<|
 aM (orM_ok (fnC_ok bF _) (allPure_ok rf0_ok Cy))<|
 aM (orM_ok (fnC_ok bF _) (allPure_ok rf0_ok Aq))<|
 aM (orM_ok (fnC_ok bF _) (allPure_ok rf0_ok Ar))<|
 aM (orM_ok (fnC_ok bF _) (allPure_ok rf0_ok As))<|
 aM (orM_ok (fnC_ok bF _) (allPure_ok rf0_ok Au))<|
 aM (orM_ok (fnC_ok bF _) (allPure_ok rf0_ok Av))<|
 aM (orM_ok (fnC_ok bF _) (allPure_ok rf0_ok Aw))<|
 aM (orM_ok (fnC_ok bF _) (allPure_ok rf0_ok Ax))<|
 aM (orM_ok (fnC_ok bF _) (allPure_ok rf0_ok Ay))<|
 TA
theorem begunR1_ok:Ai wV (aB Tryz.prog):=rfN_ok bF begunO1_ok (fun _=>noGc_ok) 60
theorem begunO2_ok:KC Tryz.prog Hc:=
 aM (orM_ok (fnC_ok bF _) (allPure_ok begunR1_ok CA))<|
 aM (orM_ok (fnC_ok bF _) (allPure_ok begunR1_ok CB))<|
 aM (orM_ok (fnC_ok bF _) (allPure_ok begunR1_ok Az))<|
 begunO1_ok
theorem begunR2_ok:Ai cX (aB Tryz.prog):=rfN_ok bF begunO2_ok (fun _=>noGc_ok) 60
theorem EG:Fact Tryz.prog 41 PQ PS PV PW:=cut_ok begunR2_ok rest_ok uE PO fun K hK=>
 runCh_ok gcR_ok begunR2_ok LR<|
 runCh_ok gcR_ok begunR2_ok LU<|
 runCh_ok gcR_ok begunR2_ok LW<|
 runCh_ok gcR_ok begunR2_ok LY<|
 runCh_ok gcR_ok begunR2_ok L0<|
 runCh_ok gcR_ok begunR2_ok L6<|
 runCh_ok gcR_ok begunR2_ok L8<|
 runCh_ok gcR_ok begunR2_ok Ma<|
 runCh_ok gcR_ok begunR2_ok Mc<|
 runCh_ok gcR_ok begunR2_ok Mf<|
 runCh_ok gcR_ok begunR2_ok ID<|
 runCh_ok gcR_ok begunR2_ok Im<|
 runCh_ok gcR_ok begunR2_ok Iq<|
 runCh_ok gcR_ok begunR2_ok It<|
 runCh_ok gcR_ok begunR2_ok Iv<|
 runCh_ok gcR_ok begunR2_ok Ix<|
 runCh_ok gcR_ok begunR2_ok Iz<|
 runCh_ok gcR_ok begunR2_ok IE<|
 runLast_ok gcR_ok begunR2_ok PU hK
theorem handO1_ok:KC Tryz.prog F4:=
 aM (orM_ok (fnC_ok bF _) (allPure_ok rf0_ok Ev))<|
 aM (orM_ok (fnC_ok bF _) (allPure_ok rf0_ok Ew))<|
 aM (orM_ok (fnC_ok bF _) (allPure_ok rf0_ok Ey))<|
 aM (orM_ok (fnC_ok bF _) (allPure_ok rf0_ok Ez))<|
 aM (orM_ok (fnC_ok bF _) (allPure_ok rf0_ok EA))<|
 aM (orM_ok (fnC_ok bF _) (allPure_ok rf0_ok EB))<|
 aM (orM_ok (fnC_ok bF _) (allPure_ok rf0_ok EC))<|
 aM (orM_ok (fnC_ok bF _) (allPure_ok rfG_ok ED))<|
 aM (orM_ok (fnC_ok bF _) (allPure_ok rf0_ok CC))<|
 aM (orM_ok (fnC_ok bF _) (allPure_ok rf0_ok CD))<|
 aM (orM_ok (fnC_ok bF _) (allPure_ok rf0_ok CE))<|
 aM (orM_ok (fnC_ok bF _) (allPure_ok rf0_ok CF))<|
 aM (orM_ok (fnC_ok bF _) (allPure_ok rf0_ok CG))<|
 aM (orM_ok (fnC_ok bF _) (allPure_ok rf0_ok CH))<|
 aM (orM_ok (fnC_ok bF _) (allPure_ok rf0_ok CI))<|
 aM (orM_ok (fnC_ok bF _) (allPure_ok rf0_ok CJ))<|
 TA
theorem handR1_ok:Ai uD (aB Tryz.prog):=rfN_ok bF handO1_ok (fun _=>noGc_ok) 60
theorem handO2_ok:KC Tryz.prog LO:=
 aM (orM_ok (orM_ok (orM_ok (fnC_ok bF _) (allPure_ok handR1_ok AD)) (allPure_ok handR1_ok AB)) (allPure_ok handR1_ok AA))<|
 aM (orM_ok (fnC_ok bF _) (allPure_ok handR1_ok EE))<|
 aM (orM_ok (fnC_ok bF _) (allPure_ok handR1_ok CL))<|
 handO1_ok
theorem handR2_ok:Ai aK (aB Tryz.prog):=rfN_ok bF handO2_ok (fun _=>noGc_ok) 60
theorem F6:Fact Tryz.prog 41 TC TD TF TG:=cut_ok handR2_ok rest_ok uE TB fun K hK=>
 runCh_ok gcR_ok handR2_ok PY<|
 runCh_ok gcR_ok handR2_ok P0<|
 runCh_ok gcR_ok handR2_ok P2<|
 runCh_ok gcR_ok handR2_ok P4<|
 runCh_ok gcR_ok handR2_ok P6<|
 runCh_ok gcR_ok handR2_ok P8<|
 runCh_ok gcR_ok handR2_ok Qa<|
 runCh_ok gcR_ok handR2_ok Qc<|
 runCh_ok gcR_ok handR2_ok Qe<|
 runCh_ok gcR_ok handR2_ok Qg<|
 runCh_ok gcR_ok handR2_ok Mh<|
 runCh_ok gcR_ok handR2_ok Mj<|
 runCh_ok gcR_ok handR2_ok Ml<|
 runCh_ok gcR_ok handR2_ok Mn<|
 runCh_ok gcR_ok handR2_ok Mp<|
 runCh_ok gcR_ok handR2_ok Mr<|
 runCh_ok gcR_ok handR2_ok Mt<|
 runCh_ok gcR_ok handR2_ok Mv<|
 runCh_ok gcR_ok handR2_ok Mx<|
 runCh_ok gcR_ok handR2_ok Mz<|
 runCh_ok gcR_ok handR2_ok MB<|
 runCh_ok gcR_ok handR2_ok MD<|
 runCh_ok gcR_ok handR2_ok MF<|
 runCh_ok gcR_ok handR2_ok MH<|
 runCh_ok gcR_ok handR2_ok MJ<|
 runCh_ok gcR_ok handR2_ok ML<|
 runCh_ok gcR_ok handR2_ok MN<|
 runCh_ok gcR_ok handR2_ok MP<|
 runCh_ok gcR_ok handR2_ok MR<|
 runCh_ok gcR_ok handR2_ok MT<|
 runCh_ok gcR_ok handR2_ok MV<|
 runCh_ok gcR_ok handR2_ok MX<|
 runCh_ok gcR_ok handR2_ok MZ<|
 runCh_ok gcR_ok handR2_ok M1<|
 runCh_ok gcR_ok handR2_ok M4<|
 runCh_ok gcR_ok handR2_ok M6<|
 runCh_ok gcR_ok handR2_ok M8<|
 runCh_ok gcR_ok handR2_ok Na<|
 runCh_ok gcR_ok handR2_ok Nc<|
 runCh_ok gcR_ok handR2_ok Ng<|
 runCh_ok gcR_ok handR2_ok Ni<|
 runCh_ok gcR_ok handR2_ok Nk<|
 runCh_ok gcR_ok handR2_ok Nm<|
 runCh_ok gcR_ok handR2_ok No<|
 runCh_ok gcR_ok handR2_ok Nq<|
 runCh_ok gcR_ok handR2_ok Ns<|
 runCh_ok gcR_ok handR2_ok Nu<|
 runCh_ok gcR_ok handR2_ok Nw<|
 runCh_ok gcR_ok handR2_ok Ny<|
 runCh_ok gcR_ok handR2_ok NA<|
 runCh_ok gcR_ok handR2_ok NC<|
 runLast_ok gcR_ok handR2_ok TE hK
theorem F7:Fact Tryz.prog 19 TJ TK TM TN:=cut_ok handR2_ok leg_ok EF TI fun K hK=>
 runCh_ok noGc_ok handR2_ok Qi<|
 runLast_ok noGc_ok handR2_ok TL hK
theorem F8:Fact Tryz.prog 41 TP TQ TS TT:=cut_ok handR2_ok rest_ok uE TO fun K hK=>
 runCh_ok gcR_ok handR2_ok Ql<|
 runCh_ok gcR_ok handR2_ok Qo<|
 runCh_ok gcR_ok handR2_ok Qq<|
 runCh_ok gcR_ok handR2_ok Qt<|
 runCh_ok gcR_ok handR2_ok Qv<|
 runCh_ok gcR_ok handR2_ok Qx<|
 runCh_ok gcR_ok handR2_ok Qz<|
 runCh_ok gcR_ok handR2_ok QB<|
 runCh_ok gcR_ok handR2_ok QD<|
 runCh_ok gcR_ok handR2_ok QF<|
 runCh_ok gcR_ok handR2_ok NG<|
 runCh_ok gcR_ok handR2_ok NI<|
 runCh_ok gcR_ok handR2_ok NK<|
 runCh_ok gcR_ok handR2_ok NM<|
 runCh_ok gcR_ok handR2_ok NO<|
 runCh_ok gcR_ok handR2_ok NQ<|
 runCh_ok gcR_ok handR2_ok NS<|
 runCh_ok gcR_ok handR2_ok NU<|
 runCh_ok gcR_ok handR2_ok NW<|
 runCh_ok gcR_ok handR2_ok NY<|
 runCh_ok gcR_ok handR2_ok N0<|
 runCh_ok gcR_ok handR2_ok N2<|
 runCh_ok gcR_ok handR2_ok N4<|
 runLast_ok gcR_ok handR2_ok TR hK
theorem F9:Fact Tryz.prog 19 TV TW TY TZ:=cut_ok handR2_ok leg_ok EF TU fun K hK=>
 runCh_ok noGc_ok handR2_ok QH<|
 runLast_ok noGc_ok handR2_ok TX hK
end Go.Proofs.YtdjbjnnfmkoceaaGreat
namespace Go.Eng
open Go
noncomputable def N7:List Rr:=[⟨PQ,PS,PV,PW⟩]
noncomputable def Xc:Nat->Option Oc:=aS 130 (orM [([],.b true)] (kX 130))<|aS 41 (Yd N7 (kX 41))<|Hc
noncomputable def QK:Rf:=Sv AF.fns.get Xc (fun _=>fF) 60
noncomputable def QL:List Rr:=[⟨TJ,TK,TM,TN⟩,⟨TV,TW,TY,TZ⟩]
noncomputable def QM:List Rr:=[⟨TC,TD,TF,TG⟩,⟨TP,TQ,TS,TT⟩]
noncomputable def Zy:Nat->Option Oc:=aS 5 (orM [([],.b true)] (kX 5))<|aS 19 (Yd QL (kX 19))<|aS 41 (Yd QM (kX 41))<|LO
noncomputable def T3:Rf:=Sv AF.fns.get Zy (fun _=>fF) 60
open Go
theorem QJ:kU pP 130 ([],.b true)=true:=by kernel_rfl
open Go
theorem T0:kU QK 5 ([],.b true)=true:=by kernel_rfl
end Go.Eng
