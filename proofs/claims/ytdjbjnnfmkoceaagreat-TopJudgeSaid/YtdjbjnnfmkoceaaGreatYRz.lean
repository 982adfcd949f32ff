/-
What the worlds' rests give.
-/
import Derived.Test.YtdjbjnnfmkoceaaGreatY22
import Derived.Test.YtdjbjnnfmkoceaaGreatY21
import Derived.Test.YtdjbjnnfmkoceaaGreatY23
import Derived.Test.YtdjbjnnfmkoceaaGreatY24
import Derived.Test.YtdjbjnnfmkoceaaGreatY25
import Derived.Test.YtdjbjnnfmkoceaaGreatY26
import Derived.Test.YtdjbjnnfmkoceaaGreatY27
import Derived.Test.YtdjbjnnfmkoceaaGreatY28
import Derived.Test.YtdjbjnnfmkoceaaGreatY29
import Derived.Test.YtdjbjnnfmkoceaaGreatY30
import Derived.Test.YtdjbjnnfmkoceaaGreatY31
import Derived.Test.YtdjbjnnfmkoceaaGreatY32
import Derived.Test.YtdjbjnnfmkoceaaGreatY33
import Derived.Test.YtdjbjnnfmkoceaaGreatY34
import Derived.Test.YtdjbjnnfmkoceaaGreatY35
import Derived.Test.YtdjbjnnfmkoceaaGreatY36
import Derived.Test.YtdjbjnnfmkoceaaGreatY37
import Derived.Test.YtdjbjnnfmkoceaaGreatY38
import Derived.Test.YtdjbjnnfmkoceaaGreatY39
import Derived.Test.YtdjbjnnfmkoceaaGreatY40
import Derived.Test.YtdjbjnnfmkoceaaGreatY41
import Derived.Test.YtdjbjnnfmkoceaaGreatY42
import Derived.Test.YtdjbjnnfmkoceaaGreatY43
import Derived.Test.YtdjbjnnfmkoceaaGreatY44
import Derived.Test.YtdjbjnnfmkoceaaGreatY45
set_option linter.unusedVariables false
set_option linter.unusedSimpArgs false
set_option maxRecDepth 1000000
namespace Go.Proofs.YtdjbjnnfmkoceaaGreat
open Go Go.Eng
theorem rf0_ok:Ci vR (aE Tryz.prog):=rfN_ok bS amK (fun _=>noGc_ok) 60
theorem rfG_ok:Ci rfG (aE Tryz.prog):=rfN_ok bS (aU (fnC_ok bS _) amK) (fun _=>noGc_ok) 60
theorem gcR_ok:IY cR:=gcK_ok _
theorem rest_ok:iY Tryz.prog 41 AF.f41=true:=bS 41 AF.f41 rfl
theorem oU:AF.f41.body=.seq qS (.seq pO (.seq (.seq Ek (.bI (Ej AF.f41.body) (.loop aI))) El)):=by kernel_rfl
theorem begunO1_ok:T9 Tryz.prog JP:=
 aU (orM_ok (fnC_ok bS _) (allPure_ok rf0_ok J2))<|
 aU (orM_ok (fnC_ok bS _) (allPure_ok rf0_ok J3))<|
 aU (orM_ok (fnC_ok bS _) (allPure_ok rf0_ok J4))<|
 aU (orM_ok (fnC_ok bS _) (allPure_ok rf0_ok J5))<|
 aU (orM_ok (fnC_ok bS _) (allPure_ok rf0_ok J6))<|
 aU (orM_ok (fnC_ok bS _) (allPure_ok rf0_ok J7))<|
 aU (orM_ok (fnC_ok bS _) (allPure_ok rf0_ok J8))<|
 aU (orM_ok (fnC_ok bS _) (allPure_ok rfG_ok J9))<|
 aU (orM_ok (fnC_ok bS _) (allPure_ok rf0_ok FJ))<|
 aU (orM_ok (fnC_ok bS _) (allPure_ok rf0_ok FK))<|
 aU (orM_ok (fnC_ok bS _) (allPure_ok rf0_ok FL))<|
 aU (orM_ok (fnC_ok bS _) (allPure_ok rf0_ok FM))<|
 aU (orM_ok (fnC_ok bS _) (allPure_ok rf0_ok FN))<|
 aU (orM_ok (fnC_ok bS _) (allPure_ok rf0_ok FO))<|
 aU (orM_ok (fnC_ok bS _) (allPure_ok rf0_ok FP))<|
 aU (orM_ok (fnC_ok bS _) (allPure_ok rf0_ok FQ))<|
 amK
theorem begunR1_ok:Ci CP (aE Tryz.prog):=rfN_ok bS begunO1_ok (fun _=>noGc_ok) 60
theorem begunO2_ok:T9 Tryz.prog JQ:=
 aU (orM_ok (fnC_ok bS _) (allPure_ok begunR1_ok Kb))<|
 aU (orM_ok (fnC_ok bS _) (allPure_ok begunR1_ok Kc))<|
 aU (orM_ok (fnC_ok bS _) (allPure_ok begunR1_ok FR))<|
 begunO1_ok
theorem begunR2_ok:Ci eK (aE Tryz.prog):=rfN_ok bS begunO2_ok (fun _=>noGc_ok) 60
theorem N8:Fact Tryz.prog 41 Jr Js Jt Ju:=cut_ok begunR2_ok rest_ok oU agQ fun K hK=>
 runCh_ok gcR_ok begunR2_ok ab1<|
 runCh_ok gcR_ok begunR2_ok ab2<|
 runCh_ok gcR_ok begunR2_ok ab3<|
 runCh_ok gcR_ok begunR2_ok ab4<|
 runCh_ok gcR_ok begunR2_ok ab5<|
 runCh_ok gcR_ok begunR2_ok adK<|
 runCh_ok gcR_ok begunR2_ok adL<|
 runCh_ok gcR_ok begunR2_ok adM<|
 runCh_ok gcR_ok begunR2_ok adN<|
 runCh_ok gcR_ok begunR2_ok adO<|
 runCh_ok gcR_ok begunR2_ok TZ<|
 runCh_ok gcR_ok begunR2_ok SS<|
 runCh_ok gcR_ok begunR2_ok SU<|
 runCh_ok gcR_ok begunR2_ok SV<|
 runCh_ok gcR_ok begunR2_ok SW<|
 runCh_ok gcR_ok begunR2_ok SX<|
 runCh_ok gcR_ok begunR2_ok SY<|
 runCh_ok gcR_ok begunR2_ok SZ<|
 runLast_ok gcR_ok begunR2_ok agT hK
theorem judgeO1_ok:T9 Tryz.prog JR:=
 aU (orM_ok (fnC_ok bS _) (allPure_ok rf0_ok JT))<|
 aU (orM_ok (fnC_ok bS _) (allPure_ok rf0_ok JU))<|
 aU (orM_ok (fnC_ok bS _) (allPure_ok rf0_ok JV))<|
 aU (orM_ok (fnC_ok bS _) (allPure_ok rf0_ok JW))<|
 aU (orM_ok (fnC_ok bS _) (allPure_ok rf0_ok JX))<|
 aU (orM_ok (fnC_ok bS _) (allPure_ok rf0_ok JY))<|
 aU (orM_ok (fnC_ok bS _) (allPure_ok rf0_ok JZ))<|
 aU (orM_ok (orM_ok (fnC_ok bS _) (allPure_ok rfG_ok En)) (allPure_ok rfG_ok Em))<|
 aU (orM_ok (fnC_ok bS _) (allPure_ok rf0_ok FA))<|
 aU (orM_ok (fnC_ok bS _) (allPure_ok rf0_ok FB))<|
 aU (orM_ok (fnC_ok bS _) (allPure_ok rf0_ok FC))<|
 aU (orM_ok (fnC_ok bS _) (allPure_ok rf0_ok FD))<|
 aU (orM_ok (fnC_ok bS _) (allPure_ok rf0_ok FE))<|
 aU (orM_ok (fnC_ok bS _) (allPure_ok rf0_ok FF))<|
 aU (orM_ok (fnC_ok bS _) (allPure_ok rf0_ok FG))<|
 aU (orM_ok (fnC_ok bS _) (allPure_ok rf0_ok FH))<|
 amK
theorem judgeR1_ok:Ci wR (aE Tryz.prog):=rfN_ok bS judgeO1_ok (fun _=>noGc_ok) 60
theorem judgeO2_ok:T9 Tryz.prog JS:=
 aU (orM_ok (orM_ok (orM_ok (fnC_ok bS _) (allPure_ok judgeR1_ok Er)) (allPure_ok judgeR1_ok Ep)) (allPure_ok judgeR1_ok Eo))<|
 aU (orM_ok (fnC_ok bS _) (allPure_ok judgeR1_ok J0))<|
 aU (orM_ok (fnC_ok bS _) (allPure_ok judgeR1_ok FI))<|
 judgeO1_ok
theorem judgeR2_ok:Ci aD (aE Tryz.prog):=rfN_ok bS judgeO2_ok (fun _=>noGc_ok) 60
theorem N9:Fact Tryz.prog 41 Jv Jw Jx Jy:=cut_ok judgeR2_ok rest_ok oU agV fun K hK=>
 runCh_ok gcR_ok judgeR2_ok ab6<|
 runCh_ok gcR_ok judgeR2_ok ab7<|
 runCh_ok gcR_ok judgeR2_ok ab8<|
 runCh_ok gcR_ok judgeR2_ok ab9<|
 runCh_ok gcR_ok judgeR2_ok acA<|
 runCh_ok gcR_ok judgeR2_ok acB<|
 runCh_ok gcR_ok judgeR2_ok acC<|
 runCh_ok gcR_ok judgeR2_ok acD<|
 runCh_ok gcR_ok judgeR2_ok acE<|
 runCh_ok gcR_ok judgeR2_ok acF<|
 runCh_ok gcR_ok judgeR2_ok S0<|
 runCh_ok gcR_ok judgeR2_ok S1<|
 runCh_ok gcR_ok judgeR2_ok S2<|
 runCh_ok gcR_ok judgeR2_ok S3<|
 runCh_ok gcR_ok judgeR2_ok S4<|
 runCh_ok gcR_ok judgeR2_ok S5<|
 runCh_ok gcR_ok judgeR2_ok S6<|
 runCh_ok gcR_ok judgeR2_ok S7<|
 runCh_ok gcR_ok judgeR2_ok S8<|
 runCh_ok gcR_ok judgeR2_ok S9<|
 runCh_ok gcR_ok judgeR2_ok Ta<|
 runCh_ok gcR_ok judgeR2_ok Tb<|
 runCh_ok gcR_ok judgeR2_ok Tc<|
 runLast_ok gcR_ok judgeR2_ok agW hK
theorem Oa:Fact Tryz.prog 41 Jz JA JB JC:=cut_ok judgeR2_ok rest_ok oU agX fun K hK=>
 runCh_ok gcR_ok judgeR2_ok acG<|
 runCh_ok gcR_ok judgeR2_ok acH<|
 runCh_ok gcR_ok judgeR2_ok acI<|
 runCh_ok gcR_ok judgeR2_ok acJ<|
 runCh_ok gcR_ok judgeR2_ok acK<|
 runCh_ok gcR_ok judgeR2_ok acL<|
 runCh_ok gcR_ok judgeR2_ok acM<|
 runCh_ok gcR_ok judgeR2_ok acN<|
 runCh_ok gcR_ok judgeR2_ok acO<|
 runCh_ok gcR_ok judgeR2_ok acP<|
 runCh_ok gcR_ok judgeR2_ok Td<|
 runCh_ok gcR_ok judgeR2_ok Te<|
 runCh_ok gcR_ok judgeR2_ok Tf<|
 runCh_ok gcR_ok judgeR2_ok Tg<|
 runCh_ok gcR_ok judgeR2_ok Th<|
 runCh_ok gcR_ok judgeR2_ok Ti<|
 runCh_ok gcR_ok judgeR2_ok Tj<|
 runCh_ok gcR_ok judgeR2_ok Tk<|
 runCh_ok gcR_ok judgeR2_ok Tm<|
 runCh_ok gcR_ok judgeR2_ok Tn<|
 runCh_ok gcR_ok judgeR2_ok To<|
 runCh_ok gcR_ok judgeR2_ok Tp<|
 runCh_ok gcR_ok judgeR2_ok Tq<|
 runLast_ok gcR_ok judgeR2_ok agY hK
theorem Ob:Fact Tryz.prog 41 JD JE JF JG:=cut_ok judgeR2_ok rest_ok oU agZ fun K hK=>
 runCh_ok gcR_ok judgeR2_ok acQ<|
 runCh_ok gcR_ok judgeR2_ok acR<|
 runCh_ok gcR_ok judgeR2_ok acS<|
 runCh_ok gcR_ok judgeR2_ok acT<|
 runCh_ok gcR_ok judgeR2_ok acU<|
 runCh_ok gcR_ok judgeR2_ok acV<|
 runCh_ok gcR_ok judgeR2_ok acW<|
 runCh_ok gcR_ok judgeR2_ok acX<|
 runCh_ok gcR_ok judgeR2_ok acY<|
 runCh_ok gcR_ok judgeR2_ok acZ<|
 runCh_ok gcR_ok judgeR2_ok Tr<|
 runCh_ok gcR_ok judgeR2_ok Ts<|
 runCh_ok gcR_ok judgeR2_ok Tt<|
 runCh_ok gcR_ok judgeR2_ok Tu<|
 runCh_ok gcR_ok judgeR2_ok Tv<|
 runCh_ok gcR_ok judgeR2_ok Tw<|
 runCh_ok gcR_ok judgeR2_ok Tx<|
 runCh_ok gcR_ok judgeR2_ok Ty<|
 runCh_ok gcR_ok judgeR2_ok Tz<|
 runCh_ok gcR_ok judgeR2_ok TA<|
 runCh_ok gcR_ok judgeR2_ok TB<|
 runCh_ok gcR_ok judgeR2_ok TC<|
 runCh_ok gcR_ok judgeR2_ok TD<|
 runLast_ok gcR_ok judgeR2_ok ag0 hK
theorem Od:Fact Tryz.prog 41 JH JI JJ JK:=cut_ok judgeR2_ok rest_ok oU ag1 fun K hK=>
 runCh_ok gcR_ok judgeR2_ok ac0<|
 runCh_ok gcR_ok judgeR2_ok ac1<|
 runCh_ok gcR_ok judgeR2_ok ac2<|
 runCh_ok gcR_ok judgeR2_ok ac3<|
 runCh_ok gcR_ok judgeR2_ok ac4<|
 runCh_ok gcR_ok judgeR2_ok ac5<|
 runCh_ok gcR_ok judgeR2_ok ac6<|
 runCh_ok gcR_ok judgeR2_ok ac7<|
 runCh_ok gcR_ok judgeR2_ok ac8<|
 runCh_ok gcR_ok judgeR2_ok ac9<|
 runCh_ok gcR_ok judgeR2_ok TE<|
 runCh_ok gcR_ok judgeR2_ok TF<|
 runCh_ok gcR_ok judgeR2_ok TG<|
 runCh_ok gcR_ok judgeR2_ok TI<|
 runCh_ok gcR_ok judgeR2_ok TJ<|
 runCh_ok gcR_ok judgeR2_ok TK<|
 runCh_ok gcR_ok judgeR2_ok TL<|
 runCh_ok gcR_ok judgeR2_ok TM<|
 runCh_ok gcR_ok judgeR2_ok TN<|
 runCh_ok gcR_ok judgeR2_ok TO<|
 runCh_ok gcR_ok judgeR2_ok TP<|
 runCh_ok gcR_ok judgeR2_ok TQ<|
 runCh_ok gcR_ok judgeR2_ok TR<|
 runLast_ok gcR_ok judgeR2_ok ag2 hK
theorem Oe:Fact Tryz.prog 41 JL JM JN JO:=cut_ok judgeR2_ok rest_ok oU ag3 fun K hK=>
 runCh_ok gcR_ok judgeR2_ok adA<|
 runCh_ok gcR_ok judgeR2_ok adB<|
 runCh_ok gcR_ok judgeR2_ok adC<|
 runCh_ok gcR_ok judgeR2_ok adD<|
 runCh_ok gcR_ok judgeR2_ok adE<|
 runCh_ok gcR_ok judgeR2_ok adF<|
 runCh_ok gcR_ok judgeR2_ok adG<|
 runCh_ok gcR_ok judgeR2_ok adH<|
 runCh_ok gcR_ok judgeR2_ok adI<|
 runCh_ok gcR_ok judgeR2_ok adJ<|
 runCh_ok gcR_ok judgeR2_ok TS<|
 runCh_ok gcR_ok judgeR2_ok TT<|
 runCh_ok gcR_ok judgeR2_ok TU<|
 runCh_ok gcR_ok judgeR2_ok TV<|
 runCh_ok gcR_ok judgeR2_ok TW<|
 runCh_ok gcR_ok judgeR2_ok TX<|
 runCh_ok gcR_ok judgeR2_ok TY<|
 runCh_ok gcR_ok judgeR2_ok SL<|
 runCh_ok gcR_ok judgeR2_ok SN<|
 runCh_ok gcR_ok judgeR2_ok SO<|
 runCh_ok gcR_ok judgeR2_ok SP<|
 runCh_ok gcR_ok judgeR2_ok SQ<|
 runCh_ok gcR_ok judgeR2_ok SR<|
 runLast_ok gcR_ok judgeR2_ok agR hK
end Go.Proofs.YtdjbjnnfmkoceaaGreat
