/-
TopJudge, run.
-/
import Derived.Test.YtdjbjnnfmkoceaaGreatYRoK
import Derived.KernelRfl
import Derived.Test.YtdjbjnnfmkoceaaGreatYRz
import Derived.Test.YtdjbjnnfmkoceaaGreatY47
import Derived.Test.YtdjbjnnfmkoceaaGreatY49
import Derived.Test.YtdjbjnnfmkoceaaGreatY11
import Derived.Test.YtdjbjnnfmkoceaaGreatY50
set_option linter.unusedVariables false
set_option linter.unusedSimpArgs false
set_option maxRecDepth 1000000
namespace Go.Eng
open Go
theorem aAy:(fun X Y=>wM AF.f3.results (BY 0 0 X Y))=fun _ _=>true:=by kernel_rfl
theorem aAz:(fun X Y=>wM AF.f3.results (BY 0 1 X Y))=fun _ _=>true:=by kernel_rfl
theorem aAA:(fun X Y=>wM AF.f3.results (BY 0 2 X Y))=fun _ _=>true:=by kernel_rfl
theorem aAB:(fun X Y=>wM AF.f3.results (BY 0 3 X Y))=fun _ _=>true:=by kernel_rfl
theorem aAC:(fun X Y=>wM AF.f3.results (BY 0 4 X Y))=fun _ _=>true:=by kernel_rfl
open Go
theorem aAN:(fun X Y=>wM AF.f3.results (BY 3 0 X Y))=fun _ _=>true:=by kernel_rfl
theorem aAO:(fun X Y=>wM AF.f3.results (BY 3 1 X Y))=fun _ _=>true:=by kernel_rfl
theorem aAP:(fun X Y=>wM AF.f3.results (BY 3 2 X Y))=fun _ _=>true:=by kernel_rfl
theorem aAQ:(fun X Y=>wM AF.f3.results (BY 3 3 X Y))=fun _ _=>true:=by kernel_rfl
theorem aAR:(fun X Y=>wM AF.f3.results (BY 3 4 X Y))=fun _ _=>true:=by kernel_rfl
end Go.Eng
namespace Go.Proofs.YtdjbjnnfmkoceaaGreat
open Go Go.Eng
theorem one_ok {rf:Rf} (hA:Ci rf (aE Tryz.prog)) {f:Nat} (h:sV rf f ([],.b true)=true):∀ q∈[(([]:List V),V.b true)],∀ (h:aC) (K:V->aC->Prop),K q.2 h->aE Tryz.prog f q.1 h K:=fun q hq hh K hK=>by
 cases hq with
 |head=>exact runPure_ok hA h hh K hK
 |tail _ hq=>cases hq
theorem begunF41_ok:∀ q∈Es,Fact Tryz.prog 41 q.args q.m q.v q.m':=fun q hq=>by
 unfold Es at hq
 cases hq with
 |head=>exact N8
 |tail _ hq=>
  cases hq
theorem begunO3_ok:T9 Tryz.prog QT:=aU (orM_ok (fnC_ok bS _) (one_ok rf0_ok agS))<|aU (orF_ok (fnC_ok bS _) begunF41_ok)<|begunO2_ok
theorem begunR3_ok:Ci QU (aE Tryz.prog):=rfN_ok bS begunO3_ok (fun _=>noGc_ok) 60
theorem judgeF41_ok:∀ q∈Et,Fact Tryz.prog 41 q.args q.m q.v q.m':=fun q hq=>by
 unfold Et at hq
 cases hq with
 |head=>exact N9
 |tail _ hq=>
  cases hq with
  |head=>exact Oa
  |tail _ hq=>
   cases hq with
   |head=>exact Ob
   |tail _ hq=>
    cases hq with
    |head=>exact Od
    |tail _ hq=>
     cases hq with
     |head=>exact Oe
     |tail _ hq=>
      cases hq
theorem judgeO3_ok:T9 Tryz.prog J1:=aU (orM_ok (fnC_ok bS _) (one_ok begunR3_ok amL))<|aU (orF_ok (fnC_ok bS _) judgeF41_ok)<|judgeO2_ok
theorem judgeR3_ok:Ci wS (aE Tryz.prog):=rfN_ok bS judgeO3_ok (fun _=>noGc_ok) 60
theorem judgeFT_ok:∀ q∈Ka,Fact Tryz.prog 11 q.args q.m q.v q.m':=fun q hq=>by
 unfold Ka at hq
 cases hq with
 |head=>exact runFact_ok judgeR3_ok N7
 |tail _ hq=>
  cases hq with
  |head=>exact runFact_ok judgeR3_ok NY
  |tail _ hq=>
   cases hq with
   |head=>exact runFact_ok judgeR3_ok NZ
   |tail _ hq=>
    cases hq with
    |head=>exact runFact_ok judgeR3_ok N0
    |tail _ hq=>
     cases hq with
     |head=>exact runFact_ok judgeR3_ok N1
     |tail _ hq=>
      cases hq
theorem judgeO4_ok:T9 Tryz.prog QV:=aU (orF_ok (fnC_ok bS _) judgeFT_ok) judgeO3_ok
theorem judgeR4_ok:Ci AW (aE Tryz.prog):=rfN_ok bS judgeO4_ok (fun _=>noGc_ok) 60
theorem jE1:jN1=.seq (.EF (⟨some 21,.mv (.t 0),none,[]⟩::⟨some 22,.call 6 [.t 21,.c (.i .i64 5)],none,[]⟩::agU jN1)) jC1:=by kernel_rfl
theorem jE2:jN2=.seq (.seq (.EF (⟨some 99,.mv (.t 1),none,[]⟩::⟨some 100,.call 6 [.t 99,.c (.i .i64 5)],none,[]⟩::agU jI2)) jB2) jC2:=by kernel_rfl
theorem judge_at {x y:Int} {r s:Nat} (hx:p6 x=(r:Int)) (hy:p6 y=(s:Int)) (h2:(fun X Y=>uP 1 (jP2 r X Y))=fun _ Y=>Y) (h3:(fun X Y=>wM AF.f3.results (BY r s X Y))=fun _ _=>true):
 aE Tryz.prog 3 [.i .i64 x,.i .i64 y] CH (fun v _=>v=.b true):=by
 have c:∀ {z:Int} {t:Nat},p6 z=(t:Int)->∀ (h:aC) (K:V->aC->Prop),K (.i .i64 (.ofNat t)) h->aE Tryz.prog 6 [.i .i64 z,.i .i64 5] h K:=fun e h K hK=>(small_ok bS _).go rfl (by rw [e];exact hK)
 exact asks_ok judgeR4_ok (bS 3 AF.f3 rfl) (by kernel_rfl) jE1 jE2 rfl rfl rfl (c hx) (c hy) (congrFun (congrFun jS1 (.i .i64 x)) (.i .i64 y)) (congrFun (congrFun h2 (.i .i64 x)) (.i .i64 y)) (congrFun (congrFun h3 (.i .i64 x)) (.i .i64 y))
theorem topJudge_ok (x y:Int):aE Tryz.prog 3 [.i .i64 x,.i .i64 y] CH (fun v _=>v=.b true):=by
 rcases iA x with hx|hx|hx|hx|hx
 · rcases iA y with hy|hy|hy|hy|hy
   · exact judge_at (r:=0) (s:=0) hx hy N2 aAy
   · exact judge_at (r:=0) (s:=1) hx hy N2 aAz
   · exact judge_at (r:=0) (s:=2) hx hy N2 aAA
   · exact judge_at (r:=0) (s:=3) hx hy N2 aAB
   · exact judge_at (r:=0) (s:=4) hx hy N2 aAC
 · rcases iA y with hy|hy|hy|hy|hy
   · exact judge_at (r:=1) (s:=0) hx hy N3 aAD
   · exact judge_at (r:=1) (s:=1) hx hy N3 aAE
   · exact judge_at (r:=1) (s:=2) hx hy N3 aAF
   · exact judge_at (r:=1) (s:=3) hx hy N3 aAG
   · exact judge_at (r:=1) (s:=4) hx hy N3 aAH
 · rcases iA y with hy|hy|hy|hy|hy
   · exact judge_at (r:=2) (s:=0) hx hy N4 aAI
   · exact judge_at (r:=2) (s:=1) hx hy N4 aAJ
   · exact judge_at (r:=2) (s:=2) hx hy N4 aAK
   · exact judge_at (r:=2) (s:=3) hx hy N4 aAL
   · exact judge_at (r:=2) (s:=4) hx hy N4 aAM
 · rcases iA y with hy|hy|hy|hy|hy
   · exact judge_at (r:=3) (s:=0) hx hy N5 aAN
   · exact judge_at (r:=3) (s:=1) hx hy N5 aAO
   · exact judge_at (r:=3) (s:=2) hx hy N5 aAP
   · exact judge_at (r:=3) (s:=3) hx hy N5 aAQ
   · exact judge_at (r:=3) (s:=4) hx hy N5 aAR
 · rcases iA y with hy|hy|hy|hy|hy
   · exact judge_at (r:=4) (s:=0) hx hy N6 aAS
   · exact judge_at (r:=4) (s:=1) hx hy N6 aAT
   · exact judge_at (r:=4) (s:=2) hx hy N6 aAU
   · exact judge_at (r:=4) (s:=3) hx hy N6 aAV
   · exact judge_at (r:=4) (s:=4) hx hy N6 aAW
end Go.Proofs.YtdjbjnnfmkoceaaGreat
