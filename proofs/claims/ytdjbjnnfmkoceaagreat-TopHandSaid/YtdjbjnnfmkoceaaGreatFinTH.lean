/-
TopHand answers true.
-/
import Derived.Test.YtdjbjnnfmkoceaaGreatX49
import Derived.Test.YtdjbjnnfmkoceaaGreatRoH
import Derived.Test.YtdjbjnnfmkoceaaGreatEngBr
import Derived.Test.YtdjbjnnfmkoceaaGreatJoinTH
set_option linter.unusedVariables false
set_option linter.unusedSimpArgs false
set_option maxRecDepth 1000000
namespace Go.Proofs.YtdjbjnnfmkoceaaGreat
open Go Go.Eng
theorem one_ok {rf:Rf} (hA:Ai rf (aB Tryz.prog)) {f:Nat} (h:kU rf f ([],.b true)=true):∀ q∈[(([]:List V),V.b true)],∀ (h:aA) (K:V->aA->Prop),K q.2 h->aB Tryz.prog f q.1 h K:=fun q hq hh K hK=>by
 cases hq with
 |head=>exact runPure_ok hA h hh K hK
 |tail _ hq=>cases hq
theorem begunF41_ok:∀ q∈N7,Fact Tryz.prog 41 q.args q.m q.v q.m':=fun q hq=>by
 unfold N7 at hq
 cases hq with
 |head=>exact EG
 |tail _ hq=>
  cases hq
theorem begunO3_ok:KC Tryz.prog Xc:=aM (orM_ok (fnC_ok bF _) (one_ok rf0_ok QJ))<|aM (orF_ok (fnC_ok bF _) begunF41_ok)<|begunO2_ok
theorem begunR3_ok:Ai QK (aB Tryz.prog):=rfN_ok bF begunO3_ok (fun _=>noGc_ok) 60
theorem handF19_ok:∀ q∈QL,Fact Tryz.prog 19 q.args q.m q.v q.m':=fun q hq=>by
 unfold QL at hq
 cases hq with
 |head=>exact F7
 |tail _ hq=>
  cases hq with
  |head=>exact F9
  |tail _ hq=>
   cases hq
theorem handF41_ok:∀ q∈QM,Fact Tryz.prog 41 q.args q.m q.v q.m':=fun q hq=>by
 unfold QM at hq
 cases hq with
 |head=>exact F6
 |tail _ hq=>
  cases hq with
  |head=>exact F8
  |tail _ hq=>
   cases hq
theorem handO3_ok:KC Tryz.prog Zy:=aM (orM_ok (fnC_ok bF _) (one_ok begunR3_ok T0))<|aM (orF_ok (fnC_ok bF _) handF19_ok)<|aM (orF_ok (fnC_ok bF _) handF41_ok)<|handO2_ok
theorem handR3_ok:Ai T3 (aB Tryz.prog):=rfN_ok bF handO3_ok (fun _=>noGc_ok) 60
theorem topHand_ok:aB Tryz.prog 4 [] zK (fun r _=>r=.b true):=runPure_ok handR3_ok N6 zK _ rfl
open Go.ChangeShapes Go.WideShapes Go.ChangeAt Go.RowKit Go.Eng
theorem Tryz.own:ownKnob Tryz.prog.godebug=none:=by kernel_rfl
theorem topHand_lifted (os:Os) (started:os.Started) (H:Type) (enc:TypeId×Value->H):
 ReturnsInHanded {} Tryz.checked os 4 .any (Rows.topHandSpec.pre6 enc Tryz.prog Tryz.f4 Rows.topHandRow.domain false) (Rows.topHandSpec.post enc Tryz.prog Tryz.f4 false true false false):=by
 refine law_lifted (C:=Tryz.checked) (shs:=[]) Tryz.own started (by kernel_rfl) Tryz.func4
  (ChangeSpec.witness6 (enc:=enc) (C:=Tryz.checked) false ⟨#[],#[],[]⟩ 8 (by kernel_rfl) (by kernel_rfl) (by kernel_rfl) (by kernel_rfl))
  (by kernel_rfl) (by kernel_rfl) rfl (by kernel_rfl) rfl Tryz.underlying4 (fun ds h=>match ds,h with|[],_=>rfl) ?_
 intro args ha
 obtain rfl:=Kf ha
 exact topHand_ok
theorem topHand_holds:Rows.TopHandSaid:=
 OpenClaim.holds_of_wide 4 Tryz.f4 rfl rfl rfl rfl rfl rfl rfl ⟨rfl,rfl,rfl,rfl,rfl⟩ rfl rfl rfl rfl rfl (by kernel_rfl) Tryz.func4 QN
  (of_decide_eq_true (by kernel_rfl)) (by unfold Func.isWrapper;first|(rw [if_pos (by decide+kernel)];kernel_rfl)|(rw [if_neg (by decide+kernel)];exact ⟨rfl,rfl⟩))
  (fun os started H enc _=>topHand_lifted os started H enc)
end Go.Proofs.YtdjbjnnfmkoceaaGreat
