/-
TopJudge, for every two ints: it returns true, and the memory that was there stays as it was.
-/
import Derived.Test.YtdjbjnnfmkoceaaGreatYEngBr
import Derived.Test.YtdjbjnnfmkoceaaGreatY51
import Derived.Test.YtdjbjnnfmkoceaaGreatJoinTJ
set_option linter.unusedVariables false
set_option linter.unusedSimpArgs false
set_option maxRecDepth 100000
namespace Go.Proofs.YtdjbjnnfmkoceaaGreat
open Go.ChangeShapes Go.WideShapes Go.ChangeAt Go.RowKit Go.Eng
theorem Tryz.own:ownKnob Tryz.prog.godebug=none:=by kernel_rfl
theorem topJudge_lifted (os:Os) (started:os.Started) (H:Type) (enc:TypeId×Value->H):
 ReturnsInHanded {} Tryz.checked os 3 .any (Rows.topJudgeSpec.pre6 enc Tryz.prog Tryz.f3 Rows.topJudgeRow.domain false) (Rows.topJudgeSpec.post enc Tryz.prog Tryz.f3 false true false false):=by
 refine law_lifted (C:=Tryz.checked) (shs:=[(false,[.i .i64]),(false,[.i .i64])]) Tryz.own started (by kernel_rfl) Tryz.func3
  (ChangeSpec.witness6 (enc:=enc) (C:=Tryz.checked) false ⟨#[],#[.int .i64 0,.int .i64 0],[]⟩ 8 (by kernel_rfl) (by kernel_rfl) (by kernel_rfl) (by kernel_rfl))
  (by kernel_rfl) (by kernel_rfl) rfl (by kernel_rfl) rfl Tryz.underlying4 (fun ds h=>match ds,h with|[d0,d1],_=>rfl) ?_
 intro args ha
 obtain ⟨v0,q0,rfl,h0,ha⟩:=Gs ha
 obtain ⟨v1,q1,rfl,h1,ha⟩:=Gs ha
 obtain rfl:=V8 ha
 obtain ⟨a0,rfl,l0,u0⟩:=Qx h0
 obtain ⟨a1,rfl,l1,u1⟩:=Qx h1
 exact topJudge_ok a0 a1
theorem topJudge_holds:Rows.TopJudgeSaid:=
 OpenClaim.holds_of_wide 3 Tryz.f3 rfl rfl rfl rfl rfl rfl rfl ⟨rfl,rfl,rfl,rfl,rfl⟩ rfl rfl rfl rfl rfl (by kernel_rfl) Tryz.func3 ag4
  (of_decide_eq_true (by kernel_rfl)) (by unfold Func.isWrapper;first|(rw [if_pos (by decide+kernel)];kernel_rfl)|(rw [if_neg (by decide+kernel)];exact ⟨rfl,rfl⟩))
  (fun os started H enc _=>topJudge_lifted os started H enc)
end Go.Proofs.YtdjbjnnfmkoceaaGreat
