/-
PlanTxn, for every state and pod: it returns true, and the memory that was there stays as it was.
-/
import Derived.Test.YtmfelikepmmjkaaGreatX20
import Derived.Test.YtmfelikepmmjkaaGreatX41
import Derived.Test.YtmfelikepmmjkaaGreatSrtS
import Derived.Test.YtmfelikepmmjkaaGreatX29
import Derived.Test.YtmfelikepmmjkaaGreatX37
import Derived.Test.YtmfelikepmmjkaaGreatJoinPT
set_option linter.unusedVariables false
set_option linter.unusedSimpArgs false
set_option maxRecDepth 100000
namespace Go.Proofs.YtmfelikepmmjkaaGreat
open Go.ChangeShapes Go.WideShapes Go.ChangeAt Go.RowKit Go.Eng
theorem Tryz.own:ownKnob Tryz.prog.godebug=none:=by kernel_rfl
theorem planTxn_lifted (os:Os) (started:os.Started) (H:Type) (enc:TypeId×Value->H):
 ReturnsInHanded {} Tryz.checked os 3 .any (Rows.planTxnSpec.pre6 enc Tryz.prog Tryz.f3 Rows.planTxnRow.domain false) (Rows.planTxnSpec.post enc Tryz.prog Tryz.f3 false true false false):=by
 refine law_lifted (C:=Tryz.checked) (shs:=[(true,[.sl M0,.sl KQ]),(true,KQ),(false,[.b])]) Tryz.own started (by kernel_rfl) Tryz.func3
  (ChangeSpec.witness6 (enc:=enc) (C:=Tryz.checked) false ⟨#[],#[.agg #[.slice none 0 0,.slice none 0 0],.agg #[.string ByteArray.empty,.int .i64 0,.int .i64 0,.int .i64 0,.int .i64 0,.int .i64 0,.slice none 0 0,.slice none 0 0,.slice none 0 0,.slice none 0 0,.string ByteArray.empty,.slice none 0 0,.int .i64 0,.slice none 0 0,.string ByteArray.empty,.int .i64 0],.bool false],[]⟩ 8 (by kernel_rfl) (by kernel_rfl) (by kernel_rfl) (by kernel_rfl))
  (by kernel_rfl) (by kernel_rfl) rfl (by kernel_rfl) rfl Tryz.underlying4 (fun ds h=>match ds,h with|[d0,d1,d2],_=>rfl) ?_
 intro args ha
 obtain ⟨v0,q0,rfl,h0,ha⟩:=Cn ha
 obtain ⟨v1,q1,rfl,h1,ha⟩:=Cn ha
 obtain ⟨v2,q2,rfl,h2,ha⟩:=Cn ha
 obtain rfl:=Te ha
 obtain ⟨a0,rfl,b0⟩:=PO h0
 obtain ⟨a1,rfl,b1⟩:=VC h1
 obtain ⟨a2,rfl⟩:=Tg h2
 exact planTxn_ok WE TS once_ok add_ok Uj law18_begun cmpS_ok Zu a0 a1 a2 b0 b1
theorem planTxn_holds:Rows.PlanTxnSaid:=
 OpenClaim.holds_of_wide 3 Tryz.f3 rfl rfl rfl rfl rfl rfl rfl ⟨rfl,rfl,rfl,rfl,rfl⟩ rfl rfl rfl rfl rfl (by kernel_rfl) Tryz.func3 V6
  (of_decide_eq_true (by kernel_rfl)) (by unfold Func.isWrapper;first|(rw [if_pos (by decide+kernel)];kernel_rfl)|(rw [if_neg (by decide+kernel)];exact ⟨rfl,rfl⟩))
  (fun os started H enc _=>planTxn_lifted os started H enc)
end Go.Proofs.YtmfelikepmmjkaaGreat
