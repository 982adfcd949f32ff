/-
PlanNone: it returns true, and the memory that was there stays as it was.
-/
import Derived.Test.YtfobkjdmohaakaaGreatCallsP
import Derived.Test.YtfobkjdmohaakaaGreatJoinP
import Derived.Test.YtfobkjdmohaakaaGreatEngLaw
import Derived.Test.YtfobkjdmohaakaaGreatArgs1
namespace Go.Proofs.YtfobkjdmohaakaaGreat
open Go.ChangeShapes Go.WideShapes Go.ChangeAt Go.RowKit Go.Eng

theorem Tryz.own : ownKnob Tryz.prog.godebug = none := by kernel_rfl
set_option maxRecDepth 100000 in
theorem planNone_lifted (os : Os) (started : os.Started) (H : Type) (enc : TypeId × Value → H) :
    ReturnsInHanded {} Tryz.checked os 3 .any (Rows.planNoneSpec.pre6 enc Tryz.prog Tryz.f3 Rows.planNoneRow.domain false) (Rows.planNoneSpec.post enc Tryz.prog Tryz.f3 false true false false) := by
  refine law_lifted (C := Tryz.checked) (shs := []) Tryz.own started (by kernel_rfl) Tryz.func3
    (ChangeSpec.witness6 (enc := enc) (C := Tryz.checked) false ⟨#[], #[], []⟩ 8 (by kernel_rfl) (by kernel_rfl) (by kernel_rfl) (by kernel_rfl))
    (by kernel_rfl) (by kernel_rfl) rfl (by kernel_rfl) rfl Tryz.underlying4 (fun ds h => match ds, h with | [], _ => rfl) ?_
  intro args ha
  obtain rfl := args_nil ha
  exact planNone_run

theorem planNone_holds : Rows.PlanNoneSaid :=
  OpenClaim.holds_of_wide 3 Tryz.f3 rfl rfl rfl rfl rfl rfl rfl ⟨rfl, rfl, rfl, rfl, rfl⟩ rfl rfl rfl rfl rfl (by kernel_rfl) Tryz.func3 joined3
    (of_decide_eq_true (by kernel_rfl)) (by unfold Func.isWrapper; first | (rw [if_pos (by decide +kernel)]; kernel_rfl) | (rw [if_neg (by decide +kernel)]; exact ⟨rfl, rfl⟩))
    (fun os started H enc _ => planNone_lifted os started H enc)
end Go.Proofs.YtfobkjdmohaakaaGreat
