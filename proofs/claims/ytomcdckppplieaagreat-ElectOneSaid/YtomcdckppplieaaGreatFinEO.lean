/-
ElectOne, for all steps: it returns true, and the memory that was there stays as it was.
-/
import Derived.Test.YtomcdckppplieaaGreatCalls
import Derived.Test.YtomcdckppplieaaGreatEl7
import Derived.Test.YtomcdckppplieaaGreatArgsO
import Derived.Test.YtomcdckppplieaaGreatAfOOk
import Derived.Test.YtomcdckppplieaaGreatJoinEO
namespace Go.Proofs.YtomcdckppplieaaGreat
open Go.ChangeShapes Go.WideShapes Go.ChangeAt Go.RowKit Go.Eng

theorem Tryz.own : ownKnob Tryz.prog.godebug = none := by kernel_rfl
set_option maxRecDepth 100000 in
theorem electOne_lifted (os : Os) (started : os.Started) (H : Type) (enc : TypeId × Value → H) :
    ReturnsInHanded {} Tryz.checked os 3 .any (Rows.electOneSpec.pre6 enc Tryz.prog Tryz.f3 Rows.electOneRow.domain false) (Rows.electOneSpec.post enc Tryz.prog Tryz.f3 false true false false) := by
  refine law_lifted (C := Tryz.checked) (shs := [(false, [.i .i64]), (false, [.sl [.i .i64, .i .i64, .i .i64]])]) Tryz.own started (by kernel_rfl) Tryz.func3
    (ChangeSpec.witness6 (enc := enc) (C := Tryz.checked) false ⟨#[], #[.int .i64 0, .slice none 0 0], []⟩ 8 (by kernel_rfl) (by kernel_rfl) (by kernel_rfl) (by kernel_rfl))
    (by kernel_rfl) (by kernel_rfl) rfl (by kernel_rfl) rfl Tryz.underlying4 (fun ds h => match ds, h with | [d0, d1], _ => rfl) ?_
  intro args ha
  obtain ⟨v0, q0, rfl, h0, ha⟩ := args_cons ha
  obtain ⟨v1, q1, rfl, h1, ha⟩ := args_cons ha
  obtain rfl := args_nil ha
  obtain ⟨a0, rfl, l0, u0⟩ := arg_i64 h0
  obtain ⟨a1, rfl, b1⟩ := arg_ops h1
  exact electOne_ok fnsOk okeo add_ok law10_begun a0 a1 b1

theorem electOne_holds : Rows.ElectOneSaid :=
  OpenClaim.holds_of_wide 3 Tryz.f3 rfl rfl rfl rfl rfl rfl rfl ⟨rfl, rfl, rfl, rfl, rfl⟩ rfl rfl rfl rfl rfl (by kernel_rfl) Tryz.func3 joined3
    (of_decide_eq_true (by kernel_rfl)) (by unfold Func.isWrapper; first | (rw [if_pos (by decide +kernel)]; kernel_rfl) | (rw [if_neg (by decide +kernel)]; exact ⟨rfl, rfl⟩))
    (fun os started H enc _ => electOne_lifted os started H enc)
end Go.Proofs.YtomcdckppplieaaGreat
