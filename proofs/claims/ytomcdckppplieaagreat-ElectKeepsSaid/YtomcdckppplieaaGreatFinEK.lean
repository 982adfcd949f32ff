/-
ElectKeeps, for all steps: it returns true, and the memory that was there stays as it was.
-/
import Derived.Test.YtomcdckppplieaaGreatCalls
import Derived.Test.YtomcdckppplieaaGreatEl5
import Derived.Test.YtomcdckppplieaaGreatArgsN
import Derived.Test.YtomcdckppplieaaGreatAfKOk
import Derived.Test.YtomcdckppplieaaGreatJoinEK
namespace Go.Proofs.YtomcdckppplieaaGreat
open Go.ChangeShapes Go.WideShapes Go.ChangeAt Go.RowKit Go.Eng

theorem Tryz.own : ownKnob Tryz.prog.godebug = none := by kernel_rfl
set_option maxRecDepth 100000 in
theorem electKeeps_lifted (os : Os) (started : os.Started) (H : Type) (enc : TypeId × Value → H) :
    ReturnsInHanded {} Tryz.checked os 4 .any (Rows.electKeepsSpec.pre6 enc Tryz.prog Tryz.f4 Rows.electKeepsRow.domain false) (Rows.electKeepsSpec.post enc Tryz.prog Tryz.f4 false true false false) := by
  refine law_lifted (C := Tryz.checked) (shs := [(false, [.sl [.i .i64]])]) Tryz.own started (by kernel_rfl) Tryz.func4
    (ChangeSpec.witness6 (enc := enc) (C := Tryz.checked) false ⟨#[], #[.slice none 0 0], []⟩ 8 (by kernel_rfl) (by kernel_rfl) (by kernel_rfl) (by kernel_rfl))
    (by kernel_rfl) (by kernel_rfl) rfl (by kernel_rfl) rfl Tryz.underlying4 (fun ds h => match ds, h with | [d0], _ => rfl) ?_
  intro args ha
  obtain ⟨v0, q0, rfl, h0, ha⟩ := args_cons ha
  obtain rfl := args_nil ha
  obtain ⟨a0, rfl, b0⟩ := arg_nums h0
  exact electKeeps_ok fnsOk okek add_ok law10_begun a0 b0

theorem electKeeps_holds : Rows.ElectKeepsSaid :=
  OpenClaim.holds_of_wide 4 Tryz.f4 rfl rfl rfl rfl rfl rfl rfl ⟨rfl, rfl, rfl, rfl, rfl⟩ rfl rfl rfl rfl rfl (by kernel_rfl) Tryz.func4 joined4
    (of_decide_eq_true (by kernel_rfl)) (by unfold Func.isWrapper; first | (rw [if_pos (by decide +kernel)]; kernel_rfl) | (rw [if_neg (by decide +kernel)]; exact ⟨rfl, rfl⟩))
    (fun os started H enc _ => electKeeps_lifted os started H enc)
end Go.Proofs.YtomcdckppplieaaGreat
