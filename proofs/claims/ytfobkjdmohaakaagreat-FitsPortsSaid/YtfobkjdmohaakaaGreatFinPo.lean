/-
FitsPorts, for every two lists of ports: it returns true, and the memory that was there stays as it was.
-/
import Derived.Test.YtfobkjdmohaakaaGreatCalls
import Derived.Test.YtfobkjdmohaakaaGreatFPo
import Derived.Test.YtfobkjdmohaakaaGreatArgsC
import Derived.Test.YtfobkjdmohaakaaGreatJoinPo
namespace Go.Proofs.YtfobkjdmohaakaaGreat
open Go.ChangeShapes Go.WideShapes Go.ChangeAt Go.RowKit Go.Eng

theorem Tryz.own : ownKnob Tryz.prog.godebug = none := by kernel_rfl
set_option maxRecDepth 100000 in
theorem fitsPorts_lifted (os : Os) (started : os.Started) (H : Type) (enc : TypeId × Value → H) :
    ReturnsInHanded {} Tryz.checked os 6 .any (Rows.fitsPortsSpec.pre6 enc Tryz.prog Tryz.f6 Rows.fitsPortsRow.domain false) (Rows.fitsPortsSpec.post enc Tryz.prog Tryz.f6 false true false false) := by
  refine law_lifted (C := Tryz.checked) (shs := [(false, [.sl [.i .i64]]), (false, [.sl [.i .i64]])]) Tryz.own started (by kernel_rfl) Tryz.func6
    (ChangeSpec.witness6 (enc := enc) (C := Tryz.checked) false ⟨#[], #[.slice none 0 0, .slice none 0 0], []⟩ 8 (by kernel_rfl) (by kernel_rfl) (by kernel_rfl) (by kernel_rfl))
    (by kernel_rfl) (by kernel_rfl) rfl (by kernel_rfl) rfl Tryz.underlying4 (fun ds h => match ds, h with | [d0, d1], _ => rfl) ?_
  intro args ha
  obtain ⟨v0, q0, rfl, h0, ha⟩ := args_cons ha
  obtain ⟨v1, q1, rfl, h1, ha⟩ := args_cons ha
  obtain rfl := args_nil ha
  obtain ⟨a0, rfl, b0⟩ := arg_intl h0
  obtain ⟨a1, rfl, b1⟩ := arg_intl h1
  exact fitsPorts_ok fnsOk law18_begun a0 a1 b0 b1

theorem fitsPorts_holds : Rows.FitsPortsSaid :=
  OpenClaim.holds_of_wide 6 Tryz.f6 rfl rfl rfl rfl rfl rfl rfl ⟨rfl, rfl, rfl, rfl, rfl⟩ rfl rfl rfl rfl rfl (by kernel_rfl) Tryz.func6 joined6
    (of_decide_eq_true (by kernel_rfl)) (by unfold Func.isWrapper; first | (rw [if_pos (by decide +kernel)]; kernel_rfl) | (rw [if_neg (by decide +kernel)]; exact ⟨rfl, rfl⟩))
    (fun os started H enc _ => fitsPorts_lifted os started H enc)
end Go.Proofs.YtfobkjdmohaakaaGreat
