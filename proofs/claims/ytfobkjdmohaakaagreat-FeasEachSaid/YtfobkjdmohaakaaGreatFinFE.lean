/-
FeasEach, for every state and pod: it returns true, and the memory that was there stays as it was.
-/
import Derived.Test.YtfobkjdmohaakaaGreatCalls
import Derived.Test.YtfobkjdmohaakaaGreatFEo
import Derived.Test.YtfobkjdmohaakaaGreatArgsD
import Derived.Test.YtfobkjdmohaakaaGreatJoinFE
namespace Go.Proofs.YtfobkjdmohaakaaGreat
open Go.ChangeShapes Go.WideShapes Go.ChangeAt Go.RowKit Go.Eng

theorem Tryz.own : ownKnob Tryz.prog.godebug = none := by kernel_rfl
set_option maxRecDepth 100000 in
theorem feasEach_lifted (os : Os) (started : os.Started) (H : Type) (enc : TypeId × Value → H) :
    ReturnsInHanded {} Tryz.checked os 12 .any (Rows.feasEachSpec.pre6 enc Tryz.prog Tryz.f12 Rows.feasEachRow.domain false) (Rows.feasEachSpec.post enc Tryz.prog Tryz.f12 false true false false) := by
  refine law_lifted (C := Tryz.checked) (shs := [(true, [.sl shNode, .sl shPod]), (true, shPod)]) Tryz.own started (by kernel_rfl) Tryz.func12
    (ChangeSpec.witness6 (enc := enc) (C := Tryz.checked) false ⟨#[], #[.agg #[.slice none 0 0, .slice none 0 0], .agg #[.string ByteArray.empty, .int .i64 0, .int .i64 0, .int .i64 0, .int .i64 0, .int .i64 0, .slice none 0 0, .slice none 0 0, .slice none 0 0, .slice none 0 0, .string ByteArray.empty, .slice none 0 0, .int .i64 0, .slice none 0 0, .string ByteArray.empty, .int .i64 0]], []⟩ 8 (by kernel_rfl) (by kernel_rfl) (by kernel_rfl) (by kernel_rfl))
    (by kernel_rfl) (by kernel_rfl) rfl (by kernel_rfl) rfl Tryz.underlying4 (fun ds h => match ds, h with | [d0, d1], _ => rfl) ?_
  intro args ha
  obtain ⟨v0, q0, rfl, h0, ha⟩ := args_cons ha
  obtain ⟨v1, q1, rfl, h1, ha⟩ := args_cons ha
  obtain rfl := args_nil ha
  obtain ⟨a0, rfl, b0⟩ := arg_state h0
  obtain ⟨a1, rfl, b1⟩ := arg_pod h1
  exact feasEach_ok fnsOk law18_begun a0 a1 b0 b1

theorem feasEach_holds : Rows.FeasEachSaid :=
  OpenClaim.holds_of_wide 12 Tryz.f12 rfl rfl rfl rfl rfl rfl rfl ⟨rfl, rfl, rfl, rfl, rfl⟩ rfl rfl rfl rfl rfl (by kernel_rfl) Tryz.func12 joined12
    (of_decide_eq_true (by kernel_rfl)) (by unfold Func.isWrapper; first | (rw [if_pos (by decide +kernel)]; kernel_rfl) | (rw [if_neg (by decide +kernel)]; exact ⟨rfl, rfl⟩))
    (fun os started H enc _ => feasEach_lifted os started H enc)
end Go.Proofs.YtfobkjdmohaakaaGreat
