/-
ClockBad, for every n and two lists of integers: it returns true, and the memory that was there stays as it was.
-/
import Derived.Test.YtaddlnjgamlleaaGreatCalls2
import Derived.Test.YtaddlnjgamlleaaGreatLaw7
import Derived.Test.YtaddlnjgamlleaaGreatArgs1
import Derived.Test.YtaddlnjgamlleaaGreatAhOk
import Derived.Test.YtaddlnjgamlleaaGreatJoin7
namespace Go.Proofs.YtaddlnjgamlleaaGreat
open Go.ChangeShapes Go.WideShapes Go.ChangeAt Go.RowKit Go.Eng

theorem Tryz.own : ownKnob Tryz.prog.godebug = none := by kernel_rfl
set_option maxRecDepth 100000 in
theorem clockBad_lifted (os : Os) (started : os.Started) (H : Type) (enc : TypeId × Value → H) :
    ReturnsInHanded {} Tryz.checked os 7 .any (Rows.clockBadSpec.pre6 enc Tryz.prog Tryz.f7 Rows.clockBadRow.domain false) (Rows.clockBadSpec.post enc Tryz.prog Tryz.f7 false true false false) := by
  refine law_lifted (C := Tryz.checked) (shs := [(false, [.i .i64]), (false, [.sl [.i .i64]]), (false, [.sl [.i .i64]])]) Tryz.own started (by kernel_rfl) Tryz.func7
    (ChangeSpec.witness6 (enc := enc) (C := Tryz.checked) false ⟨#[], #[.int .i64 0, .slice none 0 0, .slice none 0 0], []⟩ 8 (by kernel_rfl) (by kernel_rfl) (by kernel_rfl) (by kernel_rfl))
    (by kernel_rfl) (by kernel_rfl) rfl (by kernel_rfl) rfl Tryz.underlying4 (fun ds h => match ds, h with | [d0, d1, d2], _ => rfl) ?_
  intro args ha
  obtain ⟨v0, q0, rfl, h0, ha⟩ := args_cons ha
  obtain ⟨v1, q1, rfl, h1, ha⟩ := args_cons ha
  obtain ⟨v2, q2, rfl, h2, ha⟩ := args_cons ha
  obtain rfl := args_nil ha
  obtain ⟨a0, rfl, l0, u0⟩ := arg_i64 h0
  obtain ⟨n1, a1, rfl, b1, r1⟩ := arg_ints h1
  obtain ⟨n2, a2, rfl, b2, r2⟩ := arg_ints h2
  exact clockBad_ok fnsOk hnsOk law10_begun a0 n1 n2 a1 a2 (fun _ => rfl)

theorem clockBad_holds : Rows.ClockBadSaid :=
  OpenClaim.holds_of_wide 7 Tryz.f7 rfl rfl rfl rfl rfl rfl rfl ⟨rfl, rfl, rfl, rfl, rfl⟩ rfl rfl rfl rfl rfl (by kernel_rfl) Tryz.func7 joined7
    (of_decide_eq_true (by kernel_rfl)) (by unfold Func.isWrapper; first | (rw [if_pos (by decide +kernel)]; kernel_rfl) | (rw [if_neg (by decide +kernel)]; exact ⟨rfl, rfl⟩))
    (fun os started H enc _ => clockBad_lifted os started H enc)
end Go.Proofs.YtaddlnjgamlleaaGreat
