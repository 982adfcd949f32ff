/-
ClockAll, for every n and list of lists of integers: it returns true, and the memory that was there stays as it was.
-/
import Derived.Test.YtaddlnjgamlleaaGreatCalls2
import Derived.Test.YtaddlnjgamlleaaGreatLaw9
import Derived.Test.YtaddlnjgamlleaaGreatArgs2
import Derived.Test.YtaddlnjgamlleaaGreatAhOk
import Derived.Test.YtaddlnjgamlleaaGreatJoin9
namespace Go.Proofs.YtaddlnjgamlleaaGreat
open Go.ChangeShapes Go.WideShapes Go.ChangeAt Go.RowKit Go.Eng

theorem Tryz.own : ownKnob Tryz.prog.godebug = none := by kernel_rfl
set_option maxRecDepth 100000 in
theorem clockAll_lifted (os : Os) (started : os.Started) (H : Type) (enc : TypeId × Value → H) :
    ReturnsInHanded {} Tryz.checked os 9 .any (Rows.clockAllSpec.pre6 enc Tryz.prog Tryz.f9 Rows.clockAllRow.domain false) (Rows.clockAllSpec.post enc Tryz.prog Tryz.f9 false true false false) := by
  refine law_lifted (C := Tryz.checked) (shs := [(false, [.i .i64]), (false, [.sl [.sl [.i .i64]]])]) Tryz.own started (by kernel_rfl) Tryz.func9
    (ChangeSpec.witness6 (enc := enc) (C := Tryz.checked) false ⟨#[], #[.int .i64 0, .slice none 0 0], []⟩ 8 (by kernel_rfl) (by kernel_rfl) (by kernel_rfl) (by kernel_rfl))
    (by kernel_rfl) (by kernel_rfl) rfl (by kernel_rfl) rfl Tryz.underlying4 (fun ds h => match ds, h with | [d0, d1], _ => rfl) ?_
  intro args ha
  obtain ⟨v0, q0, rfl, h0, ha⟩ := args_cons ha
  obtain ⟨v1, q1, rfl, h1, ha⟩ := args_cons ha
  obtain rfl := args_nil ha
  obtain ⟨a0, rfl, l0, u0⟩ := arg_i64 h0
  obtain ⟨n1, ln1, a1, rfl, b1, c1⟩ := arg_intss h1
  exact clockAll_ok fnsOk hnsOk law10_begun a0 n1 ln1 a1 (fun _ => rfl)

theorem clockAll_holds : Rows.ClockAllSaid :=
  OpenClaim.holds_of_wide 9 Tryz.f9 rfl rfl rfl rfl rfl rfl rfl ⟨rfl, rfl, rfl, rfl, rfl⟩ rfl rfl rfl rfl rfl (by kernel_rfl) Tryz.func9 joined9
    (of_decide_eq_true (by kernel_rfl)) (by unfold Func.isWrapper; first | (rw [if_pos (by decide +kernel)]; kernel_rfl) | (rw [if_neg (by decide +kernel)]; exact ⟨rfl, rfl⟩))
    (fun os started H enc _ => clockAll_lifted os started H enc)
end Go.Proofs.YtaddlnjgamlleaaGreat
