/-
ClockSpan, for every list of lists of integers: it returns true, and the memory that was there stays as it was.
-/
import Derived.Test.YtaddlnjgamlleaaGreatCalls2
import Derived.Test.YtaddlnjgamlleaaGreatLaw8
import Derived.Test.YtaddlnjgamlleaaGreatArgs2
import Derived.Test.YtaddlnjgamlleaaGreatAhOk
import Derived.Test.YtaddlnjgamlleaaGreatJoin8
namespace Go.Proofs.YtaddlnjgamlleaaGreat
open Go.ChangeShapes Go.WideShapes Go.ChangeAt Go.RowKit Go.Eng

theorem Tryz.own : ownKnob Tryz.prog.godebug = none := by kernel_rfl
set_option maxRecDepth 100000 in
theorem clockSpan_lifted (os : Os) (started : os.Started) (H : Type) (enc : TypeId × Value → H) :
    ReturnsInHanded {} Tryz.checked os 8 .any (Rows.clockSpanSpec.pre6 enc Tryz.prog Tryz.f8 Rows.clockSpanRow.domain false) (Rows.clockSpanSpec.post enc Tryz.prog Tryz.f8 false true false false) := by
  refine law_lifted (C := Tryz.checked) (shs := [(false, [.sl [.sl [.i .i64]]])]) Tryz.own started (by kernel_rfl) Tryz.func8
    (ChangeSpec.witness6 (enc := enc) (C := Tryz.checked) false ⟨#[], #[.slice none 0 0], []⟩ 8 (by kernel_rfl) (by kernel_rfl) (by kernel_rfl) (by kernel_rfl))
    (by kernel_rfl) (by kernel_rfl) rfl (by kernel_rfl) rfl Tryz.underlying4 (fun ds h => match ds, h with | [d0], _ => rfl) ?_
  intro args ha
  obtain ⟨v0, q0, rfl, h0, ha⟩ := args_cons ha
  obtain rfl := args_nil ha
  obtain ⟨n0, ln0, a0, rfl, b0, c0⟩ := arg_intss h0
  exact clockSpan_ok fnsOk hnsOk law10_begun n0 ln0 a0 (fun _ => rfl)

theorem clockSpan_holds : Rows.ClockSpanSaid :=
  OpenClaim.holds_of_wide 8 Tryz.f8 rfl rfl rfl rfl rfl rfl rfl ⟨rfl, rfl, rfl, rfl, rfl⟩ rfl rfl rfl rfl rfl (by kernel_rfl) Tryz.func8 joined8
    (of_decide_eq_true (by kernel_rfl)) (by unfold Func.isWrapper; first | (rw [if_pos (by decide +kernel)]; kernel_rfl) | (rw [if_neg (by decide +kernel)]; exact ⟨rfl, rfl⟩))
    (fun os started H enc _ => clockSpan_lifted os started H enc)
end Go.Proofs.YtaddlnjgamlleaaGreat
