/-
RelistEnds, for all steps: it returns true, and the memory that was there stays as it was.
-/
import Derived.Test.YtcckglahpbmakaaGreatCalls
import Derived.Test.YtcckglahpbmakaaGreatRe1
import Derived.Test.YtcckglahpbmakaaGreatArgsR
import Derived.Test.YtcckglahpbmakaaGreatSortOk
import Derived.Test.YtcckglahpbmakaaGreatJoinRE
namespace Go.Proofs.YtcckglahpbmakaaGreat
open Go.ChangeShapes Go.WideShapes Go.ChangeAt Go.RowKit Go.Eng

theorem Tryz.own : ownKnob Tryz.prog.godebug = none := by kernel_rfl
set_option maxRecDepth 100000 in
theorem relistEnds_lifted (os : Os) (started : os.Started) (H : Type) (enc : TypeId × Value → H) :
    ReturnsInHanded {} Tryz.checked os 4 .any (Rows.relistEndsSpec.pre6 enc Tryz.prog Tryz.f4 Rows.relistEndsRow.domain false) (Rows.relistEndsSpec.post enc Tryz.prog Tryz.f4 false true false false) := by
  refine law_sized (C := Tryz.checked) (shs := [(false, [.sl shRop])]) Tryz.own started (by kernel_rfl) Tryz.func4
    (ChangeSpec.witness6 (enc := enc) (C := Tryz.checked) false ⟨#[], #[.slice none 0 0], []⟩ 8 (by kernel_rfl) (by kernel_rfl) (by kernel_rfl) (by kernel_rfl))
    (by kernel_rfl) (by kernel_rfl) rfl (by kernel_rfl) (by kernel_rfl) rfl Tryz.underlying4 (fun ds h => match ds, h with | [d0], _ => rfl) ?_
  intro args ha hm
  obtain ⟨v0, q0, rfl, h0, ha⟩ := args_cons ha
  obtain rfl := args_nil ha
  obtain ⟨m0, _⟩ := hm
  exact (by
    obtain ⟨b0, rfl, k0⟩ := arg_ropsM m0
    exact relistEnds_ok fnsOk add_ok sortedOk law10_begun b0 k0)

theorem relistEnds_holds : Rows.RelistEndsSaid :=
  OpenClaim.holds_of_wide 4 Tryz.f4 rfl rfl rfl rfl rfl rfl rfl ⟨rfl, rfl, rfl, rfl, rfl⟩ rfl rfl rfl rfl rfl (by kernel_rfl) Tryz.func4 joined4
    (of_decide_eq_true (by kernel_rfl)) (by unfold Func.isWrapper; first | (rw [if_pos (by decide +kernel)]; kernel_rfl) | (rw [if_neg (by decide +kernel)]; exact ⟨rfl, rfl⟩))
    (fun os started H enc _ => relistEnds_lifted os started H enc)
end Go.Proofs.YtcckglahpbmakaaGreat
