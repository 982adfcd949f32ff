/-
AssumeAll, for all steps: it returns true, and the memory that was there stays as it was.
-/
import Derived.Test.YtcckglahpbmakaaGreatCalls
import Derived.Test.YtcckglahpbmakaaGreatAs13
import Derived.Test.YtcckglahpbmakaaGreatArgsW
import Derived.Test.YtcckglahpbmakaaGreatSortOk
import Derived.Test.YtcckglahpbmakaaGreatJoinAA
namespace Go.Proofs.YtcckglahpbmakaaGreat
open Go.ChangeShapes Go.WideShapes Go.ChangeAt Go.RowKit Go.Eng

theorem Tryz.own : ownKnob Tryz.prog.godebug = none := by kernel_rfl
set_option maxRecDepth 100000 in
theorem assumeAll_lifted (os : Os) (started : os.Started) (H : Type) (enc : TypeId × Value → H) :
    ReturnsInHanded {} Tryz.checked os 7 .any (Rows.assumeAllSpec.pre6 enc Tryz.prog Tryz.f7 Rows.assumeAllRow.domain false) (Rows.assumeAllSpec.post enc Tryz.prog Tryz.f7 false true false false) := by
  refine law_sized (C := Tryz.checked) (shs := [(false, [.sl shAop])]) Tryz.own started (by kernel_rfl) Tryz.func7
    (ChangeSpec.witness6 (enc := enc) (C := Tryz.checked) false ⟨#[], #[.slice none 0 0], []⟩ 8 (by kernel_rfl) (by kernel_rfl) (by kernel_rfl) (by kernel_rfl))
    (by kernel_rfl) (by kernel_rfl) rfl (by kernel_rfl) (by kernel_rfl) rfl Tryz.underlying4 (fun ds h => match ds, h with | [d0], _ => rfl) ?_
  intro args ha hm
  obtain ⟨v0, q0, rfl, h0, ha⟩ := args_cons ha
  obtain rfl := args_nil ha
  obtain ⟨m0, _⟩ := hm
  exact (by
    obtain ⟨b0, rfl, k0⟩ := arg_aopsM m0
    exact assumeAll_ok fnsOk once_ok law10_begun b0 k0)

theorem assumeAll_holds : Rows.AssumeAllSaid :=
  OpenClaim.holds_of_wide 7 Tryz.f7 rfl rfl rfl rfl rfl rfl rfl ⟨rfl, rfl, rfl, rfl, rfl⟩ rfl rfl rfl rfl rfl (by kernel_rfl) Tryz.func7 joined7
    (of_decide_eq_true (by kernel_rfl)) (by unfold Func.isWrapper; first | (rw [if_pos (by decide +kernel)]; kernel_rfl) | (rw [if_neg (by decide +kernel)]; exact ⟨rfl, rfl⟩))
    (fun os started H enc _ => assumeAll_lifted os started H enc)
end Go.Proofs.YtcckglahpbmakaaGreat
