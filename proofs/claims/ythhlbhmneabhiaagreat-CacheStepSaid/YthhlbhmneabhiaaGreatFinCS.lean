/-
CacheStep, for all entries and events: it returns true, and the memory that was there stays as it was.
-/
import Derived.Test.YthhlbhmneabhiaaGreatCalls
import Derived.Test.YthhlbhmneabhiaaGreatCa7
import Derived.Test.YthhlbhmneabhiaaGreatArgsK
import Derived.Test.YthhlbhmneabhiaaGreatSortOk
import Derived.Test.YthhlbhmneabhiaaGreatAfCSOk
import Derived.Test.YthhlbhmneabhiaaGreatJoinCS
namespace Go.Proofs.YthhlbhmneabhiaaGreat
open Go.ChangeShapes Go.WideShapes Go.ChangeAt Go.RowKit Go.Eng

theorem Tryz.own : ownKnob Tryz.prog.godebug = none := by kernel_rfl
set_option maxRecDepth 100000 in
theorem cacheStep_lifted (os : Os) (started : os.Started) (H : Type) (enc : TypeId × Value → H) :
    ReturnsInHanded {} Tryz.checked os 3 .any (Rows.cacheStepSpec.pre6 enc Tryz.prog Tryz.f3 Rows.cacheStepRow.domain false) (Rows.cacheStepSpec.post enc Tryz.prog Tryz.f3 false true false false) := by
  refine law_sized (C := Tryz.checked) (shs := [(false, [.sl [.s, .i .i64, .sl [.i .u8]]]), (false, [.sl [.i .i64, .s, .sl [.i .u8], .b]])]) Tryz.own started (by kernel_rfl) Tryz.func3
    (ChangeSpec.witness6 (enc := enc) (C := Tryz.checked) false ⟨#[], #[.slice none 0 0, .slice none 0 0], []⟩ 8 (by kernel_rfl) (by kernel_rfl) (by kernel_rfl) (by kernel_rfl))
    (by kernel_rfl) (by kernel_rfl) rfl (by kernel_rfl) (by kernel_rfl) rfl Tryz.underlying4 (fun ds h => match ds, h with | [d0, d1], _ => rfl) ?_
  intro args ha hm
  obtain ⟨v0, q0, rfl, h0, ha⟩ := args_cons ha
  obtain ⟨v1, q1, rfl, h1, ha⟩ := args_cons ha
  obtain rfl := args_nil ha
  obtain ⟨m0, m1, _⟩ := hm
  exact (by
    obtain ⟨b0, rfl, k0, c0⟩ := arg_ensM m0
    obtain ⟨b1, rfl, k1, c1⟩ := arg_evsM m1
    exact cacheStep_ok fnsOk okcs sortedOk law10_begun b0 b1 c0 c1 k0 k1)

theorem cacheStep_holds : Rows.CacheStepSaid :=
  OpenClaim.holds_of_wide 3 Tryz.f3 rfl rfl rfl rfl rfl rfl rfl ⟨rfl, rfl, rfl, rfl, rfl⟩ rfl rfl rfl rfl rfl (by kernel_rfl) Tryz.func3 joined3
    (of_decide_eq_true (by kernel_rfl)) (by unfold Func.isWrapper; first | (rw [if_pos (by decide +kernel)]; kernel_rfl) | (rw [if_neg (by decide +kernel)]; exact ⟨rfl, rfl⟩))
    (fun os started H enc _ => cacheStep_lifted os started H enc)
end Go.Proofs.YthhlbhmneabhiaaGreat
