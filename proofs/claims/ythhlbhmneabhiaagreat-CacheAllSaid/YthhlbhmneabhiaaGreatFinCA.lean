/-
CacheAll, for all that is told: it returns true, and the memory that was there stays as it was.
-/
import Derived.Test.YthhlbhmneabhiaaGreatCalls
import Derived.Test.YthhlbhmneabhiaaGreatCa6
import Derived.Test.YthhlbhmneabhiaaGreatArgsL
import Derived.Test.YthhlbhmneabhiaaGreatSortOk
import Derived.Test.YthhlbhmneabhiaaGreatJoinCA
namespace Go.Proofs.YthhlbhmneabhiaaGreat
open Go.ChangeShapes Go.WideShapes Go.ChangeAt Go.RowKit Go.Eng

theorem Tryz.own : ownKnob Tryz.prog.godebug = none := by kernel_rfl
set_option maxRecDepth 100000 in
theorem cacheAll_lifted (os : Os) (started : os.Started) (H : Type) (enc : TypeId × Value → H) :
    ReturnsInHanded {} Tryz.checked os 6 .any (Rows.cacheAllSpec.pre6 enc Tryz.prog Tryz.f6 Rows.cacheAllRow.domain false) (Rows.cacheAllSpec.post enc Tryz.prog Tryz.f6 false true false false) := by
  refine law_sized (C := Tryz.checked) (shs := [(false, [.sl [.i .i64, .i .i64, .i .i64, .sl [.s, .i .i64, .sl [.i .u8]], .sl [.i .i64, .s, .sl [.i .u8], .b]]]), (false, [.s])]) Tryz.own started (by kernel_rfl) Tryz.func6
    (ChangeSpec.witness6 (enc := enc) (C := Tryz.checked) false ⟨#[], #[.slice none 0 0, .string ByteArray.empty], []⟩ 8 (by kernel_rfl) (by kernel_rfl) (by kernel_rfl) (by kernel_rfl))
    (by kernel_rfl) (by kernel_rfl) rfl (by kernel_rfl) (by kernel_rfl) rfl Tryz.underlying4 (fun ds h => match ds, h with | [d0, d1], _ => rfl) ?_
  intro args ha hm
  obtain ⟨v0, q0, rfl, h0, ha⟩ := args_cons ha
  obtain ⟨v1, q1, rfl, h1, ha⟩ := args_cons ha
  obtain rfl := args_nil ha
  obtain ⟨m0, m1, _⟩ := hm
  exact (by
    obtain ⟨b0, rfl, c0⟩ := arg_copsM m0
    obtain ⟨b1, rfl⟩ := arg_strM m1
    exact cacheAll_ok fnsOk sortedOk law10_begun b0 b1 c0)

theorem cacheAll_holds : Rows.CacheAllSaid :=
  OpenClaim.holds_of_wide 6 Tryz.f6 rfl rfl rfl rfl rfl rfl rfl ⟨rfl, rfl, rfl, rfl, rfl⟩ rfl rfl rfl rfl rfl (by kernel_rfl) Tryz.func6 joined6
    (of_decide_eq_true (by kernel_rfl)) (by unfold Func.isWrapper; first | (rw [if_pos (by decide +kernel)]; kernel_rfl) | (rw [if_neg (by decide +kernel)]; exact ⟨rfl, rfl⟩))
    (fun os started H enc _ => cacheAll_lifted os started H enc)
end Go.Proofs.YthhlbhmneabhiaaGreat
