/-
CacheOwn, for every list of bytes: it returns true, and the memory that was there stays as it was.
-/
import Derived.Test.YtjoaahnmbonboaaGreatCalls2
import Derived.Test.YtjoaahnmbonboaaGreatArgsB
import Derived.Test.YtjoaahnmbonboaaGreatArgs1
import Derived.Test.YtjoaahnmbonboaaGreatAoOk
import Derived.Test.YtjoaahnmbonboaaGreatJoin9
namespace Go.Proofs.YtjoaahnmbonboaaGreat
open Go.ChangeShapes Go.WideShapes Go.ChangeAt Go.RowKit Go.Eng

theorem Tryz.own : ownKnob Tryz.prog.godebug = none := by kernel_rfl
set_option maxRecDepth 100000 in
theorem cacheOwn_lifted (os : Os) (started : os.Started) (H : Type) (enc : TypeId × Value → H) :
    ReturnsInHanded {} Tryz.checked os 9 .any (Rows.cacheOwnSpec.pre6 enc Tryz.prog Tryz.f9 Rows.cacheOwnRow.domain false) (Rows.cacheOwnSpec.post enc Tryz.prog Tryz.f9 false true false false) := by
  refine law_lifted (C := Tryz.checked) (shs := [(false, [.sl [.i .u8]])]) Tryz.own started (by kernel_rfl) Tryz.func9
    (ChangeSpec.witness6 (enc := enc) (C := Tryz.checked) false ⟨#[], #[.slice none 0 0], []⟩ 8 (by kernel_rfl) (by kernel_rfl) (by kernel_rfl) (by kernel_rfl))
    (by kernel_rfl) (by kernel_rfl) rfl (by kernel_rfl) rfl Tryz.underlying4 (fun ds h => match ds, h with | [d0], _ => rfl) ?_
  intro args ha
  obtain ⟨v0, q0, rfl, h0, ha⟩ := args_cons ha
  obtain rfl := args_nil ha
  obtain ⟨a0, rfl⟩ := arg_bytes h0
  exact cacheOwn_ok AO.fnsOk sorted_ok law10_begun a0

theorem cacheOwn_holds : Rows.CacheOwnSaid :=
  OpenClaim.holds_of_wide 9 Tryz.f9 rfl rfl rfl rfl rfl rfl rfl ⟨rfl, rfl, rfl, rfl, rfl⟩ rfl rfl rfl rfl rfl (by kernel_rfl) Tryz.func9 joined9
    (of_decide_eq_true (by kernel_rfl)) (by unfold Func.isWrapper; first | (rw [if_pos (by decide +kernel)]; kernel_rfl) | (rw [if_neg (by decide +kernel)]; exact ⟨rfl, rfl⟩))
    (fun os started H enc _ => cacheOwn_lifted os started H enc)
end Go.Proofs.YtjoaahnmbonboaaGreat
