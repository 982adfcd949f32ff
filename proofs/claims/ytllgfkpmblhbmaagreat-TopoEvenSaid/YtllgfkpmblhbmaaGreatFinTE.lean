/-
TopoEven, for all numbers: it returns true, and the memory that was there stays as it was.
-/
import Derived.Test.YtllgfkpmblhbmaaGreatCalls
import Derived.Test.YtllgfkpmblhbmaaGreatZoE
import Derived.Test.YtllgfkpmblhbmaaGreatIns
import Derived.Test.YtllgfkpmblhbmaaGreatArgsI
import Derived.Test.YtllgfkpmblhbmaaGreatAfEOk
import Derived.Test.YtllgfkpmblhbmaaGreatJoinTE
namespace Go.Proofs.YtllgfkpmblhbmaaGreat
open Go.ChangeShapes Go.WideShapes Go.ChangeAt Go.RowKit Go.Eng

theorem Tryz.own : ownKnob Tryz.prog.godebug = none := by kernel_rfl
set_option maxRecDepth 100000 in
theorem topoEven_lifted (os : Os) (started : os.Started) (H : Type) (enc : TypeId × Value → H) :
    ReturnsInHanded {} Tryz.checked os 4 .any (Rows.topoEvenSpec.pre6 enc Tryz.prog Tryz.f4 Rows.topoEvenRow.domain false) (Rows.topoEvenSpec.post enc Tryz.prog Tryz.f4 false true false false) := by
  refine law_lifted (C := Tryz.checked) (shs := [(false, [.sl [.i .i64]]), (false, [.i .i64]), (false, [.sl [.i .i64]])]) Tryz.own started (by kernel_rfl) Tryz.func4
    (ChangeSpec.witness6 (enc := enc) (C := Tryz.checked) false ⟨#[], #[.slice none 0 0, .int .i64 0, .slice none 0 0], []⟩ 8 (by kernel_rfl) (by kernel_rfl) (by kernel_rfl) (by kernel_rfl))
    (by kernel_rfl) (by kernel_rfl) rfl (by kernel_rfl) rfl Tryz.underlying4 (fun ds h => match ds, h with | [d0, d1, d2], _ => rfl) ?_
  intro args ha
  obtain ⟨v0, q0, rfl, h0, ha⟩ := args_cons ha
  obtain ⟨v1, q1, rfl, h1, ha⟩ := args_cons ha
  obtain ⟨v2, q2, rfl, h2, ha⟩ := args_cons ha
  obtain rfl := args_nil ha
  obtain ⟨a0, rfl, b0⟩ := arg_intl h0
  obtain ⟨a1, rfl, l1, u1⟩ := arg_i64 h1
  obtain ⟨a2, rfl, b2⟩ := arg_intl h2
  exact topoEven_ok fnsOk okte insOk law18_begun cmpS_ok a0 a1 a2 b0 b2

theorem topoEven_holds : Rows.TopoEvenSaid :=
  OpenClaim.holds_of_wide 4 Tryz.f4 rfl rfl rfl rfl rfl rfl rfl ⟨rfl, rfl, rfl, rfl, rfl⟩ rfl rfl rfl rfl rfl (by kernel_rfl) Tryz.func4 joined4
    (of_decide_eq_true (by kernel_rfl)) (by unfold Func.isWrapper; first | (rw [if_pos (by decide +kernel)]; kernel_rfl) | (rw [if_neg (by decide +kernel)]; exact ⟨rfl, rfl⟩))
    (fun os started H enc _ => topoEven_lifted os started H enc)
end Go.Proofs.YtllgfkpmblhbmaaGreat
