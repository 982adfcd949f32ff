/-
QueueTurns, for all pods: it returns true, and the memory that was there stays as it was.
-/
import Derived.Test.YtllgfkpmblhbmaaGreatCalls
import Derived.Test.YtllgfkpmblhbmaaGreatQu7
import Derived.Test.YtllgfkpmblhbmaaGreatIns
import Derived.Test.YtllgfkpmblhbmaaGreatArgsP
import Derived.Test.YtllgfkpmblhbmaaGreatAfQOk
import Derived.Test.YtllgfkpmblhbmaaGreatJoinQT
namespace Go.Proofs.YtllgfkpmblhbmaaGreat
open Go.ChangeShapes Go.WideShapes Go.ChangeAt Go.RowKit Go.Eng

theorem Tryz.own : ownKnob Tryz.prog.godebug = none := by kernel_rfl
set_option maxRecDepth 100000 in
theorem queueTurns_lifted (os : Os) (started : os.Started) (H : Type) (enc : TypeId × Value → H) :
    ReturnsInHanded {} Tryz.checked os 7 .any (Rows.queueTurnsSpec.pre6 enc Tryz.prog Tryz.f7 Rows.queueTurnsRow.domain false) (Rows.queueTurnsSpec.post enc Tryz.prog Tryz.f7 false true false false) := by
  refine law_sized (C := Tryz.checked) (shs := [(false, [.sl shPod])]) Tryz.own started (by kernel_rfl) Tryz.func7
    (ChangeSpec.witness6 (enc := enc) (C := Tryz.checked) false ⟨#[], #[.slice none 0 0], []⟩ 8 (by kernel_rfl) (by kernel_rfl) (by kernel_rfl) (by kernel_rfl))
    (by kernel_rfl) (by kernel_rfl) rfl (by kernel_rfl) (by kernel_rfl) rfl Tryz.underlying4 (fun ds h => match ds, h with | [d0], _ => rfl) ?_
  intro args ha hm
  obtain ⟨v0, q0, rfl, h0, ha⟩ := args_cons ha
  obtain rfl := args_nil ha
  obtain ⟨a0, rfl, l0, b0⟩ := arg_pods h0
  obtain ⟨m0, _⟩ := hm
  exact queueTurns_ok fnsOk okqt insOk law18_begun a0 l0 (fun p hp => ⟨(b0 p hp).1, pods_M m0 p hp⟩)

theorem queueTurns_holds : Rows.QueueTurnsSaid :=
  OpenClaim.holds_of_wide 7 Tryz.f7 rfl rfl rfl rfl rfl rfl rfl ⟨rfl, rfl, rfl, rfl, rfl⟩ rfl rfl rfl rfl rfl (by kernel_rfl) Tryz.func7 joined7
    (of_decide_eq_true (by kernel_rfl)) (by unfold Func.isWrapper; first | (rw [if_pos (by decide +kernel)]; kernel_rfl) | (rw [if_neg (by decide +kernel)]; exact ⟨rfl, rfl⟩))
    (fun os started H enc _ => queueTurns_lifted os started H enc)
end Go.Proofs.YtllgfkpmblhbmaaGreat
