/-
FeasKept, for every state and all pods: it returns true, and the memory that was there stays as it was.
-/
import Derived.Test.YtdobfbnfaekafaaGreatCalls
import Derived.Test.YtdobfbnfaekafaaGreatWiL
import Derived.Test.YtdobfbnfaekafaaGreatIns
import Derived.Test.YtdobfbnfaekafaaGreatArgsP
import Derived.Test.YtdobfbnfaekafaaGreatJoinFK
namespace Go.Proofs.YtdobfbnfaekafaaGreat
open Go.ChangeShapes Go.WideShapes Go.ChangeAt Go.RowKit Go.Eng

theorem Tryz.own : ownKnob Tryz.prog.godebug = none := by kernel_rfl
set_option maxRecDepth 100000 in
theorem feasKept_lifted (os : Os) (started : os.Started) (H : Type) (enc : TypeId × Value → H) :
    ReturnsInHanded {} Tryz.checked os 3 .any (Rows.feasKeptSpec.pre6 enc Tryz.prog Tryz.f3 Rows.feasKeptRow.domain false) (Rows.feasKeptSpec.post enc Tryz.prog Tryz.f3 false true false false) := by
  refine law_lifted (C := Tryz.checked) (shs := [(true, [.sl shNode, .sl shPod]), (false, [.sl shPod])]) Tryz.own started (by kernel_rfl) Tryz.func3
    (ChangeSpec.witness6 (enc := enc) (C := Tryz.checked) false ⟨#[], #[.agg #[.slice none 0 0, .slice none 0 0], .slice none 0 0], []⟩ 8 (by kernel_rfl) (by kernel_rfl) (by kernel_rfl) (by kernel_rfl))
    (by kernel_rfl) (by kernel_rfl) rfl (by kernel_rfl) rfl Tryz.underlying4 (fun ds h => match ds, h with | [d0, d1], _ => rfl) ?_
  intro args ha
  obtain ⟨v0, q0, rfl, h0, ha⟩ := args_cons ha
  obtain ⟨v1, q1, rfl, h1, ha⟩ := args_cons ha
  obtain rfl := args_nil ha
  obtain ⟨a0, rfl, b0⟩ := arg_state h0
  obtain ⟨a1, rfl, l1, b1⟩ := arg_pods h1
  exact feasKept_ok fnsOk insOk law18_begun cmpS_ok a0 a1 b0 l1 (fun p hp => ⟨(b1 p hp).1, (b1 p hp).2⟩)

theorem feasKept_holds : Rows.FeasKeptSaid :=
  OpenClaim.holds_of_wide 3 Tryz.f3 rfl rfl rfl rfl rfl rfl rfl ⟨rfl, rfl, rfl, rfl, rfl⟩ rfl rfl rfl rfl rfl (by kernel_rfl) Tryz.func3 joined3
    (of_decide_eq_true (by kernel_rfl)) (by unfold Func.isWrapper; first | (rw [if_pos (by decide +kernel)]; kernel_rfl) | (rw [if_neg (by decide +kernel)]; exact ⟨rfl, rfl⟩))
    (fun os started H enc _ => feasKept_lifted os started H enc)
end Go.Proofs.YtdobfbnfaekafaaGreat
