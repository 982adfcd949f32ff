/-
NetAll, for all steps of sending and taking: it returns true, and the memory that was there stays as it was.
-/
import Derived.Test.YtomcdckppplieaaGreatCalls
import Derived.Test.YtomcdckppplieaaGreatNaC
import Derived.Test.YtomcdckppplieaaGreatArgsM
import Derived.Test.YtomcdckppplieaaGreatAfNAOk
import Derived.Test.YtomcdckppplieaaGreatAfN1Ok
import Derived.Test.YtomcdckppplieaaGreatAfN2Ok
import Derived.Test.YtomcdckppplieaaGreatJoinNA
namespace Go.Proofs.YtomcdckppplieaaGreat
open Go.ChangeShapes Go.WideShapes Go.ChangeAt Go.RowKit Go.Eng

theorem Tryz.own : ownKnob Tryz.prog.godebug = none := by kernel_rfl
set_option maxRecDepth 100000 in
theorem netAll_lifted (os : Os) (started : os.Started) (H : Type) (enc : TypeId × Value → H) :
    ReturnsInHanded {} Tryz.checked os 6 .any (Rows.netAllSpec.pre6 enc Tryz.prog Tryz.f6 Rows.netAllRow.domain false) (Rows.netAllSpec.post enc Tryz.prog Tryz.f6 false true false false) := by
  refine law_lifted (C := Tryz.checked) (shs := [(false, [.i .i64]), (false, [.sl [.i .i64, .i .i64, .b, .b, .i .i64, .sl [.i .u8]]])]) Tryz.own started (by kernel_rfl) Tryz.func6
    (ChangeSpec.witness6 (enc := enc) (C := Tryz.checked) false ⟨#[], #[.int .i64 0, .slice none 0 0], []⟩ 8 (by kernel_rfl) (by kernel_rfl) (by kernel_rfl) (by kernel_rfl))
    (by kernel_rfl) (by kernel_rfl) rfl (by kernel_rfl) rfl Tryz.underlying4 (fun ds h => match ds, h with | [d0, d1], _ => rfl) ?_
  intro args ha
  obtain ⟨v0, q0, rfl, h0, ha⟩ := args_cons ha
  obtain ⟨v1, q1, rfl, h1, ha⟩ := args_cons ha
  obtain rfl := args_nil ha
  obtain ⟨a0, rfl, l0, u0⟩ := arg_i64 h0
  obtain ⟨a1, rfl, b1⟩ := arg_nops h1
  exact netAll_ok fnsOk okna okclm okam law10_begun a0 a1 b1

theorem netAll_holds : Rows.NetAllSaid :=
  OpenClaim.holds_of_wide 6 Tryz.f6 rfl rfl rfl rfl rfl rfl rfl ⟨rfl, rfl, rfl, rfl, rfl⟩ rfl rfl rfl rfl rfl (by kernel_rfl) Tryz.func6 joined6
    (of_decide_eq_true (by kernel_rfl)) (by unfold Func.isWrapper; first | (rw [if_pos (by decide +kernel)]; kernel_rfl) | (rw [if_neg (by decide +kernel)]; exact ⟨rfl, rfl⟩))
    (fun os started H enc _ => netAll_lifted os started H enc)
end Go.Proofs.YtomcdckppplieaaGreat
