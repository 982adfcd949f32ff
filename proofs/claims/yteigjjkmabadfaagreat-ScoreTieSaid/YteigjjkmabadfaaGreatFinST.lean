/-
ScoreTie, for every capacity, need, names and way: it returns true, and the memory that was there stays as it was.
-/
import Derived.Test.YteigjjkmabadfaaGreatCalls
import Derived.Test.YteigjjkmabadfaaGreatSTr
import Derived.Test.YteigjjkmabadfaaGreatAfXOk
import Derived.Test.YteigjjkmabadfaaGreatArgsU
import Derived.Test.YteigjjkmabadfaaGreatJoinST
namespace Go.Proofs.YteigjjkmabadfaaGreat
open Go.ChangeShapes Go.WideShapes Go.ChangeAt Go.RowKit Go.Eng

theorem Tryz.own : ownKnob Tryz.prog.godebug = none := by kernel_rfl
set_option maxRecDepth 100000 in
theorem scoreTie_lifted (os : Os) (started : os.Started) (H : Type) (enc : TypeId × Value → H) :
    ReturnsInHanded {} Tryz.checked os 3 .any (Rows.scoreTieSpec.pre6 enc Tryz.prog Tryz.f3 Rows.scoreTieRow.domain false) (Rows.scoreTieSpec.post enc Tryz.prog Tryz.f3 false true false false) := by
  refine law_lifted (C := Tryz.checked) (shs := [(true, [.i .i64, .i .i64, .i .i64]), (true, [.i .i64, .i .i64, .i .i64]), (false, [.sl [.s]]), (false, [.b])]) Tryz.own started (by kernel_rfl) Tryz.func3
    (ChangeSpec.witness6 (enc := enc) (C := Tryz.checked) false ⟨#[], #[.agg #[.int .i64 0, .int .i64 0, .int .i64 0], .agg #[.int .i64 0, .int .i64 0, .int .i64 0], .slice none 0 0, .bool false], []⟩ 8 (by kernel_rfl) (by kernel_rfl) (by kernel_rfl) (by kernel_rfl))
    (by kernel_rfl) (by kernel_rfl) rfl (by kernel_rfl) rfl Tryz.underlying4 (fun ds h => match ds, h with | [d0, d1, d2, d3], _ => rfl) ?_
  intro args ha
  obtain ⟨v0, q0, rfl, h0, ha⟩ := args_cons ha
  obtain ⟨v1, q1, rfl, h1, ha⟩ := args_cons ha
  obtain ⟨v2, q2, rfl, h2, ha⟩ := args_cons ha
  obtain ⟨v3, q3, rfl, h3, ha⟩ := args_cons ha
  obtain rfl := args_nil ha
  obtain ⟨a0, rfl, b0⟩ := arg_resok h0
  obtain ⟨a1, rfl, b1⟩ := arg_resok h1
  obtain ⟨a2, rfl, b2⟩ := arg_strs h2
  obtain ⟨a3, rfl⟩ := arg_bool h3
  exact scoreTie_ok fnsOk okX law18_begun cmpS_ok a0 a1 a2 a3 b0 b1 b2

theorem scoreTie_holds : Rows.ScoreTieSaid :=
  OpenClaim.holds_of_wide 3 Tryz.f3 rfl rfl rfl rfl rfl rfl rfl ⟨rfl, rfl, rfl, rfl, rfl⟩ rfl rfl rfl rfl rfl (by kernel_rfl) Tryz.func3 joined3
    (of_decide_eq_true (by kernel_rfl)) (by unfold Func.isWrapper; first | (rw [if_pos (by decide +kernel)]; kernel_rfl) | (rw [if_neg (by decide +kernel)]; exact ⟨rfl, rfl⟩))
    (fun os started H enc _ => scoreTie_lifted os started H enc)
end Go.Proofs.YteigjjkmabadfaaGreat
