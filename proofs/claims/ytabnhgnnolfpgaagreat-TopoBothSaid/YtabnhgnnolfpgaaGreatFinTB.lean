/-
TopoBoth, for every state, two pods and two words: it returns true, and the memory that was there stays as it was.
-/
import Derived.Test.YtabnhgnnolfpgaaGreatCalls
import Derived.Test.YtabnhgnnolfpgaaGreatTBo
import Derived.Test.YtabnhgnnolfpgaaGreatArgsU
import Derived.Test.YtabnhgnnolfpgaaGreatJoinTB
namespace Go.Proofs.YtabnhgnnolfpgaaGreat
open Go.ChangeShapes Go.WideShapes Go.ChangeAt Go.RowKit Go.Eng

theorem Tryz.own : ownKnob Tryz.prog.godebug = none := by kernel_rfl
set_option maxRecDepth 100000 in
theorem topoBoth_lifted (os : Os) (started : os.Started) (H : Type) (enc : TypeId × Value → H) :
    ReturnsInHanded {} Tryz.checked os 5 .any (Rows.topoBothSpec.pre6 enc Tryz.prog Tryz.f5 Rows.topoBothRow.domain false) (Rows.topoBothSpec.post enc Tryz.prog Tryz.f5 false true false false) := by
  refine law_sized (C := Tryz.checked) (shs := [(true, [.sl shNode, .sl shPod]), (true, shPod), (true, shPod), (false, [.s]), (false, [.s])]) Tryz.own started (by kernel_rfl) Tryz.func5
    (ChangeSpec.witness6 (enc := enc) (C := Tryz.checked) false ⟨#[], #[.agg #[.slice none 0 0, .slice none 0 0], .agg #[.string ByteArray.empty, .int .i64 0, .int .i64 0, .int .i64 0, .int .i64 0, .int .i64 0, .slice none 0 0, .slice none 0 0, .slice none 0 0, .slice none 0 0, .string ByteArray.empty, .slice none 0 0, .int .i64 0, .slice none 0 0, .string ByteArray.empty, .int .i64 0], .agg #[.string ByteArray.empty, .int .i64 0, .int .i64 0, .int .i64 0, .int .i64 0, .int .i64 0, .slice none 0 0, .slice none 0 0, .slice none 0 0, .slice none 0 0, .string ByteArray.empty, .slice none 0 0, .int .i64 0, .slice none 0 0, .string ByteArray.empty, .int .i64 0], .string ByteArray.empty, .string ByteArray.empty], []⟩ 8 (by kernel_rfl) (by kernel_rfl) (by kernel_rfl) (by kernel_rfl))
    (by kernel_rfl) (by kernel_rfl) rfl (by kernel_rfl) (by kernel_rfl) rfl Tryz.underlying4 (fun ds h => match ds, h with | [d0, d1, d2, d3, d4], _ => rfl) ?_
  intro args ha hm
  obtain ⟨v0, q0, rfl, h0, ha⟩ := args_cons ha
  obtain ⟨v1, q1, rfl, h1, ha⟩ := args_cons ha
  obtain ⟨v2, q2, rfl, h2, ha⟩ := args_cons ha
  obtain ⟨v3, q3, rfl, h3, ha⟩ := args_cons ha
  obtain ⟨v4, q4, rfl, h4, ha⟩ := args_cons ha
  obtain rfl := args_nil ha
  obtain ⟨a0, rfl, b0⟩ := arg_state h0
  obtain ⟨a1, rfl, b1⟩ := arg_pod h1
  obtain ⟨a2, rfl, b2⟩ := arg_pod h2
  obtain ⟨a3, rfl, _⟩ := arg_str h3
  obtain ⟨a4, rfl, _⟩ := arg_str h4
  obtain ⟨m0, m1, m2, m3, m4, _⟩ := hm
  exact topoBoth_ok fnsOk law18_begun a0 a1 a2 a3 a4 b0 b1 b2 (pod_M m1).1 (pod_M m2).1

theorem topoBoth_holds : Rows.TopoBothSaid :=
  OpenClaim.holds_of_wide 5 Tryz.f5 rfl rfl rfl rfl rfl rfl rfl ⟨rfl, rfl, rfl, rfl, rfl⟩ rfl rfl rfl rfl rfl (by kernel_rfl) Tryz.func5 joined5
    (of_decide_eq_true (by kernel_rfl)) (by unfold Func.isWrapper; first | (rw [if_pos (by decide +kernel)]; kernel_rfl) | (rw [if_neg (by decide +kernel)]; exact ⟨rfl, rfl⟩))
    (fun os started H enc _ => topoBoth_lifted os started H enc)
end Go.Proofs.YtabnhgnnolfpgaaGreat
