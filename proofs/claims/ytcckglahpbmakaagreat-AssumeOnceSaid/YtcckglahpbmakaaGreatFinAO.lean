/-
AssumeOnce, for every pod, node, term and time: it returns true, and the memory that was there stays as it was.
-/
import Derived.Test.YtcckglahpbmakaaGreatCalls
import Derived.Test.YtcckglahpbmakaaGreatAs10
import Derived.Test.YtcckglahpbmakaaGreatArgsV
import Derived.Test.YtcckglahpbmakaaGreatJoinAO
namespace Go.Proofs.YtcckglahpbmakaaGreat
open Go.ChangeShapes Go.WideShapes Go.ChangeAt Go.RowKit Go.Eng

theorem Tryz.own : ownKnob Tryz.prog.godebug = none := by kernel_rfl
set_option maxRecDepth 100000 in
theorem assumeOnce_lifted (os : Os) (started : os.Started) (H : Type) (enc : TypeId × Value → H) :
    ReturnsInHanded {} Tryz.checked os 6 .any (Rows.assumeOnceSpec.pre6 enc Tryz.prog Tryz.f6 Rows.assumeOnceRow.domain false) (Rows.assumeOnceSpec.post enc Tryz.prog Tryz.f6 false true false false) := by
  refine law_sized (C := Tryz.checked) (shs := [(true, shPodV), (false, [.s]), (false, [.i .i64]), (false, [.i .i64]), (false, [.i .i64])]) Tryz.own started (by kernel_rfl) Tryz.func6
    (ChangeSpec.witness6 (enc := enc) (C := Tryz.checked) false ⟨#[], #[.agg #[.string ByteArray.empty, .int .i64 0, .int .i64 0, .int .i64 0, .int .i64 0, .int .i64 0, .slice none 0 0, .slice none 0 0, .slice none 0 0, .slice none 0 0, .string ByteArray.empty, .slice none 0 0, .int .i64 0, .slice none 0 0, .string ByteArray.empty, .int .i64 0], .string ByteArray.empty, .int .i64 0, .int .i64 0, .int .i64 0], []⟩ 8 (by kernel_rfl) (by kernel_rfl) (by kernel_rfl) (by kernel_rfl))
    (by kernel_rfl) (by kernel_rfl) rfl (by kernel_rfl) (by kernel_rfl) rfl Tryz.underlying4 (fun ds h => match ds, h with | [d0, d1, d2, d3, d4], _ => rfl) ?_
  intro args ha hm
  obtain ⟨v0, q0, rfl, h0, ha⟩ := args_cons ha
  obtain ⟨v1, q1, rfl, h1, ha⟩ := args_cons ha
  obtain ⟨v2, q2, rfl, h2, ha⟩ := args_cons ha
  obtain ⟨v3, q3, rfl, h3, ha⟩ := args_cons ha
  obtain ⟨v4, q4, rfl, h4, ha⟩ := args_cons ha
  obtain rfl := args_nil ha
  obtain ⟨a2, rfl, l2, u2⟩ := arg_i64 h2
  obtain ⟨a3, rfl, l3, u3⟩ := arg_i64 h3
  obtain ⟨a4, rfl, l4, u4⟩ := arg_i64 h4
  obtain ⟨m0, m1, m2, m3, m4, _⟩ := hm
  exact (by
    obtain ⟨b0, rfl, k0⟩ := arg_podM m0
    obtain ⟨b1, rfl, k1⟩ := arg_strL m1
    exact assumeOnce_ok fnsOk once_ok law10_begun b0 k0 b1 k1 a2 a3 a4 ⟨l2, u2⟩)

theorem assumeOnce_holds : Rows.AssumeOnceSaid :=
  OpenClaim.holds_of_wide 6 Tryz.f6 rfl rfl rfl rfl rfl rfl rfl ⟨rfl, rfl, rfl, rfl, rfl⟩ rfl rfl rfl rfl rfl (by kernel_rfl) Tryz.func6 joined6
    (of_decide_eq_true (by kernel_rfl)) (by unfold Func.isWrapper; first | (rw [if_pos (by decide +kernel)]; kernel_rfl) | (rw [if_neg (by decide +kernel)]; exact ⟨rfl, rfl⟩))
    (fun os started H enc _ => assumeOnce_lifted os started H enc)
end Go.Proofs.YtcckglahpbmakaaGreat
