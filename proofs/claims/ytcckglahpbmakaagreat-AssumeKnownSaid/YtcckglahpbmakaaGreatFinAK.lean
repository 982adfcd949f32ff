/-
AssumeKnown, for every pod and each way: it returns true, and the memory that was there stays as it was.
-/
import Derived.Test.YtcckglahpbmakaaGreatCalls
import Derived.Test.YtcckglahpbmakaaGreatAs11
import Derived.Test.YtcckglahpbmakaaGreatArgsV
import Derived.Test.YtcckglahpbmakaaGreatJoinAK
namespace Go.Proofs.YtcckglahpbmakaaGreat
open Go.ChangeShapes Go.WideShapes Go.ChangeAt Go.RowKit Go.Eng

theorem Tryz.own : ownKnob Tryz.prog.godebug = none := by kernel_rfl
set_option maxRecDepth 100000 in
theorem assumeKnown_lifted (os : Os) (started : os.Started) (H : Type) (enc : TypeId × Value → H) :
    ReturnsInHanded {} Tryz.checked os 5 .any (Rows.assumeKnownSpec.pre6 enc Tryz.prog Tryz.f5 Rows.assumeKnownRow.domain false) (Rows.assumeKnownSpec.post enc Tryz.prog Tryz.f5 false true false false) := by
  refine law_sized (C := Tryz.checked) (shs := [(true, shPodV), (false, [.i .i64])]) Tryz.own started (by kernel_rfl) Tryz.func5
    (ChangeSpec.witness6 (enc := enc) (C := Tryz.checked) false ⟨#[], #[.agg #[.string ByteArray.empty, .int .i64 0, .int .i64 0, .int .i64 0, .int .i64 0, .int .i64 0, .slice none 0 0, .slice none 0 0, .slice none 0 0, .slice none 0 0, .string ByteArray.empty, .slice none 0 0, .int .i64 0, .slice none 0 0, .string ByteArray.empty, .int .i64 0], .int .i64 0], []⟩ 8 (by kernel_rfl) (by kernel_rfl) (by kernel_rfl) (by kernel_rfl))
    (by kernel_rfl) (by kernel_rfl) rfl (by kernel_rfl) (by kernel_rfl) rfl Tryz.underlying4 (fun ds h => match ds, h with | [d0, d1], _ => rfl) ?_
  intro args ha hm
  obtain ⟨v0, q0, rfl, h0, ha⟩ := args_cons ha
  obtain ⟨v1, q1, rfl, h1, ha⟩ := args_cons ha
  obtain rfl := args_nil ha
  obtain ⟨a1, rfl, l1, u1⟩ := arg_i64 h1
  obtain ⟨m0, m1, _⟩ := hm
  exact (by
    obtain ⟨b0, rfl, k0⟩ := arg_podM m0
    exact assumeKnown_ok fnsOk once_ok law10_begun b0 k0 a1)

theorem assumeKnown_holds : Rows.AssumeKnownSaid :=
  OpenClaim.holds_of_wide 5 Tryz.f5 rfl rfl rfl rfl rfl rfl rfl ⟨rfl, rfl, rfl, rfl, rfl⟩ rfl rfl rfl rfl rfl (by kernel_rfl) Tryz.func5 joined5
    (of_decide_eq_true (by kernel_rfl)) (by unfold Func.isWrapper; first | (rw [if_pos (by decide +kernel)]; kernel_rfl) | (rw [if_neg (by decide +kernel)]; exact ⟨rfl, rfl⟩))
    (fun os started H enc _ => assumeKnown_lifted os started H enc)
end Go.Proofs.YtcckglahpbmakaaGreat
