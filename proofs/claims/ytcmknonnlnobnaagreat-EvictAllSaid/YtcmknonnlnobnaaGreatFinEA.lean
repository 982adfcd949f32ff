/-
EvictAll, for every state, pod and node: it returns true, and the memory that was there stays as it was.
-/
import Derived.Test.YtcmknonnlnobnaaGreatCalls
import Derived.Test.YtcmknonnlnobnaaGreatEvXb
import Derived.Test.YtcmknonnlnobnaaGreatSrtS
import Derived.Test.YtcmknonnlnobnaaGreatFitL
import Derived.Test.YtcmknonnlnobnaaGreatAfROk
import Derived.Test.YtcmknonnlnobnaaGreatJoinEA
namespace Go.Proofs.YtcmknonnlnobnaaGreat
open Go.ChangeShapes Go.WideShapes Go.ChangeAt Go.RowKit Go.Eng
theorem Tryz.own : ownKnob Tryz.prog.godebug = none := by kernel_rfl
set_option maxRecDepth 100000 in
theorem evictAll_lifted (os : Os) (started : os.Started) (H : Type) (enc : TypeId × Value → H) :
 ReturnsInHanded {} Tryz.checked os 3 .any (Rows.evictAllSpec.pre6 enc Tryz.prog Tryz.f3 Rows.evictAllRow.domain false) (Rows.evictAllSpec.post enc Tryz.prog Tryz.f3 false true false false) := by
 refine law_lifted (C := Tryz.checked) (shs := [(true, [.sl shNode, .sl shPod]), (true, shPod), (false, [.s])]) Tryz.own started (by kernel_rfl) Tryz.func3
  (ChangeSpec.witness6 (enc := enc) (C := Tryz.checked) false ⟨#[], #[.agg #[.slice none 0 0, .slice none 0 0], .agg #[.string ByteArray.empty, .int .i64 0, .int .i64 0, .int .i64 0, .int .i64 0, .int .i64 0, .slice none 0 0, .slice none 0 0, .slice none 0 0, .slice none 0 0, .string ByteArray.empty, .slice none 0 0, .int .i64 0, .slice none 0 0, .string ByteArray.empty, .int .i64 0], .string ByteArray.empty], []⟩ 8 (by kernel_rfl) (by kernel_rfl) (by kernel_rfl) (by kernel_rfl))
  (by kernel_rfl) (by kernel_rfl) rfl (by kernel_rfl) rfl Tryz.underlying4 (fun ds h => match ds, h with | [d0, d1, d2], _ => rfl) ?_
 intro args ha
 obtain ⟨v0, q0, rfl, h0, ha⟩ := args_cons ha
 obtain ⟨v1, q1, rfl, h1, ha⟩ := args_cons ha
 obtain ⟨v2, q2, rfl, h2, ha⟩ := args_cons ha
 obtain rfl := args_nil ha
 obtain ⟨a0, rfl, b0⟩ := arg_state h0
 obtain ⟨a1, rfl, b1⟩ := arg_pod h1
 obtain ⟨a2, rfl, _⟩ := arg_str h2
 exact evictAll_ok fnsOk okrlist law18_begun cmpS_ok sortOk a0 a1 a2 b0 b1
theorem evictAll_holds : Rows.EvictAllSaid :=
 OpenClaim.holds_of_wide 3 Tryz.f3 rfl rfl rfl rfl rfl rfl rfl ⟨rfl, rfl, rfl, rfl, rfl⟩ rfl rfl rfl rfl rfl (by kernel_rfl) Tryz.func3 joined3
  (of_decide_eq_true (by kernel_rfl)) (by unfold Func.isWrapper; first | (rw [if_pos (by decide +kernel)]; kernel_rfl) | (rw [if_neg (by decide +kernel)]; exact ⟨rfl, rfl⟩))
  (fun os started H enc _ => evictAll_lifted os started H enc)
end Go.Proofs.YtcmknonnlnobnaaGreat
