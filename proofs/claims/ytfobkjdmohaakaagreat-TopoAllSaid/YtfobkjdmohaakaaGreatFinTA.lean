/-
TopoAll, for every state, pod, key, value, two nodes and terms: it returns true, and the memory that was there stays as it was.
-/
import Derived.Test.YtfobkjdmohaakaaGreatCalls
import Derived.Test.YtfobkjdmohaakaaGreatTAo
import Derived.Test.YtfobkjdmohaakaaGreatArgsD
import Derived.Test.YtfobkjdmohaakaaGreatJoinTA
namespace Go.Proofs.YtfobkjdmohaakaaGreat
open Go.ChangeShapes Go.WideShapes Go.ChangeAt Go.RowKit Go.Eng

theorem Tryz.own : ownKnob Tryz.prog.godebug = none := by kernel_rfl
set_option maxRecDepth 100000 in
theorem topoAll_lifted (os : Os) (started : os.Started) (H : Type) (enc : TypeId × Value → H) :
    ReturnsInHanded {} Tryz.checked os 11 .any (Rows.topoAllSpec.pre6 enc Tryz.prog Tryz.f11 Rows.topoAllRow.domain false) (Rows.topoAllSpec.post enc Tryz.prog Tryz.f11 false true false false) := by
  refine law_lifted (C := Tryz.checked) (shs := [(true, [.sl shNode, .sl shPod]), (true, shPod), (false, [.s]), (false, [.s]), (false, [.s]), (false, [.s]), (false, [.sl shTerm])]) Tryz.own started (by kernel_rfl) Tryz.func11
    (ChangeSpec.witness6 (enc := enc) (C := Tryz.checked) false ⟨#[], #[.agg #[.slice none 0 0, .slice none 0 0], .agg #[.string ByteArray.empty, .int .i64 0, .int .i64 0, .int .i64 0, .int .i64 0, .int .i64 0, .slice none 0 0, .slice none 0 0, .slice none 0 0, .slice none 0 0, .string ByteArray.empty, .slice none 0 0, .int .i64 0, .slice none 0 0, .string ByteArray.empty, .int .i64 0], .string ByteArray.empty, .string ByteArray.empty, .string ByteArray.empty, .string ByteArray.empty, .slice none 0 0], []⟩ 8 (by kernel_rfl) (by kernel_rfl) (by kernel_rfl) (by kernel_rfl))
    (by kernel_rfl) (by kernel_rfl) rfl (by kernel_rfl) rfl Tryz.underlying4 (fun ds h => match ds, h with | [d0, d1, d2, d3, d4, d5, d6], _ => rfl) ?_
  intro args ha
  obtain ⟨v0, q0, rfl, h0, ha⟩ := args_cons ha
  obtain ⟨v1, q1, rfl, h1, ha⟩ := args_cons ha
  obtain ⟨v2, q2, rfl, h2, ha⟩ := args_cons ha
  obtain ⟨v3, q3, rfl, h3, ha⟩ := args_cons ha
  obtain ⟨v4, q4, rfl, h4, ha⟩ := args_cons ha
  obtain ⟨v5, q5, rfl, h5, ha⟩ := args_cons ha
  obtain ⟨v6, q6, rfl, h6, ha⟩ := args_cons ha
  obtain rfl := args_nil ha
  obtain ⟨a0, rfl, b0⟩ := arg_state h0
  obtain ⟨a1, rfl, b1⟩ := arg_pod h1
  obtain ⟨a2, rfl, _⟩ := arg_str h2
  obtain ⟨a3, rfl, _⟩ := arg_str h3
  obtain ⟨a4, rfl, _⟩ := arg_str h4
  obtain ⟨a5, rfl, _⟩ := arg_str h5
  obtain ⟨a6, rfl, b6⟩ := arg_terms h6
  exact topoAll_ok fnsOk law18_begun a0 a1 a2 a3 a4 a5 a6 b0 b1 b6

theorem topoAll_holds : Rows.TopoAllSaid :=
  OpenClaim.holds_of_wide 11 Tryz.f11 rfl rfl rfl rfl rfl rfl rfl ⟨rfl, rfl, rfl, rfl, rfl⟩ rfl rfl rfl rfl rfl (by kernel_rfl) Tryz.func11 joined11
    (of_decide_eq_true (by kernel_rfl)) (by unfold Func.isWrapper; first | (rw [if_pos (by decide +kernel)]; kernel_rfl) | (rw [if_neg (by decide +kernel)]; exact ⟨rfl, rfl⟩))
    (fun os started H enc _ => topoAll_lifted os started H enc)
end Go.Proofs.YtfobkjdmohaakaaGreat
