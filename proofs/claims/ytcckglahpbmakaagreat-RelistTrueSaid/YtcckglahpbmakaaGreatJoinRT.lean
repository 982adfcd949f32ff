/-
The closed facts of the row RelistTrue.
-/
import Derived.Test.YtcckglahpbmakaaGreatRows
import Derived.ProofKit
namespace Go.Proofs.YtcckglahpbmakaaGreat
open Go.ChangeShapes Go.WideShapes Go.ChangeAt Go.RowKit
theorem and_i {a b : Bool} (ha : a = true) (hb : b = true) : (a && b) = true := by rw [ha, hb]; rfl
set_option maxRecDepth 100000
theorem j3p2 : laidOutB Tryz.prog = true := by kernel_rfl
theorem j3p3 : mapsRowed Tryz.prog = true := by kernel_rfl
theorem j3p10 : (Rows.relistTrueRow.inPlace == Tryz.prog.inPlace 3) = true := by kernel_rfl
theorem j3p11 : (Rows.relistTrueRow.unfollowed == Tryz.prog.unfollowed 3) = true := by kernel_rfl
theorem j3p12 : (Rows.relistTrueRow.recurses == Tryz.prog.recurses 3) = true := by kernel_rfl
theorem j3p13 : (Rows.relistTrueRow.named == Tryz.prog.varsNamed 3) = true := by kernel_rfl
theorem j3p23 : (Rows.relistTrueRow.plainKeys == Tryz.prog.plainKeys) = true := by kernel_rfl
theorem j3p25 : Tryz.prog.stopsHeard = true := by kernel_rfl
theorem j3p26 : Tryz.prog.mayEnter = true := by kernel_rfl
theorem j3p27 : (Rows.relistTrueRow.lifted == Tryz.prog.liftsFinal) = true := by kernel_rfl
theorem j3p28 : (Tryz.prog.make == some Rows.relistTrueRow.make) = true := by kernel_rfl
theorem joined3 : joinedFacts Tryz.prog 3 Tryz.f3 Rows.relistTrueSpec Rows.relistTrueRow = true := (and_i (and_i (and_i (and_i (and_i (and_i (and_i (and_i (and_i (and_i (and_i (and_i (and_i (and_i (and_i (and_i (and_i (and_i (and_i (and_i (and_i (and_i (and_i (and_i (and_i (and_i (and_i (and_i (and_i (and_i (and_i (by kernel_rfl) j3p2) j3p3) (by kernel_rfl)) (by kernel_rfl)) (by kernel_rfl)) (by kernel_rfl)) (by kernel_rfl)) (by kernel_rfl)) j3p10) j3p11) j3p12) j3p13) (by kernel_rfl)) (by kernel_rfl)) (by kernel_rfl)) (by kernel_rfl)) (by kernel_rfl)) (by kernel_rfl)) (by kernel_rfl)) (by kernel_rfl)) (by kernel_rfl)) j3p23) (by kernel_rfl)) j3p25) j3p26) j3p27) j3p28) (by kernel_rfl)) (by kernel_rfl)) (by kernel_rfl)) (by kernel_rfl))
end Go.Proofs.YtcckglahpbmakaaGreat
