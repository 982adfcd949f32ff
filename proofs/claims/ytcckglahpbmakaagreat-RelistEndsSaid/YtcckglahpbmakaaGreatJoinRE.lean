/-
The closed facts of the row RelistEnds.
-/
import Derived.Test.YtcckglahpbmakaaGreatRows
import Derived.ProofKit
namespace Go.Proofs.YtcckglahpbmakaaGreat
open Go.ChangeShapes Go.WideShapes Go.ChangeAt Go.RowKit
theorem and_i {a b : Bool} (ha : a = true) (hb : b = true) : (a && b) = true := by rw [ha, hb]; rfl
set_option maxRecDepth 100000
theorem j4p2 : laidOutB Tryz.prog = true := by kernel_rfl
theorem j4p3 : mapsRowed Tryz.prog = true := by kernel_rfl
theorem j4p10 : (Rows.relistEndsRow.inPlace == Tryz.prog.inPlace 4) = true := by kernel_rfl
theorem j4p11 : (Rows.relistEndsRow.unfollowed == Tryz.prog.unfollowed 4) = true := by kernel_rfl
theorem j4p12 : (Rows.relistEndsRow.recurses == Tryz.prog.recurses 4) = true := by kernel_rfl
theorem j4p13 : (Rows.relistEndsRow.named == Tryz.prog.varsNamed 4) = true := by kernel_rfl
theorem j4p23 : (Rows.relistEndsRow.plainKeys == Tryz.prog.plainKeys) = true := by kernel_rfl
theorem j4p25 : Tryz.prog.stopsHeard = true := by kernel_rfl
theorem j4p26 : Tryz.prog.mayEnter = true := by kernel_rfl
theorem j4p27 : (Rows.relistEndsRow.lifted == Tryz.prog.liftsFinal) = true := by kernel_rfl
theorem j4p28 : (Tryz.prog.make == some Rows.relistEndsRow.make) = true := by kernel_rfl
theorem joined4 : joinedFacts Tryz.prog 4 Tryz.f4 Rows.relistEndsSpec Rows.relistEndsRow = true := (and_i (and_i (and_i (and_i (and_i (and_i (and_i (and_i (and_i (and_i (and_i (and_i (and_i (and_i (and_i (and_i (and_i (and_i (and_i (and_i (and_i (and_i (and_i (and_i (and_i (and_i (and_i (and_i (and_i (and_i (and_i (by kernel_rfl) j4p2) j4p3) (by kernel_rfl)) (by kernel_rfl)) (by kernel_rfl)) (by kernel_rfl)) (by kernel_rfl)) (by kernel_rfl)) j4p10) j4p11) j4p12) j4p13) (by kernel_rfl)) (by kernel_rfl)) (by kernel_rfl)) (by kernel_rfl)) (by kernel_rfl)) (by kernel_rfl)) (by kernel_rfl)) (by kernel_rfl)) (by kernel_rfl)) j4p23) (by kernel_rfl)) j4p25) j4p26) j4p27) j4p28) (by kernel_rfl)) (by kernel_rfl)) (by kernel_rfl)) (by kernel_rfl))
end Go.Proofs.YtcckglahpbmakaaGreat
