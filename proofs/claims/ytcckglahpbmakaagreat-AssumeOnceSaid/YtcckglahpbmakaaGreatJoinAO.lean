/-
The closed facts of the row AssumeOnce.
-/
import Derived.Test.YtcckglahpbmakaaGreatRows
import Derived.ProofKit
namespace Go.Proofs.YtcckglahpbmakaaGreat
open Go.ChangeShapes Go.WideShapes Go.ChangeAt Go.RowKit
theorem and_i {a b : Bool} (ha : a = true) (hb : b = true) : (a && b) = true := by rw [ha, hb]; rfl
set_option maxRecDepth 100000
theorem j6p2 : laidOutB Tryz.prog = true := by kernel_rfl
theorem j6p3 : mapsRowed Tryz.prog = true := by kernel_rfl
theorem j6p10 : (Rows.assumeOnceRow.inPlace == Tryz.prog.inPlace 6) = true := by kernel_rfl
theorem j6p11 : (Rows.assumeOnceRow.unfollowed == Tryz.prog.unfollowed 6) = true := by kernel_rfl
theorem j6p12 : (Rows.assumeOnceRow.recurses == Tryz.prog.recurses 6) = true := by kernel_rfl
theorem j6p13 : (Rows.assumeOnceRow.named == Tryz.prog.varsNamed 6) = true := by kernel_rfl
theorem j6p23 : (Rows.assumeOnceRow.plainKeys == Tryz.prog.plainKeys) = true := by kernel_rfl
theorem j6p25 : Tryz.prog.stopsHeard = true := by kernel_rfl
theorem j6p26 : Tryz.prog.mayEnter = true := by kernel_rfl
theorem j6p27 : (Rows.assumeOnceRow.lifted == Tryz.prog.liftsFinal) = true := by kernel_rfl
theorem j6p28 : (Tryz.prog.make == some Rows.assumeOnceRow.make) = true := by kernel_rfl
theorem joined6 : joinedFacts Tryz.prog 6 Tryz.f6 Rows.assumeOnceSpec Rows.assumeOnceRow = true := (and_i (and_i (and_i (and_i (and_i (and_i (and_i (and_i (and_i (and_i (and_i (and_i (and_i (and_i (and_i (and_i (and_i (and_i (and_i (and_i (and_i (and_i (and_i (and_i (and_i (and_i (and_i (and_i (and_i (and_i (and_i (by kernel_rfl) j6p2) j6p3) (by kernel_rfl)) (by kernel_rfl)) (by kernel_rfl)) (by kernel_rfl)) (by kernel_rfl)) (by kernel_rfl)) j6p10) j6p11) j6p12) j6p13) (by kernel_rfl)) (by kernel_rfl)) (by kernel_rfl)) (by kernel_rfl)) (by kernel_rfl)) (by kernel_rfl)) (by kernel_rfl)) (by kernel_rfl)) (by kernel_rfl)) j6p23) (by kernel_rfl)) j6p25) j6p26) j6p27) j6p28) (by kernel_rfl)) (by kernel_rfl)) (by kernel_rfl)) (by kernel_rfl))
end Go.Proofs.YtcckglahpbmakaaGreat
