/-
The closed facts of the row AssumeAll.
-/
import Derived.Test.YtcckglahpbmakaaGreatRows
import Derived.ProofKit
namespace Go.Proofs.YtcckglahpbmakaaGreat
open Go.ChangeShapes Go.WideShapes Go.ChangeAt Go.RowKit
theorem and_i {a b : Bool} (ha : a = true) (hb : b = true) : (a && b) = true := by rw [ha, hb]; rfl
set_option maxRecDepth 100000
theorem j7p2 : laidOutB Tryz.prog = true := by kernel_rfl
theorem j7p3 : mapsRowed Tryz.prog = true := by kernel_rfl
theorem j7p10 : (Rows.assumeAllRow.inPlace == Tryz.prog.inPlace 7) = true := by kernel_rfl
theorem j7p11 : (Rows.assumeAllRow.unfollowed == Tryz.prog.unfollowed 7) = true := by kernel_rfl
theorem j7p12 : (Rows.assumeAllRow.recurses == Tryz.prog.recurses 7) = true := by kernel_rfl
theorem j7p13 : (Rows.assumeAllRow.named == Tryz.prog.varsNamed 7) = true := by kernel_rfl
theorem j7p23 : (Rows.assumeAllRow.plainKeys == Tryz.prog.plainKeys) = true := by kernel_rfl
theorem j7p25 : Tryz.prog.stopsHeard = true := by kernel_rfl
theorem j7p26 : Tryz.prog.mayEnter = true := by kernel_rfl
theorem j7p27 : (Rows.assumeAllRow.lifted == Tryz.prog.liftsFinal) = true := by kernel_rfl
theorem j7p28 : (Tryz.prog.make == some Rows.assumeAllRow.make) = true := by kernel_rfl
theorem joined7 : joinedFacts Tryz.prog 7 Tryz.f7 Rows.assumeAllSpec Rows.assumeAllRow = true := (and_i (and_i (and_i (and_i (and_i (and_i (and_i (and_i (and_i (and_i (and_i (and_i (and_i (and_i (and_i (and_i (and_i (and_i (and_i (and_i (and_i (and_i (and_i (and_i (and_i (and_i (and_i (and_i (and_i (and_i (and_i (by kernel_rfl) j7p2) j7p3) (by kernel_rfl)) (by kernel_rfl)) (by kernel_rfl)) (by kernel_rfl)) (by kernel_rfl)) (by kernel_rfl)) j7p10) j7p11) j7p12) j7p13) (by kernel_rfl)) (by kernel_rfl)) (by kernel_rfl)) (by kernel_rfl)) (by kernel_rfl)) (by kernel_rfl)) (by kernel_rfl)) (by kernel_rfl)) (by kernel_rfl)) j7p23) (by kernel_rfl)) j7p25) j7p26) j7p27) j7p28) (by kernel_rfl)) (by kernel_rfl)) (by kernel_rfl)) (by kernel_rfl))
end Go.Proofs.YtcckglahpbmakaaGreat
