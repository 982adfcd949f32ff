/-
The closed facts of the row AssumeKnown.
-/
import Derived.Test.YtcckglahpbmakaaGreatRows
import Derived.ProofKit
namespace Go.Proofs.YtcckglahpbmakaaGreat
open Go.ChangeShapes Go.WideShapes Go.ChangeAt Go.RowKit
theorem and_i {a b : Bool} (ha : a = true) (hb : b = true) : (a && b) = true := by rw [ha, hb]; rfl
set_option maxRecDepth 100000
theorem j5p2 : laidOutB Tryz.prog = true := by kernel_rfl
theorem j5p3 : mapsRowed Tryz.prog = true := by kernel_rfl
theorem j5p10 : (Rows.assumeKnownRow.inPlace == Tryz.prog.inPlace 5) = true := by kernel_rfl
theorem j5p11 : (Rows.assumeKnownRow.unfollowed == Tryz.prog.unfollowed 5) = true := by kernel_rfl
theorem j5p12 : (Rows.assumeKnownRow.recurses == Tryz.prog.recurses 5) = true := by kernel_rfl
theorem j5p13 : (Rows.assumeKnownRow.named == Tryz.prog.varsNamed 5) = true := by kernel_rfl
theorem j5p23 : (Rows.assumeKnownRow.plainKeys == Tryz.prog.plainKeys) = true := by kernel_rfl
theorem j5p25 : Tryz.prog.stopsHeard = true := by kernel_rfl
theorem j5p26 : Tryz.prog.mayEnter = true := by kernel_rfl
theorem j5p27 : (Rows.assumeKnownRow.lifted == Tryz.prog.liftsFinal) = true := by kernel_rfl
theorem j5p28 : (Tryz.prog.make == some Rows.assumeKnownRow.make) = true := by kernel_rfl
theorem joined5 : joinedFacts Tryz.prog 5 Tryz.f5 Rows.assumeKnownSpec Rows.assumeKnownRow = true := (and_i (and_i (and_i (and_i (and_i (and_i (and_i (and_i (and_i (and_i (and_i (and_i (and_i (and_i (and_i (and_i (and_i (and_i (and_i (and_i (and_i (and_i (and_i (and_i (and_i (and_i (and_i (and_i (and_i (and_i (and_i (by kernel_rfl) j5p2) j5p3) (by kernel_rfl)) (by kernel_rfl)) (by kernel_rfl)) (by kernel_rfl)) (by kernel_rfl)) (by kernel_rfl)) j5p10) j5p11) j5p12) j5p13) (by kernel_rfl)) (by kernel_rfl)) (by kernel_rfl)) (by kernel_rfl)) (by kernel_rfl)) (by kernel_rfl)) (by kernel_rfl)) (by kernel_rfl)) (by kernel_rfl)) j5p23) (by kernel_rfl)) j5p25) j5p26) j5p27) j5p28) (by kernel_rfl)) (by kernel_rfl)) (by kernel_rfl)) (by kernel_rfl))
end Go.Proofs.YtcckglahpbmakaaGreat
