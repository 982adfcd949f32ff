/-
The closed facts of FeasEach's row.
-/
import Derived.Test.YtfobkjdmohaakaaGreatRows
import Derived.ProofKit
namespace Go.Proofs.YtfobkjdmohaakaaGreat
open Go.ChangeShapes Go.WideShapes Go.ChangeAt Go.RowKit
theorem and_i {a b : Bool} (ha : a = true) (hb : b = true) : (a && b) = true := by rw [ha, hb]; rfl
set_option maxRecDepth 100000
theorem j12p2 : laidOutB Tryz.prog = true := by kernel_rfl
theorem j12p3 : mapsRowed Tryz.prog = true := by kernel_rfl
theorem j12p10 : (Rows.feasEachRow.inPlace == Tryz.prog.inPlace 12) = true := by kernel_rfl
theorem j12p11 : (Rows.feasEachRow.unfollowed == Tryz.prog.unfollowed 12) = true := by kernel_rfl
theorem j12p12 : (Rows.feasEachRow.recurses == Tryz.prog.recurses 12) = true := by kernel_rfl
theorem j12p13 : (Rows.feasEachRow.named == Tryz.prog.varsNamed 12) = true := by kernel_rfl
theorem j12p23 : (Rows.feasEachRow.plainKeys == Tryz.prog.plainKeys) = true := by kernel_rfl
theorem j12p25 : Tryz.prog.stopsHeard = true := by kernel_rfl
theorem j12p26 : Tryz.prog.mayEnter = true := by kernel_rfl
theorem j12p27 : (Rows.feasEachRow.lifted == Tryz.prog.liftsFinal) = true := by kernel_rfl
theorem j12p28 : (Tryz.prog.make == some Rows.feasEachRow.make) = true := by kernel_rfl
theorem joined12 : joinedFacts Tryz.prog 12 Tryz.f12 Rows.feasEachSpec Rows.feasEachRow = true := (and_i (and_i (and_i (and_i (and_i (and_i (and_i (and_i (and_i (and_i (and_i (and_i (and_i (and_i (and_i (and_i (and_i (and_i (and_i (and_i (and_i (and_i (and_i (and_i (and_i (and_i (and_i (and_i (and_i (and_i (and_i (by kernel_rfl) j12p2) j12p3) (by kernel_rfl)) (by kernel_rfl)) (by kernel_rfl)) (by kernel_rfl)) (by kernel_rfl)) (by kernel_rfl)) j12p10) j12p11) j12p12) j12p13) (by kernel_rfl)) (by kernel_rfl)) (by kernel_rfl)) (by kernel_rfl)) (by kernel_rfl)) (by kernel_rfl)) (by kernel_rfl)) (by kernel_rfl)) (by kernel_rfl)) j12p23) (by kernel_rfl)) j12p25) j12p26) j12p27) j12p28) (by kernel_rfl)) (by kernel_rfl)) (by kernel_rfl)) (by kernel_rfl))
end Go.Proofs.YtfobkjdmohaakaaGreat
