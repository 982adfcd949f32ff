/-
The row's closed facts.
-/
import Derived.Test.YtabnhgnnolfpgaaGreatRows
import Derived.ProofKit
namespace Go.Proofs.YtabnhgnnolfpgaaGreat
open Go.ChangeShapes Go.WideShapes Go.ChangeAt Go.RowKit
theorem and_i {a b : Bool} (ha : a = true) (hb : b = true) : (a && b) = true := by rw [ha, hb]; rfl
set_option maxRecDepth 100000
theorem j8p2 : laidOutB Tryz.prog = true := by kernel_rfl
theorem j8p3 : mapsRowed Tryz.prog = true := by kernel_rfl
theorem j8p10 : (Rows.feasLessRow.inPlace == Tryz.prog.inPlace 8) = true := by kernel_rfl
theorem j8p11 : (Rows.feasLessRow.unfollowed == Tryz.prog.unfollowed 8) = true := by kernel_rfl
theorem j8p12 : (Rows.feasLessRow.recurses == Tryz.prog.recurses 8) = true := by kernel_rfl
theorem j8p13 : (Rows.feasLessRow.named == Tryz.prog.varsNamed 8) = true := by kernel_rfl
theorem j8p23 : (Rows.feasLessRow.plainKeys == Tryz.prog.plainKeys) = true := by kernel_rfl
theorem j8p25 : Tryz.prog.stopsHeard = true := by kernel_rfl
theorem j8p26 : Tryz.prog.mayEnter = true := by kernel_rfl
theorem j8p27 : (Rows.feasLessRow.lifted == Tryz.prog.liftsFinal) = true := by kernel_rfl
theorem j8p28 : (Tryz.prog.make == some Rows.feasLessRow.make) = true := by kernel_rfl
theorem joined8 : joinedFacts Tryz.prog 8 Tryz.f8 Rows.feasLessSpec Rows.feasLessRow = true := (and_i (and_i (and_i (and_i (and_i (and_i (and_i (and_i (and_i (and_i (and_i (and_i (and_i (and_i (and_i (and_i (and_i (and_i (and_i (and_i (and_i (and_i (and_i (and_i (and_i (and_i (and_i (and_i (and_i (and_i (and_i (by kernel_rfl) j8p2) j8p3) (by kernel_rfl)) (by kernel_rfl)) (by kernel_rfl)) (by kernel_rfl)) (by kernel_rfl)) (by kernel_rfl)) j8p10) j8p11) j8p12) j8p13) (by kernel_rfl)) (by kernel_rfl)) (by kernel_rfl)) (by kernel_rfl)) (by kernel_rfl)) (by kernel_rfl)) (by kernel_rfl)) (by kernel_rfl)) (by kernel_rfl)) j8p23) (by kernel_rfl)) j8p25) j8p26) j8p27) j8p28) (by kernel_rfl)) (by kernel_rfl)) (by kernel_rfl)) (by kernel_rfl))
end Go.Proofs.YtabnhgnnolfpgaaGreat
