/-
The row's closed facts.
-/
import Derived.Test.YtabnhgnnolfpgaaGreatRows
import Derived.ProofKit
namespace Go.Proofs.YtabnhgnnolfpgaaGreat
open Go.ChangeShapes Go.WideShapes Go.ChangeAt Go.RowKit
theorem and_i {a b : Bool} (ha : a = true) (hb : b = true) : (a && b) = true := by rw [ha, hb]; rfl
set_option maxRecDepth 100000
theorem j9p2 : laidOutB Tryz.prog = true := by kernel_rfl
theorem j9p3 : mapsRowed Tryz.prog = true := by kernel_rfl
theorem j9p10 : (Rows.scoreAllRow.inPlace == Tryz.prog.inPlace 9) = true := by kernel_rfl
theorem j9p11 : (Rows.scoreAllRow.unfollowed == Tryz.prog.unfollowed 9) = true := by kernel_rfl
theorem j9p12 : (Rows.scoreAllRow.recurses == Tryz.prog.recurses 9) = true := by kernel_rfl
theorem j9p13 : (Rows.scoreAllRow.named == Tryz.prog.varsNamed 9) = true := by kernel_rfl
theorem j9p23 : (Rows.scoreAllRow.plainKeys == Tryz.prog.plainKeys) = true := by kernel_rfl
theorem j9p25 : Tryz.prog.stopsHeard = true := by kernel_rfl
theorem j9p26 : Tryz.prog.mayEnter = true := by kernel_rfl
theorem j9p27 : (Rows.scoreAllRow.lifted == Tryz.prog.liftsFinal) = true := by kernel_rfl
theorem j9p28 : (Tryz.prog.make == some Rows.scoreAllRow.make) = true := by kernel_rfl
theorem joined9 : joinedFacts Tryz.prog 9 Tryz.f9 Rows.scoreAllSpec Rows.scoreAllRow = true := (and_i (and_i (and_i (and_i (and_i (and_i (and_i (and_i (and_i (and_i (and_i (and_i (and_i (and_i (and_i (and_i (and_i (and_i (and_i (and_i (and_i (and_i (and_i (and_i (and_i (and_i (and_i (and_i (and_i (and_i (and_i (by kernel_rfl) j9p2) j9p3) (by kernel_rfl)) (by kernel_rfl)) (by kernel_rfl)) (by kernel_rfl)) (by kernel_rfl)) (by kernel_rfl)) j9p10) j9p11) j9p12) j9p13) (by kernel_rfl)) (by kernel_rfl)) (by kernel_rfl)) (by kernel_rfl)) (by kernel_rfl)) (by kernel_rfl)) (by kernel_rfl)) (by kernel_rfl)) (by kernel_rfl)) j9p23) (by kernel_rfl)) j9p25) j9p26) j9p27) j9p28) (by kernel_rfl)) (by kernel_rfl)) (by kernel_rfl)) (by kernel_rfl))
end Go.Proofs.YtabnhgnnolfpgaaGreat
