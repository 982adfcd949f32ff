/-
The closed facts of FitsAll's row.
-/
import Derived.Test.YtfobkjdmohaakaaGreatRows
import Derived.ProofKit
namespace Go.Proofs.YtfobkjdmohaakaaGreat
open Go.ChangeShapes Go.WideShapes Go.ChangeAt Go.RowKit
theorem and_i {a b : Bool} (ha : a = true) (hb : b = true) : (a && b) = true := by rw [ha, hb]; rfl
set_option maxRecDepth 100000
theorem j10p2 : laidOutB Tryz.prog = true := by kernel_rfl
theorem j10p3 : mapsRowed Tryz.prog = true := by kernel_rfl
theorem j10p10 : (Rows.fitsAllRow.inPlace == Tryz.prog.inPlace 10) = true := by kernel_rfl
theorem j10p11 : (Rows.fitsAllRow.unfollowed == Tryz.prog.unfollowed 10) = true := by kernel_rfl
theorem j10p12 : (Rows.fitsAllRow.recurses == Tryz.prog.recurses 10) = true := by kernel_rfl
theorem j10p13 : (Rows.fitsAllRow.named == Tryz.prog.varsNamed 10) = true := by kernel_rfl
theorem j10p23 : (Rows.fitsAllRow.plainKeys == Tryz.prog.plainKeys) = true := by kernel_rfl
theorem j10p25 : Tryz.prog.stopsHeard = true := by kernel_rfl
theorem j10p26 : Tryz.prog.mayEnter = true := by kernel_rfl
theorem j10p27 : (Rows.fitsAllRow.lifted == Tryz.prog.liftsFinal) = true := by kernel_rfl
theorem j10p28 : (Tryz.prog.make == some Rows.fitsAllRow.make) = true := by kernel_rfl
theorem joined10 : joinedFacts Tryz.prog 10 Tryz.f10 Rows.fitsAllSpec Rows.fitsAllRow = true := (and_i (and_i (and_i (and_i (and_i (and_i (and_i (and_i (and_i (and_i (and_i (and_i (and_i (and_i (and_i (and_i (and_i (and_i (and_i (and_i (and_i (and_i (and_i (and_i (and_i (and_i (and_i (and_i (and_i (and_i (and_i (by kernel_rfl) j10p2) j10p3) (by kernel_rfl)) (by kernel_rfl)) (by kernel_rfl)) (by kernel_rfl)) (by kernel_rfl)) (by kernel_rfl)) j10p10) j10p11) j10p12) j10p13) (by kernel_rfl)) (by kernel_rfl)) (by kernel_rfl)) (by kernel_rfl)) (by kernel_rfl)) (by kernel_rfl)) (by kernel_rfl)) (by kernel_rfl)) (by kernel_rfl)) j10p23) (by kernel_rfl)) j10p25) j10p26) j10p27) j10p28) (by kernel_rfl)) (by kernel_rfl)) (by kernel_rfl)) (by kernel_rfl))
end Go.Proofs.YtfobkjdmohaakaaGreat
