/-
The closed facts of TopoAll's row.
-/
import Derived.Test.YtfobkjdmohaakaaGreatRows
import Derived.ProofKit
namespace Go.Proofs.YtfobkjdmohaakaaGreat
open Go.ChangeShapes Go.WideShapes Go.ChangeAt Go.RowKit
theorem and_i {a b : Bool} (ha : a = true) (hb : b = true) : (a && b) = true := by rw [ha, hb]; rfl
set_option maxRecDepth 100000
theorem j11p2 : laidOutB Tryz.prog = true := by kernel_rfl
theorem j11p3 : mapsRowed Tryz.prog = true := by kernel_rfl
theorem j11p10 : (Rows.topoAllRow.inPlace == Tryz.prog.inPlace 11) = true := by kernel_rfl
theorem j11p11 : (Rows.topoAllRow.unfollowed == Tryz.prog.unfollowed 11) = true := by kernel_rfl
theorem j11p12 : (Rows.topoAllRow.recurses == Tryz.prog.recurses 11) = true := by kernel_rfl
theorem j11p13 : (Rows.topoAllRow.named == Tryz.prog.varsNamed 11) = true := by kernel_rfl
theorem j11p23 : (Rows.topoAllRow.plainKeys == Tryz.prog.plainKeys) = true := by kernel_rfl
theorem j11p25 : Tryz.prog.stopsHeard = true := by kernel_rfl
theorem j11p26 : Tryz.prog.mayEnter = true := by kernel_rfl
theorem j11p27 : (Rows.topoAllRow.lifted == Tryz.prog.liftsFinal) = true := by kernel_rfl
theorem j11p28 : (Tryz.prog.make == some Rows.topoAllRow.make) = true := by kernel_rfl
theorem joined11 : joinedFacts Tryz.prog 11 Tryz.f11 Rows.topoAllSpec Rows.topoAllRow = true := (and_i (and_i (and_i (and_i (and_i (and_i (and_i (and_i (and_i (and_i (and_i (and_i (and_i (and_i (and_i (and_i (and_i (and_i (and_i (and_i (and_i (and_i (and_i (and_i (and_i (and_i (and_i (and_i (and_i (and_i (and_i (by kernel_rfl) j11p2) j11p3) (by kernel_rfl)) (by kernel_rfl)) (by kernel_rfl)) (by kernel_rfl)) (by kernel_rfl)) (by kernel_rfl)) j11p10) j11p11) j11p12) j11p13) (by kernel_rfl)) (by kernel_rfl)) (by kernel_rfl)) (by kernel_rfl)) (by kernel_rfl)) (by kernel_rfl)) (by kernel_rfl)) (by kernel_rfl)) (by kernel_rfl)) j11p23) (by kernel_rfl)) j11p25) j11p26) j11p27) j11p28) (by kernel_rfl)) (by kernel_rfl)) (by kernel_rfl)) (by kernel_rfl))
end Go.Proofs.YtfobkjdmohaakaaGreat
