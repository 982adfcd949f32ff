/-
EvictAll: the row's closed facts.
-/
import Derived.Test.YtcmknonnlnobnaaGreatRows
import Derived.ProofKit
namespace Go.Proofs.YtcmknonnlnobnaaGreat
open Go.ChangeShapes Go.WideShapes Go.ChangeAt Go.RowKit
theorem and_i {a b : Bool} (ha : a = true) (hb : b = true) : (a && b) = true := by rw [ha, hb]; rfl
set_option maxRecDepth 100000
theorem j3p2 : laidOutB Tryz.prog = true := by kernel_rfl
theorem j3p3 : mapsRowed Tryz.prog = true := by kernel_rfl
theorem j3p10 : (Rows.evictAllRow.inPlace == Tryz.prog.inPlace 3) = true := by kernel_rfl
theorem j3p11 : (Rows.evictAllRow.unfollowed == Tryz.prog.unfollowed 3) = true := by kernel_rfl
theorem j3p12 : (Rows.evictAllRow.recurses == Tryz.prog.recurses 3) = true := by kernel_rfl
theorem j3p13 : (Rows.evictAllRow.named == Tryz.prog.varsNamed 3) = true := by kernel_rfl
theorem j3p23 : (Rows.evictAllRow.plainKeys == Tryz.prog.plainKeys) = true := by kernel_rfl
theorem j3p25 : Tryz.prog.stopsHeard = true := by kernel_rfl
theorem j3p26 : Tryz.prog.mayEnter = true := by kernel_rfl
theorem j3p27 : (Rows.evictAllRow.lifted == Tryz.prog.liftsFinal) = true := by kernel_rfl
theorem j3p28 : (Tryz.prog.make == some Rows.evictAllRow.make) = true := by kernel_rfl
theorem joined3 : joinedFacts Tryz.prog 3 Tryz.f3 Rows.evictAllSpec Rows.evictAllRow = true := (and_i (and_i (and_i (and_i (and_i (and_i (and_i (and_i (and_i (and_i (and_i (and_i (and_i (and_i (and_i (and_i (and_i (and_i (and_i (and_i (and_i (and_i (and_i (and_i (and_i (and_i (and_i (and_i (and_i (and_i (and_i (by kernel_rfl) j3p2) j3p3) (by kernel_rfl)) (by kernel_rfl)) (by kernel_rfl)) (by kernel_rfl)) (by kernel_rfl)) (by kernel_rfl)) j3p10) j3p11) j3p12) j3p13) (by kernel_rfl)) (by kernel_rfl)) (by kernel_rfl)) (by kernel_rfl)) (by kernel_rfl)) (by kernel_rfl)) (by kernel_rfl)) (by kernel_rfl)) (by kernel_rfl)) j3p23) (by kernel_rfl)) j3p25) j3p26) j3p27) j3p28) (by kernel_rfl)) (by kernel_rfl)) (by kernel_rfl)) (by kernel_rfl))
end Go.Proofs.YtcmknonnlnobnaaGreat
