/-
The row's closed facts, for planStale.
-/
import Derived.Test.YtmfelikepmmjkaaGreatRows
import Derived.ProofKit
set_option linter.unusedVariables false
set_option linter.unusedSimpArgs false
set_option maxRecDepth 100000
namespace Go.Proofs.YtmfelikepmmjkaaGreat
open Go.ChangeShapes Go.WideShapes Go.ChangeAt Go.RowKit
theorem fU {a b:Bool} (ha:a=true) (hb:b=true):(a&&b)=true:=by rw [ha,hb];rfl
theorem ag2:laidOutB Tryz.prog=true:=by kernel_rfl
theorem ag3:mapsRowed Tryz.prog=true:=by kernel_rfl
theorem abD:(Rows.planStaleRow.inPlace==Tryz.prog.inPlace 4)=true:=by kernel_rfl
theorem abE:(Rows.planStaleRow.unfollowed==Tryz.prog.unfollowed 4)=true:=by kernel_rfl
theorem abF:(Rows.planStaleRow.recurses==Tryz.prog.recurses 4)=true:=by kernel_rfl
theorem abG:(Rows.planStaleRow.named==Tryz.prog.varsNamed 4)=true:=by kernel_rfl
theorem abH:(Rows.planStaleRow.plainKeys==Tryz.prog.plainKeys)=true:=by kernel_rfl
theorem abI:Tryz.prog.stopsHeard=true:=by kernel_rfl
theorem abJ:Tryz.prog.mayEnter=true:=by kernel_rfl
theorem abK:(Rows.planStaleRow.lifted==Tryz.prog.liftsFinal)=true:=by kernel_rfl
theorem abL:(Tryz.prog.make==some Rows.planStaleRow.make)=true:=by kernel_rfl
theorem Ui:joinedFacts Tryz.prog 4 Tryz.f4 Rows.planStaleSpec Rows.planStaleRow=true:=(fU (fU (fU (fU (fU (fU (fU (fU (fU (fU (fU (fU (fU (fU (fU (fU (fU (fU (fU (fU (fU (fU (fU (fU (fU (fU (fU (fU (fU (fU (fU (by kernel_rfl) ag2) ag3) (by kernel_rfl)) (by kernel_rfl)) (by kernel_rfl)) (by kernel_rfl)) (by kernel_rfl)) (by kernel_rfl)) abD) abE) abF) abG) (by kernel_rfl)) (by kernel_rfl)) (by kernel_rfl)) (by kernel_rfl)) (by kernel_rfl)) (by kernel_rfl)) (by kernel_rfl)) (by kernel_rfl)) (by kernel_rfl)) abH) (by kernel_rfl)) abI) abJ) abK) abL) (by kernel_rfl)) (by kernel_rfl)) (by kernel_rfl)) (by kernel_rfl))
end Go.Proofs.YtmfelikepmmjkaaGreat
