/-
The row's closed facts, for planTxn.
-/
import Derived.Test.YtmfelikepmmjkaaGreatRows
import Derived.ProofKit
set_option linter.unusedVariables false
set_option linter.unusedSimpArgs false
set_option maxRecDepth 100000
namespace Go.Proofs.YtmfelikepmmjkaaGreat
open Go.ChangeShapes Go.WideShapes Go.ChangeAt Go.RowKit
theorem gJ {a b:Bool} (ha:a=true) (hb:b=true):(a&&b)=true:=by rw [ha,hb];rfl
theorem ak1:laidOutB Tryz.prog=true:=by kernel_rfl
theorem ak2:mapsRowed Tryz.prog=true:=by kernel_rfl
theorem ae0:(Rows.planTxnRow.inPlace==Tryz.prog.inPlace 3)=true:=by kernel_rfl
theorem ae1:(Rows.planTxnRow.unfollowed==Tryz.prog.unfollowed 3)=true:=by kernel_rfl
theorem ae2:(Rows.planTxnRow.recurses==Tryz.prog.recurses 3)=true:=by kernel_rfl
theorem ae3:(Rows.planTxnRow.named==Tryz.prog.varsNamed 3)=true:=by kernel_rfl
theorem ae4:(Rows.planTxnRow.plainKeys==Tryz.prog.plainKeys)=true:=by kernel_rfl
theorem ae5:Tryz.prog.stopsHeard=true:=by kernel_rfl
theorem ae6:Tryz.prog.mayEnter=true:=by kernel_rfl
theorem ae7:(Rows.planTxnRow.lifted==Tryz.prog.liftsFinal)=true:=by kernel_rfl
theorem ae8:(Tryz.prog.make==some Rows.planTxnRow.make)=true:=by kernel_rfl
theorem V6:joinedFacts Tryz.prog 3 Tryz.f3 Rows.planTxnSpec Rows.planTxnRow=true:=(gJ (gJ (gJ (gJ (gJ (gJ (gJ (gJ (gJ (gJ (gJ (gJ (gJ (gJ (gJ (gJ (gJ (gJ (gJ (gJ (gJ (gJ (gJ (gJ (gJ (gJ (gJ (gJ (gJ (gJ (gJ (by kernel_rfl) ak1) ak2) (by kernel_rfl)) (by kernel_rfl)) (by kernel_rfl)) (by kernel_rfl)) (by kernel_rfl)) (by kernel_rfl)) ae0) ae1) ae2) ae3) (by kernel_rfl)) (by kernel_rfl)) (by kernel_rfl)) (by kernel_rfl)) (by kernel_rfl)) (by kernel_rfl)) (by kernel_rfl)) (by kernel_rfl)) (by kernel_rfl)) ae4) (by kernel_rfl)) ae5) ae6) ae7) ae8) (by kernel_rfl)) (by kernel_rfl)) (by kernel_rfl)) (by kernel_rfl))
end Go.Proofs.YtmfelikepmmjkaaGreat
