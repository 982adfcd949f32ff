/-
TopHand: the facts of its row.
-/
import Derived.Test.YtdjbjnnfmkoceaaGreatRows
import Derived.ProofKit
set_option linter.unusedVariables false
set_option linter.unusedSimpArgs false
set_option maxRecDepth 100000
namespace Go.Proofs.YtdjbjnnfmkoceaaGreat
open Go.ChangeShapes Go.WideShapes Go.ChangeAt Go.RowKit
theorem dR {a b:Bool} (ha:a=true) (hb:b=true):(a&&b)=true:=by rw [ha,hb];rfl
theorem Zz:laidOutB Tryz.prog=true:=by kernel_rfl
theorem ZA:mapsRowed Tryz.prog=true:=by kernel_rfl
theorem Ws:(Rows.topHandRow.inPlace==Tryz.prog.inPlace 4)=true:=by kernel_rfl
theorem Wt:(Rows.topHandRow.unfollowed==Tryz.prog.unfollowed 4)=true:=by kernel_rfl
theorem Wu:(Rows.topHandRow.recurses==Tryz.prog.recurses 4)=true:=by kernel_rfl
theorem Wv:(Rows.topHandRow.named==Tryz.prog.varsNamed 4)=true:=by kernel_rfl
theorem Ww:(Rows.topHandRow.plainKeys==Tryz.prog.plainKeys)=true:=by kernel_rfl
theorem Wx:Tryz.prog.stopsHeard=true:=by kernel_rfl
theorem Wy:Tryz.prog.mayEnter=true:=by kernel_rfl
theorem Wz:(Rows.topHandRow.lifted==Tryz.prog.liftsFinal)=true:=by kernel_rfl
theorem WA:(Tryz.prog.make==some Rows.topHandRow.make)=true:=by kernel_rfl
theorem QN:joinedFacts Tryz.prog 4 Tryz.f4 Rows.topHandSpec Rows.topHandRow=true:=(dR (dR (dR (dR (dR (dR (dR (dR (dR (dR (dR (dR (dR (dR (dR (dR (dR (dR (dR (dR (dR (dR (dR (dR (dR (dR (dR (dR (dR (dR (dR (by kernel_rfl) Zz) ZA) (by kernel_rfl)) (by kernel_rfl)) (by kernel_rfl)) (by kernel_rfl)) (by kernel_rfl)) (by kernel_rfl)) Ws) Wt) Wu) Wv) (by kernel_rfl)) (by kernel_rfl)) (by kernel_rfl)) (by kernel_rfl)) (by kernel_rfl)) (by kernel_rfl)) (by kernel_rfl)) (by kernel_rfl)) (by kernel_rfl)) Ww) (by kernel_rfl)) Wx) Wy) Wz) WA) (by kernel_rfl)) (by kernel_rfl)) (by kernel_rfl)) (by kernel_rfl))
end Go.Proofs.YtdjbjnnfmkoceaaGreat
