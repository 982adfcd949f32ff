/-
TopJudge: the facts of its row.
-/
import Derived.Test.YtdjbjnnfmkoceaaGreatRows
import Derived.ProofKit
set_option linter.unusedVariables false
set_option linter.unusedSimpArgs false
set_option maxRecDepth 100000
namespace Go.Proofs.YtdjbjnnfmkoceaaGreat
open Go.ChangeShapes Go.WideShapes Go.ChangeAt Go.RowKit
theorem fC {a b:Bool} (ha:a=true) (hb:b=true):(a&&b)=true:=by rw [ha,hb];rfl
theorem aAX:laidOutB Tryz.prog=true:=by kernel_rfl
theorem aAY:mapsRowed Tryz.prog=true:=by kernel_rfl
theorem avK:(Rows.topJudgeRow.inPlace==Tryz.prog.inPlace 3)=true:=by kernel_rfl
theorem avL:(Rows.topJudgeRow.unfollowed==Tryz.prog.unfollowed 3)=true:=by kernel_rfl
theorem avM:(Rows.topJudgeRow.recurses==Tryz.prog.recurses 3)=true:=by kernel_rfl
theorem avN:(Rows.topJudgeRow.named==Tryz.prog.varsNamed 3)=true:=by kernel_rfl
theorem avO:(Rows.topJudgeRow.plainKeys==Tryz.prog.plainKeys)=true:=by kernel_rfl
theorem avP:Tryz.prog.stopsHeard=true:=by kernel_rfl
theorem avQ:Tryz.prog.mayEnter=true:=by kernel_rfl
theorem avR:(Rows.topJudgeRow.lifted==Tryz.prog.liftsFinal)=true:=by kernel_rfl
theorem avS:(Tryz.prog.make==some Rows.topJudgeRow.make)=true:=by kernel_rfl
theorem ag4:joinedFacts Tryz.prog 3 Tryz.f3 Rows.topJudgeSpec Rows.topJudgeRow=true:=(fC (fC (fC (fC (fC (fC (fC (fC (fC (fC (fC (fC (fC (fC (fC (fC (fC (fC (fC (fC (fC (fC (fC (fC (fC (fC (fC (fC (fC (fC (fC (by kernel_rfl) aAX) aAY) (by kernel_rfl)) (by kernel_rfl)) (by kernel_rfl)) (by kernel_rfl)) (by kernel_rfl)) (by kernel_rfl)) avK) avL) avM) avN) (by kernel_rfl)) (by kernel_rfl)) (by kernel_rfl)) (by kernel_rfl)) (by kernel_rfl)) (by kernel_rfl)) (by kernel_rfl)) (by kernel_rfl)) (by kernel_rfl)) avO) (by kernel_rfl)) avP) avQ) avR) avS) (by kernel_rfl)) (by kernel_rfl)) (by kernel_rfl)) (by kernel_rfl))
end Go.Proofs.YtdjbjnnfmkoceaaGreat
