/-
Each abstract text stands for its function of the program.
-/
import Derived.Test.YtdjbjnnfmkoceaaGreatX10
import Derived.Test.YtdjbjnnfmkoceaaGreatRows
import Derived.KernelRfl
set_option linter.unusedVariables false
set_option linter.unusedSimpArgs false
set_option maxRecDepth 1000000
namespace Go.Proofs.YtdjbjnnfmkoceaaGreat
open Go Go.Eng Go.Eng.AF
theorem s16_ok:Z6.ok Tryz.prog=true:=by kernel_rfl
theorem s42_ok:Z7.ok Tryz.prog=true:=by kernel_rfl
theorem s69_ok:Z8.ok Tryz.prog=true:=by kernel_rfl
theorem s95_ok:Z9.ok Tryz.prog=true:=by kernel_rfl
theorem s124_ok:VI.ok Tryz.prog=true:=by kernel_rfl
theorem s150_ok:VJ.ok Tryz.prog=true:=by kernel_rfl
theorem s177_ok:VK.ok Tryz.prog=true:=by kernel_rfl
theorem s204_ok:VL.ok Tryz.prog=true:=by kernel_rfl
theorem s231_ok:VM.ok Tryz.prog=true:=by kernel_rfl
theorem s258_ok:VN.ok Tryz.prog=true:=by kernel_rfl
theorem s285_ok:VO.ok Tryz.prog=true:=by kernel_rfl
theorem s311_ok:VP.ok Tryz.prog=true:=by kernel_rfl
theorem s338_ok:VQ.ok Tryz.prog=true:=by kernel_rfl
theorem s365_ok:VR.ok Tryz.prog=true:=by kernel_rfl
theorem s393_ok:VS.ok Tryz.prog=true:=by kernel_rfl
theorem s426_ok:VT.ok Tryz.prog=true:=by kernel_rfl
theorem Zh:gB Tryz.prog 217 f217=true:=by kernel_rfl
theorem Zi:gB Tryz.prog 110 f110=true:=by kernel_rfl
theorem o55:gB Tryz.prog 55 f55=true:=by kernel_rfl
theorem o29:gB Tryz.prog 29 f29=true:=by kernel_rfl
theorem o82:gB Tryz.prog 82 f82=true:=by kernel_rfl
theorem Zj:gB Tryz.prog 163 f163=true:=by kernel_rfl
theorem Zk:gB Tryz.prog 137 f137=true:=by kernel_rfl
theorem Zl:gB Tryz.prog 191 f191=true:=by kernel_rfl
theorem Zm:gB Tryz.prog 324 f324=true:=by kernel_rfl
theorem Zn:gB Tryz.prog 271 f271=true:=by kernel_rfl
theorem Zo:gB Tryz.prog 244 f244=true:=by kernel_rfl
theorem Zp:gB Tryz.prog 298 f298=true:=by kernel_rfl
theorem Zq:gB Tryz.prog 378 f378=true:=by kernel_rfl
theorem Zr:gB Tryz.prog 352 f352=true:=by kernel_rfl
theorem Zs:gB Tryz.prog 407 f407=true:=by kernel_rfl
theorem fns_ok:AF.fns.ok Tryz.prog=true:=(FT.node_ok Zh (FT.node_ok Zi (FT.node_ok o55 (FT.node_ok o29 s16_ok s42_ok) (FT.node_ok o82 s69_ok s95_ok)) (FT.node_ok Zj (FT.node_ok Zk s124_ok s150_ok) (FT.node_ok Zl s177_ok s204_ok))) (FT.node_ok Zm (FT.node_ok Zn (FT.node_ok Zo s231_ok s258_ok) (FT.node_ok Zp s285_ok s311_ok)) (FT.node_ok Zq (FT.node_ok Zr s338_ok s365_ok) (FT.node_ok Zs s393_ok s426_ok))))
theorem bF:yD Tryz.prog AF.fns.get:=FT.get_ok fns_ok
end Go.Proofs.YtdjbjnnfmkoceaaGreat
