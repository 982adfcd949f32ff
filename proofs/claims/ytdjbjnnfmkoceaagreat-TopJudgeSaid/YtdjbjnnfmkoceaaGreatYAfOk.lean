/-
Each abstract text stands for its function of the program.
-/
import Derived.Test.YtdjbjnnfmkoceaaGreatY10
import Derived.Test.YtdjbjnnfmkoceaaGreatRows
import Derived.KernelRfl
set_option linter.unusedVariables false
set_option linter.unusedSimpArgs false
set_option maxRecDepth 1000000
namespace Go.Proofs.YtdjbjnnfmkoceaaGreat
open Go Go.Eng Go.Eng.AF
theorem s16_ok:s16.ok Tryz.prog=true:=by kernel_rfl
theorem s42_ok:s42.ok Tryz.prog=true:=by kernel_rfl
theorem s69_ok:s69.ok Tryz.prog=true:=by kernel_rfl
theorem s95_ok:s95.ok Tryz.prog=true:=by kernel_rfl
theorem s124_ok:apW.ok Tryz.prog=true:=by kernel_rfl
theorem s150_ok:apX.ok Tryz.prog=true:=by kernel_rfl
theorem s177_ok:apY.ok Tryz.prog=true:=by kernel_rfl
theorem s204_ok:apZ.ok Tryz.prog=true:=by kernel_rfl
theorem s231_ok:ap0.ok Tryz.prog=true:=by kernel_rfl
theorem s258_ok:ap1.ok Tryz.prog=true:=by kernel_rfl
theorem s285_ok:ap2.ok Tryz.prog=true:=by kernel_rfl
theorem s311_ok:ap3.ok Tryz.prog=true:=by kernel_rfl
theorem s338_ok:ap4.ok Tryz.prog=true:=by kernel_rfl
theorem s365_ok:ap5.ok Tryz.prog=true:=by kernel_rfl
theorem s393_ok:ap6.ok Tryz.prog=true:=by kernel_rfl
theorem s426_ok:ap7.ok Tryz.prog=true:=by kernel_rfl
theorem aAd:iY Tryz.prog 217 f217=true:=by kernel_rfl
theorem aAe:iY Tryz.prog 110 f110=true:=by kernel_rfl
theorem o55:iY Tryz.prog 55 f55=true:=by kernel_rfl
theorem o29:iY Tryz.prog 29 f29=true:=by kernel_rfl
theorem o82:iY Tryz.prog 82 f82=true:=by kernel_rfl
theorem aAf:iY Tryz.prog 163 f163=true:=by kernel_rfl
theorem aAg:iY Tryz.prog 137 f137=true:=by kernel_rfl
theorem aAh:iY Tryz.prog 191 f191=true:=by kernel_rfl
theorem aAi:iY Tryz.prog 324 f324=true:=by kernel_rfl
theorem aAj:iY Tryz.prog 271 f271=true:=by kernel_rfl
theorem aAk:iY Tryz.prog 244 f244=true:=by kernel_rfl
theorem aAl:iY Tryz.prog 298 f298=true:=by kernel_rfl
theorem aAm:iY Tryz.prog 378 f378=true:=by kernel_rfl
theorem aAn:iY Tryz.prog 352 f352=true:=by kernel_rfl
theorem aAo:iY Tryz.prog 407 f407=true:=by kernel_rfl
theorem fns_ok:AF.fns.ok Tryz.prog=true:=(FT.node_ok aAd (FT.node_ok aAe (FT.node_ok o55 (FT.node_ok o29 s16_ok s42_ok) (FT.node_ok o82 s69_ok s95_ok)) (FT.node_ok aAf (FT.node_ok aAg s124_ok s150_ok) (FT.node_ok aAh s177_ok s204_ok))) (FT.node_ok aAi (FT.node_ok aAj (FT.node_ok aAk s231_ok s258_ok) (FT.node_ok aAl s285_ok s311_ok)) (FT.node_ok aAm (FT.node_ok aAn s338_ok s365_ok) (FT.node_ok aAo s393_ok s426_ok))))
theorem bS:BL Tryz.prog AF.fns.get:=FT.get_ok fns_ok
end Go.Proofs.YtdjbjnnfmkoceaaGreat
