/-
Each abstract text stands for its function of the program.
-/
import Derived.Test.YtmfelikepmmjkaaGreatY13
import Derived.Test.YtmfelikepmmjkaaGreatRows
import Derived.KernelRfl
set_option linter.unusedVariables false
set_option linter.unusedSimpArgs false
set_option maxRecDepth 1000000
namespace Go.Proofs.YtmfelikepmmjkaaGreat
open Go Go.Eng Go.Eng.AF
theorem s11_ok:s11.ok Tryz.prog=true:=by kernel_rfl
theorem s29_ok:s29.ok Tryz.prog=true:=by kernel_rfl
theorem s48_ok:s48.ok Tryz.prog=true:=by kernel_rfl
theorem s67_ok:s67.ok Tryz.prog=true:=by kernel_rfl
theorem s86_ok:s86.ok Tryz.prog=true:=by kernel_rfl
theorem s105_ok:YW.ok Tryz.prog=true:=by kernel_rfl
theorem s123_ok:YX.ok Tryz.prog=true:=by kernel_rfl
theorem s144_ok:YY.ok Tryz.prog=true:=by kernel_rfl
theorem s165_ok:YZ.ok Tryz.prog=true:=by kernel_rfl
theorem s185_ok:Y0.ok Tryz.prog=true:=by kernel_rfl
theorem s203_ok:Y1.ok Tryz.prog=true:=by kernel_rfl
theorem s223_ok:Y2.ok Tryz.prog=true:=by kernel_rfl
theorem s266_ok:Y3.ok Tryz.prog=true:=by kernel_rfl
theorem s287_ok:Y4.ok Tryz.prog=true:=by kernel_rfl
theorem s328_ok:Y5.ok Tryz.prog=true:=by kernel_rfl
theorem s356_ok:Y6.ok Tryz.prog=true:=by kernel_rfl
theorem adV:gE Tryz.prog 153 f153=true:=by kernel_rfl
theorem o76:gE Tryz.prog 76 f76=true:=by kernel_rfl
theorem o38:gE Tryz.prog 38 f38=true:=by kernel_rfl
theorem o20:gE Tryz.prog 20 f20=true:=by kernel_rfl
theorem o58:gE Tryz.prog 58 f58=true:=by kernel_rfl
theorem adW:gE Tryz.prog 114 f114=true:=by kernel_rfl
theorem o95:gE Tryz.prog 95 f95=true:=by kernel_rfl
theorem adX:gE Tryz.prog 132 f132=true:=by kernel_rfl
theorem adY:gE Tryz.prog 254 f254=true:=by kernel_rfl
theorem adZ:gE Tryz.prog 194 f194=true:=by kernel_rfl
theorem ad0:gE Tryz.prog 176 f176=true:=by kernel_rfl
theorem ad1:gE Tryz.prog 212 f212=true:=by kernel_rfl
theorem ad2:gE Tryz.prog 316 f316=true:=by kernel_rfl
theorem ad3:gE Tryz.prog 277 f277=true:=by kernel_rfl
theorem ad4:gE Tryz.prog 343 f343=true:=by kernel_rfl
theorem fns_ok:AF.fns.ok Tryz.prog=true:=(FT.node_ok adV (FT.node_ok o76 (FT.node_ok o38 (FT.node_ok o20 s11_ok s29_ok) (FT.node_ok o58 s48_ok s67_ok)) (FT.node_ok adW (FT.node_ok o95 s86_ok s105_ok) (FT.node_ok adX s123_ok s144_ok))) (FT.node_ok adY (FT.node_ok adZ (FT.node_ok ad0 s165_ok s185_ok) (FT.node_ok ad1 s203_ok s223_ok)) (FT.node_ok ad2 (FT.node_ok ad3 s266_ok s287_ok) (FT.node_ok ad4 s328_ok s356_ok))))
theorem UQ:bN Tryz.prog AF.fns.get:=FT.get_ok fns_ok
end Go.Proofs.YtmfelikepmmjkaaGreat
