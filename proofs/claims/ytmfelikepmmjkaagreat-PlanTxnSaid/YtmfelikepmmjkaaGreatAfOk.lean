/-
Each abstract text stands for its function of the program.
-/
import Derived.Test.YtmfelikepmmjkaaGreatX11
import Derived.Test.YtmfelikepmmjkaaGreatRows
import Derived.KernelRfl
set_option linter.unusedVariables false
set_option linter.unusedSimpArgs false
set_option maxRecDepth 1000000
namespace Go.Proofs.YtmfelikepmmjkaaGreat
open Go Go.Eng Go.Eng.AF
theorem s11_ok:s11.ok Tryz.prog=true:=by kernel_rfl
theorem s29_ok:s29.ok Tryz.prog=true:=by kernel_rfl
theorem s48_ok:s48.ok Tryz.prog=true:=by kernel_rfl
theorem s67_ok:s67.ok Tryz.prog=true:=by kernel_rfl
theorem s86_ok:s86.ok Tryz.prog=true:=by kernel_rfl
theorem s105_ok:abL.ok Tryz.prog=true:=by kernel_rfl
theorem s123_ok:abM.ok Tryz.prog=true:=by kernel_rfl
theorem s144_ok:abN.ok Tryz.prog=true:=by kernel_rfl
theorem s165_ok:abO.ok Tryz.prog=true:=by kernel_rfl
theorem s185_ok:abP.ok Tryz.prog=true:=by kernel_rfl
theorem s203_ok:abQ.ok Tryz.prog=true:=by kernel_rfl
theorem s223_ok:abR.ok Tryz.prog=true:=by kernel_rfl
theorem s266_ok:abS.ok Tryz.prog=true:=by kernel_rfl
theorem s287_ok:abT.ok Tryz.prog=true:=by kernel_rfl
theorem s328_ok:abU.ok Tryz.prog=true:=by kernel_rfl
theorem s356_ok:abV.ok Tryz.prog=true:=by kernel_rfl
theorem ahG:gU Tryz.prog 153 f153=true:=by kernel_rfl
theorem o76:gU Tryz.prog 76 f76=true:=by kernel_rfl
theorem o38:gU Tryz.prog 38 f38=true:=by kernel_rfl
theorem o20:gU Tryz.prog 20 f20=true:=by kernel_rfl
theorem o58:gU Tryz.prog 58 f58=true:=by kernel_rfl
theorem ahH:gU Tryz.prog 114 f114=true:=by kernel_rfl
theorem o95:gU Tryz.prog 95 f95=true:=by kernel_rfl
theorem ahI:gU Tryz.prog 132 f132=true:=by kernel_rfl
theorem ahJ:gU Tryz.prog 254 f254=true:=by kernel_rfl
theorem ahK:gU Tryz.prog 194 f194=true:=by kernel_rfl
theorem ahL:gU Tryz.prog 176 f176=true:=by kernel_rfl
theorem ahM:gU Tryz.prog 212 f212=true:=by kernel_rfl
theorem ahN:gU Tryz.prog 316 f316=true:=by kernel_rfl
theorem ahO:gU Tryz.prog 277 f277=true:=by kernel_rfl
theorem ahP:gU Tryz.prog 343 f343=true:=by kernel_rfl
theorem fns_ok:AF.fns.ok Tryz.prog=true:=(FT.node_ok ahG (FT.node_ok o76 (FT.node_ok o38 (FT.node_ok o20 s11_ok s29_ok) (FT.node_ok o58 s48_ok s67_ok)) (FT.node_ok ahH (FT.node_ok o95 s86_ok s105_ok) (FT.node_ok ahI s123_ok s144_ok))) (FT.node_ok ahJ (FT.node_ok ahK (FT.node_ok ahL s165_ok s185_ok) (FT.node_ok ahM s203_ok s223_ok)) (FT.node_ok ahN (FT.node_ok ahO s266_ok s287_ok) (FT.node_ok ahP s328_ok s356_ok))))
theorem WE:bP Tryz.prog AF.fns.get:=FT.get_ok fns_ok
end Go.Proofs.YtmfelikepmmjkaaGreat
