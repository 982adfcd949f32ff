/-
Each abstract text stands for its function of the program.
-/
import Derived.Test.YteigjjkmabadfaaGreatAfT
import Derived.Test.YteigjjkmabadfaaGreatRows
import Derived.KernelRfl
set_option maxRecDepth 1000000
namespace Go.Proofs.YteigjjkmabadfaaGreat
open Go Go.Eng Go.Eng.AF
theorem s11_ok : s11.ok Tryz.prog = true := by kernel_rfl
theorem s27_ok : s27.ok Tryz.prog = true := by kernel_rfl
theorem s43_ok : s43.ok Tryz.prog = true := by kernel_rfl
theorem s59_ok : s59.ok Tryz.prog = true := by kernel_rfl
theorem s74_ok : s74.ok Tryz.prog = true := by kernel_rfl
theorem s90_ok : s90.ok Tryz.prog = true := by kernel_rfl
theorem s108_ok : s108.ok Tryz.prog = true := by kernel_rfl
theorem s124_ok : s124.ok Tryz.prog = true := by kernel_rfl
theorem s139_ok : s139.ok Tryz.prog = true := by kernel_rfl
theorem s172_ok : s172.ok Tryz.prog = true := by kernel_rfl
theorem s188_ok : s188.ok Tryz.prog = true := by kernel_rfl
theorem s214_ok : s214.ok Tryz.prog = true := by kernel_rfl
theorem s232_ok : s232.ok Tryz.prog = true := by kernel_rfl
theorem s248_ok : s248.ok Tryz.prog = true := by kernel_rfl
theorem s287_ok : s287.ok Tryz.prog = true := by kernel_rfl
theorem s323_ok : s323.ok Tryz.prog = true := by kernel_rfl
theorem o131 : okFn Tryz.prog 131 f131 = true := by kernel_rfl
theorem o66 : okFn Tryz.prog 66 f66 = true := by kernel_rfl
theorem o35 : okFn Tryz.prog 35 f35 = true := by kernel_rfl
theorem o19 : okFn Tryz.prog 19 f19 = true := by kernel_rfl
theorem o51 : okFn Tryz.prog 51 f51 = true := by kernel_rfl
theorem o100 : okFn Tryz.prog 100 f100 = true := by kernel_rfl
theorem o82 : okFn Tryz.prog 82 f82 = true := by kernel_rfl
theorem o116 : okFn Tryz.prog 116 f116 = true := by kernel_rfl
theorem o224 : okFn Tryz.prog 224 f224 = true := by kernel_rfl
theorem o180 : okFn Tryz.prog 180 f180 = true := by kernel_rfl
theorem o161 : okFn Tryz.prog 161 f161 = true := by kernel_rfl
theorem o202 : okFn Tryz.prog 202 f202 = true := by kernel_rfl
theorem o277 : okFn Tryz.prog 277 f277 = true := by kernel_rfl
theorem o240 : okFn Tryz.prog 240 f240 = true := by kernel_rfl
theorem o297 : okFn Tryz.prog 297 f297 = true := by kernel_rfl
theorem fns_ok : AF.fns.ok Tryz.prog = true := (FT.node_ok o131 (FT.node_ok o66 (FT.node_ok o35 (FT.node_ok o19 s11_ok s27_ok) (FT.node_ok o51 s43_ok s59_ok)) (FT.node_ok o100 (FT.node_ok o82 s74_ok s90_ok) (FT.node_ok o116 s108_ok s124_ok))) (FT.node_ok o224 (FT.node_ok o180 (FT.node_ok o161 s139_ok s172_ok) (FT.node_ok o202 s188_ok s214_ok)) (FT.node_ok o277 (FT.node_ok o240 s232_ok s248_ok) (FT.node_ok o297 s287_ok s323_ok))))
theorem fnsOk : FnsOk Tryz.prog AF.fns.get := FT.get_ok fns_ok
end Go.Proofs.YteigjjkmabadfaaGreat
