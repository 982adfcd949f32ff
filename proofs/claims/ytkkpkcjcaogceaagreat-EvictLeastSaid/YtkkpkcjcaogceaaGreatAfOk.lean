/-
Each abstract text stands for its function of the program.
-/
import Derived.Test.YtkkpkcjcaogceaaGreatAfT
import Derived.Test.YtkkpkcjcaogceaaGreatRows
import Derived.KernelRfl
set_option maxRecDepth 1000000
namespace Go.Proofs.YtkkpkcjcaogceaaGreat
open Go Go.Eng Go.Eng.AF
theorem s16_ok : s16.ok Tryz.prog = true := by kernel_rfl
theorem s32_ok : s32.ok Tryz.prog = true := by kernel_rfl
theorem s48_ok : s48.ok Tryz.prog = true := by kernel_rfl
theorem s64_ok : s64.ok Tryz.prog = true := by kernel_rfl
theorem s80_ok : s80.ok Tryz.prog = true := by kernel_rfl
theorem s96_ok : s96.ok Tryz.prog = true := by kernel_rfl
theorem s117_ok : s117.ok Tryz.prog = true := by kernel_rfl
theorem s133_ok : s133.ok Tryz.prog = true := by kernel_rfl
theorem s158_ok : s158.ok Tryz.prog = true := by kernel_rfl
theorem s180_ok : s180.ok Tryz.prog = true := by kernel_rfl
theorem s199_ok : s199.ok Tryz.prog = true := by kernel_rfl
theorem s225_ok : s225.ok Tryz.prog = true := by kernel_rfl
theorem s244_ok : s244.ok Tryz.prog = true := by kernel_rfl
theorem s260_ok : s260.ok Tryz.prog = true := by kernel_rfl
theorem s300_ok : s300.ok Tryz.prog = true := by kernel_rfl
theorem s333_ok : s333.ok Tryz.prog = true := by kernel_rfl
theorem o140 : okFn Tryz.prog 140 f140 = true := by kernel_rfl
theorem o72 : okFn Tryz.prog 72 f72 = true := by kernel_rfl
theorem o40 : okFn Tryz.prog 40 f40 = true := by kernel_rfl
theorem o24 : okFn Tryz.prog 24 f24 = true := by kernel_rfl
theorem o56 : okFn Tryz.prog 56 f56 = true := by kernel_rfl
theorem o106 : okFn Tryz.prog 106 f106 = true := by kernel_rfl
theorem o88 : okFn Tryz.prog 88 f88 = true := by kernel_rfl
theorem o125 : okFn Tryz.prog 125 f125 = true := by kernel_rfl
theorem o233 : okFn Tryz.prog 233 f233 = true := by kernel_rfl
theorem o191 : okFn Tryz.prog 191 f191 = true := by kernel_rfl
theorem o168 : okFn Tryz.prog 168 f168 = true := by kernel_rfl
theorem o215 : okFn Tryz.prog 215 f215 = true := by kernel_rfl
theorem o289 : okFn Tryz.prog 289 f289 = true := by kernel_rfl
theorem o252 : okFn Tryz.prog 252 f252 = true := by kernel_rfl
theorem o310 : okFn Tryz.prog 310 f310 = true := by kernel_rfl
theorem fns_ok : AF.fns.ok Tryz.prog = true := (FT.node_ok o140 (FT.node_ok o72 (FT.node_ok o40 (FT.node_ok o24 s16_ok s32_ok) (FT.node_ok o56 s48_ok s64_ok)) (FT.node_ok o106 (FT.node_ok o88 s80_ok s96_ok) (FT.node_ok o125 s117_ok s133_ok))) (FT.node_ok o233 (FT.node_ok o191 (FT.node_ok o168 s158_ok s180_ok) (FT.node_ok o215 s199_ok s225_ok)) (FT.node_ok o289 (FT.node_ok o252 s244_ok s260_ok) (FT.node_ok o310 s300_ok s333_ok))))
theorem fnsOk : FnsOk Tryz.prog AF.fns.get := FT.get_ok fns_ok
end Go.Proofs.YtkkpkcjcaogceaaGreat
