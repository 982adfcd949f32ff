/-
Each abstract text stands for its function of the program.
-/
import Derived.Test.YtbbaiopailpcdaaGreatAfT
import Derived.Test.YtbbaiopailpcdaaGreatRows
import Derived.KernelRfl
set_option maxRecDepth 1000000
namespace Go.Proofs.YtbbaiopailpcdaaGreat
open Go Go.Eng Go.Eng.AF
theorem s9_ok : s9.ok Tryz.prog = true := by kernel_rfl
theorem s23_ok : s23.ok Tryz.prog = true := by kernel_rfl
theorem s36_ok : s36.ok Tryz.prog = true := by kernel_rfl
theorem s49_ok : s49.ok Tryz.prog = true := by kernel_rfl
theorem s62_ok : s62.ok Tryz.prog = true := by kernel_rfl
theorem s79_ok : s79.ok Tryz.prog = true := by kernel_rfl
theorem s96_ok : s96.ok Tryz.prog = true := by kernel_rfl
theorem s109_ok : s109.ok Tryz.prog = true := by kernel_rfl
theorem s124_ok : s124.ok Tryz.prog = true := by kernel_rfl
theorem s143_ok : s143.ok Tryz.prog = true := by kernel_rfl
theorem s157_ok : s157.ok Tryz.prog = true := by kernel_rfl
theorem s171_ok : s171.ok Tryz.prog = true := by kernel_rfl
theorem s203_ok : s203.ok Tryz.prog = true := by kernel_rfl
theorem s220_ok : s220.ok Tryz.prog = true := by kernel_rfl
theorem s251_ok : s251.ok Tryz.prog = true := by kernel_rfl
theorem s280_ok : s280.ok Tryz.prog = true := by kernel_rfl
theorem o117 : okFn Tryz.prog 117 f117 = true := by kernel_rfl
theorem o55 : okFn Tryz.prog 55 f55 = true := by kernel_rfl
theorem o29 : okFn Tryz.prog 29 f29 = true := by kernel_rfl
theorem o16 : okFn Tryz.prog 16 f16 = true := by kernel_rfl
theorem o42 : okFn Tryz.prog 42 f42 = true := by kernel_rfl
theorem o88 : okFn Tryz.prog 88 f88 = true := by kernel_rfl
theorem o69 : okFn Tryz.prog 69 f69 = true := by kernel_rfl
theorem o102 : okFn Tryz.prog 102 f102 = true := by kernel_rfl
theorem o178 : okFn Tryz.prog 178 f178 = true := by kernel_rfl
theorem o150 : okFn Tryz.prog 150 f150 = true := by kernel_rfl
theorem o133 : okFn Tryz.prog 133 f133 = true := by kernel_rfl
theorem o163 : okFn Tryz.prog 163 f163 = true := by kernel_rfl
theorem o227 : okFn Tryz.prog 227 f227 = true := by kernel_rfl
theorem o212 : okFn Tryz.prog 212 f212 = true := by kernel_rfl
theorem o262 : okFn Tryz.prog 262 f262 = true := by kernel_rfl
theorem fns_ok : AF.fns.ok Tryz.prog = true := (FT.node_ok o117 (FT.node_ok o55 (FT.node_ok o29 (FT.node_ok o16 s9_ok s23_ok) (FT.node_ok o42 s36_ok s49_ok)) (FT.node_ok o88 (FT.node_ok o69 s62_ok s79_ok) (FT.node_ok o102 s96_ok s109_ok))) (FT.node_ok o178 (FT.node_ok o150 (FT.node_ok o133 s124_ok s143_ok) (FT.node_ok o163 s157_ok s171_ok)) (FT.node_ok o227 (FT.node_ok o212 s203_ok s220_ok) (FT.node_ok o262 s251_ok s280_ok))))
theorem fnsOk : FnsOk Tryz.prog AF.fns.get := FT.get_ok fns_ok
end Go.Proofs.YtbbaiopailpcdaaGreat
