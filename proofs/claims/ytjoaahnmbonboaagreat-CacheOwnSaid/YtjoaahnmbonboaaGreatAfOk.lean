/-
Each abstract text stands for its function of the program.
-/
import Derived.Test.YtjoaahnmbonboaaGreatAfT
import Derived.Test.YtjoaahnmbonboaaGreatRows
import Derived.KernelRfl
set_option maxRecDepth 1000000
namespace Go.Proofs.YtjoaahnmbonboaaGreat
open Go Go.Eng Go.Eng.AF
theorem s24_ok : s24.ok Tryz.prog = true := by kernel_rfl
theorem s59_ok : s59.ok Tryz.prog = true := by kernel_rfl
theorem s92_ok : s92.ok Tryz.prog = true := by kernel_rfl
theorem s124_ok : s124.ok Tryz.prog = true := by kernel_rfl
theorem s154_ok : s154.ok Tryz.prog = true := by kernel_rfl
theorem s182_ok : s182.ok Tryz.prog = true := by kernel_rfl
theorem s219_ok : s219.ok Tryz.prog = true := by kernel_rfl
theorem s256_ok : s256.ok Tryz.prog = true := by kernel_rfl
theorem o137 : okFn Tryz.prog 137 f137 = true := by kernel_rfl
theorem o77 : okFn Tryz.prog 77 f77 = true := by kernel_rfl
theorem o45 : okFn Tryz.prog 45 f45 = true := by kernel_rfl
theorem o106 : okFn Tryz.prog 106 f106 = true := by kernel_rfl
theorem o196 : okFn Tryz.prog 196 f196 = true := by kernel_rfl
theorem o167 : okFn Tryz.prog 167 f167 = true := by kernel_rfl
theorem o234 : okFn Tryz.prog 234 f234 = true := by kernel_rfl
theorem fns_ok : AF.fns.ok Tryz.prog = true := (FT.node_ok o137 (FT.node_ok o77 (FT.node_ok o45 s24_ok s59_ok) (FT.node_ok o106 s92_ok s124_ok)) (FT.node_ok o196 (FT.node_ok o167 s154_ok s182_ok) (FT.node_ok o234 s219_ok s256_ok)))
theorem fnsOk : FnsOk Tryz.prog AF.fns.get := FT.get_ok fns_ok
end Go.Proofs.YtjoaahnmbonboaaGreat
