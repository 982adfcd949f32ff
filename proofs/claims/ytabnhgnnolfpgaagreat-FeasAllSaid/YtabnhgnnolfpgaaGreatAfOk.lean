/-
Each abstract text stands for its function of the program.
-/
import Derived.Test.YtabnhgnnolfpgaaGreatAfT
import Derived.Test.YtabnhgnnolfpgaaGreatRows
import Derived.KernelRfl
set_option maxRecDepth 1000000
namespace Go.Proofs.YtabnhgnnolfpgaaGreat
open Go Go.Eng Go.Eng.AF
theorem s16_ok : s16.ok Tryz.prog = true := by kernel_rfl
theorem s36_ok : s36.ok Tryz.prog = true := by kernel_rfl
theorem s53_ok : s53.ok Tryz.prog = true := by kernel_rfl
theorem s71_ok : s71.ok Tryz.prog = true := by kernel_rfl
theorem s88_ok : s88.ok Tryz.prog = true := by kernel_rfl
theorem s108_ok : s108.ok Tryz.prog = true := by kernel_rfl
theorem s125_ok : s125.ok Tryz.prog = true := by kernel_rfl
theorem s142_ok : s142.ok Tryz.prog = true := by kernel_rfl
theorem s159_ok : s159.ok Tryz.prog = true := by kernel_rfl
theorem s188_ok : s188.ok Tryz.prog = true := by kernel_rfl
theorem s211_ok : s211.ok Tryz.prog = true := by kernel_rfl
theorem s237_ok : s237.ok Tryz.prog = true := by kernel_rfl
theorem s259_ok : s259.ok Tryz.prog = true := by kernel_rfl
theorem s277_ok : s277.ok Tryz.prog = true := by kernel_rfl
theorem s317_ok : s317.ok Tryz.prog = true := by kernel_rfl
theorem s354_ok : s354.ok Tryz.prog = true := by kernel_rfl
theorem o150 : okFn Tryz.prog 150 f150 = true := by kernel_rfl
theorem o79 : okFn Tryz.prog 79 f79 = true := by kernel_rfl
theorem o44 : okFn Tryz.prog 44 f44 = true := by kernel_rfl
theorem o25 : okFn Tryz.prog 25 f25 = true := by kernel_rfl
theorem o62 : okFn Tryz.prog 62 f62 = true := by kernel_rfl
theorem o116 : okFn Tryz.prog 116 f116 = true := by kernel_rfl
theorem o99 : okFn Tryz.prog 99 f99 = true := by kernel_rfl
theorem o133 : okFn Tryz.prog 133 f133 = true := by kernel_rfl
theorem o247 : okFn Tryz.prog 247 f247 = true := by kernel_rfl
theorem o197 : okFn Tryz.prog 197 f197 = true := by kernel_rfl
theorem o169 : okFn Tryz.prog 169 f169 = true := by kernel_rfl
theorem o220 : okFn Tryz.prog 220 f220 = true := by kernel_rfl
theorem o305 : okFn Tryz.prog 305 f305 = true := by kernel_rfl
theorem o268 : okFn Tryz.prog 268 f268 = true := by kernel_rfl
theorem o327 : okFn Tryz.prog 327 f327 = true := by kernel_rfl
theorem fns_ok : AF.fns.ok Tryz.prog = true := (FT.node_ok o150 (FT.node_ok o79 (FT.node_ok o44 (FT.node_ok o25 s16_ok s36_ok) (FT.node_ok o62 s53_ok s71_ok)) (FT.node_ok o116 (FT.node_ok o99 s88_ok s108_ok) (FT.node_ok o133 s125_ok s142_ok))) (FT.node_ok o247 (FT.node_ok o197 (FT.node_ok o169 s159_ok s188_ok) (FT.node_ok o220 s211_ok s237_ok)) (FT.node_ok o305 (FT.node_ok o268 s259_ok s277_ok) (FT.node_ok o327 s317_ok s354_ok))))
theorem fnsOk : FnsOk Tryz.prog AF.fns.get := FT.get_ok fns_ok
end Go.Proofs.YtabnhgnnolfpgaaGreat
