/-
Each abstract text stands for its function of the program.
-/
import Derived.Test.YtllgfkpmblhbmaaGreatAfT
import Derived.Test.YtllgfkpmblhbmaaGreatRows
import Derived.KernelRfl
set_option maxRecDepth 1000000
namespace Go.Proofs.YtllgfkpmblhbmaaGreat
open Go Go.Eng Go.Eng.AF
theorem s22_ok : s22.ok Tryz.prog = true := by kernel_rfl
theorem s41_ok : s41.ok Tryz.prog = true := by kernel_rfl
theorem s64_ok : s64.ok Tryz.prog = true := by kernel_rfl
theorem s79_ok : s79.ok Tryz.prog = true := by kernel_rfl
theorem s106_ok : s106.ok Tryz.prog = true := by kernel_rfl
theorem s123_ok : s123.ok Tryz.prog = true := by kernel_rfl
theorem s139_ok : s139.ok Tryz.prog = true := by kernel_rfl
theorem s154_ok : s154.ok Tryz.prog = true := by kernel_rfl
theorem s188_ok : s188.ok Tryz.prog = true := by kernel_rfl
theorem s209_ok : s209.ok Tryz.prog = true := by kernel_rfl
theorem s227_ok : s227.ok Tryz.prog = true := by kernel_rfl
theorem s254_ok : s254.ok Tryz.prog = true := by kernel_rfl
theorem s272_ok : s272.ok Tryz.prog = true := by kernel_rfl
theorem s307_ok : s307.ok Tryz.prog = true := by kernel_rfl
theorem s326_ok : s326.ok Tryz.prog = true := by kernel_rfl
theorem s359_ok : s359.ok Tryz.prog = true := by kernel_rfl
theorem o161 : okFn Tryz.prog 161 f161 = true := by kernel_rfl
theorem o86 : okFn Tryz.prog 86 f86 = true := by kernel_rfl
theorem o49 : okFn Tryz.prog 49 f49 = true := by kernel_rfl
theorem o29 : okFn Tryz.prog 29 f29 = true := by kernel_rfl
theorem o71 : okFn Tryz.prog 71 f71 = true := by kernel_rfl
theorem o131 : okFn Tryz.prog 131 f131 = true := by kernel_rfl
theorem o115 : okFn Tryz.prog 115 f115 = true := by kernel_rfl
theorem o146 : okFn Tryz.prog 146 f146 = true := by kernel_rfl
theorem o264 : okFn Tryz.prog 264 f264 = true := by kernel_rfl
theorem o219 : okFn Tryz.prog 219 f219 = true := by kernel_rfl
theorem o196 : okFn Tryz.prog 196 f196 = true := by kernel_rfl
theorem o246 : okFn Tryz.prog 246 f246 = true := by kernel_rfl
theorem o317 : okFn Tryz.prog 317 f317 = true := by kernel_rfl
theorem o279 : okFn Tryz.prog 279 f279 = true := by kernel_rfl
theorem o342 : okFn Tryz.prog 342 f342 = true := by kernel_rfl
theorem fns_ok : AF.fns.ok Tryz.prog = true := (FT.node_ok o161 (FT.node_ok o86 (FT.node_ok o49 (FT.node_ok o29 s22_ok s41_ok) (FT.node_ok o71 s64_ok s79_ok)) (FT.node_ok o131 (FT.node_ok o115 s106_ok s123_ok) (FT.node_ok o146 s139_ok s154_ok))) (FT.node_ok o264 (FT.node_ok o219 (FT.node_ok o196 s188_ok s209_ok) (FT.node_ok o246 s227_ok s254_ok)) (FT.node_ok o317 (FT.node_ok o279 s272_ok s307_ok) (FT.node_ok o342 s326_ok s359_ok))))
theorem fnsOk : FnsOk Tryz.prog AF.fns.get := FT.get_ok fns_ok
end Go.Proofs.YtllgfkpmblhbmaaGreat
