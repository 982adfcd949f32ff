/-
Each abstract text stands for its function of the program.
-/
import Derived.Test.YtcckglahpbmakaaGreatAfT
import Derived.Test.YtcckglahpbmakaaGreatRows
import Derived.KernelRfl
set_option maxRecDepth 1000000
namespace Go.Proofs.YtcckglahpbmakaaGreat
open Go Go.Eng Go.Eng.AF
theorem s11_ok : s11.ok Tryz.prog = true := by kernel_rfl
theorem s25_ok : s25.ok Tryz.prog = true := by kernel_rfl
theorem s37_ok : s37.ok Tryz.prog = true := by kernel_rfl
theorem s48_ok : s48.ok Tryz.prog = true := by kernel_rfl
theorem s65_ok : s65.ok Tryz.prog = true := by kernel_rfl
theorem s76_ok : s76.ok Tryz.prog = true := by kernel_rfl
theorem s92_ok : s92.ok Tryz.prog = true := by kernel_rfl
theorem s110_ok : s110.ok Tryz.prog = true := by kernel_rfl
theorem s123_ok : s123.ok Tryz.prog = true := by kernel_rfl
theorem s137_ok : s137.ok Tryz.prog = true := by kernel_rfl
theorem s149_ok : s149.ok Tryz.prog = true := by kernel_rfl
theorem s163_ok : s163.ok Tryz.prog = true := by kernel_rfl
theorem s193_ok : s193.ok Tryz.prog = true := by kernel_rfl
theorem s230_ok : s230.ok Tryz.prog = true := by kernel_rfl
theorem s252_ok : s252.ok Tryz.prog = true := by kernel_rfl
theorem s267_ok : s267.ok Tryz.prog = true := by kernel_rfl
theorem o115 : okFn Tryz.prog 115 f115 = true := by kernel_rfl
theorem o54 : okFn Tryz.prog 54 f54 = true := by kernel_rfl
theorem o30 : okFn Tryz.prog 30 f30 = true := by kernel_rfl
theorem o17 : okFn Tryz.prog 17 f17 = true := by kernel_rfl
theorem o42 : okFn Tryz.prog 42 f42 = true := by kernel_rfl
theorem o81 : okFn Tryz.prog 81 f81 = true := by kernel_rfl
theorem o70 : okFn Tryz.prog 70 f70 = true := by kernel_rfl
theorem o99 : okFn Tryz.prog 99 f99 = true := by kernel_rfl
theorem o187 : okFn Tryz.prog 187 f187 = true := by kernel_rfl
theorem o143 : okFn Tryz.prog 143 f143 = true := by kernel_rfl
theorem o128 : okFn Tryz.prog 128 f128 = true := by kernel_rfl
theorem o157 : okFn Tryz.prog 157 f157 = true := by kernel_rfl
theorem o236 : okFn Tryz.prog 236 f236 = true := by kernel_rfl
theorem o210 : okFn Tryz.prog 210 f210 = true := by kernel_rfl
theorem o257 : okFn Tryz.prog 257 f257 = true := by kernel_rfl
theorem fns_ok : AF.fns.ok Tryz.prog = true := (FT.node_ok o115 (FT.node_ok o54 (FT.node_ok o30 (FT.node_ok o17 s11_ok s25_ok) (FT.node_ok o42 s37_ok s48_ok)) (FT.node_ok o81 (FT.node_ok o70 s65_ok s76_ok) (FT.node_ok o99 s92_ok s110_ok))) (FT.node_ok o187 (FT.node_ok o143 (FT.node_ok o128 s123_ok s137_ok) (FT.node_ok o157 s149_ok s163_ok)) (FT.node_ok o236 (FT.node_ok o210 s193_ok s230_ok) (FT.node_ok o257 s252_ok s267_ok))))
theorem fnsOk : FnsOk Tryz.prog AF.fns.get := FT.get_ok fns_ok
end Go.Proofs.YtcckglahpbmakaaGreat
