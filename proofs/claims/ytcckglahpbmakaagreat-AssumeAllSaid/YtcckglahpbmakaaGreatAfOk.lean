/-
Each abstract text stands for its function of the program.
-/
import Derived.Test.YtcckglahpbmakaaGreatAfT
import Derived.Test.YtcckglahpbmakaaGreatRows
import Derived.KernelRfl
set_option maxRecDepth 1000000
namespace Go.Proofs.YtcckglahpbmakaaGreat
open Go Go.Eng Go.Eng.AF
theorem s11_ok : s11.ok Tryz.prog = true := by kernel_rfl
theorem s25_ok : s25.ok Tryz.prog = true := by kernel_rfl
theorem s36_ok : s36.ok Tryz.prog = true := by kernel_rfl
theorem s47_ok : s47.ok Tryz.prog = true := by kernel_rfl
theorem s63_ok : s63.ok Tryz.prog = true := by kernel_rfl
theorem s75_ok : s75.ok Tryz.prog = true := by kernel_rfl
theorem s89_ok : s89.ok Tryz.prog = true := by kernel_rfl
theorem s109_ok : s109.ok Tryz.prog = true := by kernel_rfl
theorem s122_ok : s122.ok Tryz.prog = true := by kernel_rfl
theorem s136_ok : s136.ok Tryz.prog = true := by kernel_rfl
theorem s148_ok : s148.ok Tryz.prog = true := by kernel_rfl
theorem s163_ok : s163.ok Tryz.prog = true := by kernel_rfl
theorem s193_ok : s193.ok Tryz.prog = true := by kernel_rfl
theorem s230_ok : s230.ok Tryz.prog = true := by kernel_rfl
theorem s252_ok : s252.ok Tryz.prog = true := by kernel_rfl
theorem s267_ok : s267.ok Tryz.prog = true := by kernel_rfl
theorem o114 : okFn Tryz.prog 114 f114 = true := by kernel_rfl
theorem o52 : okFn Tryz.prog 52 f52 = true := by kernel_rfl
theorem o30 : okFn Tryz.prog 30 f30 = true := by kernel_rfl
theorem o17 : okFn Tryz.prog 17 f17 = true := by kernel_rfl
theorem o41 : okFn Tryz.prog 41 f41 = true := by kernel_rfl
theorem o80 : okFn Tryz.prog 80 f80 = true := by kernel_rfl
theorem o69 : okFn Tryz.prog 69 f69 = true := by kernel_rfl
theorem o98 : okFn Tryz.prog 98 f98 = true := by kernel_rfl
theorem o187 : okFn Tryz.prog 187 f187 = true := by kernel_rfl
theorem o142 : okFn Tryz.prog 142 f142 = true := by kernel_rfl
theorem o127 : okFn Tryz.prog 127 f127 = true := by kernel_rfl
theorem o156 : okFn Tryz.prog 156 f156 = true := by kernel_rfl
theorem o236 : okFn Tryz.prog 236 f236 = true := by kernel_rfl
theorem o210 : okFn Tryz.prog 210 f210 = true := by kernel_rfl
theorem o257 : okFn Tryz.prog 257 f257 = true := by kernel_rfl
theorem fns_ok : AF.fns.ok Tryz.prog = true := (FT.node_ok o114 (FT.node_ok o52 (FT.node_ok o30 (FT.node_ok o17 s11_ok s25_ok) (FT.node_ok o41 s36_ok s47_ok)) (FT.node_ok o80 (FT.node_ok o69 s63_ok s75_ok) (FT.node_ok o98 s89_ok s109_ok))) (FT.node_ok o187 (FT.node_ok o142 (FT.node_ok o127 s122_ok s136_ok) (FT.node_ok o156 s148_ok s163_ok)) (FT.node_ok o236 (FT.node_ok o210 s193_ok s230_ok) (FT.node_ok o257 s252_ok s267_ok))))
theorem fnsOk : FnsOk Tryz.prog AF.fns.get := FT.get_ok fns_ok
end Go.Proofs.YtcckglahpbmakaaGreat
