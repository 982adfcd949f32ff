/-
Each abstract text stands for its function of the program.
-/
import Derived.Test.YtabnhgnnolfpgaaGreatAfT
import Derived.Test.YtabnhgnnolfpgaaGreatRows
import Derived.KernelRfl
set_option maxRecDepth 1000000
namespace Go.Proofs.YtabnhgnnolfpgaaGreat
open Go Go.Eng Go.Eng.AF
theorem s11_ok : s11.ok Tryz.prog = true := by kernel_rfl
theorem s29_ok : s29.ok Tryz.prog = true := by kernel_rfl
theorem s47_ok : s47.ok Tryz.prog = true := by kernel_rfl
theorem s65_ok : s65.ok Tryz.prog = true := by kernel_rfl
theorem s83_ok : s83.ok Tryz.prog = true := by kernel_rfl
theorem s103_ok : s103.ok Tryz.prog = true := by kernel_rfl
theorem s121_ok : s121.ok Tryz.prog = true := by kernel_rfl
theorem s139_ok : s139.ok Tryz.prog = true := by kernel_rfl
theorem s156_ok : s156.ok Tryz.prog = true := by kernel_rfl
theorem s184_ok : s184.ok Tryz.prog = true := by kernel_rfl
theorem s208_ok : s208.ok Tryz.prog = true := by kernel_rfl
theorem s234_ok : s234.ok Tryz.prog = true := by kernel_rfl
theorem s254_ok : s254.ok Tryz.prog = true := by kernel_rfl
theorem s275_ok : s275.ok Tryz.prog = true := by kernel_rfl
theorem s316_ok : s316.ok Tryz.prog = true := by kernel_rfl
theorem s354_ok : s354.ok Tryz.prog = true := by kernel_rfl
theorem o147 : okFn Tryz.prog 147 f147 = true := by kernel_rfl
theorem o74 : okFn Tryz.prog 74 f74 = true := by kernel_rfl
theorem o38 : okFn Tryz.prog 38 f38 = true := by kernel_rfl
theorem o20 : okFn Tryz.prog 20 f20 = true := by kernel_rfl
theorem o56 : okFn Tryz.prog 56 f56 = true := by kernel_rfl
theorem o112 : okFn Tryz.prog 112 f112 = true := by kernel_rfl
theorem o92 : okFn Tryz.prog 92 f92 = true := by kernel_rfl
theorem o130 : okFn Tryz.prog 130 f130 = true := by kernel_rfl
theorem o245 : okFn Tryz.prog 245 f245 = true := by kernel_rfl
theorem o194 : okFn Tryz.prog 194 f194 = true := by kernel_rfl
theorem o165 : okFn Tryz.prog 165 f165 = true := by kernel_rfl
theorem o218 : okFn Tryz.prog 218 f218 = true := by kernel_rfl
theorem o304 : okFn Tryz.prog 304 f304 = true := by kernel_rfl
theorem o266 : okFn Tryz.prog 266 f266 = true := by kernel_rfl
theorem o327 : okFn Tryz.prog 327 f327 = true := by kernel_rfl
theorem fns_ok : AF.fns.ok Tryz.prog = true := (FT.node_ok o147 (FT.node_ok o74 (FT.node_ok o38 (FT.node_ok o20 s11_ok s29_ok) (FT.node_ok o56 s47_ok s65_ok)) (FT.node_ok o112 (FT.node_ok o92 s83_ok s103_ok) (FT.node_ok o130 s121_ok s139_ok))) (FT.node_ok o245 (FT.node_ok o194 (FT.node_ok o165 s156_ok s184_ok) (FT.node_ok o218 s208_ok s234_ok)) (FT.node_ok o304 (FT.node_ok o266 s254_ok s275_ok) (FT.node_ok o327 s316_ok s354_ok))))
theorem fnsOk : FnsOk Tryz.prog AF.fns.get := FT.get_ok fns_ok
end Go.Proofs.YtabnhgnnolfpgaaGreat
