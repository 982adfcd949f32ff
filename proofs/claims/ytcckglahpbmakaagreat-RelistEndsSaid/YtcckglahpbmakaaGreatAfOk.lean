/-
Each abstract text stands for its function of the program.
-/
import Derived.Test.YtcckglahpbmakaaGreatAfT
import Derived.Test.YtcckglahpbmakaaGreatRows
import Derived.KernelRfl
set_option maxRecDepth 1000000
namespace Go.Proofs.YtcckglahpbmakaaGreat
open Go Go.Eng Go.Eng.AF
theorem s11_ok : s11.ok Tryz.prog = true := by kernel_rfl
theorem s22_ok : s22.ok Tryz.prog = true := by kernel_rfl
theorem s38_ok : s38.ok Tryz.prog = true := by kernel_rfl
theorem s49_ok : s49.ok Tryz.prog = true := by kernel_rfl
theorem s62_ok : s62.ok Tryz.prog = true := by kernel_rfl
theorem s73_ok : s73.ok Tryz.prog = true := by kernel_rfl
theorem s92_ok : s92.ok Tryz.prog = true := by kernel_rfl
theorem s108_ok : s108.ok Tryz.prog = true := by kernel_rfl
theorem s119_ok : s119.ok Tryz.prog = true := by kernel_rfl
theorem s132_ok : s132.ok Tryz.prog = true := by kernel_rfl
theorem s147_ok : s147.ok Tryz.prog = true := by kernel_rfl
theorem s162_ok : s162.ok Tryz.prog = true := by kernel_rfl
theorem s192_ok : s192.ok Tryz.prog = true := by kernel_rfl
theorem s229_ok : s229.ok Tryz.prog = true := by kernel_rfl
theorem s251_ok : s251.ok Tryz.prog = true := by kernel_rfl
theorem s267_ok : s267.ok Tryz.prog = true := by kernel_rfl
theorem o113 : okFn Tryz.prog 113 f113 = true := by kernel_rfl
theorem o55 : okFn Tryz.prog 55 f55 = true := by kernel_rfl
theorem o28 : okFn Tryz.prog 28 f28 = true := by kernel_rfl
theorem o16 : okFn Tryz.prog 16 f16 = true := by kernel_rfl
theorem o43 : okFn Tryz.prog 43 f43 = true := by kernel_rfl
theorem o81 : okFn Tryz.prog 81 f81 = true := by kernel_rfl
theorem o67 : okFn Tryz.prog 67 f67 = true := by kernel_rfl
theorem o99 : okFn Tryz.prog 99 f99 = true := by kernel_rfl
theorem o179 : okFn Tryz.prog 179 f179 = true := by kernel_rfl
theorem o141 : okFn Tryz.prog 141 f141 = true := by kernel_rfl
theorem o126 : okFn Tryz.prog 126 f126 = true := by kernel_rfl
theorem o155 : okFn Tryz.prog 155 f155 = true := by kernel_rfl
theorem o235 : okFn Tryz.prog 235 f235 = true := by kernel_rfl
theorem o209 : okFn Tryz.prog 209 f209 = true := by kernel_rfl
theorem o256 : okFn Tryz.prog 256 f256 = true := by kernel_rfl
theorem fns_ok : AF.fns.ok Tryz.prog = true := (FT.node_ok o113 (FT.node_ok o55 (FT.node_ok o28 (FT.node_ok o16 s11_ok s22_ok) (FT.node_ok o43 s38_ok s49_ok)) (FT.node_ok o81 (FT.node_ok o67 s62_ok s73_ok) (FT.node_ok o99 s92_ok s108_ok))) (FT.node_ok o179 (FT.node_ok o141 (FT.node_ok o126 s119_ok s132_ok) (FT.node_ok o155 s147_ok s162_ok)) (FT.node_ok o235 (FT.node_ok o209 s192_ok s229_ok) (FT.node_ok o256 s251_ok s267_ok))))
theorem fnsOk : FnsOk Tryz.prog AF.fns.get := FT.get_ok fns_ok
end Go.Proofs.YtcckglahpbmakaaGreat
