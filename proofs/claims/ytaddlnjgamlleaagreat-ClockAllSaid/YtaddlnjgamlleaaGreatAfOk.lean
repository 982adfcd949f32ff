/-
Each abstract text stands for its function of the program.
-/
import Derived.Test.YtaddlnjgamlleaaGreatAfT
import Derived.Test.YtaddlnjgamlleaaGreatRows
import Derived.KernelRfl
set_option maxRecDepth 1000000
namespace Go.Proofs.YtaddlnjgamlleaaGreat
open Go Go.Eng Go.Eng.AF
theorem s23_ok : s23.ok Tryz.prog = true := by kernel_rfl
theorem s61_ok : s61.ok Tryz.prog = true := by kernel_rfl
theorem s92_ok : s92.ok Tryz.prog = true := by kernel_rfl
theorem s123_ok : s123.ok Tryz.prog = true := by kernel_rfl
theorem s154_ok : s154.ok Tryz.prog = true := by kernel_rfl
theorem s186_ok : s186.ok Tryz.prog = true := by kernel_rfl
theorem s226_ok : s226.ok Tryz.prog = true := by kernel_rfl
theorem s264_ok : s264.ok Tryz.prog = true := by kernel_rfl
theorem o137 : okFn Tryz.prog 137 f137 = true := by kernel_rfl
theorem o76 : okFn Tryz.prog 76 f76 = true := by kernel_rfl
theorem o38 : okFn Tryz.prog 38 f38 = true := by kernel_rfl
theorem o108 : okFn Tryz.prog 108 f108 = true := by kernel_rfl
theorem o200 : okFn Tryz.prog 200 f200 = true := by kernel_rfl
theorem o169 : okFn Tryz.prog 169 f169 = true := by kernel_rfl
theorem o241 : okFn Tryz.prog 241 f241 = true := by kernel_rfl
theorem fns_ok : AF.fns.ok Tryz.prog = true := (FT.node_ok o137 (FT.node_ok o76 (FT.node_ok o38 s23_ok s61_ok) (FT.node_ok o108 s92_ok s123_ok)) (FT.node_ok o200 (FT.node_ok o169 s154_ok s186_ok) (FT.node_ok o241 s226_ok s264_ok)))
theorem fnsOk : FnsOk Tryz.prog AF.fns.get := FT.get_ok fns_ok
end Go.Proofs.YtaddlnjgamlleaaGreat
