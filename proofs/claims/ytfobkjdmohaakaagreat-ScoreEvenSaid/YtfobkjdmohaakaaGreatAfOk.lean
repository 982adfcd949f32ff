/-
Each abstract text stands for its function of the program.
-/
import Derived.Test.YtfobkjdmohaakaaGreatAfT
import Derived.Test.YtfobkjdmohaakaaGreatRows
import Derived.KernelRfl
set_option maxRecDepth 1000000
namespace Go.Proofs.YtfobkjdmohaakaaGreat
open Go Go.Eng Go.Eng.AF
theorem s12_ok : s12.ok Tryz.prog = true := by kernel_rfl
theorem s30_ok : s30.ok Tryz.prog = true := by kernel_rfl
theorem s48_ok : s48.ok Tryz.prog = true := by kernel_rfl
theorem s66_ok : s66.ok Tryz.prog = true := by kernel_rfl
theorem s85_ok : s85.ok Tryz.prog = true := by kernel_rfl
theorem s103_ok : s103.ok Tryz.prog = true := by kernel_rfl
theorem s121_ok : s121.ok Tryz.prog = true := by kernel_rfl
theorem s140_ok : s140.ok Tryz.prog = true := by kernel_rfl
theorem s161_ok : s161.ok Tryz.prog = true := by kernel_rfl
theorem s179_ok : s179.ok Tryz.prog = true := by kernel_rfl
theorem s199_ok : s199.ok Tryz.prog = true := by kernel_rfl
theorem s217_ok : s217.ok Tryz.prog = true := by kernel_rfl
theorem s247_ok : s247.ok Tryz.prog = true := by kernel_rfl
theorem s281_ok : s281.ok Tryz.prog = true := by kernel_rfl
theorem s304_ok : s304.ok Tryz.prog = true := by kernel_rfl
theorem s364_ok : s364.ok Tryz.prog = true := by kernel_rfl
theorem o149 : okFn Tryz.prog 149 f149 = true := by kernel_rfl
theorem o75 : okFn Tryz.prog 75 f75 = true := by kernel_rfl
theorem o39 : okFn Tryz.prog 39 f39 = true := by kernel_rfl
theorem o21 : okFn Tryz.prog 21 f21 = true := by kernel_rfl
theorem o57 : okFn Tryz.prog 57 f57 = true := by kernel_rfl
theorem o112 : okFn Tryz.prog 112 f112 = true := by kernel_rfl
theorem o94 : okFn Tryz.prog 94 f94 = true := by kernel_rfl
theorem o131 : okFn Tryz.prog 131 f131 = true := by kernel_rfl
theorem o234 : okFn Tryz.prog 234 f234 = true := by kernel_rfl
theorem o190 : okFn Tryz.prog 190 f190 = true := by kernel_rfl
theorem o170 : okFn Tryz.prog 170 f170 = true := by kernel_rfl
theorem o208 : okFn Tryz.prog 208 f208 = true := by kernel_rfl
theorem o295 : okFn Tryz.prog 295 f295 = true := by kernel_rfl
theorem o262 : okFn Tryz.prog 262 f262 = true := by kernel_rfl
theorem o339 : okFn Tryz.prog 339 f339 = true := by kernel_rfl
theorem fns_ok : AF.fns.ok Tryz.prog = true := (FT.node_ok o149 (FT.node_ok o75 (FT.node_ok o39 (FT.node_ok o21 s12_ok s30_ok) (FT.node_ok o57 s48_ok s66_ok)) (FT.node_ok o112 (FT.node_ok o94 s85_ok s103_ok) (FT.node_ok o131 s121_ok s140_ok))) (FT.node_ok o234 (FT.node_ok o190 (FT.node_ok o170 s161_ok s179_ok) (FT.node_ok o208 s199_ok s217_ok)) (FT.node_ok o295 (FT.node_ok o262 s247_ok s281_ok) (FT.node_ok o339 s304_ok s364_ok))))
theorem fnsOk : FnsOk Tryz.prog AF.fns.get := FT.get_ok fns_ok
end Go.Proofs.YtfobkjdmohaakaaGreat
