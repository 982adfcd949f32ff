/-
Each abstract text stands for its function of the program.
-/
import Derived.Test.YtcmknonnlnobnaaGreatAfT
import Derived.Test.YtcmknonnlnobnaaGreatRows
import Derived.KernelRfl
set_option maxRecDepth 1000000
namespace Go.Proofs.YtcmknonnlnobnaaGreat
open Go Go.Eng Go.Eng.AF
theorem s13_ok : s13.ok Tryz.prog = true := by kernel_rfl
theorem s36_ok : s36.ok Tryz.prog = true := by kernel_rfl
theorem s53_ok : s53.ok Tryz.prog = true := by kernel_rfl
theorem s72_ok : s72.ok Tryz.prog = true := by kernel_rfl
theorem s99_ok : s99.ok Tryz.prog = true := by kernel_rfl
theorem s116_ok : s116.ok Tryz.prog = true := by kernel_rfl
theorem s134_ok : s134.ok Tryz.prog = true := by kernel_rfl
theorem s156_ok : s156.ok Tryz.prog = true := by kernel_rfl
theorem s186_ok : s186.ok Tryz.prog = true := by kernel_rfl
theorem s203_ok : s203.ok Tryz.prog = true := by kernel_rfl
theorem s220_ok : s220.ok Tryz.prog = true := by kernel_rfl
theorem s252_ok : s252.ok Tryz.prog = true := by kernel_rfl
theorem s291_ok : s291.ok Tryz.prog = true := by kernel_rfl
theorem s319_ok : s319.ok Tryz.prog = true := by kernel_rfl
theorem s353_ok : s353.ok Tryz.prog = true := by kernel_rfl
theorem s382_ok : s382.ok Tryz.prog = true := by kernel_rfl
theorem o171 : okFn Tryz.prog 171 f171 = true := by kernel_rfl
theorem o84 : okFn Tryz.prog 84 f84 = true := by kernel_rfl
theorem o44 : okFn Tryz.prog 44 f44 = true := by kernel_rfl
theorem o25 : okFn Tryz.prog 25 f25 = true := by kernel_rfl
theorem o62 : okFn Tryz.prog 62 f62 = true := by kernel_rfl
theorem o124 : okFn Tryz.prog 124 f124 = true := by kernel_rfl
theorem o107 : okFn Tryz.prog 107 f107 = true := by kernel_rfl
theorem o146 : okFn Tryz.prog 146 f146 = true := by kernel_rfl
theorem o277 : okFn Tryz.prog 277 f277 = true := by kernel_rfl
theorem o211 : okFn Tryz.prog 211 f211 = true := by kernel_rfl
theorem o194 : okFn Tryz.prog 194 f194 = true := by kernel_rfl
theorem o238 : okFn Tryz.prog 238 f238 = true := by kernel_rfl
theorem o341 : okFn Tryz.prog 341 f341 = true := by kernel_rfl
theorem o301 : okFn Tryz.prog 301 f301 = true := by kernel_rfl
theorem o369 : okFn Tryz.prog 369 f369 = true := by kernel_rfl
theorem fns_ok : AF.fns.ok Tryz.prog = true := (FT.node_ok o171 (FT.node_ok o84 (FT.node_ok o44 (FT.node_ok o25 s13_ok s36_ok) (FT.node_ok o62 s53_ok s72_ok)) (FT.node_ok o124 (FT.node_ok o107 s99_ok s116_ok) (FT.node_ok o146 s134_ok s156_ok))) (FT.node_ok o277 (FT.node_ok o211 (FT.node_ok o194 s186_ok s203_ok) (FT.node_ok o238 s220_ok s252_ok)) (FT.node_ok o341 (FT.node_ok o301 s291_ok s319_ok) (FT.node_ok o369 s353_ok s382_ok))))
theorem fnsOk : FnsOk Tryz.prog AF.fns.get := FT.get_ok fns_ok
end Go.Proofs.YtcmknonnlnobnaaGreat
