/-
Each abstract text stands for its function of the program.
-/
import Derived.Test.YtngohnnpkdalnaaGreatAfT
import Derived.Test.YtngohnnpkdalnaaGreatRows
import Derived.KernelRfl
set_option maxRecDepth 1000000
namespace Go.Proofs.YtngohnnpkdalnaaGreat
open Go Go.Eng Go.Eng.AF
theorem s10_ok : s10.ok Tryz.prog = true := by kernel_rfl
theorem s26_ok : s26.ok Tryz.prog = true := by kernel_rfl
theorem s42_ok : s42.ok Tryz.prog = true := by kernel_rfl
theorem s58_ok : s58.ok Tryz.prog = true := by kernel_rfl
theorem s73_ok : s73.ok Tryz.prog = true := by kernel_rfl
theorem s91_ok : s91.ok Tryz.prog = true := by kernel_rfl
theorem s106_ok : s106.ok Tryz.prog = true := by kernel_rfl
theorem s122_ok : s122.ok Tryz.prog = true := by kernel_rfl
theorem s147_ok : s147.ok Tryz.prog = true := by kernel_rfl
theorem s170_ok : s170.ok Tryz.prog = true := by kernel_rfl
theorem s186_ok : s186.ok Tryz.prog = true := by kernel_rfl
theorem s212_ok : s212.ok Tryz.prog = true := by kernel_rfl
theorem s230_ok : s230.ok Tryz.prog = true := by kernel_rfl
theorem s246_ok : s246.ok Tryz.prog = true := by kernel_rfl
theorem s284_ok : s284.ok Tryz.prog = true := by kernel_rfl
theorem s320_ok : s320.ok Tryz.prog = true := by kernel_rfl
theorem o129 : okFn Tryz.prog 129 f129 = true := by kernel_rfl
theorem o65 : okFn Tryz.prog 65 f65 = true := by kernel_rfl
theorem o34 : okFn Tryz.prog 34 f34 = true := by kernel_rfl
theorem o18 : okFn Tryz.prog 18 f18 = true := by kernel_rfl
theorem o50 : okFn Tryz.prog 50 f50 = true := by kernel_rfl
theorem o98 : okFn Tryz.prog 98 f98 = true := by kernel_rfl
theorem o81 : okFn Tryz.prog 81 f81 = true := by kernel_rfl
theorem o114 : okFn Tryz.prog 114 f114 = true := by kernel_rfl
theorem o222 : okFn Tryz.prog 222 f222 = true := by kernel_rfl
theorem o178 : okFn Tryz.prog 178 f178 = true := by kernel_rfl
theorem o159 : okFn Tryz.prog 159 f159 = true := by kernel_rfl
theorem o202 : okFn Tryz.prog 202 f202 = true := by kernel_rfl
theorem o274 : okFn Tryz.prog 274 f274 = true := by kernel_rfl
theorem o238 : okFn Tryz.prog 238 f238 = true := by kernel_rfl
theorem o294 : okFn Tryz.prog 294 f294 = true := by kernel_rfl
theorem fns_ok : AF.fns.ok Tryz.prog = true := (FT.node_ok o129 (FT.node_ok o65 (FT.node_ok o34 (FT.node_ok o18 s10_ok s26_ok) (FT.node_ok o50 s42_ok s58_ok)) (FT.node_ok o98 (FT.node_ok o81 s73_ok s91_ok) (FT.node_ok o114 s106_ok s122_ok))) (FT.node_ok o222 (FT.node_ok o178 (FT.node_ok o159 s147_ok s170_ok) (FT.node_ok o202 s186_ok s212_ok)) (FT.node_ok o274 (FT.node_ok o238 s230_ok s246_ok) (FT.node_ok o294 s284_ok s320_ok))))
theorem fnsOk : FnsOk Tryz.prog AF.fns.get := FT.get_ok fns_ok
end Go.Proofs.YtngohnnpkdalnaaGreat
