/-
Each abstract text stands for its function of the program.
-/
import Derived.Test.YtomcdckppplieaaGreatAfT
import Derived.Test.YtomcdckppplieaaGreatRows
import Derived.KernelRfl
set_option maxRecDepth 1000000
namespace Go.Proofs.YtomcdckppplieaaGreat
open Go Go.Eng Go.Eng.AF
theorem s12_ok : s12.ok Tryz.prog = true := by kernel_rfl
theorem s23_ok : s23.ok Tryz.prog = true := by kernel_rfl
theorem s34_ok : s34.ok Tryz.prog = true := by kernel_rfl
theorem s45_ok : s45.ok Tryz.prog = true := by kernel_rfl
theorem s57_ok : s57.ok Tryz.prog = true := by kernel_rfl
theorem s71_ok : s71.ok Tryz.prog = true := by kernel_rfl
theorem s86_ok : s86.ok Tryz.prog = true := by kernel_rfl
theorem s97_ok : s97.ok Tryz.prog = true := by kernel_rfl
theorem s112_ok : s112.ok Tryz.prog = true := by kernel_rfl
theorem s123_ok : s123.ok Tryz.prog = true := by kernel_rfl
theorem s138_ok : s138.ok Tryz.prog = true := by kernel_rfl
theorem s165_ok : s165.ok Tryz.prog = true := by kernel_rfl
theorem s177_ok : s177.ok Tryz.prog = true := by kernel_rfl
theorem s205_ok : s205.ok Tryz.prog = true := by kernel_rfl
theorem s226_ok : s226.ok Tryz.prog = true := by kernel_rfl
theorem s242_ok : s242.ok Tryz.prog = true := by kernel_rfl
theorem o102 : okFn Tryz.prog 102 f102 = true := by kernel_rfl
theorem o51 : okFn Tryz.prog 51 f51 = true := by kernel_rfl
theorem o28 : okFn Tryz.prog 28 f28 = true := by kernel_rfl
theorem o17 : okFn Tryz.prog 17 f17 = true := by kernel_rfl
theorem o39 : okFn Tryz.prog 39 f39 = true := by kernel_rfl
theorem o80 : okFn Tryz.prog 80 f80 = true := by kernel_rfl
theorem o62 : okFn Tryz.prog 62 f62 = true := by kernel_rfl
theorem o92 : okFn Tryz.prog 92 f92 = true := by kernel_rfl
theorem o170 : okFn Tryz.prog 170 f170 = true := by kernel_rfl
theorem o128 : okFn Tryz.prog 128 f128 = true := by kernel_rfl
theorem o117 : okFn Tryz.prog 117 f117 = true := by kernel_rfl
theorem o159 : okFn Tryz.prog 159 f159 = true := by kernel_rfl
theorem o211 : okFn Tryz.prog 211 f211 = true := by kernel_rfl
theorem o193 : okFn Tryz.prog 193 f193 = true := by kernel_rfl
theorem o231 : okFn Tryz.prog 231 f231 = true := by kernel_rfl
theorem fns_ok : AF.fns.ok Tryz.prog = true := (FT.node_ok o102 (FT.node_ok o51 (FT.node_ok o28 (FT.node_ok o17 s12_ok s23_ok) (FT.node_ok o39 s34_ok s45_ok)) (FT.node_ok o80 (FT.node_ok o62 s57_ok s71_ok) (FT.node_ok o92 s86_ok s97_ok))) (FT.node_ok o170 (FT.node_ok o128 (FT.node_ok o117 s112_ok s123_ok) (FT.node_ok o159 s138_ok s165_ok)) (FT.node_ok o211 (FT.node_ok o193 s177_ok s205_ok) (FT.node_ok o231 s226_ok s242_ok))))
theorem fnsOk : FnsOk Tryz.prog AF.fns.get := FT.get_ok fns_ok
end Go.Proofs.YtomcdckppplieaaGreat
