/-
Each abstract text stands for its function of the program.
-/
import Derived.Test.YthhlbhmneabhiaaGreatAfT
import Derived.Test.YthhlbhmneabhiaaGreatRows
import Derived.KernelRfl
set_option maxRecDepth 1000000
namespace Go.Proofs.YthhlbhmneabhiaaGreat
open Go Go.Eng Go.Eng.AF
theorem s9_ok : s9.ok Tryz.prog = true := by kernel_rfl
theorem s21_ok : s21.ok Tryz.prog = true := by kernel_rfl
theorem s35_ok : s35.ok Tryz.prog = true := by kernel_rfl
theorem s47_ok : s47.ok Tryz.prog = true := by kernel_rfl
theorem s60_ok : s60.ok Tryz.prog = true := by kernel_rfl
theorem s76_ok : s76.ok Tryz.prog = true := by kernel_rfl
theorem s88_ok : s88.ok Tryz.prog = true := by kernel_rfl
theorem s105_ok : s105.ok Tryz.prog = true := by kernel_rfl
theorem s122_ok : s122.ok Tryz.prog = true := by kernel_rfl
theorem s136_ok : s136.ok Tryz.prog = true := by kernel_rfl
theorem s149_ok : s149.ok Tryz.prog = true := by kernel_rfl
theorem s164_ok : s164.ok Tryz.prog = true := by kernel_rfl
theorem s194_ok : s194.ok Tryz.prog = true := by kernel_rfl
theorem s218_ok : s218.ok Tryz.prog = true := by kernel_rfl
theorem s249_ok : s249.ok Tryz.prog = true := by kernel_rfl
theorem s272_ok : s272.ok Tryz.prog = true := by kernel_rfl
theorem o115 : okFn Tryz.prog 115 f115 = true := by kernel_rfl
theorem o53 : okFn Tryz.prog 53 f53 = true := by kernel_rfl
theorem o28 : okFn Tryz.prog 28 f28 = true := by kernel_rfl
theorem o15 : okFn Tryz.prog 15 f15 = true := by kernel_rfl
theorem o41 : okFn Tryz.prog 41 f41 = true := by kernel_rfl
theorem o82 : okFn Tryz.prog 82 f82 = true := by kernel_rfl
theorem o68 : okFn Tryz.prog 68 f68 = true := by kernel_rfl
theorem o96 : okFn Tryz.prog 96 f96 = true := by kernel_rfl
theorem o171 : okFn Tryz.prog 171 f171 = true := by kernel_rfl
theorem o142 : okFn Tryz.prog 142 f142 = true := by kernel_rfl
theorem o130 : okFn Tryz.prog 130 f130 = true := by kernel_rfl
theorem o157 : okFn Tryz.prog 157 f157 = true := by kernel_rfl
theorem o239 : okFn Tryz.prog 239 f239 = true := by kernel_rfl
theorem o201 : okFn Tryz.prog 201 f201 = true := by kernel_rfl
theorem o261 : okFn Tryz.prog 261 f261 = true := by kernel_rfl
theorem fns_ok : AF.fns.ok Tryz.prog = true := (FT.node_ok o115 (FT.node_ok o53 (FT.node_ok o28 (FT.node_ok o15 s9_ok s21_ok) (FT.node_ok o41 s35_ok s47_ok)) (FT.node_ok o82 (FT.node_ok o68 s60_ok s76_ok) (FT.node_ok o96 s88_ok s105_ok))) (FT.node_ok o171 (FT.node_ok o142 (FT.node_ok o130 s122_ok s136_ok) (FT.node_ok o157 s149_ok s164_ok)) (FT.node_ok o239 (FT.node_ok o201 s194_ok s218_ok) (FT.node_ok o261 s249_ok s272_ok))))
theorem fnsOk : FnsOk Tryz.prog AF.fns.get := FT.get_ok fns_ok
end Go.Proofs.YthhlbhmneabhiaaGreat
