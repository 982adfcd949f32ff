/-
Each of them stands for its function of the program.
-/
import Derived.Test.YtjoaahnmbonboaaGreatAg
import Derived.Test.YtjoaahnmbonboaaGreatRows
import Derived.KernelRfl
set_option maxRecDepth 1000000
namespace Go.Proofs.YtjoaahnmbonboaaGreat
open Go Go.Eng Go.Eng.AF
theorem s4_ok : s4.ok Tryz.prog = true := by kernel_rfl
theorem s28_ok : s28.ok Tryz.prog = true := by kernel_rfl
theorem s72_ok : s72.ok Tryz.prog = true := by kernel_rfl
theorem s151_ok : s151.ok Tryz.prog = true := by kernel_rfl
theorem o30 : okFn Tryz.prog 30 f30 = true := by kernel_rfl
theorem o6 : okFn Tryz.prog 6 f6 = true := by kernel_rfl
theorem o109 : okFn Tryz.prog 109 f109 = true := by kernel_rfl
theorem gns_ok : AF.gns.ok Tryz.prog = true := (FT.node_ok o30 (FT.node_ok o6 s4_ok s28_ok) (FT.node_ok o109 s72_ok s151_ok))
theorem gnsOk : FnsOk Tryz.prog AF.gns.get := FT.get_ok gns_ok
end Go.Proofs.YtjoaahnmbonboaaGreat
