/-
Each of them stands for its function of the program.
-/
import Derived.Test.YtjoaahnmbonboaaGreatAo
import Derived.Test.YtjoaahnmbonboaaGreatRows
import Derived.KernelRfl
set_option maxRecDepth 1000000
namespace Go.Proofs.YtjoaahnmbonboaaGreat.AO
open Go Go.Eng Go.Eng.AO
theorem s32_ok : s32.ok Tryz.prog = true := by kernel_rfl
theorem s35_ok : s35.ok Tryz.prog = true := by kernel_rfl
theorem s77_ok : s77.ok Tryz.prog = true := by kernel_rfl
theorem s113_ok : s113.ok Tryz.prog = true := by kernel_rfl
theorem o36 : okFn Tryz.prog 36 f36 = true := by kernel_rfl
theorem o33 : okFn Tryz.prog 33 f33 = true := by kernel_rfl
theorem o106 : okFn Tryz.prog 106 f106 = true := by kernel_rfl
theorem fns_ok : AO.fns.ok Tryz.prog = true := (FT.node_ok o36 (FT.node_ok o33 s32_ok s35_ok) (FT.node_ok o106 s77_ok s113_ok))
theorem fnsOk : FnsOk Tryz.prog AO.fns.get := FT.get_ok fns_ok
end Go.Proofs.YtjoaahnmbonboaaGreat.AO
