/-
Each abstract text stands for its function of the program.
-/
import Derived.Test.YtllgfkpmblhbmaaGreatAfT
import Derived.Test.YtllgfkpmblhbmaaGreatRows
import Derived.KernelRfl
set_option maxRecDepth 1000000
namespace Go.Proofs.YtllgfkpmblhbmaaGreat
open Go Go.Eng Go.Eng.AF
theorem s19_ok : s19.ok Tryz.prog = true := by kernel_rfl
theorem s37_ok : s37.ok Tryz.prog = true := by kernel_rfl
theorem s57_ok : s57.ok Tryz.prog = true := by kernel_rfl
theorem s74_ok : s74.ok Tryz.prog = true := by kernel_rfl
theorem s91_ok : s91.ok Tryz.prog = true := by kernel_rfl
theorem s115_ok : s115.ok Tryz.prog = true := by kernel_rfl
theorem s133_ok : s133.ok Tryz.prog = true := by kernel_rfl
theorem s149_ok : s149.ok Tryz.prog = true := by kernel_rfl
theorem s174_ok : s174.ok Tryz.prog = true := by kernel_rfl
theorem s203_ok : s203.ok Tryz.prog = true := by kernel_rfl
theorem s224_ok : s224.ok Tryz.prog = true := by kernel_rfl
theorem s252_ok : s252.ok Tryz.prog = true := by kernel_rfl
theorem s270_ok : s270.ok Tryz.prog = true := by kernel_rfl
theorem s289_ok : s289.ok Tryz.prog = true := by kernel_rfl
theorem s325_ok : s325.ok Tryz.prog = true := by kernel_rfl
theorem s359_ok : s359.ok Tryz.prog = true := by kernel_rfl
theorem o156 : okFn Tryz.prog 156 f156 = true := by kernel_rfl
theorem o83 : okFn Tryz.prog 83 f83 = true := by kernel_rfl
theorem o45 : okFn Tryz.prog 45 f45 = true := by kernel_rfl
theorem o27 : okFn Tryz.prog 27 f27 = true := by kernel_rfl
theorem o66 : okFn Tryz.prog 66 f66 = true := by kernel_rfl
theorem o122 : okFn Tryz.prog 122 f122 = true := by kernel_rfl
theorem o99 : okFn Tryz.prog 99 f99 = true := by kernel_rfl
theorem o141 : okFn Tryz.prog 141 f141 = true := by kernel_rfl
theorem o262 : okFn Tryz.prog 262 f262 = true := by kernel_rfl
theorem o216 : okFn Tryz.prog 216 f216 = true := by kernel_rfl
theorem o191 : okFn Tryz.prog 191 f191 = true := by kernel_rfl
theorem o242 : okFn Tryz.prog 242 f242 = true := by kernel_rfl
theorem o314 : okFn Tryz.prog 314 f314 = true := by kernel_rfl
theorem o278 : okFn Tryz.prog 278 f278 = true := by kernel_rfl
theorem o342 : okFn Tryz.prog 342 f342 = true := by kernel_rfl
theorem fns_ok : AF.fns.ok Tryz.prog = true := (FT.node_ok o156 (FT.node_ok o83 (FT.node_ok o45 (FT.node_ok o27 s19_ok s37_ok) (FT.node_ok o66 s57_ok s74_ok)) (FT.node_ok o122 (FT.node_ok o99 s91_ok s115_ok) (FT.node_ok o141 s133_ok s149_ok))) (FT.node_ok o262 (FT.node_ok o216 (FT.node_ok o191 s174_ok s203_ok) (FT.node_ok o242 s224_ok s252_ok)) (FT.node_ok o314 (FT.node_ok o278 s270_ok s289_ok) (FT.node_ok o342 s325_ok s359_ok))))
theorem fnsOk : FnsOk Tryz.prog AF.fns.get := FT.get_ok fns_ok
end Go.Proofs.YtllgfkpmblhbmaaGreat
