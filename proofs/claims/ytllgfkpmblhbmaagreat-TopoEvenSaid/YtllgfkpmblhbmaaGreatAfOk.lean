/-
Each abstract text stands for its function of the program.
-/
import Derived.Test.YtllgfkpmblhbmaaGreatAfT
import Derived.Test.YtllgfkpmblhbmaaGreatRows
import Derived.KernelRfl
set_option maxRecDepth 1000000
namespace Go.Proofs.YtllgfkpmblhbmaaGreat
open Go Go.Eng Go.Eng.AF
theorem s18_ok : s18.ok Tryz.prog = true := by kernel_rfl
theorem s34_ok : s34.ok Tryz.prog = true := by kernel_rfl
theorem s52_ok : s52.ok Tryz.prog = true := by kernel_rfl
theorem s70_ok : s70.ok Tryz.prog = true := by kernel_rfl
theorem s86_ok : s86.ok Tryz.prog = true := by kernel_rfl
theorem s108_ok : s108.ok Tryz.prog = true := by kernel_rfl
theorem s129_ok : s129.ok Tryz.prog = true := by kernel_rfl
theorem s145_ok : s145.ok Tryz.prog = true := by kernel_rfl
theorem s162_ok : s162.ok Tryz.prog = true := by kernel_rfl
theorem s199_ok : s199.ok Tryz.prog = true := by kernel_rfl
theorem s220_ok : s220.ok Tryz.prog = true := by kernel_rfl
theorem s248_ok : s248.ok Tryz.prog = true := by kernel_rfl
theorem s267_ok : s267.ok Tryz.prog = true := by kernel_rfl
theorem s283_ok : s283.ok Tryz.prog = true := by kernel_rfl
theorem s322_ok : s322.ok Tryz.prog = true := by kernel_rfl
theorem s356_ok : s356.ok Tryz.prog = true := by kernel_rfl
theorem o153 : okFn Tryz.prog 153 f153 = true := by kernel_rfl
theorem o78 : okFn Tryz.prog 78 f78 = true := by kernel_rfl
theorem o42 : okFn Tryz.prog 42 f42 = true := by kernel_rfl
theorem o26 : okFn Tryz.prog 26 f26 = true := by kernel_rfl
theorem o62 : okFn Tryz.prog 62 f62 = true := by kernel_rfl
theorem o118 : okFn Tryz.prog 118 f118 = true := by kernel_rfl
theorem o94 : okFn Tryz.prog 94 f94 = true := by kernel_rfl
theorem o137 : okFn Tryz.prog 137 f137 = true := by kernel_rfl
theorem o256 : okFn Tryz.prog 256 f256 = true := by kernel_rfl
theorem o212 : okFn Tryz.prog 212 f212 = true := by kernel_rfl
theorem o189 : okFn Tryz.prog 189 f189 = true := by kernel_rfl
theorem o238 : okFn Tryz.prog 238 f238 = true := by kernel_rfl
theorem o312 : okFn Tryz.prog 312 f312 = true := by kernel_rfl
theorem o275 : okFn Tryz.prog 275 f275 = true := by kernel_rfl
theorem o332 : okFn Tryz.prog 332 f332 = true := by kernel_rfl
theorem fns_ok : AF.fns.ok Tryz.prog = true := (FT.node_ok o153 (FT.node_ok o78 (FT.node_ok o42 (FT.node_ok o26 s18_ok s34_ok) (FT.node_ok o62 s52_ok s70_ok)) (FT.node_ok o118 (FT.node_ok o94 s86_ok s108_ok) (FT.node_ok o137 s129_ok s145_ok))) (FT.node_ok o256 (FT.node_ok o212 (FT.node_ok o189 s162_ok s199_ok) (FT.node_ok o238 s220_ok s248_ok)) (FT.node_ok o312 (FT.node_ok o275 s267_ok s283_ok) (FT.node_ok o332 s322_ok s356_ok))))
theorem fnsOk : FnsOk Tryz.prog AF.fns.get := FT.get_ok fns_ok
end Go.Proofs.YtllgfkpmblhbmaaGreat
