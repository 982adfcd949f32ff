/-
Each abstract text stands for its function of the program.
-/
import Derived.Test.YtdobfbnfaekafaaGreatAfT
import Derived.Test.YtdobfbnfaekafaaGreatRows
import Derived.KernelRfl
set_option maxRecDepth 1000000
namespace Go.Proofs.YtdobfbnfaekafaaGreat
open Go Go.Eng Go.Eng.AF
theorem s11_ok : s11.ok Tryz.prog = true := by kernel_rfl
theorem s27_ok : s27.ok Tryz.prog = true := by kernel_rfl
theorem s43_ok : s43.ok Tryz.prog = true := by kernel_rfl
theorem s59_ok : s59.ok Tryz.prog = true := by kernel_rfl
theorem s75_ok : s75.ok Tryz.prog = true := by kernel_rfl
theorem s93_ok : s93.ok Tryz.prog = true := by kernel_rfl
theorem s109_ok : s109.ok Tryz.prog = true := by kernel_rfl
theorem s125_ok : s125.ok Tryz.prog = true := by kernel_rfl
theorem s151_ok : s151.ok Tryz.prog = true := by kernel_rfl
theorem s171_ok : s171.ok Tryz.prog = true := by kernel_rfl
theorem s190_ok : s190.ok Tryz.prog = true := by kernel_rfl
theorem s216_ok : s216.ok Tryz.prog = true := by kernel_rfl
theorem s235_ok : s235.ok Tryz.prog = true := by kernel_rfl
theorem s251_ok : s251.ok Tryz.prog = true := by kernel_rfl
theorem s289_ok : s289.ok Tryz.prog = true := by kernel_rfl
theorem s325_ok : s325.ok Tryz.prog = true := by kernel_rfl
theorem o133 : okFn Tryz.prog 133 f133 = true := by kernel_rfl
theorem o67 : okFn Tryz.prog 67 f67 = true := by kernel_rfl
theorem o35 : okFn Tryz.prog 35 f35 = true := by kernel_rfl
theorem o19 : okFn Tryz.prog 19 f19 = true := by kernel_rfl
theorem o51 : okFn Tryz.prog 51 f51 = true := by kernel_rfl
theorem o101 : okFn Tryz.prog 101 f101 = true := by kernel_rfl
theorem o85 : okFn Tryz.prog 85 f85 = true := by kernel_rfl
theorem o117 : okFn Tryz.prog 117 f117 = true := by kernel_rfl
theorem o224 : okFn Tryz.prog 224 f224 = true := by kernel_rfl
theorem o182 : okFn Tryz.prog 182 f182 = true := by kernel_rfl
theorem o160 : okFn Tryz.prog 160 f160 = true := by kernel_rfl
theorem o205 : okFn Tryz.prog 205 f205 = true := by kernel_rfl
theorem o278 : okFn Tryz.prog 278 f278 = true := by kernel_rfl
theorem o243 : okFn Tryz.prog 243 f243 = true := by kernel_rfl
theorem o299 : okFn Tryz.prog 299 f299 = true := by kernel_rfl
theorem fns_ok : AF.fns.ok Tryz.prog = true := (FT.node_ok o133 (FT.node_ok o67 (FT.node_ok o35 (FT.node_ok o19 s11_ok s27_ok) (FT.node_ok o51 s43_ok s59_ok)) (FT.node_ok o101 (FT.node_ok o85 s75_ok s93_ok) (FT.node_ok o117 s109_ok s125_ok))) (FT.node_ok o224 (FT.node_ok o182 (FT.node_ok o160 s151_ok s171_ok) (FT.node_ok o205 s190_ok s216_ok)) (FT.node_ok o278 (FT.node_ok o243 s235_ok s251_ok) (FT.node_ok o299 s289_ok s325_ok))))
theorem fnsOk : FnsOk Tryz.prog AF.fns.get := FT.get_ok fns_ok
end Go.Proofs.YtdobfbnfaekafaaGreat
