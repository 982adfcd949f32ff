/-
Calls of values alone, run.
-/
import Derived.Test.YtdjbjnnfmkoceaaGreatX22
import Derived.KernelRfl
set_option linter.unusedVariables false
set_option linter.unusedSimpArgs false
set_option maxRecDepth 1000000
namespace Go.Eng
open Go
theorem Ev:aY pP 15 PF=true:=by kernel_rfl
theorem Ew:aY pP 16 PG=true:=by kernel_rfl
theorem Ey:aY pP 48 PH=true:=by kernel_rfl
theorem Ez:aY pP 53 PI=true:=by kernel_rfl
theorem EA:aY pP 82 PJ=true:=by kernel_rfl
theorem EB:aY pP 85 PK=true:=by kernel_rfl
theorem EC:aY pP 94 PL=true:=by kernel_rfl
noncomputable def orcG:Nat->Option Oc:=aS 156 (kX 156) PD
noncomputable def rfG:Rf:=Sv AF.fns.get orcG (fun _=>fF) 60
theorem ED:aY rfG 95 PM=true:=by kernel_rfl
theorem CC:aY pP 120 LG=true:=by kernel_rfl
theorem CD:aY pP 194 LH=true:=by kernel_rfl
end Go.Eng
