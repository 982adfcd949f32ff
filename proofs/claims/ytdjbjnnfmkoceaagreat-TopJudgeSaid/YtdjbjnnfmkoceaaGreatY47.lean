/-
The runner that knows how the worlds come to rest.
-/
import Derived.Test.YtdjbjnnfmkoceaaGreatYRk
import Derived.KernelRfl
set_option linter.unusedVariables false
set_option linter.unusedSimpArgs false
set_option maxRecDepth 1000000
namespace Go.Eng
open Go
noncomputable def Es:List Ll:=[⟨Jr,Js,Jt,Ju⟩]
noncomputable def QT:Nat->Option Oc:=a8 130 (orM [([],.b true)] (mW 130))<|a8 41 (orF Es (mW 41))<|JQ
noncomputable def QU:Rf:=rfN AF.fns.get QT (fun _=>eJ) 60
noncomputable def Et:List Ll:=[⟨Jv,Jw,Jx,Jy⟩,⟨Jz,JA,JB,JC⟩,⟨JD,JE,JF,JG⟩,⟨JH,JI,JJ,JK⟩,⟨JL,JM,JN,JO⟩]
noncomputable def J1:Nat->Option Oc:=a8 5 (orM [([],.b true)] (mW 5))<|a8 41 (orF Et (mW 41))<|JS
noncomputable def wS:Rf:=rfN AF.fns.get J1 (fun _=>eJ) 60
open Go
theorem agS:sV vR 130 ([],.b true)=true:=by kernel_rfl
open Go
theorem amL:sV QU 5 ([],.b true)=true:=by kernel_rfl
open Go
theorem N7:sU wS 11 NC ND NF NG=true:=by kernel_rfl
open Go
theorem NY:sU wS 11 NH NI NJ NK=true:=by kernel_rfl
open Go
theorem NZ:sU wS 11 NL NM NN NO=true:=by kernel_rfl
open Go
theorem N0:sU wS 11 NP NQ NR NS=true:=by kernel_rfl
open Go
theorem N1:sU wS 11 NT NU NV NW=true:=by kernel_rfl
end Go.Eng
