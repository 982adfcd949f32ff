/-
The runner of this program: its shortcuts are right.
-/
import Derived.Test.YtdjbjnnfmkoceaaGreatY16
import Derived.Test.YtdjbjnnfmkoceaaGreatYAfOk
import Derived.Test.YtdjbjnnfmkoceaaGreatY12
import Derived.Test.YtdjbjnnfmkoceaaGreatY21
import Derived.KernelRfl
import Derived.Test.YtdjbjnnfmkoceaaGreatYRk
set_option linter.unusedVariables false
set_option linter.unusedSimpArgs false
set_option maxRecDepth 1000000
namespace Go.Proofs.YtdjbjnnfmkoceaaGreat
open Go Go.Eng Go.Eng.AF
theorem SK:LR Tryz.prog 93:=fun b h K hb hK=>(Pu bS b hb).go rfl hK
theorem amK:T9 Tryz.prog af8:=
 aU (wnumC_ok (by kernel_rfl) (fun hp _ _ ha hw hB n size hs _ hK=>wnumX_at bS hp ha hw hB n size hs hK) (fnC_ok bS _))<|
 aU (rnumC_ok (fun hp _ _ ga size hX hs hl hb hm _ hK=>rnumX_at bS hp ga size hX hs hl hb hm hK) (fnC_ok bS _))<|
 aU (cloneC_ok SK (fnC_ok bS _))<|
 aU (tmakeC_ok ⟨by kernel_rfl,fun ha h1 _ hK=>by rw [ak5] at h1;rw [ak6] at hK;exact Jf bS once_ok ha h1 hK,fun ha h1 hd _ hK=>LL bS once_ok ha h1 hd hK⟩)<|
 aU (onceC_ok once_ok)<|
 aU (addC_ok add_ok)<|
 aU (sortedC_ok ⟨Mz,PM⟩)<|
 aU (cmpC_ok cmpS_ok)<|
 aU (holdsC_ok (fun ha _ h1 hT key rev hg _ hK=>holdsU_at bS Wu ha h1 hT key rev hg hK) (fnC_ok bS _)) WM
end Go.Proofs.YtdjbjnnfmkoceaaGreat
namespace Go.Eng
open Go
theorem agQ:zA qS pO Ek eK AF.f41.nparams Jr Js MB=true:=by kernel_rfl
theorem ab1:aL cR aI eK 4 MB MC=true:=by kernel_rfl
theorem ab2:aL cR aI eK 7 MC MD=true:=by kernel_rfl
theorem ab3:aL cR aI eK 6 MD ME=true:=by kernel_rfl
theorem ab4:aL cR aI eK 7 ME MF=true:=by kernel_rfl
theorem ab5:aL cR aI eK 7 MF MG=true:=by kernel_rfl
theorem adK:aL cR aI eK 7 MG MH=true:=by kernel_rfl
theorem adL:aL cR aI eK 7 MH MI=true:=by kernel_rfl
theorem adM:aL cR aI eK 7 MI MJ=true:=by kernel_rfl
end Go.Eng
