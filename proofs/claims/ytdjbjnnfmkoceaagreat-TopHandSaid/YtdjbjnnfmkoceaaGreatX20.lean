/-
The runner of this program: its shortcuts are right.
-/
import Derived.Test.YtdjbjnnfmkoceaaGreatX16
import Derived.Test.YtdjbjnnfmkoceaaGreatAfOk
import Derived.Test.YtdjbjnnfmkoceaaGreatX09
import Derived.Test.YtdjbjnnfmkoceaaGreatX19
import Derived.KernelRfl
set_option linter.unusedVariables false
set_option linter.unusedSimpArgs false
set_option maxRecDepth 1000000
namespace Go.Proofs.YtdjbjnnfmkoceaaGreat
open Go Go.Eng Go.Eng.AF
theorem IB:Ej Tryz.prog 93:=fun b h K hb hK=>(FZ bF b hb).go rfl hK
theorem TA:KC Tryz.prog PD:=
 aM (wnumC_ok (by kernel_rfl) (fun hp _ _ ha hw hB n size hs _ hK=>wnumX_at bF hp ha hw hB n size hs hK) (fnC_ok bF _))<|
 aM (rnumC_ok (fun hp _ _ ga size hX hs hl hb hm _ hK=>rnumX_at bF hp ga size hX hs hl hb hm hK) (fnC_ok bF _))<|
 aM (cloneC_ok IB (fnC_ok bF _))<|
 aM (tmakeC_ok ⟨by kernel_rfl,fun ha h1 _ hK=>by rw [Tq] at h1;rw [Tr] at hK;exact Cl bF once_ok ha h1 hK,fun ha h1 hd _ hK=>Ed bF once_ok ha h1 hd hK⟩)<|
 aM (onceC_ok once_ok)<|
 aM (addC_ok add_ok)<|
 aM (sortedC_ok ⟨Et,F5⟩)<|
 aM (cmpC_ok cmpS_ok)<|
 aM (holdsC_ok (fun ha _ h1 hT key rev hg _ hK=>holdsU_at bF Ll ha h1 hT key rev hg hK) (fnC_ok bF _)) Lq
end Go.Proofs.YtdjbjnnfmkoceaaGreat
