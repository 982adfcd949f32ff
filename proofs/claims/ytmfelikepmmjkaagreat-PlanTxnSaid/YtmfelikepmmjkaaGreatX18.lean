/-
What the closed functions answer.
-/
import Derived.Test.YtmfelikepmmjkaaGreatRunA
import Derived.Test.YtmfelikepmmjkaaGreatRunB
import Derived.Test.YtmfelikepmmjkaaGreatAfOk
import Derived.Test.YtmfelikepmmjkaaGreatSort1
set_option linter.unusedVariables false
set_option linter.unusedSimpArgs false
namespace Go.Proofs.YtmfelikepmmjkaaGreat
open Go.Eng
theorem orcA_ok:s6 Tryz.prog (uY 42 54 139):=by
 intro f args h r h' hr K hK
 unfold uY at hr
 split at hr
 · rename_i hf
   have:=Nat.eq_of_beq_eq_true hf
   subst this
   exact add_ok args h r h' hr K hK
 · split at hr
   · rename_i hf
     have:=Nat.eq_of_beq_eq_true hf
     subst this
     exact sorted_ok args h r h' hr K hK
   · cases hr
theorem known_ok {cs:List Nat} {base:oD} (hb:s6 Tryz.prog base) (hc:∀ f∈cs,aC Tryz.prog f [] iJ (fun r _=>r=.b true)):s6 Tryz.prog (known cs base):=by
 intro f args h r h' hr K hK
 unfold known at hr
 split at hr
 · rename_i hm
   split at hr
   · cases hr
     exact (hc f (dC.1 hm)).frame rfl fun v h' hv=>by subst hv;exact ⟨rfl,hK⟩
   · cases hr
 · exact hb f args h r h' hr K hK
theorem EP {mZ:oD} (ho:s6 Tryz.prog mZ) {n f:Nat} (h:isTrue (Kj AF.fns.get 285 mZ n f [] iJ)=true):aC Tryz.prog f [] iJ (fun r _=>r=.b true):=by
 obtain ⟨h',hx⟩:=J6 h
 rw [Va] at hx
 exact runFn_ok WE once_ok ho hx rfl
theorem law1_begun:aC Tryz.prog 328 [] iJ (fun r _=>r=.b true):=EP orcA_ok AF.ahE
theorem orcB_ok:s6 Tryz.prog (known [328] (uY 42 54 139)):=known_ok orcA_ok fun f hf=>by
 simp at hf;subst hf;exact law1_begun
theorem law6_begun:aC Tryz.prog 186 [] iJ (fun r _=>r=.b true):=EP orcB_ok AF.ahF
theorem orcC_ok:s6 Tryz.prog (known [328,186] (uY 42 54 139)):=known_ok orcA_ok fun f hf=>by
 simp at hf
 rcases hf with rfl|rfl
 · exact law1_begun
 · exact law6_begun
end Go.Proofs.YtmfelikepmmjkaaGreat
