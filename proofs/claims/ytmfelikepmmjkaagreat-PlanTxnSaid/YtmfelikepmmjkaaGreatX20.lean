/-
interrexlaw10.begun answers true.
-/
import Derived.Test.YtmfelikepmmjkaaGreatX18
import Derived.Test.YtmfelikepmmjkaaGreatRunD
import Derived.Test.YtmfelikepmmjkaaGreatX11
import Derived.Test.YtmfelikepmmjkaaGreatX12
import Derived.KernelRfl
import Derived.Test.YtmfelikepmmjkaaGreatX16
import Derived.Test.YtmfelikepmmjkaaGreatRows
import Derived.Tactics
import Derived.Tactics2
import Derived.RegionTactic
import Derived.RegionCalls
import Derived.Lib.Bytealg
set_option linter.unusedVariables false
set_option linter.unusedSimpArgs false
set_option maxRecDepth 1000000
namespace Go.Proofs.YtmfelikepmmjkaaGreat
open Go.Eng
theorem law10_begun:aC Tryz.prog 91 [] iJ (fun r _=>r=.b true):=EP orcC_ok AF.pX
end Go.Proofs.YtmfelikepmmjkaaGreat
namespace Go.Eng.AF
open Go.Eng
theorem ab9:isTrue (Kj AF.fns.get 285 (known [91] (uY 42 54 139)) 3000 30 [] iJ)=true:=by kernel_rfl
open Go.Eng
theorem ahV:isTrue (Kj AF.fns.get 285 (known [30] (U4 144 (uY 42 54 139))) 3000 5 [] iJ)=true:=by kernel_rfl
end Go.Eng.AF
namespace Go.Proofs.YtmfelikepmmjkaaGreat
open Go.Eng
theorem zL (a b:ByteArray) (w:World):Calls Tryz.prog 144 #[.string a,.string b] w fun e w'=>e=.returned (.int .i64 (Lib.compareBytes a.data.toList b.data.toList))/\w'=w:=by
 go_enter Tryz.func144,Tryz.ntmps144
 go_wp2
 rw [run_callFunc_extern Tryz.func233 (by kernel_rfl) (by kernel_rfl) (by kernel_rfl) (e:=Extern.BytealgCompare.compare) (by kernel_rfl),Lib.run_compareString]
 simp only [Result.andThen]
 rw [Oper.upon_value]
 go_wp2
 go_ret
 exact ⟨rfl,rfl⟩
theorem IK:∀ a b:List UInt8,jV a b=Lib.compareBytes a b
 |[],[]=>rfl
 |[],_::_=>rfl
 |_::_,[]=>rfl
 |a::r,b::q=>by
  have ih:=IK r q
  simp only [jV,Lib.compareBytes,UInt8.lt_iff_toNat_lt]
  by_cases h1:a.toNat<b.toNat
  · have:Nat.blt a.toNat b.toNat=true:=by simpa using h1
    rw [this,if_pos h1]
  · have e1:Nat.blt a.toNat b.toNat=false:=by rw [Bool.eq_false_iff];exact fun hc=>h1 (by simpa [Nat.blt_eq] using hc)
    rw [e1,if_neg h1]
    by_cases h2:b.toNat<a.toNat
    · have:Nat.blt b.toNat a.toNat=true:=by simpa using h2
      rw [this,if_pos h2]
    · have e2:Nat.blt b.toNat a.toNat=false:=by rw [Bool.eq_false_iff];exact fun hc=>h2 (by simpa [Nat.blt_eq] using hc)
      rw [e2,if_neg h2]
      exact ih
theorem cmpS_ok (a b:List UInt8) (h:aA) (K:V->aA->Prop) (hK:K (.i .i64 (jV a b)) h):aC Tryz.prog 144 [.s a,.s b] h K:=by
 refine ⟨by kernel_rfl,fun E w vs tO hs hv=>?_⟩
 obtain ⟨x0,x1,rfl,r0,r1⟩:=N1 hv
 have:=r0.C8
 subst this
 have:=r1.C8
 subst this
 refine (zL _ _ w).mono ?_
 rintro e w' ⟨rfl,rfl⟩
 refine ⟨_,_,_,E,hK,rfl,tO,hs,.refl _ _ _,?_⟩
 rw [IK]
 exact .deep (.i _ _)
open Go.Eng
theorem orcD_ok:s6 Tryz.prog (known [91] (uY 42 54 139)):=known_ok orcA_ok fun f hf=>by
 simp at hf;subst hf;exact law10_begun
theorem Km:aC Tryz.prog 30 [] iJ (fun r _=>r=.b true):=EP orcD_ok AF.ab9
theorem orcCmp_ok:s6 Tryz.prog (U4 144 (uY 42 54 139)):=by
 intro f args h r h' hr K hK
 unfold U4 at hr
 split at hr
 · rename_i hf
   have:=Nat.eq_of_beq_eq_true hf
   subst this
   split at hr
   · cases hr
     exact cmpS_ok _ _ _ _ hK
   · cases hr
 · exact orcA_ok f args h r h' hr K hK
theorem orcE_ok:s6 Tryz.prog (known [30] (U4 144 (uY 42 54 139))):=known_ok orcCmp_ok fun f hf=>by
 simp at hf;subst hf;exact Km
theorem law18_begun:aC Tryz.prog 5 [] iJ (fun r _=>r=.b true):=EP orcE_ok AF.ahV
end Go.Proofs.YtmfelikepmmjkaaGreat
