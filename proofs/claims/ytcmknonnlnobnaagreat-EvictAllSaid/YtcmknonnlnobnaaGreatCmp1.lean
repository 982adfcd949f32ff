/-
internal/bytealg.CompareString.
-/
import Derived.Test.YtcmknonnlnobnaaGreatEngC
import Derived.Test.YtcmknonnlnobnaaGreatSync
import Derived.Test.YtcmknonnlnobnaaGreatRows
import Derived.Tactics
import Derived.Tactics2
import Derived.RegionTactic
import Derived.RegionCalls
import Derived.Lib.Bytealg
import Derived.KernelRfl
namespace Go.Proofs.YtcmknonnlnobnaaGreat
open Go.Eng
set_option maxRecDepth 100000 in
theorem compareString (a b : ByteArray) (w : World) : Calls Tryz.prog 117 #[.string a, .string b] w fun e w' => e = .returned (.int .i64 (Lib.compareBytes a.data.toList b.data.toList)) ∧ w' = w := by
 go_enter Tryz.func117, Tryz.ntmps117
 go_wp2
 rw [run_callFunc_extern Tryz.func223 (by kernel_rfl) (by kernel_rfl) (by kernel_rfl) (e := Extern.BytealgCompare.compare) (by kernel_rfl), Lib.run_compareString]
 simp only [Result.andThen]
 rw [Oper.upon_value]
 go_wp2
 go_ret
 exact ⟨rfl, rfl⟩
theorem cmpB_eq : ∀ a b : List UInt8, cmpB a b = Lib.compareBytes a b
 | [], [] => rfl
 | [], _ :: _ => rfl
 | _ :: _, [] => rfl
 | a :: r, b :: q => by
   have ih := cmpB_eq r q
   simp only [cmpB, Lib.compareBytes, UInt8.lt_iff_toNat_lt]
   by_cases h1 : a.toNat < b.toNat
   · have : Nat.blt a.toNat b.toNat = true := by simpa using h1
     rw [this, if_pos h1]
   · have e1 : Nat.blt a.toNat b.toNat = false := by rw [Bool.eq_false_iff]; exact fun hc => h1 (by simpa [Nat.blt_eq] using hc)
     rw [e1, if_neg h1]
     by_cases h2 : b.toNat < a.toNat
     · have : Nat.blt b.toNat a.toNat = true := by simpa using h2
       rw [this, if_pos h2]
     · have e2 : Nat.blt b.toNat a.toNat = false := by rw [Bool.eq_false_iff]; exact fun hc => h2 (by simpa [Nat.blt_eq] using hc)
       rw [e2, if_neg h2]
       exact ih
theorem cmpS_ok (a b : List UInt8) (h : Heap) (K : V → Heap → Prop) (hK : K (.i .i64 (cmpB a b)) h) : ACall Tryz.prog 117 [.s a, .s b] h K := by
 refine ⟨by kernel_rfl, fun E w vs hnl hs hv => ?_⟩
 obtain ⟨x0, x1, rfl, r0, r1⟩ := args2 hv
 have := r0.strv
 subst this
 have := r1.strv
 subst this
 refine (compareString _ _ w).mono ?_
 rintro e w' ⟨rfl, rfl⟩
 refine ⟨_, _, _, E, hK, rfl, hnl, hs, .refl _ _ _, ?_⟩
 rw [cmpB_eq]
 exact .deep (.i _ _)
end Go.Proofs.YtcmknonnlnobnaaGreat
