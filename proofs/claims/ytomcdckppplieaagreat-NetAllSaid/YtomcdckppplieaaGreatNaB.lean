/-
Two pieces of mail, the same.
-/
import Derived.Test.YtomcdckppplieaaGreatNaA
namespace Go.Eng
open Go
def strB (b : List Int) : List UInt8 := b.map fun n => UInt8.ofNat n.toNat
theorem bytes_map : ∀ b : List Int, bytesOf (b.map byR) = some (strB b)
  | [] => rfl
  | x :: r => by
    have h := bytes_map r
    show bytesOf ([V.i .u8 x] :: r.map byR) = _
    simp only [bytesOf, h]
    rfl
def BVal (h : Heap) (bv : V) (b : List Int) : Prop := bv = .sl none 1 (b.map byR) ∨ (bv = .nils ∧ b = []) ∨ ∃ c, bv = .ms (.g c) 1 0 b.length ∧ h.get c = some (.arr 1 (b.map byR))
theorem BVal.of {h : Heap} {lo : Nat} {m : MailD} {o : Option Nat} (hb : BAt h lo m.b o) : BVal h (amV m o) m.b := by
  cases o with
  | none => exact .inr (.inl ⟨rfl, hb⟩)
  | some c => exact .inr (.inr ⟨c, rfl, hb.2.2⟩)
section
variable {P : Program} (hG : FnsOk P AF.fns.get)
include hG
theorem bytes_at {h : Heap} {bv : V} {b : List Int} (hb : BVal h bv b) {K : V → Heap → Prop} (hK : K (.b true) h) : ACall P 62 [bv, .sl none 1 (b.map byR)] h K := by
  have hlm : (b.map byR).length = b.length := List.length_map _
  have hbb := bytes_map b
  have ht : (strB b == strB b) = true := by simp
  rcases hb with rfl | ⟨rfl, rfl⟩ | ⟨c, rfl, hc⟩
  · refine fn_sp (hG _ AF.f62 rfl) rfl ?_
    ((conv => whnf); repeat ((first | refine SEx.of (hbb) ?_ | refine SEx.of (hbb) ?_ | refine yf rfl ?_ | refine yt rfl ?_ | refine yo rfl ?_ | refine yc rfl ?_ | refine ys rfl ?_ | refine ye rfl ?_ | refine yn rfl ?_ | refine zw ?_ | refine zdt ?_ | refine zdf ?_ | refine znt ?_ | refine znf ?_ | refine zcd ?_ | refine zci ?_ | refine zc3 ?_) <;> (conv => whnf)))
    rw [ht]
    exact hK
  · refine fn_sp (hG _ AF.f62 rfl) rfl ?_
    ((conv => whnf); repeat ((first | refine yf rfl ?_ | refine yt rfl ?_ | refine yo rfl ?_ | refine yc rfl ?_ | refine ys rfl ?_ | refine ye rfl ?_ | refine yn rfl ?_ | refine zw ?_ | refine zdt ?_ | refine zdf ?_ | refine znt ?_ | refine znf ?_ | refine zcd ?_ | refine zci ?_ | refine zc3 ?_) <;> (conv => whnf)))
    exact hK
  · have hd : List.take b.length (List.drop 0 (b.map byR)) = b.map byR := List.take_of_length_le (by simp)
    refine fn_sp (hG _ AF.f62 rfl) rfl ?_
    ((conv => whnf); repeat ((first | refine SChk.mk (decide_eq_true (by rw [hlm]; omega)) ?_ | refine SEx.of ((congrArg bytesOf hd).trans hbb) ?_ | refine SEx.of (hc) ?_ | refine SEx.of (hbb) ?_ | refine yf rfl ?_ | refine yt rfl ?_ | refine yo rfl ?_ | refine yc rfl ?_ | refine ys rfl ?_ | refine ye rfl ?_ | refine yn rfl ?_ | refine zw ?_ | refine zdt ?_ | refine zdf ?_ | refine znt ?_ | refine znf ?_ | refine zcd ?_ | refine zci ?_ | refine zc3 ?_) <;> (conv => whnf)))
    rw [ht]
    exact hK
theorem same_at {h : Heap} {bv : V} {m : MailD} (hb : BVal h bv m.b) {K : V → Heap → Prop} (hK : K (.b true) h) : ACall P 27 [.agg [.b m.rep, .i .i64 m.who, bv], .agg (mailR m)] h K := by
  have hB := fun K => bytes_at (K := K) hG hb
  have e1 : (m.rep == m.rep) = true := by simp
  refine fn_sp (hG _ AF.f27 rfl) rfl ?_
  rcases hb with rfl | ⟨rfl, _⟩ | ⟨c, rfl, hc⟩
  all_goals
    ((conv => whnf); repeat ((first | refine SCall.app (hB _) ?_ | refine SIf.tt (by simp) ?_ | refine yf rfl ?_ | refine yt rfl ?_ | refine yo rfl ?_ | refine yc rfl ?_ | refine ys rfl ?_ | refine ye rfl ?_ | refine yn rfl ?_ | refine zw ?_ | refine zdt ?_ | refine zdf ?_ | refine znt ?_ | refine znf ?_ | refine zcd ?_ | refine zci ?_ | refine zc3 ?_) <;> (conv => whnf)))
    exact hK
theorem same_zero {h : Heap} {K : V → Heap → Prop} (hK : K (.b true) h) : ACall P 27 [.agg mail0, .agg mail0] h K := by
  refine fn_sp (hG _ AF.f27 rfl) rfl ?_
  ((conv => whnf); repeat ((first | refine SCall.app (fn_sp (hG _ AF.f62 rfl) rfl) ?_ | refine yf rfl ?_ | refine yt rfl ?_ | refine yo rfl ?_ | refine yc rfl ?_ | refine ys rfl ?_ | refine ye rfl ?_ | refine yn rfl ?_ | refine zw ?_ | refine zdt ?_ | refine zdf ?_ | refine znt ?_ | refine znf ?_ | refine zcd ?_ | refine zci ?_ | refine zc3 ?_) <;> (conv => whnf)))
  exact hK
end
end Go.Eng
