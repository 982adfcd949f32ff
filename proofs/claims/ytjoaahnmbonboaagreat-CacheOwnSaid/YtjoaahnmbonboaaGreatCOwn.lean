/-
CacheOwn, as the abstract run has it.
-/
import Derived.Test.YtjoaahnmbonboaaGreatEngSymF
import Derived.Test.YtjoaahnmbonboaaGreatEngOrc
import Derived.Test.YtjoaahnmbonboaaGreatClk0
import Derived.Test.YtjoaahnmbonboaaGreatAo
namespace Go.Eng
open Go
def bytesR (l : List Int) : List (List V) := l.map fun x => [V.i .u8 x]
theorem bytesR_len (l : List Int) : (bytesR l).length = l.length := by simp [bytesR]
theorem own_bytesR (g : Bool) : ∀ l : List Int, ownElems g (bytesR l) = some (bytesR l)
  | [] => rfl
  | x :: r => by
    have := own_bytesR g r
    show ownElems g ([V.i .u8 x] :: bytesR r) = _
    simp only [ownElems]
    rw [this]
    cases g <;> rfl
theorem bytesOf_R : ∀ l : List Int, bytesOf (bytesR l) = some (l.map fun n => UInt8.ofNat n.toNat)
  | [] => rfl
  | x :: r => by
    have := bytesOf_R r
    show bytesOf ([V.i .u8 x] :: bytesR r) = _
    simp only [bytesOf]
    rw [this]
    rfl
theorem take_R (l : List Int) (n : Nat) : (bytesR l).take n = bytesR (l.take n) := by simp [bytesR, List.map_take]
theorem all_R {l : List Int} {n : Nat} (h : n = l.length) : ((bytesR l).drop 0).take n = bytesR l := by
  subst h
  rw [List.drop_zero, ← bytesR_len l, List.take_length]
section
variable {P : Program} (hG : FnsOk P AO.fns.get)
  (hS : ∀ (args : List V) (h : Heap) (r : V) (h' : Heap), sortedRun 113 args h = some (r, h') → ∀ K : V → Heap → Prop, K r h' → ACall P 76 args h K)
include hG hS
set_option maxHeartbeats 40000000 in
set_option maxRecDepth 100000 in
theorem cacheOwn_ok (hb : ACall P 11 [] noG (fun r _ => r = .b true)) (l : List Int) : ACall P 9 [.sl none 1 (bytesR l)] noG (fun r _ => r = .b true) := by
  obtain ⟨Q, hQ⟩ : ∃ Q, Q = min l.length 20 := ⟨_, rfl⟩
  have hl := bytesR_len l
  refine fn_sf (hG 9 AO.f9 rfl) rfl ?_
  (conv => whnf)
  refine ⟨hb.frame rfl fun v h' hv => ?_⟩
  subst hv
  refine ⟨rfl, ?_⟩
  obtain ⟨T, hT⟩ : ∃ T, T = l.take Q := ⟨_, rfl⟩
  have hTl : T.length ≤ 20 := by rw [hT]; simp; omega
  ((conv => whnf); repeat (first | (refine SOpt.of (mn2 (z := (Q : Int)) (by rw [hl]; split <;> omega)) ?_; conv => whnf) | (refine SChk.d3 (by omega) (by omega) (by omega) ?_; conv => whnf) | (refine SEx.of (x := bytesR T) (by rw [hT]; exact congrArg some (take_R l Q)) ?_; conv => whnf) | (refine SIf.ff rfl ?_; conv => whnf) | (refine SIf.tt rfl ?_; conv => whnf) | (refine SOpt.of rfl ?_; conv => whnf) | (refine SChk.mk rfl ?_; conv => whnf) | (refine SSame.mk rfl ?_; conv => whnf) | (refine SEx.of rfl ?_; conv => whnf) | (refine SOpt.no rfl ?_; conv => whnf) | (refine SLoopB.un rfl ?_; conv => whnf) | (refine SWrap.w64 (by omega) (by omega) ?_; conv => whnf) | (refine SIf.dt (by omega) ?_; conv => whnf) | (refine SIf.df (by omega) ?_; conv => whnf) | (refine SIf.nt (by omega) ?_; conv => whnf) | (refine SIf.nf (by omega) ?_; conv => whnf) | (refine SChk.d (by omega) ?_; conv => whnf) | (refine SChk.d3 (by omega) (by omega) (by omega) ?_; conv => whnf) | (refine SWrap.wu (by omega) (by omega) ?_; conv => whnf) | (refine SWrap.of (by decide) (by decide) ?_; conv => whnf) | (refine SWrap.mk ?_; conv => whnf) | (refine SCall.mk (fn_sf (hG _ _ rfl) rfl ?_); conv => whnf) | (refine SIf.tt (by first | (simp; done) | (simp; omega)) ?_; conv => whnf) | (refine SIf.ff (by first | (simp; done) | (simp; omega)) ?_; conv => whnf)))
  cases T with
  | nil =>
    ((conv => whnf); repeat (first | (refine SCall.app (hS _ _ _ _ rfl _) ?_; conv => whnf) | (refine SIf.ff rfl ?_; conv => whnf) | (refine SIf.tt rfl ?_; conv => whnf) | (refine SOpt.of rfl ?_; conv => whnf) | (refine SChk.mk rfl ?_; conv => whnf) | (refine SSame.mk rfl ?_; conv => whnf) | (refine SEx.of rfl ?_; conv => whnf) | (refine SOpt.no rfl ?_; conv => whnf) | (refine SLoopB.un rfl ?_; conv => whnf) | (refine SWrap.w64 (by omega) (by omega) ?_; conv => whnf) | (refine SIf.dt (by omega) ?_; conv => whnf) | (refine SIf.df (by omega) ?_; conv => whnf) | (refine SIf.nt (by omega) ?_; conv => whnf) | (refine SIf.nf (by omega) ?_; conv => whnf) | (refine SChk.d (by omega) ?_; conv => whnf) | (refine SChk.d3 (by omega) (by omega) (by omega) ?_; conv => whnf) | (refine SWrap.wu (by omega) (by omega) ?_; conv => whnf) | (refine SWrap.of (by decide) (by decide) ?_; conv => whnf) | (refine SWrap.mk ?_; conv => whnf) | (refine SCall.mk (fn_sf (hG _ _ rfl) rfl ?_); conv => whnf) | (refine SIf.tt (by first | (simp; done) | (simp; omega)) ?_; conv => whnf) | (refine SIf.ff (by first | (simp; done) | (simp; omega)) ?_; conv => whnf)))
    exact congrArg V.b (by simp)
  | cons b r =>
    have hr : r.length + 1 ≤ 20 := hTl
    ((conv => whnf); repeat (first | (refine SChk.mk (by simp [roomOk, bytesR_len]; omega) ?_; conv => whnf) | (refine SEx.of (own_bytesR true (b :: r)) ?_; conv => whnf) | (refine SEx.of (x := bytesR (3 :: b :: r)) rfl ?_; conv => whnf) | (refine SIf.df (by rw [bytesR_len]; show ¬ (0 + 1 + (r.length + 1) ≤ 1); omega) ?_; conv => whnf) | (refine SEx.of (congrArg some (all_R (l := 3 :: b :: r) (by first | (simp [bytesR_len]; done) | (simp [bytesR_len]; omega)))) ?_; conv => whnf) | (refine SEx.of (own_bytesR true (3 :: b :: r)) ?_; conv => whnf) | (refine SChk.d (by first | (simp [bytesR_len]; done) | (simp [bytesR_len]; omega)) ?_; conv => whnf) | (refine SEx.of (bytesOf_R (3 :: b :: r)) ?_; conv => whnf) | (refine SCall.app (hS _ _ _ _ rfl _) ?_; conv => whnf) | (refine SIf.ff rfl ?_; conv => whnf) | (refine SIf.tt rfl ?_; conv => whnf) | (refine SOpt.of rfl ?_; conv => whnf) | (refine SChk.mk rfl ?_; conv => whnf) | (refine SSame.mk rfl ?_; conv => whnf) | (refine SEx.of rfl ?_; conv => whnf) | (refine SOpt.no rfl ?_; conv => whnf) | (refine SLoopB.un rfl ?_; conv => whnf) | (refine SWrap.w64 (by omega) (by omega) ?_; conv => whnf) | (refine SIf.dt (by omega) ?_; conv => whnf) | (refine SIf.df (by omega) ?_; conv => whnf) | (refine SIf.nt (by omega) ?_; conv => whnf) | (refine SIf.nf (by omega) ?_; conv => whnf) | (refine SChk.d (by omega) ?_; conv => whnf) | (refine SChk.d3 (by omega) (by omega) (by omega) ?_; conv => whnf) | (refine SWrap.wu (by omega) (by omega) ?_; conv => whnf) | (refine SWrap.of (by decide) (by decide) ?_; conv => whnf) | (refine SWrap.mk ?_; conv => whnf) | (refine SCall.mk (fn_sf (hG _ _ rfl) rfl ?_); conv => whnf) | (refine SIf.tt (by first | (simp; done) | (simp; omega)) ?_; conv => whnf) | (refine SIf.ff (by first | (simp; done) | (simp; omega)) ?_; conv => whnf)))
    exact congrArg V.b (by simp)
end
end Go.Eng
