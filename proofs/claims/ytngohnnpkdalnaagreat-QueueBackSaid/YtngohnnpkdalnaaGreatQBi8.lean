/-
QueueBack: iteration 8.
-/
import Derived.Test.YtngohnnpkdalnaaGreatQBk0
namespace Go.Eng
open Go
section
variable {P : Program} (hG : FnsOk P AF.fns.get)
include hG
set_option maxHeartbeats 16000000 in
set_option maxRecDepth 20000 in
theorem qb_it_8 (n : Int) (p0 : PodD) (hr : PodRoom (qD p0 p0.uid)) (e1 : Pure P 63 [.agg (podR (qD p0 p0.uid)), .agg (podR (qD p0 p0.uid))] (· = .b true)) (hlt : (8 : Int) < 1 + (n.tmod 10 + 10).tmod 10)
    (R : Fr → St → Prop) (Q : Ex → Fr → St → Prop) (hR : ∀ fr st, TelR fr st (frQ n 9) (stQ (qD p0 p0.uid) 9) → R fr st) : spZ (ACall P) AF.qbBody (seqK R Q) (frQ n 8) (stQ (qD p0 p0.uid) 8) := by
  have c1 := copyPod_ok hG (qD p0 p0.uid) hr
  have hn : (p0.name == p0.name) = true := by simp
  have hq : (!(p0.name == p0.name)) = false := by simp
  have b1 := tmod10 n
  have b2 := tmod10 (n.tmod 10 + 10)
  have hN : decide ((8 : Int) < 1 + (n.tmod 10 + 10).tmod 10) = true := decide_eq_true hlt
  ((conv => whnf); repeat ((first | refine SIf.tt hN ?_ | refine SCall.app (Pure.go c1 rfl) ?_ | refine SCall.app (Pure.go e1 rfl) ?_ | refine SCall.app (fn_sf (hG _ _ rfl) rfl) ?_ | refine SLoopB.un rfl ?_ | refine SIf.tt hn ?_ | refine SIf.ff hq ?_ | refine yf rfl ?_ | refine yt rfl ?_ | refine yo rfl ?_ | refine yc rfl ?_ | refine ys rfl ?_ | refine ye rfl ?_ | refine yn rfl ?_ | refine zw ?_ | refine zdt ?_ | refine zdf ?_ | refine znt ?_ | refine znf ?_ | refine zcd ?_ | refine zci ?_ | refine zc3 ?_ | refine SLoopZ.un rfl ?_) <;> (conv => whnf)))
  refine hR _ _ ?_
  show TelR _ _ [(9, .i .i64 9), (8, .i .i64 400), (7, .i .i64 2750), (6, .p (.g 0) 0), (3, .p (.l 0) 0), (0, .i .i64 n)] ⟨⟨4, [(3, .arr 16 [podR (qD p0 p0.uid)]), (2, .arr 1 [[.p (.g 1) 0]]), (1, .cs (podR (qD p0 p0.uid) ++ [.b false, .i .i64 9, .i .i64 2750])), (0, .cs [.ms (.g 2) 1 0 1, .sl none 6 [nodeR ⟨[110], ⟨8, 9, 0⟩, [], []⟩], .ms (.g 3) 16 0 1, .b true])]⟩, ⟨1, [(0, .cs (podR (qD p0 p0.uid)))]⟩⟩
  refine telGL [0, 29, 31, 26] [0] rfl rfl (by decide) (by decide) ?_ ?_ ?_
  · refine ⟨⟨Nat.le_of_ble_eq_true rfl, rfl, _, rfl, ⟨rfl, ceL_flat rfl, trivial⟩⟩, ?_⟩
    refine ⟨⟨Nat.le_of_ble_eq_true rfl, rfl, _, rfl, ⟨rfl, ⟨.ren rfl (Nat.le_of_ble_eq_true rfl), trivial⟩, trivial⟩⟩, ?_⟩
    refine ⟨⟨Nat.le_of_ble_eq_true rfl, rfl, _, rfl, ceL_flat rfl⟩, ?_⟩
    refine ⟨⟨Nat.le_of_ble_eq_true rfl, rfl, _, rfl, ⟨.ren rfl (Nat.le_of_ble_eq_true rfl), .rows (.cons (.cons (.refl _) (.cons (.refl _) (.cons (.refl _) (.cons (.refl _) (.cons (.nil _) (.cons (.nil _) .nil)))))) .nil), .ren rfl (Nat.le_of_ble_eq_true rfl), ce_flat rfl, trivial⟩⟩, trivial⟩
  · exact ⟨⟨Nat.le_of_ble_eq_true rfl, rfl, _, rfl, ceL_flat rfl⟩, trivial⟩
  · exact (FrC.cons (ce2_free rfl) (FrC.cons (ce2_free rfl) (FrC.cons (ce2_free rfl) (FrC.cons (ce2_p rfl (Nat.le_of_ble_eq_true rfl)) (FrC.cons (ce2_p rfl (Nat.le_of_ble_eq_true rfl)) (FrC.cons (ce2_free rfl) FrC.nil))))))
end
end Go.Eng
