/-
Small facts of integers for the laws.
-/
import Derived.Test.YtjoaahnmbonboaaGreatAfT
import Derived.Test.YtjoaahnmbonboaaGreatEngSymF
import Derived.Test.YtjoaahnmbonboaaGreatClk0
namespace Go.Eng
open Go
theorem clip_in {hi : Int} (x : Int) (h : 0 ≤ hi) : 0 ≤ maxI 0 (minI x hi) ∧ maxI 0 (minI x hi) ≤ hi := by unfold maxI minI; split <;> split <;> omega
theorem tm2' (n : Int) : -1 ≤ n.tmod 2 ∧ n.tmod 2 ≤ 1 := by
  have h2 := Int.natAbs_tmod n 2
  have h3 : (n.tmod 2).natAbs < 2 := by rw [h2]; exact Nat.mod_lt _ (by decide)
  omega
theorem tm5' (n : Int) : -4 ≤ n.tmod 5 ∧ n.tmod 5 ≤ 4 := by
  have h2 := Int.natAbs_tmod n 5
  have h3 : (n.tmod 5).natAbs < 5 := by rw [h2]; exact Nat.mod_lt _ (by decide)
  omega
theorem tm7' (n : Int) : -6 ≤ n.tmod 7 ∧ n.tmod 7 ≤ 6 := by
  have h2 := Int.natAbs_tmod n 7
  have h3 : (n.tmod 7).natAbs < 7 := by rw [h2]; exact Nat.mod_lt _ (by decide)
  omega
theorem tm8' (n : Int) : -7 ≤ n.tmod 8 ∧ n.tmod 8 ≤ 7 := by
  have h2 := Int.natAbs_tmod n 8
  have h3 : (n.tmod 8).natAbs < 8 := by rw [h2]; exact Nat.mod_lt _ (by decide)
  omega
end Go.Eng
