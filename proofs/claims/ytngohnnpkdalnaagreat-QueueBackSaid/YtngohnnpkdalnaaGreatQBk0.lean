/-
QueueBack: memory at its loop's head.
-/
import Derived.Test.YtngohnnpkdalnaaGreatFit4
import Derived.Test.YtngohnnpkdalnaaGreatFitB5
import Derived.Test.YtngohnnpkdalnaaGreatAfY2
namespace Go.Eng
open Go
/-- The pod as it waits, of such a Uid. -/
def qD (p : PodD) (u : Int) : PodD := ⟨p.name, u, p.prio, p.req, p.ports, p.labels, p.sel, p.tols, p.topo, p.anti, p.skew, p.even, [], 0⟩
theorem tmod10 (n : Int) : -9 ≤ n.tmod 10 ∧ n.tmod 10 ≤ 9 := by
  have h1 := Int.lt_tmod_of_pos n (show (0:Int) < 10 by decide)
  have h2 := Int.tmod_lt_of_pos n (show (0:Int) < 10 by decide)
  omega
def frQ (n : Int) (k : Nat) : Fr :=
  match k with
  | 0 => [(9, .i .i64 0), (8, .i .i64 50), (7, .i .i64 0), (6, .p (.g 0) 0), (3, .p (.l 0) 0), (0, .i .i64 n)]
  | 1 => [(9, .i .i64 1), (8, .i .i64 100), (7, .i .i64 50), (6, .p (.g 0) 0), (3, .p (.l 0) 0), (0, .i .i64 n)]
  | 2 => [(9, .i .i64 2), (8, .i .i64 200), (7, .i .i64 150), (6, .p (.g 0) 0), (3, .p (.l 0) 0), (0, .i .i64 n)]
  | 3 => [(9, .i .i64 3), (8, .i .i64 400), (7, .i .i64 350), (6, .p (.g 0) 0), (3, .p (.l 0) 0), (0, .i .i64 n)]
  | 4 => [(9, .i .i64 4), (8, .i .i64 400), (7, .i .i64 750), (6, .p (.g 0) 0), (3, .p (.l 0) 0), (0, .i .i64 n)]
  | 5 => [(9, .i .i64 5), (8, .i .i64 400), (7, .i .i64 1150), (6, .p (.g 0) 0), (3, .p (.l 0) 0), (0, .i .i64 n)]
  | 6 => [(9, .i .i64 6), (8, .i .i64 400), (7, .i .i64 1550), (6, .p (.g 0) 0), (3, .p (.l 0) 0), (0, .i .i64 n)]
  | 7 => [(9, .i .i64 7), (8, .i .i64 400), (7, .i .i64 1950), (6, .p (.g 0) 0), (3, .p (.l 0) 0), (0, .i .i64 n)]
  | 8 => [(9, .i .i64 8), (8, .i .i64 400), (7, .i .i64 2350), (6, .p (.g 0) 0), (3, .p (.l 0) 0), (0, .i .i64 n)]
  | 9 => [(9, .i .i64 9), (8, .i .i64 400), (7, .i .i64 2750), (6, .p (.g 0) 0), (3, .p (.l 0) 0), (0, .i .i64 n)]
  | _ => [(9, .i .i64 10), (8, .i .i64 400), (7, .i .i64 3150), (6, .p (.g 0) 0), (3, .p (.l 0) 0), (0, .i .i64 n)]
def stQ (p : PodD) (k : Nat) : St :=
  match k with
  | 0 => ⟨⟨1, [(0, .cs [.nils, .nils, .nils, .b false])]⟩, ⟨1, [(0, .cs (podR p))]⟩⟩
  | 1 => ⟨⟨4, [(3, .arr 16 [podR p]), (2, .arr 1 [[.p (.g 1) 0]]), (1, .cs (podR p ++ [.b false, .i .i64 1, .i .i64 50])), (0, .cs [.ms (.g 2) 1 0 1, .sl none 6 [nodeR ⟨[110], ⟨0, 1, 0⟩, [], []⟩], .ms (.g 3) 16 0 1, .b true])]⟩, ⟨1, [(0, .cs (podR p))]⟩⟩
  | 2 => ⟨⟨4, [(3, .arr 16 [podR p]), (2, .arr 1 [[.p (.g 1) 0]]), (1, .cs (podR p ++ [.b false, .i .i64 2, .i .i64 150])), (0, .cs [.ms (.g 2) 1 0 1, .sl none 6 [nodeR ⟨[110], ⟨1, 2, 0⟩, [], []⟩], .ms (.g 3) 16 0 1, .b true])]⟩, ⟨1, [(0, .cs (podR p))]⟩⟩
  | 3 => ⟨⟨4, [(3, .arr 16 [podR p]), (2, .arr 1 [[.p (.g 1) 0]]), (1, .cs (podR p ++ [.b false, .i .i64 3, .i .i64 350])), (0, .cs [.ms (.g 2) 1 0 1, .sl none 6 [nodeR ⟨[110], ⟨2, 3, 0⟩, [], []⟩], .ms (.g 3) 16 0 1, .b true])]⟩, ⟨1, [(0, .cs (podR p))]⟩⟩
  | 4 => ⟨⟨4, [(3, .arr 16 [podR p]), (2, .arr 1 [[.p (.g 1) 0]]), (1, .cs (podR p ++ [.b false, .i .i64 4, .i .i64 750])), (0, .cs [.ms (.g 2) 1 0 1, .sl none 6 [nodeR ⟨[110], ⟨3, 4, 0⟩, [], []⟩], .ms (.g 3) 16 0 1, .b true])]⟩, ⟨1, [(0, .cs (podR p))]⟩⟩
  | 5 => ⟨⟨4, [(3, .arr 16 [podR p]), (2, .arr 1 [[.p (.g 1) 0]]), (1, .cs (podR p ++ [.b false, .i .i64 5, .i .i64 1150])), (0, .cs [.ms (.g 2) 1 0 1, .sl none 6 [nodeR ⟨[110], ⟨4, 5, 0⟩, [], []⟩], .ms (.g 3) 16 0 1, .b true])]⟩, ⟨1, [(0, .cs (podR p))]⟩⟩
  | 6 => ⟨⟨4, [(3, .arr 16 [podR p]), (2, .arr 1 [[.p (.g 1) 0]]), (1, .cs (podR p ++ [.b false, .i .i64 6, .i .i64 1550])), (0, .cs [.ms (.g 2) 1 0 1, .sl none 6 [nodeR ⟨[110], ⟨5, 6, 0⟩, [], []⟩], .ms (.g 3) 16 0 1, .b true])]⟩, ⟨1, [(0, .cs (podR p))]⟩⟩
  | 7 => ⟨⟨4, [(3, .arr 16 [podR p]), (2, .arr 1 [[.p (.g 1) 0]]), (1, .cs (podR p ++ [.b false, .i .i64 7, .i .i64 1950])), (0, .cs [.ms (.g 2) 1 0 1, .sl none 6 [nodeR ⟨[110], ⟨6, 7, 0⟩, [], []⟩], .ms (.g 3) 16 0 1, .b true])]⟩, ⟨1, [(0, .cs (podR p))]⟩⟩
  | 8 => ⟨⟨4, [(3, .arr 16 [podR p]), (2, .arr 1 [[.p (.g 1) 0]]), (1, .cs (podR p ++ [.b false, .i .i64 8, .i .i64 2350])), (0, .cs [.ms (.g 2) 1 0 1, .sl none 6 [nodeR ⟨[110], ⟨7, 8, 0⟩, [], []⟩], .ms (.g 3) 16 0 1, .b true])]⟩, ⟨1, [(0, .cs (podR p))]⟩⟩
  | 9 => ⟨⟨4, [(3, .arr 16 [podR p]), (2, .arr 1 [[.p (.g 1) 0]]), (1, .cs (podR p ++ [.b false, .i .i64 9, .i .i64 2750])), (0, .cs [.ms (.g 2) 1 0 1, .sl none 6 [nodeR ⟨[110], ⟨8, 9, 0⟩, [], []⟩], .ms (.g 3) 16 0 1, .b true])]⟩, ⟨1, [(0, .cs (podR p))]⟩⟩
  | _ => ⟨⟨4, [(3, .arr 16 [podR p]), (2, .arr 1 [[.p (.g 1) 0]]), (1, .cs (podR p ++ [.b false, .i .i64 10, .i .i64 3150])), (0, .cs [.ms (.g 2) 1 0 1, .sl none 6 [nodeR ⟨[110], ⟨9, 10, 0⟩, [], []⟩], .ms (.g 3) 16 0 1, .b true])]⟩, ⟨1, [(0, .cs (podR p))]⟩⟩
end Go.Eng
