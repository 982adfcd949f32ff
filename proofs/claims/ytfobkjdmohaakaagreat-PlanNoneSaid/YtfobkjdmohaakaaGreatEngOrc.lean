/-
What some functions of the library do: as oracles of the abstract run.
-/
import Derived.Test.YtfobkjdmohaakaaGreatEngExec
namespace Go.Eng
open Go

/-- (*sync/atomic.Int64).Add -/
def addRun (args : List V) (h : Heap) : Option (V × Heap) :=
  match args with
  | [.p (.g k) off, .i .i64 n] => match h.get k with
    | some (.cs c) => match c[off]? with
      | some (.i .i64 m) => some (.i .i64 (IntKind.i64.wrap (m + n)), h.set k (.cs (c.set off (.i .i64 (IntKind.i64.wrap (m + n))))))
      | _ => none
    | _ => none
  | _ => none
/-- slices.Sorted of a map's keys, where the map has just one. -/
def sortedRun (keys : Nat) (args : List V) (h : Heap) : Option (V × Heap) :=
  match args with
  | [.fn f [] [.p (.g k) off]] => match Nat.beq f keys && Nat.beq off 0 with
    | true => match h.get k with
      | some (.cs c) => match c[off]? with
        | some (.m (.g mk)) => match h.get mk with
          | some (.mp none [(.s x, _)]) => match decide (x.length ≤ 9223372036854775807) with
            | true => some (.sl none 1 [[.s x]], h)
            | false => none
          | _ => none
        | _ => none
      | _ => none
    | false => none
  | _ => none
def orcOf (add sorted keys : Nat) : Orc := fun f args h =>
  match Nat.beq f add with
  | true => addRun args h
  | false => match Nat.beq f sorted with
    | true => sortedRun keys args h
    | false => none
/-- Some closed functions that are known to answer true. -/
def known (cs : List Nat) (base : Orc) : Orc := fun f args h =>
  match memNat f cs with
  | true => match args with
    | [] => some (.b true, h)
    | _ => none
  | false => base f args h
/-- Strings, compared. -/
def cmpB : List UInt8 → List UInt8 → Int
  | [], [] => 0
  | [], _ :: _ => -1
  | _ :: _, [] => 1
  | a :: r, b :: q => match Nat.blt a.toNat b.toNat with
    | true => -1
    | false => match Nat.blt b.toNat a.toNat with
      | true => 1
      | false => cmpB r q
/-- internal/bytealg.CompareString, besides. -/
def orcC (cmp : Nat) (base : Orc) : Orc := fun f args h =>
  match Nat.beq f cmp with
  | true => match args with
    | [.s a, .s b] => some (.i .i64 (cmpB a b), h)
    | _ => none
  | false => base f args h
def isTrue : Option (V × Heap) → Bool
  | some (.b true, _) => true
  | _ => false
theorem isTrue_spec {o : Option (V × Heap)} (h : isTrue o = true) : ∃ h', o = some (.b true, h') := by
  unfold isTrue at h
  split at h
  · exact ⟨_, rfl⟩
  · cases h
end Go.Eng
