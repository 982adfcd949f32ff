/-
Short names for the abstract texts.
-/
import Derived.Test.YtfobkjdmohaakaaGreatEngExec
namespace Go.Eng
instance instOpdNat (n : Nat) : OfNat Opd n := ⟨.t n⟩
abbrev kI (n : Int) : Opd := .c (.i .i64 n)
abbrev kT : Opd := .c (.b true)
abbrev kF : Opd := .c (.b false)
abbrev vI (n : Int) : V := .i .i64 n
abbrev vS : V := .s []
abbrev oO (d : Nat) (o : AOp) (k : List Nat) : AOper := ⟨some d, o, none, k⟩
abbrev oM (d : Nat) (x : Opd) (k : List Nat) : AOper := ⟨some d, .mv x, none, k⟩
abbrev oA (d : Nat) (x : Opd) (k : List Nat) : AOper := ⟨some d, .asg x, none, k⟩
abbrev oN (o : AOp) (k : List Nat) : AOper := ⟨none, o, none, k⟩
abbrev oG (d : Nat) (o : AOp) (t : Nat) (k : List Nat) : AOper := ⟨some d, o, some (t, true), k⟩
abbrev oH (d : Nat) (o : AOp) (t : Nat) (k : List Nat) : AOper := ⟨some d, o, some (t, false), k⟩
abbrev rR (l : List AOper) : AC := .reg l
abbrev rS (l : List AOper) (c : AC) : AC := .seq (.reg l) c
end Go.Eng
