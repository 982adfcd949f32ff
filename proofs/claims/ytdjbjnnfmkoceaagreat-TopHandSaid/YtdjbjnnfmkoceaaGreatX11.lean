/-
What some functions of the library do: as oracles of the abstract run.
-/
import Derived.Test.YtdjbjnnfmkoceaaGreatX05
set_option linter.unusedVariables false
set_option linter.unusedSimpArgs false
namespace Go.Eng
open Go
def BT (args:List V) (h:aA):Option (V×aA):=
 match args with
 |[.p (.g k) off,.i .i64 n]=>match h.get k with
  |some (.cs c)=>match c[off]? with
   |some (.i .i64 m)=>some (.i .i64 (IntKind.i64.wrap (m+n)),h.set k (.cs (c.set off (.i .i64 (IntKind.i64.wrap (m+n))))))
   |_=>none
  |_=>none
 |_=>none
def Ui (keys:Nat) (args:List V) (h:aA):Option (V×aA):=
 match args with
 |[.fn f [] [.p (.g k) off]]=>match Nat.beq f keys&&Nat.beq off 0 with
  |true=>match h.get k with
   |some (.cs c)=>match c[off]? with
    |some (.m (.g mk))=>match h.get mk with
     |some (.mp none [(.s x,_)])=>match decide (x.length<=9223372036854775807) with
      |true=>some (.sl none 1 [[.s x]],h)
      |false=>none
     |_=>none
    |_=>none
   |_=>none
  |false=>none
 |_=>none
def FK:List UInt8->List UInt8->Int
 |[],[]=>0
 |[],_::_=>-1
 |_::_,[]=>1
 |a::r,b::q=>match Nat.blt a.toNat b.toNat with
  |true=>-1
  |false=>match Nat.blt b.toNat a.toNat with
   |true=>1
   |false=>FK r q
end Go.Eng
