/-
  No cell of these rows narrows 'for every input' (looked for: loops, veiled, ifaces, maps, wideKeys, modest, calm, conditions, laid).
  DERIVED. THE GIVEN ROWS OF THIS SEAT. 5 by the template 'for every input the law returns true; each argument reads behind the call as it read before'; 0 by the template 'total and deterministic' (their statements: YtllgfkpmblhbmaaGreatTotals.lean).
  GIVEN WITH THE SEED: the statements are not yours to turn. If you find one false, say at which input.
  Laid BY PROGRAM, IN A SANDBOX (cutbox-rows.mjs): the forced cells as the released guide's own fill.sh prints them over the translation ce050c7a8bb96c59… (all of the seat's roots in one cut). By AI agents, Wed Nov 11 2026. No macro, syntax, notation, axiom, sorry.
-/
import Derived.Test.YtllgfkpmblhbmaaGreatChecked
import GoSem.Claim
import GoSem.ClaimJoined
import GoSem.ClaimMapViews
import Derived.JoinedTies
import Derived.KernelRfl
namespace Go.Proofs.YtllgfkpmblhbmaaGreat
/- THE CELL 'sum', in the pinned program and in every row, IS THE sha256 OF THE DUMP (.gsa) THAT YtllgfkpmblhbmaaGreatProg.lean LOADS. Nothing in Lean hashes anything: it is a label: what it is worth is what the hold of that sum in a sandbox is worth. -/
noncomputable def Tryz.pinned : Pinned := { name := "ytllgfkpmblhbmaagreat", sum := "ce050c7a8bb96c59426d760eeb0b0bbc775c7d95052d56760b849e1b7d8916da", checked := Tryz.checked }
namespace Rows
def none {H : Type} : Left H := { results := [], args := [] }

/-- 'interrexlaw18.EvictAll': WHATEVER THE INPUT: true; the input reads as it did. -/
def evictAllSpec : ChangeSpec := { name := "evictAll", fn := fun _ => fun
  | [d1, d2, d3] => { results := [.lit (.bool true)], args := [d1, d2, d3] }
  | _ => none }
def evictAllRow : OpenClaim := { program := "ytllgfkpmblhbmaagreat", sum := "ce050c7a8bb96c59426d760eeb0b0bbc775c7d95052d56760b849e1b7d8916da", func := "interrex/interrexlaw18.EvictAll", spec := "evictAll", inPlace := ["internal/bytealg.abigen_runtime_cmpstring", "slices.overlaps[interrex/api.Pod]", "sync/atomic.LoadUint32", "(*internal/sync.Mutex).Lock", "internal/race.Disable", "sync/atomic.CompareAndSwapInt32", "internal/race.Enable", "internal/race.Acquire", "(*internal/sync.Mutex).lockSlow", "internal/sync.runtime_canSpin", "internal/sync.runtime_doSpin", "internal/sync.throw", "internal/sync.runtime_nanotime", "internal/sync.runtime_SemacquireMutex", "sync/atomic.AddInt32", "(*internal/sync.Mutex).Unlock", "internal/race.ReleaseMerge", "(*internal/sync.Mutex).unlockSlow", "internal/sync.fatal", "internal/sync.runtime_Semrelease", "sync/atomic.StoreUint32", "sync/atomic.AddInt64"], unfollowed := true, recurses := true, apart := false }
def EvictAllSaid : Prop := evictAllRow.holds Tryz.pinned (OpenSpec.ofChange evictAllSpec)

/-- ITS FALSE NEIGHBOUR: 'it returns false'. Refute it at one input. -/
def evictAllWrong : ChangeSpec := { name := "evictAll", fn := fun _ => fun
  | [d1, d2, d3] => { results := [.lit (.bool false)], args := [d1, d2, d3] }
  | _ => none }
def EvictAllWrongFalsely : Prop := evictAllRow.holds Tryz.pinned (OpenSpec.ofChange evictAllWrong)

/-- 'interrexlaw18.TopoEven': WHATEVER THE INPUT: true; the input reads as it did. -/
def topoEvenSpec : ChangeSpec := { name := "topoEven", fn := fun _ => fun
  | [d1, d2, d3] => { results := [.lit (.bool true)], args := [d1, d2, d3] }
  | _ => none }
def topoEvenRow : OpenClaim := { program := "ytllgfkpmblhbmaagreat", sum := "ce050c7a8bb96c59426d760eeb0b0bbc775c7d95052d56760b849e1b7d8916da", func := "interrex/interrexlaw18.TopoEven", spec := "topoEven", inPlace := ["internal/bytealg.abigen_runtime_cmpstring", "slices.overlaps[interrex/api.Pod]", "sync/atomic.LoadUint32", "(*internal/sync.Mutex).Lock", "internal/race.Disable", "sync/atomic.CompareAndSwapInt32", "internal/race.Enable", "internal/race.Acquire", "(*internal/sync.Mutex).lockSlow", "internal/sync.runtime_canSpin", "internal/sync.runtime_doSpin", "internal/sync.throw", "internal/sync.runtime_nanotime", "internal/sync.runtime_SemacquireMutex", "sync/atomic.AddInt32", "(*internal/sync.Mutex).Unlock", "internal/race.ReleaseMerge", "(*internal/sync.Mutex).unlockSlow", "internal/sync.fatal", "internal/sync.runtime_Semrelease", "sync/atomic.StoreUint32", "sync/atomic.AddInt64"], unfollowed := true, recurses := true, apart := false }
def TopoEvenSaid : Prop := topoEvenRow.holds Tryz.pinned (OpenSpec.ofChange topoEvenSpec)

/-- ITS FALSE NEIGHBOUR: 'it returns false'. Refute it at one input. -/
def topoEvenWrong : ChangeSpec := { name := "topoEven", fn := fun _ => fun
  | [d1, d2, d3] => { results := [.lit (.bool false)], args := [d1, d2, d3] }
  | _ => none }
def TopoEvenWrongFalsely : Prop := topoEvenRow.holds Tryz.pinned (OpenSpec.ofChange topoEvenWrong)

/-- 'interrexlaw18.TopoApart': WHATEVER THE INPUT: true; the input reads as it did. -/
def topoApartSpec : ChangeSpec := { name := "topoApart", fn := fun _ => fun
  | [d1, d2] => { results := [.lit (.bool true)], args := [d1, d2] }
  | _ => none }
def topoApartRow : OpenClaim := { program := "ytllgfkpmblhbmaagreat", sum := "ce050c7a8bb96c59426d760eeb0b0bbc775c7d95052d56760b849e1b7d8916da", func := "interrex/interrexlaw18.TopoApart", spec := "topoApart", inPlace := ["internal/bytealg.abigen_runtime_cmpstring", "slices.overlaps[interrex/api.Pod]", "sync/atomic.LoadUint32", "(*internal/sync.Mutex).Lock", "internal/race.Disable", "sync/atomic.CompareAndSwapInt32", "internal/race.Enable", "internal/race.Acquire", "(*internal/sync.Mutex).lockSlow", "internal/sync.runtime_canSpin", "internal/sync.runtime_doSpin", "internal/sync.throw", "internal/sync.runtime_nanotime", "internal/sync.runtime_SemacquireMutex", "sync/atomic.AddInt32", "(*internal/sync.Mutex).Unlock", "internal/race.ReleaseMerge", "(*internal/sync.Mutex).unlockSlow", "internal/sync.fatal", "internal/sync.runtime_Semrelease", "sync/atomic.StoreUint32", "sync/atomic.AddInt64"], unfollowed := true, recurses := true, apart := false }
def TopoApartSaid : Prop := topoApartRow.holds Tryz.pinned (OpenSpec.ofChange topoApartSpec)

/-- ITS FALSE NEIGHBOUR: 'it returns false'. Refute it at one input. -/
def topoApartWrong : ChangeSpec := { name := "topoApart", fn := fun _ => fun
  | [d1, d2] => { results := [.lit (.bool false)], args := [d1, d2] }
  | _ => none }
def TopoApartWrongFalsely : Prop := topoApartRow.holds Tryz.pinned (OpenSpec.ofChange topoApartWrong)

/-- 'interrexlaw18.PlanFirst': WHATEVER THE INPUT: true; the input reads as it did. -/
def planFirstSpec : ChangeSpec := { name := "planFirst", fn := fun _ => fun
  | [d1, d2, d3] => { results := [.lit (.bool true)], args := [d1, d2, d3] }
  | _ => none }
def planFirstRow : OpenClaim := { program := "ytllgfkpmblhbmaagreat", sum := "ce050c7a8bb96c59426d760eeb0b0bbc775c7d95052d56760b849e1b7d8916da", func := "interrex/interrexlaw18.PlanFirst", spec := "planFirst", inPlace := ["internal/bytealg.abigen_runtime_cmpstring", "slices.overlaps[interrex/api.Pod]", "sync/atomic.LoadUint32", "(*internal/sync.Mutex).Lock", "internal/race.Disable", "sync/atomic.CompareAndSwapInt32", "internal/race.Enable", "internal/race.Acquire", "(*internal/sync.Mutex).lockSlow", "internal/sync.runtime_canSpin", "internal/sync.runtime_doSpin", "internal/sync.throw", "internal/sync.runtime_nanotime", "internal/sync.runtime_SemacquireMutex", "sync/atomic.AddInt32", "(*internal/sync.Mutex).Unlock", "internal/race.ReleaseMerge", "(*internal/sync.Mutex).unlockSlow", "internal/sync.fatal", "internal/sync.runtime_Semrelease", "sync/atomic.StoreUint32", "sync/atomic.AddInt64"], unfollowed := true, recurses := true, apart := false }
def PlanFirstSaid : Prop := planFirstRow.holds Tryz.pinned (OpenSpec.ofChange planFirstSpec)

/-- ITS FALSE NEIGHBOUR: 'it returns false'. Refute it at one input. -/
def planFirstWrong : ChangeSpec := { name := "planFirst", fn := fun _ => fun
  | [d1, d2, d3] => { results := [.lit (.bool false)], args := [d1, d2, d3] }
  | _ => none }
def PlanFirstWrongFalsely : Prop := planFirstRow.holds Tryz.pinned (OpenSpec.ofChange planFirstWrong)

/-- 'interrexlaw18.QueueTurns': WHATEVER THE INPUT: true; the input reads as it did. -/
def queueTurnsSpec : ChangeSpec := { name := "queueTurns", fn := fun _ => fun
  | [d] => { results := [.lit (.bool true)], args := [d] }
  | _ => none }
def queueTurnsRow : OpenClaim := { program := "ytllgfkpmblhbmaagreat", sum := "ce050c7a8bb96c59426d760eeb0b0bbc775c7d95052d56760b849e1b7d8916da", func := "interrex/interrexlaw18.QueueTurns", spec := "queueTurns", inPlace := ["internal/bytealg.abigen_runtime_cmpstring", "slices.overlaps[interrex/api.Pod]", "sync/atomic.LoadUint32", "(*internal/sync.Mutex).Lock", "internal/race.Disable", "sync/atomic.CompareAndSwapInt32", "internal/race.Enable", "internal/race.Acquire", "(*internal/sync.Mutex).lockSlow", "internal/sync.runtime_canSpin", "internal/sync.runtime_doSpin", "internal/sync.throw", "internal/sync.runtime_nanotime", "internal/sync.runtime_SemacquireMutex", "sync/atomic.AddInt32", "(*internal/sync.Mutex).Unlock", "internal/race.ReleaseMerge", "(*internal/sync.Mutex).unlockSlow", "internal/sync.fatal", "internal/sync.runtime_Semrelease", "sync/atomic.StoreUint32", "sync/atomic.AddInt64"], unfollowed := true, recurses := true, apart := false }
def QueueTurnsSaid : Prop := queueTurnsRow.holds Tryz.pinned (OpenSpec.ofChange queueTurnsSpec)

/-- ITS FALSE NEIGHBOUR: 'it returns false'. Refute it at one input. -/
def queueTurnsWrong : ChangeSpec := { name := "queueTurns", fn := fun _ => fun
  | [d] => { results := [.lit (.bool false)], args := [d] }
  | _ => none }
def QueueTurnsWrongFalsely : Prop := queueTurnsRow.holds Tryz.pinned (OpenSpec.ofChange queueTurnsWrong)

/- THE SECOND FORM. 'bulk': how many values and letters a reading holds, each counted each time it is reached (what is shared counts as often as it is met; a slice's spare places count too). A statement '..UptoSaid' is the law's where the arguments, and the package variables that the reading takes, are together of bulk at most 1048576: NARROWER than '..Said'. Prove '..Said' where nothing that the law and all that it calls make is longer than what came in: it says more and counts as full. Else prove '..UptoSaid'. A law counts once. -/
mutual
def uptoBulk {H : Type} : DataW H → Nat
  | .lit (.string bytes) => bytes.length + 1
  | .lit _ => 1
  | .nil => 1
  | .ptr d => uptoBulk d + 1
  | .slice elems spare => uptoBulkAll elems + uptoBulkAll spare + 1
  | .agg parts => uptoBulkAll parts + 1
  | .iface _ d => uptoBulk d + 1
  | .map entries => uptoBulkEntries entries + 1
  | .held _ => 1
def uptoBulkAll {H : Type} : List (DataW H) → Nat
  | [] => 0
  | d :: r => uptoBulk d + uptoBulkAll r
def uptoBulkEntries {H : Type} : List (Lit × DataW H) → Nat
  | [] => 0
  | x :: r => uptoBulkEntry x + uptoBulkEntries r
def uptoBulkEntry {H : Type} : Lit × DataW H → Nat
  | (.string bytes, d) => bytes.length + uptoBulk d + 1
  | (_, d) => uptoBulk d + 1
 end
def uptoSmall : (H : Type) → List (DataW H) → Bool := fun _ ds => decide (uptoBulkAll ds ≤ 1048576)
def OpenSpec.upto (s : _root_.Go.ChangeSpec) : _root_.Go.OpenSpec := { _root_.Go.OpenSpec.ofChange s with cond := some uptoSmall }

/-- 'interrexlaw18.EvictAll', WHERE WHAT IT READS IS OF BULK AT MOST 1048576: true; the input reads as it did. -/
def evictAllUptoRow : OpenClaim := { program := "ytllgfkpmblhbmaagreat", sum := "ce050c7a8bb96c59426d760eeb0b0bbc775c7d95052d56760b849e1b7d8916da", func := "interrex/interrexlaw18.EvictAll", spec := "evictAll", inPlace := ["internal/bytealg.abigen_runtime_cmpstring", "slices.overlaps[interrex/api.Pod]", "sync/atomic.LoadUint32", "(*internal/sync.Mutex).Lock", "internal/race.Disable", "sync/atomic.CompareAndSwapInt32", "internal/race.Enable", "internal/race.Acquire", "(*internal/sync.Mutex).lockSlow", "internal/sync.runtime_canSpin", "internal/sync.runtime_doSpin", "internal/sync.throw", "internal/sync.runtime_nanotime", "internal/sync.runtime_SemacquireMutex", "sync/atomic.AddInt32", "(*internal/sync.Mutex).Unlock", "internal/race.ReleaseMerge", "(*internal/sync.Mutex).unlockSlow", "internal/sync.fatal", "internal/sync.runtime_Semrelease", "sync/atomic.StoreUint32", "sync/atomic.AddInt64"], unfollowed := true, recurses := true, apart := false, narrowed := true }
def EvictAllUptoSaid : Prop := evictAllUptoRow.holds Tryz.pinned (OpenSpec.upto evictAllSpec)

/-- 'interrexlaw18.TopoEven', WHERE WHAT IT READS IS OF BULK AT MOST 1048576: true; the input reads as it did. -/
def topoEvenUptoRow : OpenClaim := { program := "ytllgfkpmblhbmaagreat", sum := "ce050c7a8bb96c59426d760eeb0b0bbc775c7d95052d56760b849e1b7d8916da", func := "interrex/interrexlaw18.TopoEven", spec := "topoEven", inPlace := ["internal/bytealg.abigen_runtime_cmpstring", "slices.overlaps[interrex/api.Pod]", "sync/atomic.LoadUint32", "(*internal/sync.Mutex).Lock", "internal/race.Disable", "sync/atomic.CompareAndSwapInt32", "internal/race.Enable", "internal/race.Acquire", "(*internal/sync.Mutex).lockSlow", "internal/sync.runtime_canSpin", "internal/sync.runtime_doSpin", "internal/sync.throw", "internal/sync.runtime_nanotime", "internal/sync.runtime_SemacquireMutex", "sync/atomic.AddInt32", "(*internal/sync.Mutex).Unlock", "internal/race.ReleaseMerge", "(*internal/sync.Mutex).unlockSlow", "internal/sync.fatal", "internal/sync.runtime_Semrelease", "sync/atomic.StoreUint32", "sync/atomic.AddInt64"], unfollowed := true, recurses := true, apart := false, narrowed := true }
def TopoEvenUptoSaid : Prop := topoEvenUptoRow.holds Tryz.pinned (OpenSpec.upto topoEvenSpec)

/-- 'interrexlaw18.TopoApart', WHERE WHAT IT READS IS OF BULK AT MOST 1048576: true; the input reads as it did. -/
def topoApartUptoRow : OpenClaim := { program := "ytllgfkpmblhbmaagreat", sum := "ce050c7a8bb96c59426d760eeb0b0bbc775c7d95052d56760b849e1b7d8916da", func := "interrex/interrexlaw18.TopoApart", spec := "topoApart", inPlace := ["internal/bytealg.abigen_runtime_cmpstring", "slices.overlaps[interrex/api.Pod]", "sync/atomic.LoadUint32", "(*internal/sync.Mutex).Lock", "internal/race.Disable", "sync/atomic.CompareAndSwapInt32", "internal/race.Enable", "internal/race.Acquire", "(*internal/sync.Mutex).lockSlow", "internal/sync.runtime_canSpin", "internal/sync.runtime_doSpin", "internal/sync.throw", "internal/sync.runtime_nanotime", "internal/sync.runtime_SemacquireMutex", "sync/atomic.AddInt32", "(*internal/sync.Mutex).Unlock", "internal/race.ReleaseMerge", "(*internal/sync.Mutex).unlockSlow", "internal/sync.fatal", "internal/sync.runtime_Semrelease", "sync/atomic.StoreUint32", "sync/atomic.AddInt64"], unfollowed := true, recurses := true, apart := false, narrowed := true }
def TopoApartUptoSaid : Prop := topoApartUptoRow.holds Tryz.pinned (OpenSpec.upto topoApartSpec)

/-- 'interrexlaw18.PlanFirst', WHERE WHAT IT READS IS OF BULK AT MOST 1048576: true; the input reads as it did. -/
def planFirstUptoRow : OpenClaim := { program := "ytllgfkpmblhbmaagreat", sum := "ce050c7a8bb96c59426d760eeb0b0bbc775c7d95052d56760b849e1b7d8916da", func := "interrex/interrexlaw18.PlanFirst", spec := "planFirst", inPlace := ["internal/bytealg.abigen_runtime_cmpstring", "slices.overlaps[interrex/api.Pod]", "sync/atomic.LoadUint32", "(*internal/sync.Mutex).Lock", "internal/race.Disable", "sync/atomic.CompareAndSwapInt32", "internal/race.Enable", "internal/race.Acquire", "(*internal/sync.Mutex).lockSlow", "internal/sync.runtime_canSpin", "internal/sync.runtime_doSpin", "internal/sync.throw", "internal/sync.runtime_nanotime", "internal/sync.runtime_SemacquireMutex", "sync/atomic.AddInt32", "(*internal/sync.Mutex).Unlock", "internal/race.ReleaseMerge", "(*internal/sync.Mutex).unlockSlow", "internal/sync.fatal", "internal/sync.runtime_Semrelease", "sync/atomic.StoreUint32", "sync/atomic.AddInt64"], unfollowed := true, recurses := true, apart := false, narrowed := true }
def PlanFirstUptoSaid : Prop := planFirstUptoRow.holds Tryz.pinned (OpenSpec.upto planFirstSpec)

/-- 'interrexlaw18.QueueTurns', WHERE WHAT IT READS IS OF BULK AT MOST 1048576: true; the input reads as it did. -/
def queueTurnsUptoRow : OpenClaim := { program := "ytllgfkpmblhbmaagreat", sum := "ce050c7a8bb96c59426d760eeb0b0bbc775c7d95052d56760b849e1b7d8916da", func := "interrex/interrexlaw18.QueueTurns", spec := "queueTurns", inPlace := ["internal/bytealg.abigen_runtime_cmpstring", "slices.overlaps[interrex/api.Pod]", "sync/atomic.LoadUint32", "(*internal/sync.Mutex).Lock", "internal/race.Disable", "sync/atomic.CompareAndSwapInt32", "internal/race.Enable", "internal/race.Acquire", "(*internal/sync.Mutex).lockSlow", "internal/sync.runtime_canSpin", "internal/sync.runtime_doSpin", "internal/sync.throw", "internal/sync.runtime_nanotime", "internal/sync.runtime_SemacquireMutex", "sync/atomic.AddInt32", "(*internal/sync.Mutex).Unlock", "internal/race.ReleaseMerge", "(*internal/sync.Mutex).unlockSlow", "internal/sync.fatal", "internal/sync.runtime_Semrelease", "sync/atomic.StoreUint32", "sync/atomic.AddInt64"], unfollowed := true, recurses := true, apart := false, narrowed := true }
def QueueTurnsUptoSaid : Prop := queueTurnsUptoRow.holds Tryz.pinned (OpenSpec.upto queueTurnsSpec)

end Rows
end Go.Proofs.YtllgfkpmblhbmaaGreat
