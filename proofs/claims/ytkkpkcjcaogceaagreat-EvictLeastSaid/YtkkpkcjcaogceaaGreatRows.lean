/-
  No cell of these rows narrows 'for every input' (looked for: loops, veiled, ifaces, maps, wideKeys, modest, calm, conditions, laid).
  DERIVED. THE GIVEN ROWS OF THIS SEAT. 6 by the template 'for every input the law returns true; each argument reads behind the call as it read before'; 0 by the template 'total and deterministic' (their statements: YtkkpkcjcaogceaaGreatTotals.lean).
  GIVEN WITH THE SEED: the statements are not yours to turn. If you find one false, say at which input.
  Laid BY PROGRAM, IN A SANDBOX (cutbox-rows.mjs): the forced cells as the released guide's own fill.sh prints them over the translation 010d0a43ea97164e… (all of the seat's roots in one cut). By AI agents, Wed Nov 11 2026. No macro, syntax, notation, axiom, sorry.
-/
import Derived.Test.YtkkpkcjcaogceaaGreatChecked
import GoSem.Claim
import GoSem.ClaimJoined
import GoSem.ClaimMapViews
import Derived.JoinedTies
import Derived.KernelRfl
namespace Go.Proofs.YtkkpkcjcaogceaaGreat
/- THE CELL 'sum', in the pinned program and in every row, IS THE sha256 OF THE DUMP (.gsa) THAT YtkkpkcjcaogceaaGreatProg.lean LOADS. Nothing in Lean hashes anything: it is a label: what it is worth is what the hold of that sum in a sandbox is worth. -/
noncomputable def Tryz.pinned : Pinned := { name := "ytkkpkcjcaogceaagreat", sum := "010d0a43ea97164e60d6ce9001178ed70a080d9bafb8bff9a16696ec5e9a2979", checked := Tryz.checked }
namespace Rows
def none {H : Type} : Left H := { results := [], args := [] }

/-- 'interrexlaw18.EvictNeed': WHATEVER THE INPUT: true; the input reads as it did. -/
def evictNeedSpec : ChangeSpec := { name := "evictNeed", fn := fun _ => fun
  | [d1, d2] => { results := [.lit (.bool true)], args := [d1, d2] }
  | _ => none }
def evictNeedRow : OpenClaim := { program := "ytkkpkcjcaogceaagreat", sum := "010d0a43ea97164e60d6ce9001178ed70a080d9bafb8bff9a16696ec5e9a2979", func := "interrex/interrexlaw18.EvictNeed", spec := "evictNeed", inPlace := ["internal/bytealg.abigen_runtime_cmpstring", "slices.overlaps[interrex/api.Pod]", "sync/atomic.LoadUint32", "(*internal/sync.Mutex).Lock", "internal/race.Disable", "sync/atomic.CompareAndSwapInt32", "internal/race.Enable", "internal/race.Acquire", "(*internal/sync.Mutex).lockSlow", "internal/sync.runtime_canSpin", "internal/sync.runtime_doSpin", "internal/sync.throw", "internal/sync.runtime_nanotime", "internal/sync.runtime_SemacquireMutex", "sync/atomic.AddInt32", "(*internal/sync.Mutex).Unlock", "internal/race.ReleaseMerge", "(*internal/sync.Mutex).unlockSlow", "internal/sync.fatal", "internal/sync.runtime_Semrelease", "sync/atomic.StoreUint32", "sync/atomic.AddInt64"], unfollowed := true, recurses := true, apart := false }
def EvictNeedSaid : Prop := evictNeedRow.holds Tryz.pinned (OpenSpec.ofChange evictNeedSpec)

/-- ITS FALSE NEIGHBOUR: 'it returns false'. Refute it at one input. -/
def evictNeedWrong : ChangeSpec := { name := "evictNeed", fn := fun _ => fun
  | [d1, d2] => { results := [.lit (.bool false)], args := [d1, d2] }
  | _ => none }
def EvictNeedWrongFalsely : Prop := evictNeedRow.holds Tryz.pinned (OpenSpec.ofChange evictNeedWrong)

/-- 'interrexlaw18.EvictLeast': WHATEVER THE INPUT: true; the input reads as it did. -/
def evictLeastSpec : ChangeSpec := { name := "evictLeast", fn := fun _ => fun
  | [d1, d2] => { results := [.lit (.bool true)], args := [d1, d2] }
  | _ => none }
def evictLeastRow : OpenClaim := { program := "ytkkpkcjcaogceaagreat", sum := "010d0a43ea97164e60d6ce9001178ed70a080d9bafb8bff9a16696ec5e9a2979", func := "interrex/interrexlaw18.EvictLeast", spec := "evictLeast", inPlace := ["internal/bytealg.abigen_runtime_cmpstring", "slices.overlaps[interrex/api.Pod]", "sync/atomic.LoadUint32", "(*internal/sync.Mutex).Lock", "internal/race.Disable", "sync/atomic.CompareAndSwapInt32", "internal/race.Enable", "internal/race.Acquire", "(*internal/sync.Mutex).lockSlow", "internal/sync.runtime_canSpin", "internal/sync.runtime_doSpin", "internal/sync.throw", "internal/sync.runtime_nanotime", "internal/sync.runtime_SemacquireMutex", "sync/atomic.AddInt32", "(*internal/sync.Mutex).Unlock", "internal/race.ReleaseMerge", "(*internal/sync.Mutex).unlockSlow", "internal/sync.fatal", "internal/sync.runtime_Semrelease", "sync/atomic.StoreUint32", "sync/atomic.AddInt64"], unfollowed := true, recurses := true, apart := false }
def EvictLeastSaid : Prop := evictLeastRow.holds Tryz.pinned (OpenSpec.ofChange evictLeastSpec)

/-- ITS FALSE NEIGHBOUR: 'it returns false'. Refute it at one input. -/
def evictLeastWrong : ChangeSpec := { name := "evictLeast", fn := fun _ => fun
  | [d1, d2] => { results := [.lit (.bool false)], args := [d1, d2] }
  | _ => none }
def EvictLeastWrongFalsely : Prop := evictLeastRow.holds Tryz.pinned (OpenSpec.ofChange evictLeastWrong)

/-- 'interrexlaw18.EvictCheap': WHATEVER THE INPUT: true; the input reads as it did. -/
def evictCheapSpec : ChangeSpec := { name := "evictCheap", fn := fun _ => fun
  | [d1, d2] => { results := [.lit (.bool true)], args := [d1, d2] }
  | _ => none }
def evictCheapRow : OpenClaim := { program := "ytkkpkcjcaogceaagreat", sum := "010d0a43ea97164e60d6ce9001178ed70a080d9bafb8bff9a16696ec5e9a2979", func := "interrex/interrexlaw18.EvictCheap", spec := "evictCheap", inPlace := ["internal/bytealg.abigen_runtime_cmpstring", "slices.overlaps[interrex/api.Pod]", "sync/atomic.LoadUint32", "(*internal/sync.Mutex).Lock", "internal/race.Disable", "sync/atomic.CompareAndSwapInt32", "internal/race.Enable", "internal/race.Acquire", "(*internal/sync.Mutex).lockSlow", "internal/sync.runtime_canSpin", "internal/sync.runtime_doSpin", "internal/sync.throw", "internal/sync.runtime_nanotime", "internal/sync.runtime_SemacquireMutex", "sync/atomic.AddInt32", "(*internal/sync.Mutex).Unlock", "internal/race.ReleaseMerge", "(*internal/sync.Mutex).unlockSlow", "internal/sync.fatal", "internal/sync.runtime_Semrelease", "sync/atomic.StoreUint32", "sync/atomic.AddInt64"], unfollowed := true, recurses := true, apart := false }
def EvictCheapSaid : Prop := evictCheapRow.holds Tryz.pinned (OpenSpec.ofChange evictCheapSpec)

/-- ITS FALSE NEIGHBOUR: 'it returns false'. Refute it at one input. -/
def evictCheapWrong : ChangeSpec := { name := "evictCheap", fn := fun _ => fun
  | [d1, d2] => { results := [.lit (.bool false)], args := [d1, d2] }
  | _ => none }
def EvictCheapWrongFalsely : Prop := evictCheapRow.holds Tryz.pinned (OpenSpec.ofChange evictCheapWrong)

/-- 'interrexlaw18.PlanFirst': WHATEVER THE INPUT: true; the input reads as it did. -/
def planFirstSpec : ChangeSpec := { name := "planFirst", fn := fun _ => fun
  | [d1, d2, d3] => { results := [.lit (.bool true)], args := [d1, d2, d3] }
  | _ => none }
def planFirstRow : OpenClaim := { program := "ytkkpkcjcaogceaagreat", sum := "010d0a43ea97164e60d6ce9001178ed70a080d9bafb8bff9a16696ec5e9a2979", func := "interrex/interrexlaw18.PlanFirst", spec := "planFirst", inPlace := ["internal/bytealg.abigen_runtime_cmpstring", "slices.overlaps[interrex/api.Pod]", "sync/atomic.LoadUint32", "(*internal/sync.Mutex).Lock", "internal/race.Disable", "sync/atomic.CompareAndSwapInt32", "internal/race.Enable", "internal/race.Acquire", "(*internal/sync.Mutex).lockSlow", "internal/sync.runtime_canSpin", "internal/sync.runtime_doSpin", "internal/sync.throw", "internal/sync.runtime_nanotime", "internal/sync.runtime_SemacquireMutex", "sync/atomic.AddInt32", "(*internal/sync.Mutex).Unlock", "internal/race.ReleaseMerge", "(*internal/sync.Mutex).unlockSlow", "internal/sync.fatal", "internal/sync.runtime_Semrelease", "sync/atomic.StoreUint32", "sync/atomic.AddInt64"], unfollowed := true, recurses := true, apart := false }
def PlanFirstSaid : Prop := planFirstRow.holds Tryz.pinned (OpenSpec.ofChange planFirstSpec)

/-- ITS FALSE NEIGHBOUR: 'it returns false'. Refute it at one input. -/
def planFirstWrong : ChangeSpec := { name := "planFirst", fn := fun _ => fun
  | [d1, d2, d3] => { results := [.lit (.bool false)], args := [d1, d2, d3] }
  | _ => none }
def PlanFirstWrongFalsely : Prop := planFirstRow.holds Tryz.pinned (OpenSpec.ofChange planFirstWrong)

/-- 'interrexlaw18.TopoEven': WHATEVER THE INPUT: true; the input reads as it did. -/
def topoEvenSpec : ChangeSpec := { name := "topoEven", fn := fun _ => fun
  | [d1, d2, d3] => { results := [.lit (.bool true)], args := [d1, d2, d3] }
  | _ => none }
def topoEvenRow : OpenClaim := { program := "ytkkpkcjcaogceaagreat", sum := "010d0a43ea97164e60d6ce9001178ed70a080d9bafb8bff9a16696ec5e9a2979", func := "interrex/interrexlaw18.TopoEven", spec := "topoEven", inPlace := ["internal/bytealg.abigen_runtime_cmpstring", "slices.overlaps[interrex/api.Pod]", "sync/atomic.LoadUint32", "(*internal/sync.Mutex).Lock", "internal/race.Disable", "sync/atomic.CompareAndSwapInt32", "internal/race.Enable", "internal/race.Acquire", "(*internal/sync.Mutex).lockSlow", "internal/sync.runtime_canSpin", "internal/sync.runtime_doSpin", "internal/sync.throw", "internal/sync.runtime_nanotime", "internal/sync.runtime_SemacquireMutex", "sync/atomic.AddInt32", "(*internal/sync.Mutex).Unlock", "internal/race.ReleaseMerge", "(*internal/sync.Mutex).unlockSlow", "internal/sync.fatal", "internal/sync.runtime_Semrelease", "sync/atomic.StoreUint32", "sync/atomic.AddInt64"], unfollowed := true, recurses := true, apart := false }
def TopoEvenSaid : Prop := topoEvenRow.holds Tryz.pinned (OpenSpec.ofChange topoEvenSpec)

/-- ITS FALSE NEIGHBOUR: 'it returns false'. Refute it at one input. -/
def topoEvenWrong : ChangeSpec := { name := "topoEven", fn := fun _ => fun
  | [d1, d2, d3] => { results := [.lit (.bool false)], args := [d1, d2, d3] }
  | _ => none }
def TopoEvenWrongFalsely : Prop := topoEvenRow.holds Tryz.pinned (OpenSpec.ofChange topoEvenWrong)

/-- 'interrexlaw18.TopoApart': WHATEVER THE INPUT: true; the input reads as it did. -/
def topoApartSpec : ChangeSpec := { name := "topoApart", fn := fun _ => fun
  | [d1, d2] => { results := [.lit (.bool true)], args := [d1, d2] }
  | _ => none }
def topoApartRow : OpenClaim := { program := "ytkkpkcjcaogceaagreat", sum := "010d0a43ea97164e60d6ce9001178ed70a080d9bafb8bff9a16696ec5e9a2979", func := "interrex/interrexlaw18.TopoApart", spec := "topoApart", inPlace := ["internal/bytealg.abigen_runtime_cmpstring", "slices.overlaps[interrex/api.Pod]", "sync/atomic.LoadUint32", "(*internal/sync.Mutex).Lock", "internal/race.Disable", "sync/atomic.CompareAndSwapInt32", "internal/race.Enable", "internal/race.Acquire", "(*internal/sync.Mutex).lockSlow", "internal/sync.runtime_canSpin", "internal/sync.runtime_doSpin", "internal/sync.throw", "internal/sync.runtime_nanotime", "internal/sync.runtime_SemacquireMutex", "sync/atomic.AddInt32", "(*internal/sync.Mutex).Unlock", "internal/race.ReleaseMerge", "(*internal/sync.Mutex).unlockSlow", "internal/sync.fatal", "internal/sync.runtime_Semrelease", "sync/atomic.StoreUint32", "sync/atomic.AddInt64"], unfollowed := true, recurses := true, apart := false }
def TopoApartSaid : Prop := topoApartRow.holds Tryz.pinned (OpenSpec.ofChange topoApartSpec)

/-- ITS FALSE NEIGHBOUR: 'it returns false'. Refute it at one input. -/
def topoApartWrong : ChangeSpec := { name := "topoApart", fn := fun _ => fun
  | [d1, d2] => { results := [.lit (.bool false)], args := [d1, d2] }
  | _ => none }
def TopoApartWrongFalsely : Prop := topoApartRow.holds Tryz.pinned (OpenSpec.ofChange topoApartWrong)

/- THE SECOND FORM. 'bulk': how many values and letters a reading holds, each counted each time it is reached (what is shared counts as often as it is met; a slice's spare places count too). A statement '..UptoSaid' is the law's where the arguments, and the package variables that the reading takes, are together of bulk at most 1048576: NARROWER than '..Said'. Prove '..Said' where nothing that the law and all that it calls make is longer than what came in: it says more and counts as full. Else prove '..UptoSaid'. A law counts once. -/
mutual
def uptoBulk {H : Type} : DataW H → Nat
  | .lit (.string bytes) => bytes.length + 1
  | .lit _ => 1
  | .nil => 1
  | .ptr d => uptoBulk d + 1
  | .slice elems spare => uptoBulkAll elems + uptoBulkAll spare + 1
  | .agg parts => uptoBulkAll parts + 1
  | .iface _ d => uptoBulk d + 1
  | .map entries => uptoBulkEntries entries + 1
  | .held _ => 1
def uptoBulkAll {H : Type} : List (DataW H) → Nat
  | [] => 0
  | d :: r => uptoBulk d + uptoBulkAll r
def uptoBulkEntries {H : Type} : List (Lit × DataW H) → Nat
  | [] => 0
  | x :: r => uptoBulkEntry x + uptoBulkEntries r
def uptoBulkEntry {H : Type} : Lit × DataW H → Nat
  | (.string bytes, d) => bytes.length + uptoBulk d + 1
  | (_, d) => uptoBulk d + 1
 end
def uptoSmall : (H : Type) → List (DataW H) → Bool := fun _ ds => decide (uptoBulkAll ds ≤ 1048576)
def OpenSpec.upto (s : _root_.Go.ChangeSpec) : _root_.Go.OpenSpec := { _root_.Go.OpenSpec.ofChange s with cond := some uptoSmall }

/-- 'interrexlaw18.EvictNeed', WHERE WHAT IT READS IS OF BULK AT MOST 1048576: true; the input reads as it did. -/
def evictNeedUptoRow : OpenClaim := { program := "ytkkpkcjcaogceaagreat", sum := "010d0a43ea97164e60d6ce9001178ed70a080d9bafb8bff9a16696ec5e9a2979", func := "interrex/interrexlaw18.EvictNeed", spec := "evictNeed", inPlace := ["internal/bytealg.abigen_runtime_cmpstring", "slices.overlaps[interrex/api.Pod]", "sync/atomic.LoadUint32", "(*internal/sync.Mutex).Lock", "internal/race.Disable", "sync/atomic.CompareAndSwapInt32", "internal/race.Enable", "internal/race.Acquire", "(*internal/sync.Mutex).lockSlow", "internal/sync.runtime_canSpin", "internal/sync.runtime_doSpin", "internal/sync.throw", "internal/sync.runtime_nanotime", "internal/sync.runtime_SemacquireMutex", "sync/atomic.AddInt32", "(*internal/sync.Mutex).Unlock", "internal/race.ReleaseMerge", "(*internal/sync.Mutex).unlockSlow", "internal/sync.fatal", "internal/sync.runtime_Semrelease", "sync/atomic.StoreUint32", "sync/atomic.AddInt64"], unfollowed := true, recurses := true, apart := false, narrowed := true }
def EvictNeedUptoSaid : Prop := evictNeedUptoRow.holds Tryz.pinned (OpenSpec.upto evictNeedSpec)

/-- 'interrexlaw18.EvictLeast', WHERE WHAT IT READS IS OF BULK AT MOST 1048576: true; the input reads as it did. -/
def evictLeastUptoRow : OpenClaim := { program := "ytkkpkcjcaogceaagreat", sum := "010d0a43ea97164e60d6ce9001178ed70a080d9bafb8bff9a16696ec5e9a2979", func := "interrex/interrexlaw18.EvictLeast", spec := "evictLeast", inPlace := ["internal/bytealg.abigen_runtime_cmpstring", "slices.overlaps[interrex/api.Pod]", "sync/atomic.LoadUint32", "(*internal/sync.Mutex).Lock", "internal/race.Disable", "sync/atomic.CompareAndSwapInt32", "internal/race.Enable", "internal/race.Acquire", "(*internal/sync.Mutex).lockSlow", "internal/sync.runtime_canSpin", "internal/sync.runtime_doSpin", "internal/sync.throw", "internal/sync.runtime_nanotime", "internal/sync.runtime_SemacquireMutex", "sync/atomic.AddInt32", "(*internal/sync.Mutex).Unlock", "internal/race.ReleaseMerge", "(*internal/sync.Mutex).unlockSlow", "internal/sync.fatal", "internal/sync.runtime_Semrelease", "sync/atomic.StoreUint32", "sync/atomic.AddInt64"], unfollowed := true, recurses := true, apart := false, narrowed := true }
def EvictLeastUptoSaid : Prop := evictLeastUptoRow.holds Tryz.pinned (OpenSpec.upto evictLeastSpec)

/-- 'interrexlaw18.EvictCheap', WHERE WHAT IT READS IS OF BULK AT MOST 1048576: true; the input reads as it did. -/
def evictCheapUptoRow : OpenClaim := { program := "ytkkpkcjcaogceaagreat", sum := "010d0a43ea97164e60d6ce9001178ed70a080d9bafb8bff9a16696ec5e9a2979", func := "interrex/interrexlaw18.EvictCheap", spec := "evictCheap", inPlace := ["internal/bytealg.abigen_runtime_cmpstring", "slices.overlaps[interrex/api.Pod]", "sync/atomic.LoadUint32", "(*internal/sync.Mutex).Lock", "internal/race.Disable", "sync/atomic.CompareAndSwapInt32", "internal/race.Enable", "internal/race.Acquire", "(*internal/sync.Mutex).lockSlow", "internal/sync.runtime_canSpin", "internal/sync.runtime_doSpin", "internal/sync.throw", "internal/sync.runtime_nanotime", "internal/sync.runtime_SemacquireMutex", "sync/atomic.AddInt32", "(*internal/sync.Mutex).Unlock", "internal/race.ReleaseMerge", "(*internal/sync.Mutex).unlockSlow", "internal/sync.fatal", "internal/sync.runtime_Semrelease", "sync/atomic.StoreUint32", "sync/atomic.AddInt64"], unfollowed := true, recurses := true, apart := false, narrowed := true }
def EvictCheapUptoSaid : Prop := evictCheapUptoRow.holds Tryz.pinned (OpenSpec.upto evictCheapSpec)

/-- 'interrexlaw18.PlanFirst', WHERE WHAT IT READS IS OF BULK AT MOST 1048576: true; the input reads as it did. -/
def planFirstUptoRow : OpenClaim := { program := "ytkkpkcjcaogceaagreat", sum := "010d0a43ea97164e60d6ce9001178ed70a080d9bafb8bff9a16696ec5e9a2979", func := "interrex/interrexlaw18.PlanFirst", spec := "planFirst", inPlace := ["internal/bytealg.abigen_runtime_cmpstring", "slices.overlaps[interrex/api.Pod]", "sync/atomic.LoadUint32", "(*internal/sync.Mutex).Lock", "internal/race.Disable", "sync/atomic.CompareAndSwapInt32", "internal/race.Enable", "internal/race.Acquire", "(*internal/sync.Mutex).lockSlow", "internal/sync.runtime_canSpin", "internal/sync.runtime_doSpin", "internal/sync.throw", "internal/sync.runtime_nanotime", "internal/sync.runtime_SemacquireMutex", "sync/atomic.AddInt32", "(*internal/sync.Mutex).Unlock", "internal/race.ReleaseMerge", "(*internal/sync.Mutex).unlockSlow", "internal/sync.fatal", "internal/sync.runtime_Semrelease", "sync/atomic.StoreUint32", "sync/atomic.AddInt64"], unfollowed := true, recurses := true, apart := false, narrowed := true }
def PlanFirstUptoSaid : Prop := planFirstUptoRow.holds Tryz.pinned (OpenSpec.upto planFirstSpec)

/-- 'interrexlaw18.TopoEven', WHERE WHAT IT READS IS OF BULK AT MOST 1048576: true; the input reads as it did. -/
def topoEvenUptoRow : OpenClaim := { program := "ytkkpkcjcaogceaagreat", sum := "010d0a43ea97164e60d6ce9001178ed70a080d9bafb8bff9a16696ec5e9a2979", func := "interrex/interrexlaw18.TopoEven", spec := "topoEven", inPlace := ["internal/bytealg.abigen_runtime_cmpstring", "slices.overlaps[interrex/api.Pod]", "sync/atomic.LoadUint32", "(*internal/sync.Mutex).Lock", "internal/race.Disable", "sync/atomic.CompareAndSwapInt32", "internal/race.Enable", "internal/race.Acquire", "(*internal/sync.Mutex).lockSlow", "internal/sync.runtime_canSpin", "internal/sync.runtime_doSpin", "internal/sync.throw", "internal/sync.runtime_nanotime", "internal/sync.runtime_SemacquireMutex", "sync/atomic.AddInt32", "(*internal/sync.Mutex).Unlock", "internal/race.ReleaseMerge", "(*internal/sync.Mutex).unlockSlow", "internal/sync.fatal", "internal/sync.runtime_Semrelease", "sync/atomic.StoreUint32", "sync/atomic.AddInt64"], unfollowed := true, recurses := true, apart := false, narrowed := true }
def TopoEvenUptoSaid : Prop := topoEvenUptoRow.holds Tryz.pinned (OpenSpec.upto topoEvenSpec)

/-- 'interrexlaw18.TopoApart', WHERE WHAT IT READS IS OF BULK AT MOST 1048576: true; the input reads as it did. -/
def topoApartUptoRow : OpenClaim := { program := "ytkkpkcjcaogceaagreat", sum := "010d0a43ea97164e60d6ce9001178ed70a080d9bafb8bff9a16696ec5e9a2979", func := "interrex/interrexlaw18.TopoApart", spec := "topoApart", inPlace := ["internal/bytealg.abigen_runtime_cmpstring", "slices.overlaps[interrex/api.Pod]", "sync/atomic.LoadUint32", "(*internal/sync.Mutex).Lock", "internal/race.Disable", "sync/atomic.CompareAndSwapInt32", "internal/race.Enable", "internal/race.Acquire", "(*internal/sync.Mutex).lockSlow", "internal/sync.runtime_canSpin", "internal/sync.runtime_doSpin", "internal/sync.throw", "internal/sync.runtime_nanotime", "internal/sync.runtime_SemacquireMutex", "sync/atomic.AddInt32", "(*internal/sync.Mutex).Unlock", "internal/race.ReleaseMerge", "(*internal/sync.Mutex).unlockSlow", "internal/sync.fatal", "internal/sync.runtime_Semrelease", "sync/atomic.StoreUint32", "sync/atomic.AddInt64"], unfollowed := true, recurses := true, apart := false, narrowed := true }
def TopoApartUptoSaid : Prop := topoApartUptoRow.holds Tryz.pinned (OpenSpec.upto topoApartSpec)

end Rows
end Go.Proofs.YtkkpkcjcaogceaaGreat
