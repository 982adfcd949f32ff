/-
  No cell of these rows narrows 'for every input' (looked for: loops, veiled, ifaces, maps, wideKeys, modest, calm, conditions, laid).
  DERIVED. THE GIVEN ROWS OF THIS SEAT. 8 by the template 'for every input the law returns true; each argument reads behind the call as it read before'; 0 by the template 'total and deterministic' (their statements: YtjoaahnmbonboaaGreatTotals.lean).
  GIVEN WITH THE SEED: the statements are not yours to turn. If you find one false, say at which input.
  Laid BY PROGRAM, IN A SANDBOX (cutbox-rows.mjs): the forced cells as the released guide's own fill.sh prints them over the translation 50c981be4807b778… (all of the seat's roots in one cut). By AI agents, Wed Nov 11 2026. No macro, syntax, notation, axiom, sorry.
-/
import Derived.Test.YtjoaahnmbonboaaGreatChecked
import GoSem.Claim
import GoSem.ClaimJoined
import GoSem.ClaimMapViews
import Derived.JoinedTies
import Derived.KernelRfl
namespace Go.Proofs.YtjoaahnmbonboaaGreat
/- THE CELL 'sum', in the pinned program and in every row, IS THE sha256 OF THE DUMP (.gsa) THAT YtjoaahnmbonboaaGreatProg.lean LOADS. Nothing in Lean hashes anything: it is a label: what it is worth is what the hold of that sum in a sandbox is worth. -/
noncomputable def Tryz.pinned : Pinned := { name := "ytjoaahnmbonboaagreat", sum := "50c981be4807b778d766114272e7e88745b20422577fdcf79a538774d2f4a47d", checked := Tryz.checked }
namespace Rows
def none {H : Type} : Left H := { results := [], args := [] }

/-- 'interrexlaw10.RelistOne': WHATEVER THE INPUT: true; the input reads as it did. -/
def relistOneSpec : ChangeSpec := { name := "relistOne", fn := fun _ => fun
  | [d1, d2, d3, d4] => { results := [.lit (.bool true)], args := [d1, d2, d3, d4] }
  | _ => none }
def relistOneRow : OpenClaim := { program := "ytjoaahnmbonboaagreat", sum := "50c981be4807b778d766114272e7e88745b20422577fdcf79a538774d2f4a47d", func := "interrex/interrexlaw10.RelistOne", spec := "relistOne", inPlace := ["sync/atomic.LoadUint32", "(*internal/sync.Mutex).Lock", "internal/race.Disable", "sync/atomic.CompareAndSwapInt32", "internal/race.Enable", "internal/race.Acquire", "(*internal/sync.Mutex).lockSlow", "internal/sync.runtime_canSpin", "internal/sync.runtime_doSpin", "internal/sync.throw", "internal/sync.runtime_nanotime", "internal/sync.runtime_SemacquireMutex", "sync/atomic.AddInt32", "(*internal/sync.Mutex).Unlock", "internal/race.ReleaseMerge", "(*internal/sync.Mutex).unlockSlow", "internal/sync.fatal", "internal/sync.runtime_Semrelease", "sync/atomic.StoreUint32", "internal/bytealg.abigen_runtime_cmpstring", "sync/atomic.AddInt64"], unfollowed := true, recurses := true, apart := false }
def RelistOneSaid : Prop := relistOneRow.holds Tryz.pinned (OpenSpec.ofChange relistOneSpec)

/-- ITS FALSE NEIGHBOUR: 'it returns false'. Refute it at one input. -/
def relistOneWrong : ChangeSpec := { name := "relistOne", fn := fun _ => fun
  | [d1, d2, d3, d4] => { results := [.lit (.bool false)], args := [d1, d2, d3, d4] }
  | _ => none }
def RelistOneWrongFalsely : Prop := relistOneRow.holds Tryz.pinned (OpenSpec.ofChange relistOneWrong)

/-- 'interrexlaw10.RelistGap': WHATEVER THE INPUT: true; the input reads as it did. -/
def relistGapSpec : ChangeSpec := { name := "relistGap", fn := fun _ => fun
  | [d1, d2, d3] => { results := [.lit (.bool true)], args := [d1, d2, d3] }
  | _ => none }
def relistGapRow : OpenClaim := { program := "ytjoaahnmbonboaagreat", sum := "50c981be4807b778d766114272e7e88745b20422577fdcf79a538774d2f4a47d", func := "interrex/interrexlaw10.RelistGap", spec := "relistGap", inPlace := ["sync/atomic.LoadUint32", "(*internal/sync.Mutex).Lock", "internal/race.Disable", "sync/atomic.CompareAndSwapInt32", "internal/race.Enable", "internal/race.Acquire", "(*internal/sync.Mutex).lockSlow", "internal/sync.runtime_canSpin", "internal/sync.runtime_doSpin", "internal/sync.throw", "internal/sync.runtime_nanotime", "internal/sync.runtime_SemacquireMutex", "sync/atomic.AddInt32", "(*internal/sync.Mutex).Unlock", "internal/race.ReleaseMerge", "(*internal/sync.Mutex).unlockSlow", "internal/sync.fatal", "internal/sync.runtime_Semrelease", "sync/atomic.StoreUint32", "internal/bytealg.abigen_runtime_cmpstring", "sync/atomic.AddInt64"], unfollowed := true, recurses := true, apart := false }
def RelistGapSaid : Prop := relistGapRow.holds Tryz.pinned (OpenSpec.ofChange relistGapSpec)

/-- ITS FALSE NEIGHBOUR: 'it returns false'. Refute it at one input. -/
def relistGapWrong : ChangeSpec := { name := "relistGap", fn := fun _ => fun
  | [d1, d2, d3] => { results := [.lit (.bool false)], args := [d1, d2, d3] }
  | _ => none }
def RelistGapWrongFalsely : Prop := relistGapRow.holds Tryz.pinned (OpenSpec.ofChange relistGapWrong)

/-- 'interrexlaw10.ElectTakes': WHATEVER THE INPUT: true; the input reads as it did. -/
def electTakesSpec : ChangeSpec := { name := "electTakes", fn := fun _ => fun
  | [d1, d2] => { results := [.lit (.bool true)], args := [d1, d2] }
  | _ => none }
def electTakesRow : OpenClaim := { program := "ytjoaahnmbonboaagreat", sum := "50c981be4807b778d766114272e7e88745b20422577fdcf79a538774d2f4a47d", func := "interrex/interrexlaw10.ElectTakes", spec := "electTakes", inPlace := ["sync/atomic.LoadUint32", "(*internal/sync.Mutex).Lock", "internal/race.Disable", "sync/atomic.CompareAndSwapInt32", "internal/race.Enable", "internal/race.Acquire", "(*internal/sync.Mutex).lockSlow", "internal/sync.runtime_canSpin", "internal/sync.runtime_doSpin", "internal/sync.throw", "internal/sync.runtime_nanotime", "internal/sync.runtime_SemacquireMutex", "sync/atomic.AddInt32", "(*internal/sync.Mutex).Unlock", "internal/race.ReleaseMerge", "(*internal/sync.Mutex).unlockSlow", "internal/sync.fatal", "internal/sync.runtime_Semrelease", "sync/atomic.StoreUint32", "internal/bytealg.abigen_runtime_cmpstring", "sync/atomic.AddInt64"], unfollowed := true, recurses := true, apart := false }
def ElectTakesSaid : Prop := electTakesRow.holds Tryz.pinned (OpenSpec.ofChange electTakesSpec)

/-- ITS FALSE NEIGHBOUR: 'it returns false'. Refute it at one input. -/
def electTakesWrong : ChangeSpec := { name := "electTakes", fn := fun _ => fun
  | [d1, d2] => { results := [.lit (.bool false)], args := [d1, d2] }
  | _ => none }
def ElectTakesWrongFalsely : Prop := electTakesRow.holds Tryz.pinned (OpenSpec.ofChange electTakesWrong)

/-- 'interrexlaw10.ElectLoses': WHATEVER THE INPUT: true; the input reads as it did. -/
def electLosesSpec : ChangeSpec := { name := "electLoses", fn := fun _ => fun
  | [d1, d2, d3] => { results := [.lit (.bool true)], args := [d1, d2, d3] }
  | _ => none }
def electLosesRow : OpenClaim := { program := "ytjoaahnmbonboaagreat", sum := "50c981be4807b778d766114272e7e88745b20422577fdcf79a538774d2f4a47d", func := "interrex/interrexlaw10.ElectLoses", spec := "electLoses", inPlace := ["sync/atomic.LoadUint32", "(*internal/sync.Mutex).Lock", "internal/race.Disable", "sync/atomic.CompareAndSwapInt32", "internal/race.Enable", "internal/race.Acquire", "(*internal/sync.Mutex).lockSlow", "internal/sync.runtime_canSpin", "internal/sync.runtime_doSpin", "internal/sync.throw", "internal/sync.runtime_nanotime", "internal/sync.runtime_SemacquireMutex", "sync/atomic.AddInt32", "(*internal/sync.Mutex).Unlock", "internal/race.ReleaseMerge", "(*internal/sync.Mutex).unlockSlow", "internal/sync.fatal", "internal/sync.runtime_Semrelease", "sync/atomic.StoreUint32", "internal/bytealg.abigen_runtime_cmpstring", "sync/atomic.AddInt64"], unfollowed := true, recurses := true, apart := false }
def ElectLosesSaid : Prop := electLosesRow.holds Tryz.pinned (OpenSpec.ofChange electLosesSpec)

/-- ITS FALSE NEIGHBOUR: 'it returns false'. Refute it at one input. -/
def electLosesWrong : ChangeSpec := { name := "electLoses", fn := fun _ => fun
  | [d1, d2, d3] => { results := [.lit (.bool false)], args := [d1, d2, d3] }
  | _ => none }
def ElectLosesWrongFalsely : Prop := electLosesRow.holds Tryz.pinned (OpenSpec.ofChange electLosesWrong)

/-- 'interrexlaw10.ElectLate': WHATEVER THE INPUT: true; the input reads as it did. -/
def electLateSpec : ChangeSpec := { name := "electLate", fn := fun _ => fun
  | [d1, d2, d3] => { results := [.lit (.bool true)], args := [d1, d2, d3] }
  | _ => none }
def electLateRow : OpenClaim := { program := "ytjoaahnmbonboaagreat", sum := "50c981be4807b778d766114272e7e88745b20422577fdcf79a538774d2f4a47d", func := "interrex/interrexlaw10.ElectLate", spec := "electLate", inPlace := ["sync/atomic.LoadUint32", "(*internal/sync.Mutex).Lock", "internal/race.Disable", "sync/atomic.CompareAndSwapInt32", "internal/race.Enable", "internal/race.Acquire", "(*internal/sync.Mutex).lockSlow", "internal/sync.runtime_canSpin", "internal/sync.runtime_doSpin", "internal/sync.throw", "internal/sync.runtime_nanotime", "internal/sync.runtime_SemacquireMutex", "sync/atomic.AddInt32", "(*internal/sync.Mutex).Unlock", "internal/race.ReleaseMerge", "(*internal/sync.Mutex).unlockSlow", "internal/sync.fatal", "internal/sync.runtime_Semrelease", "sync/atomic.StoreUint32", "internal/bytealg.abigen_runtime_cmpstring", "sync/atomic.AddInt64"], unfollowed := true, recurses := true, apart := false }
def ElectLateSaid : Prop := electLateRow.holds Tryz.pinned (OpenSpec.ofChange electLateSpec)

/-- ITS FALSE NEIGHBOUR: 'it returns false'. Refute it at one input. -/
def electLateWrong : ChangeSpec := { name := "electLate", fn := fun _ => fun
  | [d1, d2, d3] => { results := [.lit (.bool false)], args := [d1, d2, d3] }
  | _ => none }
def ElectLateWrongFalsely : Prop := electLateRow.holds Tryz.pinned (OpenSpec.ofChange electLateWrong)

/-- 'interrexlaw10.ElectKeeps': WHATEVER THE INPUT: true; the input reads as it did. -/
def electKeepsSpec : ChangeSpec := { name := "electKeeps", fn := fun _ => fun
  | [d] => { results := [.lit (.bool true)], args := [d] }
  | _ => none }
def electKeepsRow : OpenClaim := { program := "ytjoaahnmbonboaagreat", sum := "50c981be4807b778d766114272e7e88745b20422577fdcf79a538774d2f4a47d", func := "interrex/interrexlaw10.ElectKeeps", spec := "electKeeps", inPlace := ["sync/atomic.LoadUint32", "(*internal/sync.Mutex).Lock", "internal/race.Disable", "sync/atomic.CompareAndSwapInt32", "internal/race.Enable", "internal/race.Acquire", "(*internal/sync.Mutex).lockSlow", "internal/sync.runtime_canSpin", "internal/sync.runtime_doSpin", "internal/sync.throw", "internal/sync.runtime_nanotime", "internal/sync.runtime_SemacquireMutex", "sync/atomic.AddInt32", "(*internal/sync.Mutex).Unlock", "internal/race.ReleaseMerge", "(*internal/sync.Mutex).unlockSlow", "internal/sync.fatal", "internal/sync.runtime_Semrelease", "sync/atomic.StoreUint32", "internal/bytealg.abigen_runtime_cmpstring", "sync/atomic.AddInt64"], unfollowed := true, recurses := true, apart := false }
def ElectKeepsSaid : Prop := electKeepsRow.holds Tryz.pinned (OpenSpec.ofChange electKeepsSpec)

/-- ITS FALSE NEIGHBOUR: 'it returns false'. Refute it at one input. -/
def electKeepsWrong : ChangeSpec := { name := "electKeeps", fn := fun _ => fun
  | [d] => { results := [.lit (.bool false)], args := [d] }
  | _ => none }
def ElectKeepsWrongFalsely : Prop := electKeepsRow.holds Tryz.pinned (OpenSpec.ofChange electKeepsWrong)

/-- 'interrexlaw10.CacheOwn': WHATEVER THE INPUT: true; the input reads as it did. -/
def cacheOwnSpec : ChangeSpec := { name := "cacheOwn", fn := fun _ => fun
  | [d] => { results := [.lit (.bool true)], args := [d] }
  | _ => none }
def cacheOwnRow : OpenClaim := { program := "ytjoaahnmbonboaagreat", sum := "50c981be4807b778d766114272e7e88745b20422577fdcf79a538774d2f4a47d", func := "interrex/interrexlaw10.CacheOwn", spec := "cacheOwn", inPlace := ["sync/atomic.LoadUint32", "(*internal/sync.Mutex).Lock", "internal/race.Disable", "sync/atomic.CompareAndSwapInt32", "internal/race.Enable", "internal/race.Acquire", "(*internal/sync.Mutex).lockSlow", "internal/sync.runtime_canSpin", "internal/sync.runtime_doSpin", "internal/sync.throw", "internal/sync.runtime_nanotime", "internal/sync.runtime_SemacquireMutex", "sync/atomic.AddInt32", "(*internal/sync.Mutex).Unlock", "internal/race.ReleaseMerge", "(*internal/sync.Mutex).unlockSlow", "internal/sync.fatal", "internal/sync.runtime_Semrelease", "sync/atomic.StoreUint32", "internal/bytealg.abigen_runtime_cmpstring", "sync/atomic.AddInt64"], unfollowed := true, recurses := true, apart := false }
def CacheOwnSaid : Prop := cacheOwnRow.holds Tryz.pinned (OpenSpec.ofChange cacheOwnSpec)

/-- ITS FALSE NEIGHBOUR: 'it returns false'. Refute it at one input. -/
def cacheOwnWrong : ChangeSpec := { name := "cacheOwn", fn := fun _ => fun
  | [d] => { results := [.lit (.bool false)], args := [d] }
  | _ => none }
def CacheOwnWrongFalsely : Prop := cacheOwnRow.holds Tryz.pinned (OpenSpec.ofChange cacheOwnWrong)

/-- 'interrexlaw10.NetOrder': WHATEVER THE INPUT: true; the input reads as it did. -/
def netOrderSpec : ChangeSpec := { name := "netOrder", fn := fun _ => fun
  | [d1, d2] => { results := [.lit (.bool true)], args := [d1, d2] }
  | _ => none }
def netOrderRow : OpenClaim := { program := "ytjoaahnmbonboaagreat", sum := "50c981be4807b778d766114272e7e88745b20422577fdcf79a538774d2f4a47d", func := "interrex/interrexlaw10.NetOrder", spec := "netOrder", inPlace := ["sync/atomic.LoadUint32", "(*internal/sync.Mutex).Lock", "internal/race.Disable", "sync/atomic.CompareAndSwapInt32", "internal/race.Enable", "internal/race.Acquire", "(*internal/sync.Mutex).lockSlow", "internal/sync.runtime_canSpin", "internal/sync.runtime_doSpin", "internal/sync.throw", "internal/sync.runtime_nanotime", "internal/sync.runtime_SemacquireMutex", "sync/atomic.AddInt32", "(*internal/sync.Mutex).Unlock", "internal/race.ReleaseMerge", "(*internal/sync.Mutex).unlockSlow", "internal/sync.fatal", "internal/sync.runtime_Semrelease", "sync/atomic.StoreUint32", "internal/bytealg.abigen_runtime_cmpstring", "sync/atomic.AddInt64"], unfollowed := true, recurses := true, apart := false }
def NetOrderSaid : Prop := netOrderRow.holds Tryz.pinned (OpenSpec.ofChange netOrderSpec)

/-- ITS FALSE NEIGHBOUR: 'it returns false'. Refute it at one input. -/
def netOrderWrong : ChangeSpec := { name := "netOrder", fn := fun _ => fun
  | [d1, d2] => { results := [.lit (.bool false)], args := [d1, d2] }
  | _ => none }
def NetOrderWrongFalsely : Prop := netOrderRow.holds Tryz.pinned (OpenSpec.ofChange netOrderWrong)

/- THE SECOND FORM. 'bulk': how many values and letters a reading holds, each counted each time it is reached (what is shared counts as often as it is met; a slice's spare places count too). A statement '..UptoSaid' is the law's where the arguments, and the package variables that the reading takes, are together of bulk at most 1048576: NARROWER than '..Said'. Prove '..Said' where nothing that the law and all that it calls make is longer than what came in: it says more and counts as full. Else prove '..UptoSaid'. A law counts once. -/
mutual
def uptoBulk {H : Type} : DataW H → Nat
  | .lit (.string bytes) => bytes.length + 1
  | .lit _ => 1
  | .nil => 1
  | .ptr d => uptoBulk d + 1
  | .slice elems spare => uptoBulkAll elems + uptoBulkAll spare + 1
  | .agg parts => uptoBulkAll parts + 1
  | .iface _ d => uptoBulk d + 1
  | .map entries => uptoBulkEntries entries + 1
  | .held _ => 1
def uptoBulkAll {H : Type} : List (DataW H) → Nat
  | [] => 0
  | d :: r => uptoBulk d + uptoBulkAll r
def uptoBulkEntries {H : Type} : List (Lit × DataW H) → Nat
  | [] => 0
  | x :: r => uptoBulkEntry x + uptoBulkEntries r
def uptoBulkEntry {H : Type} : Lit × DataW H → Nat
  | (.string bytes, d) => bytes.length + uptoBulk d + 1
  | (_, d) => uptoBulk d + 1
 end
def uptoSmall : (H : Type) → List (DataW H) → Bool := fun _ ds => decide (uptoBulkAll ds ≤ 1048576)
def OpenSpec.upto (s : _root_.Go.ChangeSpec) : _root_.Go.OpenSpec := { _root_.Go.OpenSpec.ofChange s with cond := some uptoSmall }

/-- 'interrexlaw10.RelistOne', WHERE WHAT IT READS IS OF BULK AT MOST 1048576: true; the input reads as it did. -/
def relistOneUptoRow : OpenClaim := { program := "ytjoaahnmbonboaagreat", sum := "50c981be4807b778d766114272e7e88745b20422577fdcf79a538774d2f4a47d", func := "interrex/interrexlaw10.RelistOne", spec := "relistOne", inPlace := ["sync/atomic.LoadUint32", "(*internal/sync.Mutex).Lock", "internal/race.Disable", "sync/atomic.CompareAndSwapInt32", "internal/race.Enable", "internal/race.Acquire", "(*internal/sync.Mutex).lockSlow", "internal/sync.runtime_canSpin", "internal/sync.runtime_doSpin", "internal/sync.throw", "internal/sync.runtime_nanotime", "internal/sync.runtime_SemacquireMutex", "sync/atomic.AddInt32", "(*internal/sync.Mutex).Unlock", "internal/race.ReleaseMerge", "(*internal/sync.Mutex).unlockSlow", "internal/sync.fatal", "internal/sync.runtime_Semrelease", "sync/atomic.StoreUint32", "internal/bytealg.abigen_runtime_cmpstring", "sync/atomic.AddInt64"], unfollowed := true, recurses := true, apart := false, narrowed := true }
def RelistOneUptoSaid : Prop := relistOneUptoRow.holds Tryz.pinned (OpenSpec.upto relistOneSpec)

/-- 'interrexlaw10.RelistGap', WHERE WHAT IT READS IS OF BULK AT MOST 1048576: true; the input reads as it did. -/
def relistGapUptoRow : OpenClaim := { program := "ytjoaahnmbonboaagreat", sum := "50c981be4807b778d766114272e7e88745b20422577fdcf79a538774d2f4a47d", func := "interrex/interrexlaw10.RelistGap", spec := "relistGap", inPlace := ["sync/atomic.LoadUint32", "(*internal/sync.Mutex).Lock", "internal/race.Disable", "sync/atomic.CompareAndSwapInt32", "internal/race.Enable", "internal/race.Acquire", "(*internal/sync.Mutex).lockSlow", "internal/sync.runtime_canSpin", "internal/sync.runtime_doSpin", "internal/sync.throw", "internal/sync.runtime_nanotime", "internal/sync.runtime_SemacquireMutex", "sync/atomic.AddInt32", "(*internal/sync.Mutex).Unlock", "internal/race.ReleaseMerge", "(*internal/sync.Mutex).unlockSlow", "internal/sync.fatal", "internal/sync.runtime_Semrelease", "sync/atomic.StoreUint32", "internal/bytealg.abigen_runtime_cmpstring", "sync/atomic.AddInt64"], unfollowed := true, recurses := true, apart := false, narrowed := true }
def RelistGapUptoSaid : Prop := relistGapUptoRow.holds Tryz.pinned (OpenSpec.upto relistGapSpec)

/-- 'interrexlaw10.ElectTakes', WHERE WHAT IT READS IS OF BULK AT MOST 1048576: true; the input reads as it did. -/
def electTakesUptoRow : OpenClaim := { program := "ytjoaahnmbonboaagreat", sum := "50c981be4807b778d766114272e7e88745b20422577fdcf79a538774d2f4a47d", func := "interrex/interrexlaw10.ElectTakes", spec := "electTakes", inPlace := ["sync/atomic.LoadUint32", "(*internal/sync.Mutex).Lock", "internal/race.Disable", "sync/atomic.CompareAndSwapInt32", "internal/race.Enable", "internal/race.Acquire", "(*internal/sync.Mutex).lockSlow", "internal/sync.runtime_canSpin", "internal/sync.runtime_doSpin", "internal/sync.throw", "internal/sync.runtime_nanotime", "internal/sync.runtime_SemacquireMutex", "sync/atomic.AddInt32", "(*internal/sync.Mutex).Unlock", "internal/race.ReleaseMerge", "(*internal/sync.Mutex).unlockSlow", "internal/sync.fatal", "internal/sync.runtime_Semrelease", "sync/atomic.StoreUint32", "internal/bytealg.abigen_runtime_cmpstring", "sync/atomic.AddInt64"], unfollowed := true, recurses := true, apart := false, narrowed := true }
def ElectTakesUptoSaid : Prop := electTakesUptoRow.holds Tryz.pinned (OpenSpec.upto electTakesSpec)

/-- 'interrexlaw10.ElectLoses', WHERE WHAT IT READS IS OF BULK AT MOST 1048576: true; the input reads as it did. -/
def electLosesUptoRow : OpenClaim := { program := "ytjoaahnmbonboaagreat", sum := "50c981be4807b778d766114272e7e88745b20422577fdcf79a538774d2f4a47d", func := "interrex/interrexlaw10.ElectLoses", spec := "electLoses", inPlace := ["sync/atomic.LoadUint32", "(*internal/sync.Mutex).Lock", "internal/race.Disable", "sync/atomic.CompareAndSwapInt32", "internal/race.Enable", "internal/race.Acquire", "(*internal/sync.Mutex).lockSlow", "internal/sync.runtime_canSpin", "internal/sync.runtime_doSpin", "internal/sync.throw", "internal/sync.runtime_nanotime", "internal/sync.runtime_SemacquireMutex", "sync/atomic.AddInt32", "(*internal/sync.Mutex).Unlock", "internal/race.ReleaseMerge", "(*internal/sync.Mutex).unlockSlow", "internal/sync.fatal", "internal/sync.runtime_Semrelease", "sync/atomic.StoreUint32", "internal/bytealg.abigen_runtime_cmpstring", "sync/atomic.AddInt64"], unfollowed := true, recurses := true, apart := false, narrowed := true }
def ElectLosesUptoSaid : Prop := electLosesUptoRow.holds Tryz.pinned (OpenSpec.upto electLosesSpec)

/-- 'interrexlaw10.ElectLate', WHERE WHAT IT READS IS OF BULK AT MOST 1048576: true; the input reads as it did. -/
def electLateUptoRow : OpenClaim := { program := "ytjoaahnmbonboaagreat", sum := "50c981be4807b778d766114272e7e88745b20422577fdcf79a538774d2f4a47d", func := "interrex/interrexlaw10.ElectLate", spec := "electLate", inPlace := ["sync/atomic.LoadUint32", "(*internal/sync.Mutex).Lock", "internal/race.Disable", "sync/atomic.CompareAndSwapInt32", "internal/race.Enable", "internal/race.Acquire", "(*internal/sync.Mutex).lockSlow", "internal/sync.runtime_canSpin", "internal/sync.runtime_doSpin", "internal/sync.throw", "internal/sync.runtime_nanotime", "internal/sync.runtime_SemacquireMutex", "sync/atomic.AddInt32", "(*internal/sync.Mutex).Unlock", "internal/race.ReleaseMerge", "(*internal/sync.Mutex).unlockSlow", "internal/sync.fatal", "internal/sync.runtime_Semrelease", "sync/atomic.StoreUint32", "internal/bytealg.abigen_runtime_cmpstring", "sync/atomic.AddInt64"], unfollowed := true, recurses := true, apart := false, narrowed := true }
def ElectLateUptoSaid : Prop := electLateUptoRow.holds Tryz.pinned (OpenSpec.upto electLateSpec)

/-- 'interrexlaw10.ElectKeeps', WHERE WHAT IT READS IS OF BULK AT MOST 1048576: true; the input reads as it did. -/
def electKeepsUptoRow : OpenClaim := { program := "ytjoaahnmbonboaagreat", sum := "50c981be4807b778d766114272e7e88745b20422577fdcf79a538774d2f4a47d", func := "interrex/interrexlaw10.ElectKeeps", spec := "electKeeps", inPlace := ["sync/atomic.LoadUint32", "(*internal/sync.Mutex).Lock", "internal/race.Disable", "sync/atomic.CompareAndSwapInt32", "internal/race.Enable", "internal/race.Acquire", "(*internal/sync.Mutex).lockSlow", "internal/sync.runtime_canSpin", "internal/sync.runtime_doSpin", "internal/sync.throw", "internal/sync.runtime_nanotime", "internal/sync.runtime_SemacquireMutex", "sync/atomic.AddInt32", "(*internal/sync.Mutex).Unlock", "internal/race.ReleaseMerge", "(*internal/sync.Mutex).unlockSlow", "internal/sync.fatal", "internal/sync.runtime_Semrelease", "sync/atomic.StoreUint32", "internal/bytealg.abigen_runtime_cmpstring", "sync/atomic.AddInt64"], unfollowed := true, recurses := true, apart := false, narrowed := true }
def ElectKeepsUptoSaid : Prop := electKeepsUptoRow.holds Tryz.pinned (OpenSpec.upto electKeepsSpec)

/-- 'interrexlaw10.CacheOwn', WHERE WHAT IT READS IS OF BULK AT MOST 1048576: true; the input reads as it did. -/
def cacheOwnUptoRow : OpenClaim := { program := "ytjoaahnmbonboaagreat", sum := "50c981be4807b778d766114272e7e88745b20422577fdcf79a538774d2f4a47d", func := "interrex/interrexlaw10.CacheOwn", spec := "cacheOwn", inPlace := ["sync/atomic.LoadUint32", "(*internal/sync.Mutex).Lock", "internal/race.Disable", "sync/atomic.CompareAndSwapInt32", "internal/race.Enable", "internal/race.Acquire", "(*internal/sync.Mutex).lockSlow", "internal/sync.runtime_canSpin", "internal/sync.runtime_doSpin", "internal/sync.throw", "internal/sync.runtime_nanotime", "internal/sync.runtime_SemacquireMutex", "sync/atomic.AddInt32", "(*internal/sync.Mutex).Unlock", "internal/race.ReleaseMerge", "(*internal/sync.Mutex).unlockSlow", "internal/sync.fatal", "internal/sync.runtime_Semrelease", "sync/atomic.StoreUint32", "internal/bytealg.abigen_runtime_cmpstring", "sync/atomic.AddInt64"], unfollowed := true, recurses := true, apart := false, narrowed := true }
def CacheOwnUptoSaid : Prop := cacheOwnUptoRow.holds Tryz.pinned (OpenSpec.upto cacheOwnSpec)

/-- 'interrexlaw10.NetOrder', WHERE WHAT IT READS IS OF BULK AT MOST 1048576: true; the input reads as it did. -/
def netOrderUptoRow : OpenClaim := { program := "ytjoaahnmbonboaagreat", sum := "50c981be4807b778d766114272e7e88745b20422577fdcf79a538774d2f4a47d", func := "interrex/interrexlaw10.NetOrder", spec := "netOrder", inPlace := ["sync/atomic.LoadUint32", "(*internal/sync.Mutex).Lock", "internal/race.Disable", "sync/atomic.CompareAndSwapInt32", "internal/race.Enable", "internal/race.Acquire", "(*internal/sync.Mutex).lockSlow", "internal/sync.runtime_canSpin", "internal/sync.runtime_doSpin", "internal/sync.throw", "internal/sync.runtime_nanotime", "internal/sync.runtime_SemacquireMutex", "sync/atomic.AddInt32", "(*internal/sync.Mutex).Unlock", "internal/race.ReleaseMerge", "(*internal/sync.Mutex).unlockSlow", "internal/sync.fatal", "internal/sync.runtime_Semrelease", "sync/atomic.StoreUint32", "internal/bytealg.abigen_runtime_cmpstring", "sync/atomic.AddInt64"], unfollowed := true, recurses := true, apart := false, narrowed := true }
def NetOrderUptoSaid : Prop := netOrderUptoRow.holds Tryz.pinned (OpenSpec.upto netOrderSpec)

end Rows
end Go.Proofs.YtjoaahnmbonboaaGreat
