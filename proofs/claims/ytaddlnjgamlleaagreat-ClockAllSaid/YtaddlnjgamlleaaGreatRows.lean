/-
  No cell of these rows narrows 'for every input' (looked for: loops, veiled, ifaces, maps, wideKeys, modest, calm, conditions, laid).
  DERIVED. THE GIVEN ROWS OF THIS SEAT. 7 by the template 'for every input the law returns true; each argument reads behind the call as it read before'; 0 by the template 'total and deterministic' (their statements: YtaddlnjgamlleaaGreatTotals.lean).
  GIVEN WITH THE SEED: the statements are not yours to turn. If you find one false, say at which input.
  Laid BY PROGRAM, IN A SANDBOX (cutbox-rows.mjs): the forced cells as the released guide's own fill.sh prints them over the translation 836bce2cfd9a5cf9… (all of the seat's roots in one cut). By AI agents, Wed Nov 11 2026. No macro, syntax, notation, axiom, sorry.
-/
import Derived.Test.YtaddlnjgamlleaaGreatChecked
import GoSem.Claim
import GoSem.ClaimJoined
import GoSem.ClaimMapViews
import Derived.JoinedTies
import Derived.KernelRfl
namespace Go.Proofs.YtaddlnjgamlleaaGreat
/- THE CELL 'sum', in the pinned program and in every row, IS THE sha256 OF THE DUMP (.gsa) THAT YtaddlnjgamlleaaGreatProg.lean LOADS. Nothing in Lean hashes anything: it is a label: what it is worth is what the hold of that sum in a sandbox is worth. -/
noncomputable def Tryz.pinned : Pinned := { name := "ytaddlnjgamlleaagreat", sum := "836bce2cfd9a5cf98c894b0a2ae3df4f1562731b99c46cc950006e3f80090b7f", checked := Tryz.checked }
namespace Rows
def none {H : Type} : Left H := { results := [], args := [] }

/-- 'interrexlaw10.SeenNone': WHATEVER THE INPUT: true; the input reads as it did. -/
def seenNoneSpec : ChangeSpec := { name := "seenNone", fn := fun _ => fun
  | [] => { results := [.lit (.bool true)], args := [] }
  | _ => none }
def seenNoneRow : OpenClaim := { program := "ytaddlnjgamlleaagreat", sum := "836bce2cfd9a5cf98c894b0a2ae3df4f1562731b99c46cc950006e3f80090b7f", func := "interrex/interrexlaw10.SeenNone", spec := "seenNone", inPlace := ["sync/atomic.LoadUint32", "(*internal/sync.Mutex).Lock", "internal/race.Disable", "sync/atomic.CompareAndSwapInt32", "internal/race.Enable", "internal/race.Acquire", "(*internal/sync.Mutex).lockSlow", "internal/sync.runtime_canSpin", "internal/sync.runtime_doSpin", "internal/sync.throw", "internal/sync.runtime_nanotime", "internal/sync.runtime_SemacquireMutex", "sync/atomic.AddInt32", "(*internal/sync.Mutex).Unlock", "internal/race.ReleaseMerge", "(*internal/sync.Mutex).unlockSlow", "internal/sync.fatal", "internal/sync.runtime_Semrelease", "sync/atomic.StoreUint32", "internal/bytealg.abigen_runtime_cmpstring", "sync/atomic.AddInt64"], unfollowed := true, recurses := true, apart := false }
def SeenNoneSaid : Prop := seenNoneRow.holds Tryz.pinned (OpenSpec.ofChange seenNoneSpec)

/-- ITS FALSE NEIGHBOUR: 'it returns false'. Refute it at one input. -/
def seenNoneWrong : ChangeSpec := { name := "seenNone", fn := fun _ => fun
  | [] => { results := [.lit (.bool false)], args := [] }
  | _ => none }
def SeenNoneWrongFalsely : Prop := seenNoneRow.holds Tryz.pinned (OpenSpec.ofChange seenNoneWrong)

/-- 'interrexlaw10.LeaseAll': WHATEVER THE INPUT: true; the input reads as it did. -/
def leaseAllSpec : ChangeSpec := { name := "leaseAll", fn := fun _ => fun
  | [d1, d2, d3] => { results := [.lit (.bool true)], args := [d1, d2, d3] }
  | _ => none }
def leaseAllRow : OpenClaim := { program := "ytaddlnjgamlleaagreat", sum := "836bce2cfd9a5cf98c894b0a2ae3df4f1562731b99c46cc950006e3f80090b7f", func := "interrex/interrexlaw10.LeaseAll", spec := "leaseAll", inPlace := ["sync/atomic.LoadUint32", "(*internal/sync.Mutex).Lock", "internal/race.Disable", "sync/atomic.CompareAndSwapInt32", "internal/race.Enable", "internal/race.Acquire", "(*internal/sync.Mutex).lockSlow", "internal/sync.runtime_canSpin", "internal/sync.runtime_doSpin", "internal/sync.throw", "internal/sync.runtime_nanotime", "internal/sync.runtime_SemacquireMutex", "sync/atomic.AddInt32", "(*internal/sync.Mutex).Unlock", "internal/race.ReleaseMerge", "(*internal/sync.Mutex).unlockSlow", "internal/sync.fatal", "internal/sync.runtime_Semrelease", "sync/atomic.StoreUint32", "internal/bytealg.abigen_runtime_cmpstring", "sync/atomic.AddInt64"], unfollowed := true, recurses := true, apart := false }
def LeaseAllSaid : Prop := leaseAllRow.holds Tryz.pinned (OpenSpec.ofChange leaseAllSpec)

/-- ITS FALSE NEIGHBOUR: 'it returns false'. Refute it at one input. -/
def leaseAllWrong : ChangeSpec := { name := "leaseAll", fn := fun _ => fun
  | [d1, d2, d3] => { results := [.lit (.bool false)], args := [d1, d2, d3] }
  | _ => none }
def LeaseAllWrongFalsely : Prop := leaseAllRow.holds Tryz.pinned (OpenSpec.ofChange leaseAllWrong)

/-- 'interrexlaw10.LeaseApart': WHATEVER THE INPUT: true; the input reads as it did. -/
def leaseApartSpec : ChangeSpec := { name := "leaseApart", fn := fun _ => fun
  | [d1, d2, d3, d4] => { results := [.lit (.bool true)], args := [d1, d2, d3, d4] }
  | _ => none }
def leaseApartRow : OpenClaim := { program := "ytaddlnjgamlleaagreat", sum := "836bce2cfd9a5cf98c894b0a2ae3df4f1562731b99c46cc950006e3f80090b7f", func := "interrex/interrexlaw10.LeaseApart", spec := "leaseApart", inPlace := ["sync/atomic.LoadUint32", "(*internal/sync.Mutex).Lock", "internal/race.Disable", "sync/atomic.CompareAndSwapInt32", "internal/race.Enable", "internal/race.Acquire", "(*internal/sync.Mutex).lockSlow", "internal/sync.runtime_canSpin", "internal/sync.runtime_doSpin", "internal/sync.throw", "internal/sync.runtime_nanotime", "internal/sync.runtime_SemacquireMutex", "sync/atomic.AddInt32", "(*internal/sync.Mutex).Unlock", "internal/race.ReleaseMerge", "(*internal/sync.Mutex).unlockSlow", "internal/sync.fatal", "internal/sync.runtime_Semrelease", "sync/atomic.StoreUint32", "internal/bytealg.abigen_runtime_cmpstring", "sync/atomic.AddInt64"], unfollowed := true, recurses := true, apart := false }
def LeaseApartSaid : Prop := leaseApartRow.holds Tryz.pinned (OpenSpec.ofChange leaseApartSpec)

/-- ITS FALSE NEIGHBOUR: 'it returns false'. Refute it at one input. -/
def leaseApartWrong : ChangeSpec := { name := "leaseApart", fn := fun _ => fun
  | [d1, d2, d3, d4] => { results := [.lit (.bool false)], args := [d1, d2, d3, d4] }
  | _ => none }
def LeaseApartWrongFalsely : Prop := leaseApartRow.holds Tryz.pinned (OpenSpec.ofChange leaseApartWrong)

/-- 'interrexlaw10.ClockLike': WHATEVER THE INPUT: true; the input reads as it did. -/
def clockLikeSpec : ChangeSpec := { name := "clockLike", fn := fun _ => fun
  | [d1, d2, d3] => { results := [.lit (.bool true)], args := [d1, d2, d3] }
  | _ => none }
def clockLikeRow : OpenClaim := { program := "ytaddlnjgamlleaagreat", sum := "836bce2cfd9a5cf98c894b0a2ae3df4f1562731b99c46cc950006e3f80090b7f", func := "interrex/interrexlaw10.ClockLike", spec := "clockLike", inPlace := ["sync/atomic.LoadUint32", "(*internal/sync.Mutex).Lock", "internal/race.Disable", "sync/atomic.CompareAndSwapInt32", "internal/race.Enable", "internal/race.Acquire", "(*internal/sync.Mutex).lockSlow", "internal/sync.runtime_canSpin", "internal/sync.runtime_doSpin", "internal/sync.throw", "internal/sync.runtime_nanotime", "internal/sync.runtime_SemacquireMutex", "sync/atomic.AddInt32", "(*internal/sync.Mutex).Unlock", "internal/race.ReleaseMerge", "(*internal/sync.Mutex).unlockSlow", "internal/sync.fatal", "internal/sync.runtime_Semrelease", "sync/atomic.StoreUint32", "internal/bytealg.abigen_runtime_cmpstring", "sync/atomic.AddInt64"], unfollowed := true, recurses := true, apart := false }
def ClockLikeSaid : Prop := clockLikeRow.holds Tryz.pinned (OpenSpec.ofChange clockLikeSpec)

/-- ITS FALSE NEIGHBOUR: 'it returns false'. Refute it at one input. -/
def clockLikeWrong : ChangeSpec := { name := "clockLike", fn := fun _ => fun
  | [d1, d2, d3] => { results := [.lit (.bool false)], args := [d1, d2, d3] }
  | _ => none }
def ClockLikeWrongFalsely : Prop := clockLikeRow.holds Tryz.pinned (OpenSpec.ofChange clockLikeWrong)

/-- 'interrexlaw10.ClockBad': WHATEVER THE INPUT: true; the input reads as it did. -/
def clockBadSpec : ChangeSpec := { name := "clockBad", fn := fun _ => fun
  | [d1, d2, d3] => { results := [.lit (.bool true)], args := [d1, d2, d3] }
  | _ => none }
def clockBadRow : OpenClaim := { program := "ytaddlnjgamlleaagreat", sum := "836bce2cfd9a5cf98c894b0a2ae3df4f1562731b99c46cc950006e3f80090b7f", func := "interrex/interrexlaw10.ClockBad", spec := "clockBad", inPlace := ["sync/atomic.LoadUint32", "(*internal/sync.Mutex).Lock", "internal/race.Disable", "sync/atomic.CompareAndSwapInt32", "internal/race.Enable", "internal/race.Acquire", "(*internal/sync.Mutex).lockSlow", "internal/sync.runtime_canSpin", "internal/sync.runtime_doSpin", "internal/sync.throw", "internal/sync.runtime_nanotime", "internal/sync.runtime_SemacquireMutex", "sync/atomic.AddInt32", "(*internal/sync.Mutex).Unlock", "internal/race.ReleaseMerge", "(*internal/sync.Mutex).unlockSlow", "internal/sync.fatal", "internal/sync.runtime_Semrelease", "sync/atomic.StoreUint32", "internal/bytealg.abigen_runtime_cmpstring", "sync/atomic.AddInt64"], unfollowed := true, recurses := true, apart := false }
def ClockBadSaid : Prop := clockBadRow.holds Tryz.pinned (OpenSpec.ofChange clockBadSpec)

/-- ITS FALSE NEIGHBOUR: 'it returns false'. Refute it at one input. -/
def clockBadWrong : ChangeSpec := { name := "clockBad", fn := fun _ => fun
  | [d1, d2, d3] => { results := [.lit (.bool false)], args := [d1, d2, d3] }
  | _ => none }
def ClockBadWrongFalsely : Prop := clockBadRow.holds Tryz.pinned (OpenSpec.ofChange clockBadWrong)

/-- 'interrexlaw10.ClockSpan': WHATEVER THE INPUT: true; the input reads as it did. -/
def clockSpanSpec : ChangeSpec := { name := "clockSpan", fn := fun _ => fun
  | [d] => { results := [.lit (.bool true)], args := [d] }
  | _ => none }
def clockSpanRow : OpenClaim := { program := "ytaddlnjgamlleaagreat", sum := "836bce2cfd9a5cf98c894b0a2ae3df4f1562731b99c46cc950006e3f80090b7f", func := "interrex/interrexlaw10.ClockSpan", spec := "clockSpan", inPlace := ["sync/atomic.LoadUint32", "(*internal/sync.Mutex).Lock", "internal/race.Disable", "sync/atomic.CompareAndSwapInt32", "internal/race.Enable", "internal/race.Acquire", "(*internal/sync.Mutex).lockSlow", "internal/sync.runtime_canSpin", "internal/sync.runtime_doSpin", "internal/sync.throw", "internal/sync.runtime_nanotime", "internal/sync.runtime_SemacquireMutex", "sync/atomic.AddInt32", "(*internal/sync.Mutex).Unlock", "internal/race.ReleaseMerge", "(*internal/sync.Mutex).unlockSlow", "internal/sync.fatal", "internal/sync.runtime_Semrelease", "sync/atomic.StoreUint32", "internal/bytealg.abigen_runtime_cmpstring", "sync/atomic.AddInt64"], unfollowed := true, recurses := true, apart := false }
def ClockSpanSaid : Prop := clockSpanRow.holds Tryz.pinned (OpenSpec.ofChange clockSpanSpec)

/-- ITS FALSE NEIGHBOUR: 'it returns false'. Refute it at one input. -/
def clockSpanWrong : ChangeSpec := { name := "clockSpan", fn := fun _ => fun
  | [d] => { results := [.lit (.bool false)], args := [d] }
  | _ => none }
def ClockSpanWrongFalsely : Prop := clockSpanRow.holds Tryz.pinned (OpenSpec.ofChange clockSpanWrong)

/-- 'interrexlaw10.ClockAll': WHATEVER THE INPUT: true; the input reads as it did. -/
def clockAllSpec : ChangeSpec := { name := "clockAll", fn := fun _ => fun
  | [d1, d2] => { results := [.lit (.bool true)], args := [d1, d2] }
  | _ => none }
def clockAllRow : OpenClaim := { program := "ytaddlnjgamlleaagreat", sum := "836bce2cfd9a5cf98c894b0a2ae3df4f1562731b99c46cc950006e3f80090b7f", func := "interrex/interrexlaw10.ClockAll", spec := "clockAll", inPlace := ["sync/atomic.LoadUint32", "(*internal/sync.Mutex).Lock", "internal/race.Disable", "sync/atomic.CompareAndSwapInt32", "internal/race.Enable", "internal/race.Acquire", "(*internal/sync.Mutex).lockSlow", "internal/sync.runtime_canSpin", "internal/sync.runtime_doSpin", "internal/sync.throw", "internal/sync.runtime_nanotime", "internal/sync.runtime_SemacquireMutex", "sync/atomic.AddInt32", "(*internal/sync.Mutex).Unlock", "internal/race.ReleaseMerge", "(*internal/sync.Mutex).unlockSlow", "internal/sync.fatal", "internal/sync.runtime_Semrelease", "sync/atomic.StoreUint32", "internal/bytealg.abigen_runtime_cmpstring", "sync/atomic.AddInt64"], unfollowed := true, recurses := true, apart := false }
def ClockAllSaid : Prop := clockAllRow.holds Tryz.pinned (OpenSpec.ofChange clockAllSpec)

/-- ITS FALSE NEIGHBOUR: 'it returns false'. Refute it at one input. -/
def clockAllWrong : ChangeSpec := { name := "clockAll", fn := fun _ => fun
  | [d1, d2] => { results := [.lit (.bool false)], args := [d1, d2] }
  | _ => none }
def ClockAllWrongFalsely : Prop := clockAllRow.holds Tryz.pinned (OpenSpec.ofChange clockAllWrong)

/- THE SECOND FORM. 'bulk': how many values and letters a reading holds, each counted each time it is reached (what is shared counts as often as it is met; a slice's spare places count too). A statement '..UptoSaid' is the law's where the arguments, and the package variables that the reading takes, are together of bulk at most 1048576: NARROWER than '..Said'. Prove '..Said' where nothing that the law and all that it calls make is longer than what came in: it says more and counts as full. Else prove '..UptoSaid'. A law counts once. -/
mutual
def uptoBulk {H : Type} : DataW H → Nat
  | .lit (.string bytes) => bytes.length + 1
  | .lit _ => 1
  | .nil => 1
  | .ptr d => uptoBulk d + 1
  | .slice elems spare => uptoBulkAll elems + uptoBulkAll spare + 1
  | .agg parts => uptoBulkAll parts + 1
  | .iface _ d => uptoBulk d + 1
  | .map entries => uptoBulkEntries entries + 1
  | .held _ => 1
def uptoBulkAll {H : Type} : List (DataW H) → Nat
  | [] => 0
  | d :: r => uptoBulk d + uptoBulkAll r
def uptoBulkEntries {H : Type} : List (Lit × DataW H) → Nat
  | [] => 0
  | x :: r => uptoBulkEntry x + uptoBulkEntries r
def uptoBulkEntry {H : Type} : Lit × DataW H → Nat
  | (.string bytes, d) => bytes.length + uptoBulk d + 1
  | (_, d) => uptoBulk d + 1
 end
def uptoSmall : (H : Type) → List (DataW H) → Bool := fun _ ds => decide (uptoBulkAll ds ≤ 1048576)
def OpenSpec.upto (s : _root_.Go.ChangeSpec) : _root_.Go.OpenSpec := { _root_.Go.OpenSpec.ofChange s with cond := some uptoSmall }

/-- 'interrexlaw10.SeenNone', WHERE WHAT IT READS IS OF BULK AT MOST 1048576: true; the input reads as it did. -/
def seenNoneUptoRow : OpenClaim := { program := "ytaddlnjgamlleaagreat", sum := "836bce2cfd9a5cf98c894b0a2ae3df4f1562731b99c46cc950006e3f80090b7f", func := "interrex/interrexlaw10.SeenNone", spec := "seenNone", inPlace := ["sync/atomic.LoadUint32", "(*internal/sync.Mutex).Lock", "internal/race.Disable", "sync/atomic.CompareAndSwapInt32", "internal/race.Enable", "internal/race.Acquire", "(*internal/sync.Mutex).lockSlow", "internal/sync.runtime_canSpin", "internal/sync.runtime_doSpin", "internal/sync.throw", "internal/sync.runtime_nanotime", "internal/sync.runtime_SemacquireMutex", "sync/atomic.AddInt32", "(*internal/sync.Mutex).Unlock", "internal/race.ReleaseMerge", "(*internal/sync.Mutex).unlockSlow", "internal/sync.fatal", "internal/sync.runtime_Semrelease", "sync/atomic.StoreUint32", "internal/bytealg.abigen_runtime_cmpstring", "sync/atomic.AddInt64"], unfollowed := true, recurses := true, apart := false, narrowed := true }
def SeenNoneUptoSaid : Prop := seenNoneUptoRow.holds Tryz.pinned (OpenSpec.upto seenNoneSpec)

/-- 'interrexlaw10.LeaseAll', WHERE WHAT IT READS IS OF BULK AT MOST 1048576: true; the input reads as it did. -/
def leaseAllUptoRow : OpenClaim := { program := "ytaddlnjgamlleaagreat", sum := "836bce2cfd9a5cf98c894b0a2ae3df4f1562731b99c46cc950006e3f80090b7f", func := "interrex/interrexlaw10.LeaseAll", spec := "leaseAll", inPlace := ["sync/atomic.LoadUint32", "(*internal/sync.Mutex).Lock", "internal/race.Disable", "sync/atomic.CompareAndSwapInt32", "internal/race.Enable", "internal/race.Acquire", "(*internal/sync.Mutex).lockSlow", "internal/sync.runtime_canSpin", "internal/sync.runtime_doSpin", "internal/sync.throw", "internal/sync.runtime_nanotime", "internal/sync.runtime_SemacquireMutex", "sync/atomic.AddInt32", "(*internal/sync.Mutex).Unlock", "internal/race.ReleaseMerge", "(*internal/sync.Mutex).unlockSlow", "internal/sync.fatal", "internal/sync.runtime_Semrelease", "sync/atomic.StoreUint32", "internal/bytealg.abigen_runtime_cmpstring", "sync/atomic.AddInt64"], unfollowed := true, recurses := true, apart := false, narrowed := true }
def LeaseAllUptoSaid : Prop := leaseAllUptoRow.holds Tryz.pinned (OpenSpec.upto leaseAllSpec)

/-- 'interrexlaw10.LeaseApart', WHERE WHAT IT READS IS OF BULK AT MOST 1048576: true; the input reads as it did. -/
def leaseApartUptoRow : OpenClaim := { program := "ytaddlnjgamlleaagreat", sum := "836bce2cfd9a5cf98c894b0a2ae3df4f1562731b99c46cc950006e3f80090b7f", func := "interrex/interrexlaw10.LeaseApart", spec := "leaseApart", inPlace := ["sync/atomic.LoadUint32", "(*internal/sync.Mutex).Lock", "internal/race.Disable", "sync/atomic.CompareAndSwapInt32", "internal/race.Enable", "internal/race.Acquire", "(*internal/sync.Mutex).lockSlow", "internal/sync.runtime_canSpin", "internal/sync.runtime_doSpin", "internal/sync.throw", "internal/sync.runtime_nanotime", "internal/sync.runtime_SemacquireMutex", "sync/atomic.AddInt32", "(*internal/sync.Mutex).Unlock", "internal/race.ReleaseMerge", "(*internal/sync.Mutex).unlockSlow", "internal/sync.fatal", "internal/sync.runtime_Semrelease", "sync/atomic.StoreUint32", "internal/bytealg.abigen_runtime_cmpstring", "sync/atomic.AddInt64"], unfollowed := true, recurses := true, apart := false, narrowed := true }
def LeaseApartUptoSaid : Prop := leaseApartUptoRow.holds Tryz.pinned (OpenSpec.upto leaseApartSpec)

/-- 'interrexlaw10.ClockLike', WHERE WHAT IT READS IS OF BULK AT MOST 1048576: true; the input reads as it did. -/
def clockLikeUptoRow : OpenClaim := { program := "ytaddlnjgamlleaagreat", sum := "836bce2cfd9a5cf98c894b0a2ae3df4f1562731b99c46cc950006e3f80090b7f", func := "interrex/interrexlaw10.ClockLike", spec := "clockLike", inPlace := ["sync/atomic.LoadUint32", "(*internal/sync.Mutex).Lock", "internal/race.Disable", "sync/atomic.CompareAndSwapInt32", "internal/race.Enable", "internal/race.Acquire", "(*internal/sync.Mutex).lockSlow", "internal/sync.runtime_canSpin", "internal/sync.runtime_doSpin", "internal/sync.throw", "internal/sync.runtime_nanotime", "internal/sync.runtime_SemacquireMutex", "sync/atomic.AddInt32", "(*internal/sync.Mutex).Unlock", "internal/race.ReleaseMerge", "(*internal/sync.Mutex).unlockSlow", "internal/sync.fatal", "internal/sync.runtime_Semrelease", "sync/atomic.StoreUint32", "internal/bytealg.abigen_runtime_cmpstring", "sync/atomic.AddInt64"], unfollowed := true, recurses := true, apart := false, narrowed := true }
def ClockLikeUptoSaid : Prop := clockLikeUptoRow.holds Tryz.pinned (OpenSpec.upto clockLikeSpec)

/-- 'interrexlaw10.ClockBad', WHERE WHAT IT READS IS OF BULK AT MOST 1048576: true; the input reads as it did. -/
def clockBadUptoRow : OpenClaim := { program := "ytaddlnjgamlleaagreat", sum := "836bce2cfd9a5cf98c894b0a2ae3df4f1562731b99c46cc950006e3f80090b7f", func := "interrex/interrexlaw10.ClockBad", spec := "clockBad", inPlace := ["sync/atomic.LoadUint32", "(*internal/sync.Mutex).Lock", "internal/race.Disable", "sync/atomic.CompareAndSwapInt32", "internal/race.Enable", "internal/race.Acquire", "(*internal/sync.Mutex).lockSlow", "internal/sync.runtime_canSpin", "internal/sync.runtime_doSpin", "internal/sync.throw", "internal/sync.runtime_nanotime", "internal/sync.runtime_SemacquireMutex", "sync/atomic.AddInt32", "(*internal/sync.Mutex).Unlock", "internal/race.ReleaseMerge", "(*internal/sync.Mutex).unlockSlow", "internal/sync.fatal", "internal/sync.runtime_Semrelease", "sync/atomic.StoreUint32", "internal/bytealg.abigen_runtime_cmpstring", "sync/atomic.AddInt64"], unfollowed := true, recurses := true, apart := false, narrowed := true }
def ClockBadUptoSaid : Prop := clockBadUptoRow.holds Tryz.pinned (OpenSpec.upto clockBadSpec)

/-- 'interrexlaw10.ClockSpan', WHERE WHAT IT READS IS OF BULK AT MOST 1048576: true; the input reads as it did. -/
def clockSpanUptoRow : OpenClaim := { program := "ytaddlnjgamlleaagreat", sum := "836bce2cfd9a5cf98c894b0a2ae3df4f1562731b99c46cc950006e3f80090b7f", func := "interrex/interrexlaw10.ClockSpan", spec := "clockSpan", inPlace := ["sync/atomic.LoadUint32", "(*internal/sync.Mutex).Lock", "internal/race.Disable", "sync/atomic.CompareAndSwapInt32", "internal/race.Enable", "internal/race.Acquire", "(*internal/sync.Mutex).lockSlow", "internal/sync.runtime_canSpin", "internal/sync.runtime_doSpin", "internal/sync.throw", "internal/sync.runtime_nanotime", "internal/sync.runtime_SemacquireMutex", "sync/atomic.AddInt32", "(*internal/sync.Mutex).Unlock", "internal/race.ReleaseMerge", "(*internal/sync.Mutex).unlockSlow", "internal/sync.fatal", "internal/sync.runtime_Semrelease", "sync/atomic.StoreUint32", "internal/bytealg.abigen_runtime_cmpstring", "sync/atomic.AddInt64"], unfollowed := true, recurses := true, apart := false, narrowed := true }
def ClockSpanUptoSaid : Prop := clockSpanUptoRow.holds Tryz.pinned (OpenSpec.upto clockSpanSpec)

/-- 'interrexlaw10.ClockAll', WHERE WHAT IT READS IS OF BULK AT MOST 1048576: true; the input reads as it did. -/
def clockAllUptoRow : OpenClaim := { program := "ytaddlnjgamlleaagreat", sum := "836bce2cfd9a5cf98c894b0a2ae3df4f1562731b99c46cc950006e3f80090b7f", func := "interrex/interrexlaw10.ClockAll", spec := "clockAll", inPlace := ["sync/atomic.LoadUint32", "(*internal/sync.Mutex).Lock", "internal/race.Disable", "sync/atomic.CompareAndSwapInt32", "internal/race.Enable", "internal/race.Acquire", "(*internal/sync.Mutex).lockSlow", "internal/sync.runtime_canSpin", "internal/sync.runtime_doSpin", "internal/sync.throw", "internal/sync.runtime_nanotime", "internal/sync.runtime_SemacquireMutex", "sync/atomic.AddInt32", "(*internal/sync.Mutex).Unlock", "internal/race.ReleaseMerge", "(*internal/sync.Mutex).unlockSlow", "internal/sync.fatal", "internal/sync.runtime_Semrelease", "sync/atomic.StoreUint32", "internal/bytealg.abigen_runtime_cmpstring", "sync/atomic.AddInt64"], unfollowed := true, recurses := true, apart := false, narrowed := true }
def ClockAllUptoSaid : Prop := clockAllUptoRow.holds Tryz.pinned (OpenSpec.upto clockAllSpec)

end Rows
end Go.Proofs.YtaddlnjgamlleaaGreat
