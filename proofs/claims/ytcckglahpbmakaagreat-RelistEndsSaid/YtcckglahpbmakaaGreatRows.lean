/-
  No cell of these rows narrows 'for every input' (looked for: loops, veiled, ifaces, maps, wideKeys, modest, calm, conditions, laid).
  DERIVED. THE GIVEN ROWS OF THIS SEAT. 5 by the template 'for every input the law returns true; each argument reads behind the call as it read before'; 0 by the template 'total and deterministic' (their statements: YtcckglahpbmakaaGreatTotals.lean).
  GIVEN WITH THE SEED: the statements are not yours to turn. If you find one false, say at which input.
  Laid BY PROGRAM, IN A SANDBOX (cutbox-rows.mjs): the forced cells as the released guide's own fill.sh prints them over the translation 8e67ff552049c4bf… (all of the seat's roots in one cut). By AI agents, Wed Nov 11 2026. No macro, syntax, notation, axiom, sorry.
-/
import Derived.Test.YtcckglahpbmakaaGreatChecked
import GoSem.Claim
import GoSem.ClaimJoined
import GoSem.ClaimMapViews
import Derived.JoinedTies
import Derived.KernelRfl
namespace Go.Proofs.YtcckglahpbmakaaGreat
/- THE CELL 'sum', in the pinned program and in every row, IS THE sha256 OF THE DUMP (.gsa) THAT YtcckglahpbmakaaGreatProg.lean LOADS. Nothing in Lean hashes anything: it is a label: what it is worth is what the hold of that sum in a sandbox is worth. -/
noncomputable def Tryz.pinned : Pinned := { name := "ytcckglahpbmakaagreat", sum := "8e67ff552049c4bfc43ee03843021a7626bc0e7cb3432f89b38be4d14096a0db", checked := Tryz.checked }
namespace Rows
def none {H : Type} : Left H := { results := [], args := [] }

/-- 'interrexlaw10.RelistTrue': WHATEVER THE INPUT: true; the input reads as it did. -/
def relistTrueSpec : ChangeSpec := { name := "relistTrue", fn := fun _ => fun
  | [d] => { results := [.lit (.bool true)], args := [d] }
  | _ => none }
def relistTrueRow : OpenClaim := { program := "ytcckglahpbmakaagreat", sum := "8e67ff552049c4bfc43ee03843021a7626bc0e7cb3432f89b38be4d14096a0db", func := "interrex/interrexlaw10.RelistTrue", spec := "relistTrue", inPlace := ["sync/atomic.LoadUint32", "(*internal/sync.Mutex).Lock", "internal/race.Disable", "sync/atomic.CompareAndSwapInt32", "internal/race.Enable", "internal/race.Acquire", "(*internal/sync.Mutex).lockSlow", "internal/sync.runtime_canSpin", "internal/sync.runtime_doSpin", "internal/sync.throw", "internal/sync.runtime_nanotime", "internal/sync.runtime_SemacquireMutex", "sync/atomic.AddInt32", "(*internal/sync.Mutex).Unlock", "internal/race.ReleaseMerge", "(*internal/sync.Mutex).unlockSlow", "internal/sync.fatal", "internal/sync.runtime_Semrelease", "sync/atomic.StoreUint32", "internal/bytealg.abigen_runtime_cmpstring", "sync/atomic.AddInt64"], unfollowed := true, recurses := true, apart := false }
def RelistTrueSaid : Prop := relistTrueRow.holds Tryz.pinned (OpenSpec.ofChange relistTrueSpec)

/-- ITS FALSE NEIGHBOUR: 'it returns false'. Refute it at one input. -/
def relistTrueWrong : ChangeSpec := { name := "relistTrue", fn := fun _ => fun
  | [d] => { results := [.lit (.bool false)], args := [d] }
  | _ => none }
def RelistTrueWrongFalsely : Prop := relistTrueRow.holds Tryz.pinned (OpenSpec.ofChange relistTrueWrong)

/-- 'interrexlaw10.RelistEnds': WHATEVER THE INPUT: true; the input reads as it did. -/
def relistEndsSpec : ChangeSpec := { name := "relistEnds", fn := fun _ => fun
  | [d] => { results := [.lit (.bool true)], args := [d] }
  | _ => none }
def relistEndsRow : OpenClaim := { program := "ytcckglahpbmakaagreat", sum := "8e67ff552049c4bfc43ee03843021a7626bc0e7cb3432f89b38be4d14096a0db", func := "interrex/interrexlaw10.RelistEnds", spec := "relistEnds", inPlace := ["sync/atomic.LoadUint32", "(*internal/sync.Mutex).Lock", "internal/race.Disable", "sync/atomic.CompareAndSwapInt32", "internal/race.Enable", "internal/race.Acquire", "(*internal/sync.Mutex).lockSlow", "internal/sync.runtime_canSpin", "internal/sync.runtime_doSpin", "internal/sync.throw", "internal/sync.runtime_nanotime", "internal/sync.runtime_SemacquireMutex", "sync/atomic.AddInt32", "(*internal/sync.Mutex).Unlock", "internal/race.ReleaseMerge", "(*internal/sync.Mutex).unlockSlow", "internal/sync.fatal", "internal/sync.runtime_Semrelease", "sync/atomic.StoreUint32", "internal/bytealg.abigen_runtime_cmpstring", "sync/atomic.AddInt64"], unfollowed := true, recurses := true, apart := false }
def RelistEndsSaid : Prop := relistEndsRow.holds Tryz.pinned (OpenSpec.ofChange relistEndsSpec)

/-- ITS FALSE NEIGHBOUR: 'it returns false'. Refute it at one input. -/
def relistEndsWrong : ChangeSpec := { name := "relistEnds", fn := fun _ => fun
  | [d] => { results := [.lit (.bool false)], args := [d] }
  | _ => none }
def RelistEndsWrongFalsely : Prop := relistEndsRow.holds Tryz.pinned (OpenSpec.ofChange relistEndsWrong)

/-- 'interrexlaw10.AssumeKnown': WHATEVER THE INPUT: true; the input reads as it did. -/
def assumeKnownSpec : ChangeSpec := { name := "assumeKnown", fn := fun _ => fun
  | [d1, d2] => { results := [.lit (.bool true)], args := [d1, d2] }
  | _ => none }
def assumeKnownRow : OpenClaim := { program := "ytcckglahpbmakaagreat", sum := "8e67ff552049c4bfc43ee03843021a7626bc0e7cb3432f89b38be4d14096a0db", func := "interrex/interrexlaw10.AssumeKnown", spec := "assumeKnown", inPlace := ["sync/atomic.LoadUint32", "(*internal/sync.Mutex).Lock", "internal/race.Disable", "sync/atomic.CompareAndSwapInt32", "internal/race.Enable", "internal/race.Acquire", "(*internal/sync.Mutex).lockSlow", "internal/sync.runtime_canSpin", "internal/sync.runtime_doSpin", "internal/sync.throw", "internal/sync.runtime_nanotime", "internal/sync.runtime_SemacquireMutex", "sync/atomic.AddInt32", "(*internal/sync.Mutex).Unlock", "internal/race.ReleaseMerge", "(*internal/sync.Mutex).unlockSlow", "internal/sync.fatal", "internal/sync.runtime_Semrelease", "sync/atomic.StoreUint32", "internal/bytealg.abigen_runtime_cmpstring", "sync/atomic.AddInt64"], unfollowed := true, recurses := true, apart := false }
def AssumeKnownSaid : Prop := assumeKnownRow.holds Tryz.pinned (OpenSpec.ofChange assumeKnownSpec)

/-- ITS FALSE NEIGHBOUR: 'it returns false'. Refute it at one input. -/
def assumeKnownWrong : ChangeSpec := { name := "assumeKnown", fn := fun _ => fun
  | [d1, d2] => { results := [.lit (.bool false)], args := [d1, d2] }
  | _ => none }
def AssumeKnownWrongFalsely : Prop := assumeKnownRow.holds Tryz.pinned (OpenSpec.ofChange assumeKnownWrong)

/-- 'interrexlaw10.AssumeOnce': WHATEVER THE INPUT: true; the input reads as it did. -/
def assumeOnceSpec : ChangeSpec := { name := "assumeOnce", fn := fun _ => fun
  | [d1, d2, d3, d4, d5] => { results := [.lit (.bool true)], args := [d1, d2, d3, d4, d5] }
  | _ => none }
def assumeOnceRow : OpenClaim := { program := "ytcckglahpbmakaagreat", sum := "8e67ff552049c4bfc43ee03843021a7626bc0e7cb3432f89b38be4d14096a0db", func := "interrex/interrexlaw10.AssumeOnce", spec := "assumeOnce", inPlace := ["sync/atomic.LoadUint32", "(*internal/sync.Mutex).Lock", "internal/race.Disable", "sync/atomic.CompareAndSwapInt32", "internal/race.Enable", "internal/race.Acquire", "(*internal/sync.Mutex).lockSlow", "internal/sync.runtime_canSpin", "internal/sync.runtime_doSpin", "internal/sync.throw", "internal/sync.runtime_nanotime", "internal/sync.runtime_SemacquireMutex", "sync/atomic.AddInt32", "(*internal/sync.Mutex).Unlock", "internal/race.ReleaseMerge", "(*internal/sync.Mutex).unlockSlow", "internal/sync.fatal", "internal/sync.runtime_Semrelease", "sync/atomic.StoreUint32", "internal/bytealg.abigen_runtime_cmpstring", "sync/atomic.AddInt64"], unfollowed := true, recurses := true, apart := false }
def AssumeOnceSaid : Prop := assumeOnceRow.holds Tryz.pinned (OpenSpec.ofChange assumeOnceSpec)

/-- ITS FALSE NEIGHBOUR: 'it returns false'. Refute it at one input. -/
def assumeOnceWrong : ChangeSpec := { name := "assumeOnce", fn := fun _ => fun
  | [d1, d2, d3, d4, d5] => { results := [.lit (.bool false)], args := [d1, d2, d3, d4, d5] }
  | _ => none }
def AssumeOnceWrongFalsely : Prop := assumeOnceRow.holds Tryz.pinned (OpenSpec.ofChange assumeOnceWrong)

/-- 'interrexlaw10.AssumeAll': WHATEVER THE INPUT: true; the input reads as it did. -/
def assumeAllSpec : ChangeSpec := { name := "assumeAll", fn := fun _ => fun
  | [d] => { results := [.lit (.bool true)], args := [d] }
  | _ => none }
def assumeAllRow : OpenClaim := { program := "ytcckglahpbmakaagreat", sum := "8e67ff552049c4bfc43ee03843021a7626bc0e7cb3432f89b38be4d14096a0db", func := "interrex/interrexlaw10.AssumeAll", spec := "assumeAll", inPlace := ["sync/atomic.LoadUint32", "(*internal/sync.Mutex).Lock", "internal/race.Disable", "sync/atomic.CompareAndSwapInt32", "internal/race.Enable", "internal/race.Acquire", "(*internal/sync.Mutex).lockSlow", "internal/sync.runtime_canSpin", "internal/sync.runtime_doSpin", "internal/sync.throw", "internal/sync.runtime_nanotime", "internal/sync.runtime_SemacquireMutex", "sync/atomic.AddInt32", "(*internal/sync.Mutex).Unlock", "internal/race.ReleaseMerge", "(*internal/sync.Mutex).unlockSlow", "internal/sync.fatal", "internal/sync.runtime_Semrelease", "sync/atomic.StoreUint32", "internal/bytealg.abigen_runtime_cmpstring", "sync/atomic.AddInt64"], unfollowed := true, recurses := true, apart := false }
def AssumeAllSaid : Prop := assumeAllRow.holds Tryz.pinned (OpenSpec.ofChange assumeAllSpec)

/-- ITS FALSE NEIGHBOUR: 'it returns false'. Refute it at one input. -/
def assumeAllWrong : ChangeSpec := { name := "assumeAll", fn := fun _ => fun
  | [d] => { results := [.lit (.bool false)], args := [d] }
  | _ => none }
def AssumeAllWrongFalsely : Prop := assumeAllRow.holds Tryz.pinned (OpenSpec.ofChange assumeAllWrong)

/- THE SECOND FORM. 'bulk': how many values and letters a reading holds, each counted each time it is reached (what is shared counts as often as it is met; a slice's spare places count too). A statement '..UptoSaid' is the law's where the arguments, and the package variables that the reading takes, are together of bulk at most 1048576: NARROWER than '..Said'. Prove '..Said' where nothing that the law and all that it calls make is longer than what came in: it says more and counts as full. Else prove '..UptoSaid'. A law counts once. -/
mutual
def uptoBulk {H : Type} : DataW H → Nat
  | .lit (.string bytes) => bytes.length + 1
  | .lit _ => 1
  | .nil => 1
  | .ptr d => uptoBulk d + 1
  | .slice elems spare => uptoBulkAll elems + uptoBulkAll spare + 1
  | .agg parts => uptoBulkAll parts + 1
  | .iface _ d => uptoBulk d + 1
  | .map entries => uptoBulkEntries entries + 1
  | .held _ => 1
def uptoBulkAll {H : Type} : List (DataW H) → Nat
  | [] => 0
  | d :: r => uptoBulk d + uptoBulkAll r
def uptoBulkEntries {H : Type} : List (Lit × DataW H) → Nat
  | [] => 0
  | x :: r => uptoBulkEntry x + uptoBulkEntries r
def uptoBulkEntry {H : Type} : Lit × DataW H → Nat
  | (.string bytes, d) => bytes.length + uptoBulk d + 1
  | (_, d) => uptoBulk d + 1
 end
def uptoSmall : (H : Type) → List (DataW H) → Bool := fun _ ds => decide (uptoBulkAll ds ≤ 1048576)
def OpenSpec.upto (s : _root_.Go.ChangeSpec) : _root_.Go.OpenSpec := { _root_.Go.OpenSpec.ofChange s with cond := some uptoSmall }

/-- 'interrexlaw10.RelistTrue', WHERE WHAT IT READS IS OF BULK AT MOST 1048576: true; the input reads as it did. -/
def relistTrueUptoRow : OpenClaim := { program := "ytcckglahpbmakaagreat", sum := "8e67ff552049c4bfc43ee03843021a7626bc0e7cb3432f89b38be4d14096a0db", func := "interrex/interrexlaw10.RelistTrue", spec := "relistTrue", inPlace := ["sync/atomic.LoadUint32", "(*internal/sync.Mutex).Lock", "internal/race.Disable", "sync/atomic.CompareAndSwapInt32", "internal/race.Enable", "internal/race.Acquire", "(*internal/sync.Mutex).lockSlow", "internal/sync.runtime_canSpin", "internal/sync.runtime_doSpin", "internal/sync.throw", "internal/sync.runtime_nanotime", "internal/sync.runtime_SemacquireMutex", "sync/atomic.AddInt32", "(*internal/sync.Mutex).Unlock", "internal/race.ReleaseMerge", "(*internal/sync.Mutex).unlockSlow", "internal/sync.fatal", "internal/sync.runtime_Semrelease", "sync/atomic.StoreUint32", "internal/bytealg.abigen_runtime_cmpstring", "sync/atomic.AddInt64"], unfollowed := true, recurses := true, apart := false, narrowed := true }
def RelistTrueUptoSaid : Prop := relistTrueUptoRow.holds Tryz.pinned (OpenSpec.upto relistTrueSpec)

/-- 'interrexlaw10.RelistEnds', WHERE WHAT IT READS IS OF BULK AT MOST 1048576: true; the input reads as it did. -/
def relistEndsUptoRow : OpenClaim := { program := "ytcckglahpbmakaagreat", sum := "8e67ff552049c4bfc43ee03843021a7626bc0e7cb3432f89b38be4d14096a0db", func := "interrex/interrexlaw10.RelistEnds", spec := "relistEnds", inPlace := ["sync/atomic.LoadUint32", "(*internal/sync.Mutex).Lock", "internal/race.Disable", "sync/atomic.CompareAndSwapInt32", "internal/race.Enable", "internal/race.Acquire", "(*internal/sync.Mutex).lockSlow", "internal/sync.runtime_canSpin", "internal/sync.runtime_doSpin", "internal/sync.throw", "internal/sync.runtime_nanotime", "internal/sync.runtime_SemacquireMutex", "sync/atomic.AddInt32", "(*internal/sync.Mutex).Unlock", "internal/race.ReleaseMerge", "(*internal/sync.Mutex).unlockSlow", "internal/sync.fatal", "internal/sync.runtime_Semrelease", "sync/atomic.StoreUint32", "internal/bytealg.abigen_runtime_cmpstring", "sync/atomic.AddInt64"], unfollowed := true, recurses := true, apart := false, narrowed := true }
def RelistEndsUptoSaid : Prop := relistEndsUptoRow.holds Tryz.pinned (OpenSpec.upto relistEndsSpec)

/-- 'interrexlaw10.AssumeKnown', WHERE WHAT IT READS IS OF BULK AT MOST 1048576: true; the input reads as it did. -/
def assumeKnownUptoRow : OpenClaim := { program := "ytcckglahpbmakaagreat", sum := "8e67ff552049c4bfc43ee03843021a7626bc0e7cb3432f89b38be4d14096a0db", func := "interrex/interrexlaw10.AssumeKnown", spec := "assumeKnown", inPlace := ["sync/atomic.LoadUint32", "(*internal/sync.Mutex).Lock", "internal/race.Disable", "sync/atomic.CompareAndSwapInt32", "internal/race.Enable", "internal/race.Acquire", "(*internal/sync.Mutex).lockSlow", "internal/sync.runtime_canSpin", "internal/sync.runtime_doSpin", "internal/sync.throw", "internal/sync.runtime_nanotime", "internal/sync.runtime_SemacquireMutex", "sync/atomic.AddInt32", "(*internal/sync.Mutex).Unlock", "internal/race.ReleaseMerge", "(*internal/sync.Mutex).unlockSlow", "internal/sync.fatal", "internal/sync.runtime_Semrelease", "sync/atomic.StoreUint32", "internal/bytealg.abigen_runtime_cmpstring", "sync/atomic.AddInt64"], unfollowed := true, recurses := true, apart := false, narrowed := true }
def AssumeKnownUptoSaid : Prop := assumeKnownUptoRow.holds Tryz.pinned (OpenSpec.upto assumeKnownSpec)

/-- 'interrexlaw10.AssumeOnce', WHERE WHAT IT READS IS OF BULK AT MOST 1048576: true; the input reads as it did. -/
def assumeOnceUptoRow : OpenClaim := { program := "ytcckglahpbmakaagreat", sum := "8e67ff552049c4bfc43ee03843021a7626bc0e7cb3432f89b38be4d14096a0db", func := "interrex/interrexlaw10.AssumeOnce", spec := "assumeOnce", inPlace := ["sync/atomic.LoadUint32", "(*internal/sync.Mutex).Lock", "internal/race.Disable", "sync/atomic.CompareAndSwapInt32", "internal/race.Enable", "internal/race.Acquire", "(*internal/sync.Mutex).lockSlow", "internal/sync.runtime_canSpin", "internal/sync.runtime_doSpin", "internal/sync.throw", "internal/sync.runtime_nanotime", "internal/sync.runtime_SemacquireMutex", "sync/atomic.AddInt32", "(*internal/sync.Mutex).Unlock", "internal/race.ReleaseMerge", "(*internal/sync.Mutex).unlockSlow", "internal/sync.fatal", "internal/sync.runtime_Semrelease", "sync/atomic.StoreUint32", "internal/bytealg.abigen_runtime_cmpstring", "sync/atomic.AddInt64"], unfollowed := true, recurses := true, apart := false, narrowed := true }
def AssumeOnceUptoSaid : Prop := assumeOnceUptoRow.holds Tryz.pinned (OpenSpec.upto assumeOnceSpec)

/-- 'interrexlaw10.AssumeAll', WHERE WHAT IT READS IS OF BULK AT MOST 1048576: true; the input reads as it did. -/
def assumeAllUptoRow : OpenClaim := { program := "ytcckglahpbmakaagreat", sum := "8e67ff552049c4bfc43ee03843021a7626bc0e7cb3432f89b38be4d14096a0db", func := "interrex/interrexlaw10.AssumeAll", spec := "assumeAll", inPlace := ["sync/atomic.LoadUint32", "(*internal/sync.Mutex).Lock", "internal/race.Disable", "sync/atomic.CompareAndSwapInt32", "internal/race.Enable", "internal/race.Acquire", "(*internal/sync.Mutex).lockSlow", "internal/sync.runtime_canSpin", "internal/sync.runtime_doSpin", "internal/sync.throw", "internal/sync.runtime_nanotime", "internal/sync.runtime_SemacquireMutex", "sync/atomic.AddInt32", "(*internal/sync.Mutex).Unlock", "internal/race.ReleaseMerge", "(*internal/sync.Mutex).unlockSlow", "internal/sync.fatal", "internal/sync.runtime_Semrelease", "sync/atomic.StoreUint32", "internal/bytealg.abigen_runtime_cmpstring", "sync/atomic.AddInt64"], unfollowed := true, recurses := true, apart := false, narrowed := true }
def AssumeAllUptoSaid : Prop := assumeAllUptoRow.holds Tryz.pinned (OpenSpec.upto assumeAllSpec)

end Rows
end Go.Proofs.YtcckglahpbmakaaGreat
