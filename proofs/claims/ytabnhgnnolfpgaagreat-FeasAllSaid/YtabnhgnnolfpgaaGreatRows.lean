/-
  No cell of these rows narrows 'for every input' (looked for: loops, veiled, ifaces, maps, wideKeys, modest, calm, conditions, laid).
  DERIVED. THE GIVEN ROWS OF THIS SEAT. 7 by the template 'for every input the law returns true; each argument reads behind the call as it read before'; 0 by the template 'total and deterministic' (their statements: YtabnhgnnolfpgaaGreatTotals.lean).
  GIVEN WITH THE SEED: the statements are not yours to turn. If you find one false, say at which input.
  Laid BY PROGRAM, IN A SANDBOX (cutbox-rows.mjs): the forced cells as the released guide's own fill.sh prints them over the translation aee53fdf230b0991… (all of the seat's roots in one cut). By AI agents, Wed Nov 11 2026. No macro, syntax, notation, axiom, sorry.
-/
import Derived.Test.YtabnhgnnolfpgaaGreatChecked
import GoSem.Claim
import GoSem.ClaimJoined
import GoSem.ClaimMapViews
import Derived.JoinedTies
import Derived.KernelRfl
namespace Go.Proofs.YtabnhgnnolfpgaaGreat
/- THE CELL 'sum', in the pinned program and in every row, IS THE sha256 OF THE DUMP (.gsa) THAT YtabnhgnnolfpgaaGreatProg.lean LOADS. Nothing in Lean hashes anything: it is a label: what it is worth is what the hold of that sum in a sandbox is worth. -/
noncomputable def Tryz.pinned : Pinned := { name := "ytabnhgnnolfpgaagreat", sum := "aee53fdf230b0991f1ed0e1df846ffcfbd57b79485a46a73ce8b8899e245b082", checked := Tryz.checked }
namespace Rows
def none {H : Type} : Left H := { results := [], args := [] }

/-- 'interrexlaw18.FitsEdge': WHATEVER THE INPUT: true; the input reads as it did. -/
def fitsEdgeSpec : ChangeSpec := { name := "fitsEdge", fn := fun _ => fun
  | [d1, d2, d3] => { results := [.lit (.bool true)], args := [d1, d2, d3] }
  | _ => none }
def fitsEdgeRow : OpenClaim := { program := "ytabnhgnnolfpgaagreat", sum := "aee53fdf230b0991f1ed0e1df846ffcfbd57b79485a46a73ce8b8899e245b082", func := "interrex/interrexlaw18.FitsEdge", spec := "fitsEdge", inPlace := ["internal/bytealg.abigen_runtime_cmpstring", "slices.overlaps[interrex/api.Pod]", "sync/atomic.LoadUint32", "(*internal/sync.Mutex).Lock", "internal/race.Disable", "sync/atomic.CompareAndSwapInt32", "internal/race.Enable", "internal/race.Acquire", "(*internal/sync.Mutex).lockSlow", "internal/sync.runtime_canSpin", "internal/sync.runtime_doSpin", "internal/sync.throw", "internal/sync.runtime_nanotime", "internal/sync.runtime_SemacquireMutex", "sync/atomic.AddInt32", "(*internal/sync.Mutex).Unlock", "internal/race.ReleaseMerge", "(*internal/sync.Mutex).unlockSlow", "internal/sync.fatal", "internal/sync.runtime_Semrelease", "sync/atomic.StoreUint32", "sync/atomic.AddInt64"], unfollowed := true, recurses := true, apart := false }
def FitsEdgeSaid : Prop := fitsEdgeRow.holds Tryz.pinned (OpenSpec.ofChange fitsEdgeSpec)

/-- ITS FALSE NEIGHBOUR: 'it returns false'. Refute it at one input. -/
def fitsEdgeWrong : ChangeSpec := { name := "fitsEdge", fn := fun _ => fun
  | [d1, d2, d3] => { results := [.lit (.bool false)], args := [d1, d2, d3] }
  | _ => none }
def FitsEdgeWrongFalsely : Prop := fitsEdgeRow.holds Tryz.pinned (OpenSpec.ofChange fitsEdgeWrong)

/-- 'interrexlaw18.TopoSelf': WHATEVER THE INPUT: true; the input reads as it did. -/
def topoSelfSpec : ChangeSpec := { name := "topoSelf", fn := fun _ => fun
  | [d1, d2, d3] => { results := [.lit (.bool true)], args := [d1, d2, d3] }
  | _ => none }
def topoSelfRow : OpenClaim := { program := "ytabnhgnnolfpgaagreat", sum := "aee53fdf230b0991f1ed0e1df846ffcfbd57b79485a46a73ce8b8899e245b082", func := "interrex/interrexlaw18.TopoSelf", spec := "topoSelf", inPlace := ["internal/bytealg.abigen_runtime_cmpstring", "slices.overlaps[interrex/api.Pod]", "sync/atomic.LoadUint32", "(*internal/sync.Mutex).Lock", "internal/race.Disable", "sync/atomic.CompareAndSwapInt32", "internal/race.Enable", "internal/race.Acquire", "(*internal/sync.Mutex).lockSlow", "internal/sync.runtime_canSpin", "internal/sync.runtime_doSpin", "internal/sync.throw", "internal/sync.runtime_nanotime", "internal/sync.runtime_SemacquireMutex", "sync/atomic.AddInt32", "(*internal/sync.Mutex).Unlock", "internal/race.ReleaseMerge", "(*internal/sync.Mutex).unlockSlow", "internal/sync.fatal", "internal/sync.runtime_Semrelease", "sync/atomic.StoreUint32", "sync/atomic.AddInt64"], unfollowed := true, recurses := true, apart := false }
def TopoSelfSaid : Prop := topoSelfRow.holds Tryz.pinned (OpenSpec.ofChange topoSelfSpec)

/-- ITS FALSE NEIGHBOUR: 'it returns false'. Refute it at one input. -/
def topoSelfWrong : ChangeSpec := { name := "topoSelf", fn := fun _ => fun
  | [d1, d2, d3] => { results := [.lit (.bool false)], args := [d1, d2, d3] }
  | _ => none }
def TopoSelfWrongFalsely : Prop := topoSelfRow.holds Tryz.pinned (OpenSpec.ofChange topoSelfWrong)

/-- 'interrexlaw18.TopoBoth': WHATEVER THE INPUT: true; the input reads as it did. -/
def topoBothSpec : ChangeSpec := { name := "topoBoth", fn := fun _ => fun
  | [d1, d2, d3, d4, d5] => { results := [.lit (.bool true)], args := [d1, d2, d3, d4, d5] }
  | _ => none }
def topoBothRow : OpenClaim := { program := "ytabnhgnnolfpgaagreat", sum := "aee53fdf230b0991f1ed0e1df846ffcfbd57b79485a46a73ce8b8899e245b082", func := "interrex/interrexlaw18.TopoBoth", spec := "topoBoth", inPlace := ["internal/bytealg.abigen_runtime_cmpstring", "slices.overlaps[interrex/api.Pod]", "sync/atomic.LoadUint32", "(*internal/sync.Mutex).Lock", "internal/race.Disable", "sync/atomic.CompareAndSwapInt32", "internal/race.Enable", "internal/race.Acquire", "(*internal/sync.Mutex).lockSlow", "internal/sync.runtime_canSpin", "internal/sync.runtime_doSpin", "internal/sync.throw", "internal/sync.runtime_nanotime", "internal/sync.runtime_SemacquireMutex", "sync/atomic.AddInt32", "(*internal/sync.Mutex).Unlock", "internal/race.ReleaseMerge", "(*internal/sync.Mutex).unlockSlow", "internal/sync.fatal", "internal/sync.runtime_Semrelease", "sync/atomic.StoreUint32", "sync/atomic.AddInt64"], unfollowed := true, recurses := true, apart := false }
def TopoBothSaid : Prop := topoBothRow.holds Tryz.pinned (OpenSpec.ofChange topoBothSpec)

/-- ITS FALSE NEIGHBOUR: 'it returns false'. Refute it at one input. -/
def topoBothWrong : ChangeSpec := { name := "topoBoth", fn := fun _ => fun
  | [d1, d2, d3, d4, d5] => { results := [.lit (.bool false)], args := [d1, d2, d3, d4, d5] }
  | _ => none }
def TopoBothWrongFalsely : Prop := topoBothRow.holds Tryz.pinned (OpenSpec.ofChange topoBothWrong)

/-- 'interrexlaw18.FeasGone': WHATEVER THE INPUT: true; the input reads as it did. -/
def feasGoneSpec : ChangeSpec := { name := "feasGone", fn := fun _ => fun
  | [d1, d2, d3] => { results := [.lit (.bool true)], args := [d1, d2, d3] }
  | _ => none }
def feasGoneRow : OpenClaim := { program := "ytabnhgnnolfpgaagreat", sum := "aee53fdf230b0991f1ed0e1df846ffcfbd57b79485a46a73ce8b8899e245b082", func := "interrex/interrexlaw18.FeasGone", spec := "feasGone", inPlace := ["internal/bytealg.abigen_runtime_cmpstring", "slices.overlaps[interrex/api.Pod]", "sync/atomic.LoadUint32", "(*internal/sync.Mutex).Lock", "internal/race.Disable", "sync/atomic.CompareAndSwapInt32", "internal/race.Enable", "internal/race.Acquire", "(*internal/sync.Mutex).lockSlow", "internal/sync.runtime_canSpin", "internal/sync.runtime_doSpin", "internal/sync.throw", "internal/sync.runtime_nanotime", "internal/sync.runtime_SemacquireMutex", "sync/atomic.AddInt32", "(*internal/sync.Mutex).Unlock", "internal/race.ReleaseMerge", "(*internal/sync.Mutex).unlockSlow", "internal/sync.fatal", "internal/sync.runtime_Semrelease", "sync/atomic.StoreUint32", "sync/atomic.AddInt64"], unfollowed := true, recurses := true, apart := false }
def FeasGoneSaid : Prop := feasGoneRow.holds Tryz.pinned (OpenSpec.ofChange feasGoneSpec)

/-- ITS FALSE NEIGHBOUR: 'it returns false'. Refute it at one input. -/
def feasGoneWrong : ChangeSpec := { name := "feasGone", fn := fun _ => fun
  | [d1, d2, d3] => { results := [.lit (.bool false)], args := [d1, d2, d3] }
  | _ => none }
def FeasGoneWrongFalsely : Prop := feasGoneRow.holds Tryz.pinned (OpenSpec.ofChange feasGoneWrong)

/-- 'interrexlaw18.FeasAll': WHATEVER THE INPUT: true; the input reads as it did. -/
def feasAllSpec : ChangeSpec := { name := "feasAll", fn := fun _ => fun
  | [d1, d2, d3] => { results := [.lit (.bool true)], args := [d1, d2, d3] }
  | _ => none }
def feasAllRow : OpenClaim := { program := "ytabnhgnnolfpgaagreat", sum := "aee53fdf230b0991f1ed0e1df846ffcfbd57b79485a46a73ce8b8899e245b082", func := "interrex/interrexlaw18.FeasAll", spec := "feasAll", inPlace := ["internal/bytealg.abigen_runtime_cmpstring", "slices.overlaps[interrex/api.Pod]", "sync/atomic.LoadUint32", "(*internal/sync.Mutex).Lock", "internal/race.Disable", "sync/atomic.CompareAndSwapInt32", "internal/race.Enable", "internal/race.Acquire", "(*internal/sync.Mutex).lockSlow", "internal/sync.runtime_canSpin", "internal/sync.runtime_doSpin", "internal/sync.throw", "internal/sync.runtime_nanotime", "internal/sync.runtime_SemacquireMutex", "sync/atomic.AddInt32", "(*internal/sync.Mutex).Unlock", "internal/race.ReleaseMerge", "(*internal/sync.Mutex).unlockSlow", "internal/sync.fatal", "internal/sync.runtime_Semrelease", "sync/atomic.StoreUint32", "sync/atomic.AddInt64"], unfollowed := true, recurses := true, apart := false }
def FeasAllSaid : Prop := feasAllRow.holds Tryz.pinned (OpenSpec.ofChange feasAllSpec)

/-- ITS FALSE NEIGHBOUR: 'it returns false'. Refute it at one input. -/
def feasAllWrong : ChangeSpec := { name := "feasAll", fn := fun _ => fun
  | [d1, d2, d3] => { results := [.lit (.bool false)], args := [d1, d2, d3] }
  | _ => none }
def FeasAllWrongFalsely : Prop := feasAllRow.holds Tryz.pinned (OpenSpec.ofChange feasAllWrong)

/-- 'interrexlaw18.FeasLess': WHATEVER THE INPUT: true; the input reads as it did. -/
def feasLessSpec : ChangeSpec := { name := "feasLess", fn := fun _ => fun
  | [d1, d2, d3] => { results := [.lit (.bool true)], args := [d1, d2, d3] }
  | _ => none }
def feasLessRow : OpenClaim := { program := "ytabnhgnnolfpgaagreat", sum := "aee53fdf230b0991f1ed0e1df846ffcfbd57b79485a46a73ce8b8899e245b082", func := "interrex/interrexlaw18.FeasLess", spec := "feasLess", inPlace := ["internal/bytealg.abigen_runtime_cmpstring", "slices.overlaps[interrex/api.Pod]", "sync/atomic.LoadUint32", "(*internal/sync.Mutex).Lock", "internal/race.Disable", "sync/atomic.CompareAndSwapInt32", "internal/race.Enable", "internal/race.Acquire", "(*internal/sync.Mutex).lockSlow", "internal/sync.runtime_canSpin", "internal/sync.runtime_doSpin", "internal/sync.throw", "internal/sync.runtime_nanotime", "internal/sync.runtime_SemacquireMutex", "sync/atomic.AddInt32", "(*internal/sync.Mutex).Unlock", "internal/race.ReleaseMerge", "(*internal/sync.Mutex).unlockSlow", "internal/sync.fatal", "internal/sync.runtime_Semrelease", "sync/atomic.StoreUint32", "sync/atomic.AddInt64"], unfollowed := true, recurses := true, apart := false }
def FeasLessSaid : Prop := feasLessRow.holds Tryz.pinned (OpenSpec.ofChange feasLessSpec)

/-- ITS FALSE NEIGHBOUR: 'it returns false'. Refute it at one input. -/
def feasLessWrong : ChangeSpec := { name := "feasLess", fn := fun _ => fun
  | [d1, d2, d3] => { results := [.lit (.bool false)], args := [d1, d2, d3] }
  | _ => none }
def FeasLessWrongFalsely : Prop := feasLessRow.holds Tryz.pinned (OpenSpec.ofChange feasLessWrong)

/-- 'interrexlaw18.ScoreAll': WHATEVER THE INPUT: true; the input reads as it did. -/
def scoreAllSpec : ChangeSpec := { name := "scoreAll", fn := fun _ => fun
  | [d1, d2, d3, d4] => { results := [.lit (.bool true)], args := [d1, d2, d3, d4] }
  | _ => none }
def scoreAllRow : OpenClaim := { program := "ytabnhgnnolfpgaagreat", sum := "aee53fdf230b0991f1ed0e1df846ffcfbd57b79485a46a73ce8b8899e245b082", func := "interrex/interrexlaw18.ScoreAll", spec := "scoreAll", inPlace := ["internal/bytealg.abigen_runtime_cmpstring", "slices.overlaps[interrex/api.Pod]", "sync/atomic.LoadUint32", "(*internal/sync.Mutex).Lock", "internal/race.Disable", "sync/atomic.CompareAndSwapInt32", "internal/race.Enable", "internal/race.Acquire", "(*internal/sync.Mutex).lockSlow", "internal/sync.runtime_canSpin", "internal/sync.runtime_doSpin", "internal/sync.throw", "internal/sync.runtime_nanotime", "internal/sync.runtime_SemacquireMutex", "sync/atomic.AddInt32", "(*internal/sync.Mutex).Unlock", "internal/race.ReleaseMerge", "(*internal/sync.Mutex).unlockSlow", "internal/sync.fatal", "internal/sync.runtime_Semrelease", "sync/atomic.StoreUint32", "sync/atomic.AddInt64"], unfollowed := true, recurses := true, apart := false }
def ScoreAllSaid : Prop := scoreAllRow.holds Tryz.pinned (OpenSpec.ofChange scoreAllSpec)

/-- ITS FALSE NEIGHBOUR: 'it returns false'. Refute it at one input. -/
def scoreAllWrong : ChangeSpec := { name := "scoreAll", fn := fun _ => fun
  | [d1, d2, d3, d4] => { results := [.lit (.bool false)], args := [d1, d2, d3, d4] }
  | _ => none }
def ScoreAllWrongFalsely : Prop := scoreAllRow.holds Tryz.pinned (OpenSpec.ofChange scoreAllWrong)

/- THE SECOND FORM. 'bulk': how many values and letters a reading holds, each counted each time it is reached (what is shared counts as often as it is met; a slice's spare places count too). A statement '..UptoSaid' is the law's where the arguments, and the package variables that the reading takes, are together of bulk at most 1048576: NARROWER than '..Said'. Prove '..Said' where nothing that the law and all that it calls make is longer than what came in: it says more and counts as full. Else prove '..UptoSaid'. A law counts once. -/
mutual
def uptoBulk {H : Type} : DataW H → Nat
  | .lit (.string bytes) => bytes.length + 1
  | .lit _ => 1
  | .nil => 1
  | .ptr d => uptoBulk d + 1
  | .slice elems spare => uptoBulkAll elems + uptoBulkAll spare + 1
  | .agg parts => uptoBulkAll parts + 1
  | .iface _ d => uptoBulk d + 1
  | .map entries => uptoBulkEntries entries + 1
  | .held _ => 1
def uptoBulkAll {H : Type} : List (DataW H) → Nat
  | [] => 0
  | d :: r => uptoBulk d + uptoBulkAll r
def uptoBulkEntries {H : Type} : List (Lit × DataW H) → Nat
  | [] => 0
  | x :: r => uptoBulkEntry x + uptoBulkEntries r
def uptoBulkEntry {H : Type} : Lit × DataW H → Nat
  | (.string bytes, d) => bytes.length + uptoBulk d + 1
  | (_, d) => uptoBulk d + 1
 end
def uptoSmall : (H : Type) → List (DataW H) → Bool := fun _ ds => decide (uptoBulkAll ds ≤ 1048576)
def OpenSpec.upto (s : _root_.Go.ChangeSpec) : _root_.Go.OpenSpec := { _root_.Go.OpenSpec.ofChange s with cond := some uptoSmall }

/-- 'interrexlaw18.FitsEdge', WHERE WHAT IT READS IS OF BULK AT MOST 1048576: true; the input reads as it did. -/
def fitsEdgeUptoRow : OpenClaim := { program := "ytabnhgnnolfpgaagreat", sum := "aee53fdf230b0991f1ed0e1df846ffcfbd57b79485a46a73ce8b8899e245b082", func := "interrex/interrexlaw18.FitsEdge", spec := "fitsEdge", inPlace := ["internal/bytealg.abigen_runtime_cmpstring", "slices.overlaps[interrex/api.Pod]", "sync/atomic.LoadUint32", "(*internal/sync.Mutex).Lock", "internal/race.Disable", "sync/atomic.CompareAndSwapInt32", "internal/race.Enable", "internal/race.Acquire", "(*internal/sync.Mutex).lockSlow", "internal/sync.runtime_canSpin", "internal/sync.runtime_doSpin", "internal/sync.throw", "internal/sync.runtime_nanotime", "internal/sync.runtime_SemacquireMutex", "sync/atomic.AddInt32", "(*internal/sync.Mutex).Unlock", "internal/race.ReleaseMerge", "(*internal/sync.Mutex).unlockSlow", "internal/sync.fatal", "internal/sync.runtime_Semrelease", "sync/atomic.StoreUint32", "sync/atomic.AddInt64"], unfollowed := true, recurses := true, apart := false, narrowed := true }
def FitsEdgeUptoSaid : Prop := fitsEdgeUptoRow.holds Tryz.pinned (OpenSpec.upto fitsEdgeSpec)

/-- 'interrexlaw18.TopoSelf', WHERE WHAT IT READS IS OF BULK AT MOST 1048576: true; the input reads as it did. -/
def topoSelfUptoRow : OpenClaim := { program := "ytabnhgnnolfpgaagreat", sum := "aee53fdf230b0991f1ed0e1df846ffcfbd57b79485a46a73ce8b8899e245b082", func := "interrex/interrexlaw18.TopoSelf", spec := "topoSelf", inPlace := ["internal/bytealg.abigen_runtime_cmpstring", "slices.overlaps[interrex/api.Pod]", "sync/atomic.LoadUint32", "(*internal/sync.Mutex).Lock", "internal/race.Disable", "sync/atomic.CompareAndSwapInt32", "internal/race.Enable", "internal/race.Acquire", "(*internal/sync.Mutex).lockSlow", "internal/sync.runtime_canSpin", "internal/sync.runtime_doSpin", "internal/sync.throw", "internal/sync.runtime_nanotime", "internal/sync.runtime_SemacquireMutex", "sync/atomic.AddInt32", "(*internal/sync.Mutex).Unlock", "internal/race.ReleaseMerge", "(*internal/sync.Mutex).unlockSlow", "internal/sync.fatal", "internal/sync.runtime_Semrelease", "sync/atomic.StoreUint32", "sync/atomic.AddInt64"], unfollowed := true, recurses := true, apart := false, narrowed := true }
def TopoSelfUptoSaid : Prop := topoSelfUptoRow.holds Tryz.pinned (OpenSpec.upto topoSelfSpec)

/-- 'interrexlaw18.TopoBoth', WHERE WHAT IT READS IS OF BULK AT MOST 1048576: true; the input reads as it did. -/
def topoBothUptoRow : OpenClaim := { program := "ytabnhgnnolfpgaagreat", sum := "aee53fdf230b0991f1ed0e1df846ffcfbd57b79485a46a73ce8b8899e245b082", func := "interrex/interrexlaw18.TopoBoth", spec := "topoBoth", inPlace := ["internal/bytealg.abigen_runtime_cmpstring", "slices.overlaps[interrex/api.Pod]", "sync/atomic.LoadUint32", "(*internal/sync.Mutex).Lock", "internal/race.Disable", "sync/atomic.CompareAndSwapInt32", "internal/race.Enable", "internal/race.Acquire", "(*internal/sync.Mutex).lockSlow", "internal/sync.runtime_canSpin", "internal/sync.runtime_doSpin", "internal/sync.throw", "internal/sync.runtime_nanotime", "internal/sync.runtime_SemacquireMutex", "sync/atomic.AddInt32", "(*internal/sync.Mutex).Unlock", "internal/race.ReleaseMerge", "(*internal/sync.Mutex).unlockSlow", "internal/sync.fatal", "internal/sync.runtime_Semrelease", "sync/atomic.StoreUint32", "sync/atomic.AddInt64"], unfollowed := true, recurses := true, apart := false, narrowed := true }
def TopoBothUptoSaid : Prop := topoBothUptoRow.holds Tryz.pinned (OpenSpec.upto topoBothSpec)

/-- 'interrexlaw18.FeasGone', WHERE WHAT IT READS IS OF BULK AT MOST 1048576: true; the input reads as it did. -/
def feasGoneUptoRow : OpenClaim := { program := "ytabnhgnnolfpgaagreat", sum := "aee53fdf230b0991f1ed0e1df846ffcfbd57b79485a46a73ce8b8899e245b082", func := "interrex/interrexlaw18.FeasGone", spec := "feasGone", inPlace := ["internal/bytealg.abigen_runtime_cmpstring", "slices.overlaps[interrex/api.Pod]", "sync/atomic.LoadUint32", "(*internal/sync.Mutex).Lock", "internal/race.Disable", "sync/atomic.CompareAndSwapInt32", "internal/race.Enable", "internal/race.Acquire", "(*internal/sync.Mutex).lockSlow", "internal/sync.runtime_canSpin", "internal/sync.runtime_doSpin", "internal/sync.throw", "internal/sync.runtime_nanotime", "internal/sync.runtime_SemacquireMutex", "sync/atomic.AddInt32", "(*internal/sync.Mutex).Unlock", "internal/race.ReleaseMerge", "(*internal/sync.Mutex).unlockSlow", "internal/sync.fatal", "internal/sync.runtime_Semrelease", "sync/atomic.StoreUint32", "sync/atomic.AddInt64"], unfollowed := true, recurses := true, apart := false, narrowed := true }
def FeasGoneUptoSaid : Prop := feasGoneUptoRow.holds Tryz.pinned (OpenSpec.upto feasGoneSpec)

/-- 'interrexlaw18.FeasAll', WHERE WHAT IT READS IS OF BULK AT MOST 1048576: true; the input reads as it did. -/
def feasAllUptoRow : OpenClaim := { program := "ytabnhgnnolfpgaagreat", sum := "aee53fdf230b0991f1ed0e1df846ffcfbd57b79485a46a73ce8b8899e245b082", func := "interrex/interrexlaw18.FeasAll", spec := "feasAll", inPlace := ["internal/bytealg.abigen_runtime_cmpstring", "slices.overlaps[interrex/api.Pod]", "sync/atomic.LoadUint32", "(*internal/sync.Mutex).Lock", "internal/race.Disable", "sync/atomic.CompareAndSwapInt32", "internal/race.Enable", "internal/race.Acquire", "(*internal/sync.Mutex).lockSlow", "internal/sync.runtime_canSpin", "internal/sync.runtime_doSpin", "internal/sync.throw", "internal/sync.runtime_nanotime", "internal/sync.runtime_SemacquireMutex", "sync/atomic.AddInt32", "(*internal/sync.Mutex).Unlock", "internal/race.ReleaseMerge", "(*internal/sync.Mutex).unlockSlow", "internal/sync.fatal", "internal/sync.runtime_Semrelease", "sync/atomic.StoreUint32", "sync/atomic.AddInt64"], unfollowed := true, recurses := true, apart := false, narrowed := true }
def FeasAllUptoSaid : Prop := feasAllUptoRow.holds Tryz.pinned (OpenSpec.upto feasAllSpec)

/-- 'interrexlaw18.FeasLess', WHERE WHAT IT READS IS OF BULK AT MOST 1048576: true; the input reads as it did. -/
def feasLessUptoRow : OpenClaim := { program := "ytabnhgnnolfpgaagreat", sum := "aee53fdf230b0991f1ed0e1df846ffcfbd57b79485a46a73ce8b8899e245b082", func := "interrex/interrexlaw18.FeasLess", spec := "feasLess", inPlace := ["internal/bytealg.abigen_runtime_cmpstring", "slices.overlaps[interrex/api.Pod]", "sync/atomic.LoadUint32", "(*internal/sync.Mutex).Lock", "internal/race.Disable", "sync/atomic.CompareAndSwapInt32", "internal/race.Enable", "internal/race.Acquire", "(*internal/sync.Mutex).lockSlow", "internal/sync.runtime_canSpin", "internal/sync.runtime_doSpin", "internal/sync.throw", "internal/sync.runtime_nanotime", "internal/sync.runtime_SemacquireMutex", "sync/atomic.AddInt32", "(*internal/sync.Mutex).Unlock", "internal/race.ReleaseMerge", "(*internal/sync.Mutex).unlockSlow", "internal/sync.fatal", "internal/sync.runtime_Semrelease", "sync/atomic.StoreUint32", "sync/atomic.AddInt64"], unfollowed := true, recurses := true, apart := false, narrowed := true }
def FeasLessUptoSaid : Prop := feasLessUptoRow.holds Tryz.pinned (OpenSpec.upto feasLessSpec)

/-- 'interrexlaw18.ScoreAll', WHERE WHAT IT READS IS OF BULK AT MOST 1048576: true; the input reads as it did. -/
def scoreAllUptoRow : OpenClaim := { program := "ytabnhgnnolfpgaagreat", sum := "aee53fdf230b0991f1ed0e1df846ffcfbd57b79485a46a73ce8b8899e245b082", func := "interrex/interrexlaw18.ScoreAll", spec := "scoreAll", inPlace := ["internal/bytealg.abigen_runtime_cmpstring", "slices.overlaps[interrex/api.Pod]", "sync/atomic.LoadUint32", "(*internal/sync.Mutex).Lock", "internal/race.Disable", "sync/atomic.CompareAndSwapInt32", "internal/race.Enable", "internal/race.Acquire", "(*internal/sync.Mutex).lockSlow", "internal/sync.runtime_canSpin", "internal/sync.runtime_doSpin", "internal/sync.throw", "internal/sync.runtime_nanotime", "internal/sync.runtime_SemacquireMutex", "sync/atomic.AddInt32", "(*internal/sync.Mutex).Unlock", "internal/race.ReleaseMerge", "(*internal/sync.Mutex).unlockSlow", "internal/sync.fatal", "internal/sync.runtime_Semrelease", "sync/atomic.StoreUint32", "sync/atomic.AddInt64"], unfollowed := true, recurses := true, apart := false, narrowed := true }
def ScoreAllUptoSaid : Prop := scoreAllUptoRow.holds Tryz.pinned (OpenSpec.upto scoreAllSpec)

end Rows
end Go.Proofs.YtabnhgnnolfpgaaGreat
