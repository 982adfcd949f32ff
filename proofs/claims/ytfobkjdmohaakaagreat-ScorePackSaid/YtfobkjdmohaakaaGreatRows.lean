/-
  No cell of these rows narrows 'for every input' (looked for: loops, veiled, ifaces, maps, wideKeys, modest, calm, conditions, laid).
  DERIVED. THE GIVEN ROWS OF THIS SEAT. 10 by the template 'for every input the law returns true; each argument reads behind the call as it read before'; 0 by the template 'total and deterministic' (their statements: YtfobkjdmohaakaaGreatTotals.lean).
  GIVEN WITH THE SEED: the statements are not yours to turn. If you find one false, say at which input.
  Laid BY PROGRAM, IN A SANDBOX (cutbox-rows.mjs): the forced cells as the released guide's own fill.sh prints them over the translation 698a737d1fa9bd86… (all of the seat's roots in one cut). By AI agents, Wed Nov 11 2026. No macro, syntax, notation, axiom, sorry.
-/
import Derived.Test.YtfobkjdmohaakaaGreatChecked
import GoSem.Claim
import GoSem.ClaimJoined
import GoSem.ClaimMapViews
import Derived.JoinedTies
import Derived.KernelRfl
namespace Go.Proofs.YtfobkjdmohaakaaGreat
/- THE CELL 'sum', in the pinned program and in every row, IS THE sha256 OF THE DUMP (.gsa) THAT YtfobkjdmohaakaaGreatProg.lean LOADS. Nothing in Lean hashes anything: it is a label: what it is worth is what the hold of that sum in a sandbox is worth. -/
noncomputable def Tryz.pinned : Pinned := { name := "ytfobkjdmohaakaagreat", sum := "698a737d1fa9bd86650ad5dae2c45bdc5e875ef0a3d3717851d321286c40d000", checked := Tryz.checked }
namespace Rows
def none {H : Type} : Left H := { results := [], args := [] }

/-- 'interrexlaw18.PlanNone': WHATEVER THE INPUT: true; the input reads as it did. -/
def planNoneSpec : ChangeSpec := { name := "planNone", fn := fun _ => fun
  | [] => { results := [.lit (.bool true)], args := [] }
  | _ => none }
def planNoneRow : OpenClaim := { program := "ytfobkjdmohaakaagreat", sum := "698a737d1fa9bd86650ad5dae2c45bdc5e875ef0a3d3717851d321286c40d000", func := "interrex/interrexlaw18.PlanNone", spec := "planNone", inPlace := ["internal/bytealg.abigen_runtime_cmpstring", "sync/atomic.LoadUint32", "(*internal/sync.Mutex).Lock", "internal/race.Disable", "sync/atomic.CompareAndSwapInt32", "internal/race.Enable", "internal/race.Acquire", "(*internal/sync.Mutex).lockSlow", "internal/sync.runtime_canSpin", "internal/sync.runtime_doSpin", "internal/sync.throw", "internal/sync.runtime_nanotime", "internal/sync.runtime_SemacquireMutex", "sync/atomic.AddInt32", "(*internal/sync.Mutex).Unlock", "internal/race.ReleaseMerge", "(*internal/sync.Mutex).unlockSlow", "internal/sync.fatal", "internal/sync.runtime_Semrelease", "sync/atomic.StoreUint32", "slices.overlaps[interrex/api.Pod]", "sync/atomic.AddInt64"], unfollowed := true, recurses := true, apart := false }
def PlanNoneSaid : Prop := planNoneRow.holds Tryz.pinned (OpenSpec.ofChange planNoneSpec)

/-- ITS FALSE NEIGHBOUR: 'it returns false'. Refute it at one input. -/
def planNoneWrong : ChangeSpec := { name := "planNone", fn := fun _ => fun
  | [] => { results := [.lit (.bool false)], args := [] }
  | _ => none }
def PlanNoneWrongFalsely : Prop := planNoneRow.holds Tryz.pinned (OpenSpec.ofChange planNoneWrong)

/-- 'interrexlaw18.ScorePack': WHATEVER THE INPUT: true; the input reads as it did. -/
def scorePackSpec : ChangeSpec := { name := "scorePack", fn := fun _ => fun
  | [d1, d2, d3] => { results := [.lit (.bool true)], args := [d1, d2, d3] }
  | _ => none }
def scorePackRow : OpenClaim := { program := "ytfobkjdmohaakaagreat", sum := "698a737d1fa9bd86650ad5dae2c45bdc5e875ef0a3d3717851d321286c40d000", func := "interrex/interrexlaw18.ScorePack", spec := "scorePack", inPlace := ["internal/bytealg.abigen_runtime_cmpstring", "slices.overlaps[interrex/api.Pod]", "sync/atomic.LoadUint32", "(*internal/sync.Mutex).Lock", "internal/race.Disable", "sync/atomic.CompareAndSwapInt32", "internal/race.Enable", "internal/race.Acquire", "(*internal/sync.Mutex).lockSlow", "internal/sync.runtime_canSpin", "internal/sync.runtime_doSpin", "internal/sync.throw", "internal/sync.runtime_nanotime", "internal/sync.runtime_SemacquireMutex", "sync/atomic.AddInt32", "(*internal/sync.Mutex).Unlock", "internal/race.ReleaseMerge", "(*internal/sync.Mutex).unlockSlow", "internal/sync.fatal", "internal/sync.runtime_Semrelease", "sync/atomic.StoreUint32", "sync/atomic.AddInt64"], unfollowed := true, recurses := true, apart := false }
def ScorePackSaid : Prop := scorePackRow.holds Tryz.pinned (OpenSpec.ofChange scorePackSpec)

/-- ITS FALSE NEIGHBOUR: 'it returns false'. Refute it at one input. -/
def scorePackWrong : ChangeSpec := { name := "scorePack", fn := fun _ => fun
  | [d1, d2, d3] => { results := [.lit (.bool false)], args := [d1, d2, d3] }
  | _ => none }
def ScorePackWrongFalsely : Prop := scorePackRow.holds Tryz.pinned (OpenSpec.ofChange scorePackWrong)

/-- 'interrexlaw18.ScoreEven': WHATEVER THE INPUT: true; the input reads as it did. -/
def scoreEvenSpec : ChangeSpec := { name := "scoreEven", fn := fun _ => fun
  | [d1, d2] => { results := [.lit (.bool true)], args := [d1, d2] }
  | _ => none }
def scoreEvenRow : OpenClaim := { program := "ytfobkjdmohaakaagreat", sum := "698a737d1fa9bd86650ad5dae2c45bdc5e875ef0a3d3717851d321286c40d000", func := "interrex/interrexlaw18.ScoreEven", spec := "scoreEven", inPlace := ["internal/bytealg.abigen_runtime_cmpstring", "slices.overlaps[interrex/api.Pod]", "sync/atomic.LoadUint32", "(*internal/sync.Mutex).Lock", "internal/race.Disable", "sync/atomic.CompareAndSwapInt32", "internal/race.Enable", "internal/race.Acquire", "(*internal/sync.Mutex).lockSlow", "internal/sync.runtime_canSpin", "internal/sync.runtime_doSpin", "internal/sync.throw", "internal/sync.runtime_nanotime", "internal/sync.runtime_SemacquireMutex", "sync/atomic.AddInt32", "(*internal/sync.Mutex).Unlock", "internal/race.ReleaseMerge", "(*internal/sync.Mutex).unlockSlow", "internal/sync.fatal", "internal/sync.runtime_Semrelease", "sync/atomic.StoreUint32", "sync/atomic.AddInt64"], unfollowed := true, recurses := true, apart := false }
def ScoreEvenSaid : Prop := scoreEvenRow.holds Tryz.pinned (OpenSpec.ofChange scoreEvenSpec)

/-- ITS FALSE NEIGHBOUR: 'it returns false'. Refute it at one input. -/
def scoreEvenWrong : ChangeSpec := { name := "scoreEven", fn := fun _ => fun
  | [d1, d2] => { results := [.lit (.bool false)], args := [d1, d2] }
  | _ => none }
def ScoreEvenWrongFalsely : Prop := scoreEvenRow.holds Tryz.pinned (OpenSpec.ofChange scoreEvenWrong)

/-- 'interrexlaw18.FitsPorts': WHATEVER THE INPUT: true; the input reads as it did. -/
def fitsPortsSpec : ChangeSpec := { name := "fitsPorts", fn := fun _ => fun
  | [d1, d2] => { results := [.lit (.bool true)], args := [d1, d2] }
  | _ => none }
def fitsPortsRow : OpenClaim := { program := "ytfobkjdmohaakaagreat", sum := "698a737d1fa9bd86650ad5dae2c45bdc5e875ef0a3d3717851d321286c40d000", func := "interrex/interrexlaw18.FitsPorts", spec := "fitsPorts", inPlace := ["internal/bytealg.abigen_runtime_cmpstring", "slices.overlaps[interrex/api.Pod]", "sync/atomic.LoadUint32", "(*internal/sync.Mutex).Lock", "internal/race.Disable", "sync/atomic.CompareAndSwapInt32", "internal/race.Enable", "internal/race.Acquire", "(*internal/sync.Mutex).lockSlow", "internal/sync.runtime_canSpin", "internal/sync.runtime_doSpin", "internal/sync.throw", "internal/sync.runtime_nanotime", "internal/sync.runtime_SemacquireMutex", "sync/atomic.AddInt32", "(*internal/sync.Mutex).Unlock", "internal/race.ReleaseMerge", "(*internal/sync.Mutex).unlockSlow", "internal/sync.fatal", "internal/sync.runtime_Semrelease", "sync/atomic.StoreUint32", "sync/atomic.AddInt64"], unfollowed := true, recurses := true, apart := false }
def FitsPortsSaid : Prop := fitsPortsRow.holds Tryz.pinned (OpenSpec.ofChange fitsPortsSpec)

/-- ITS FALSE NEIGHBOUR: 'it returns false'. Refute it at one input. -/
def fitsPortsWrong : ChangeSpec := { name := "fitsPorts", fn := fun _ => fun
  | [d1, d2] => { results := [.lit (.bool false)], args := [d1, d2] }
  | _ => none }
def FitsPortsWrongFalsely : Prop := fitsPortsRow.holds Tryz.pinned (OpenSpec.ofChange fitsPortsWrong)

/-- 'interrexlaw18.FitsEdge': WHATEVER THE INPUT: true; the input reads as it did. -/
def fitsEdgeSpec : ChangeSpec := { name := "fitsEdge", fn := fun _ => fun
  | [d1, d2, d3] => { results := [.lit (.bool true)], args := [d1, d2, d3] }
  | _ => none }
def fitsEdgeRow : OpenClaim := { program := "ytfobkjdmohaakaagreat", sum := "698a737d1fa9bd86650ad5dae2c45bdc5e875ef0a3d3717851d321286c40d000", func := "interrex/interrexlaw18.FitsEdge", spec := "fitsEdge", inPlace := ["internal/bytealg.abigen_runtime_cmpstring", "slices.overlaps[interrex/api.Pod]", "sync/atomic.LoadUint32", "(*internal/sync.Mutex).Lock", "internal/race.Disable", "sync/atomic.CompareAndSwapInt32", "internal/race.Enable", "internal/race.Acquire", "(*internal/sync.Mutex).lockSlow", "internal/sync.runtime_canSpin", "internal/sync.runtime_doSpin", "internal/sync.throw", "internal/sync.runtime_nanotime", "internal/sync.runtime_SemacquireMutex", "sync/atomic.AddInt32", "(*internal/sync.Mutex).Unlock", "internal/race.ReleaseMerge", "(*internal/sync.Mutex).unlockSlow", "internal/sync.fatal", "internal/sync.runtime_Semrelease", "sync/atomic.StoreUint32", "sync/atomic.AddInt64"], unfollowed := true, recurses := true, apart := false }
def FitsEdgeSaid : Prop := fitsEdgeRow.holds Tryz.pinned (OpenSpec.ofChange fitsEdgeSpec)

/-- ITS FALSE NEIGHBOUR: 'it returns false'. Refute it at one input. -/
def fitsEdgeWrong : ChangeSpec := { name := "fitsEdge", fn := fun _ => fun
  | [d1, d2, d3] => { results := [.lit (.bool false)], args := [d1, d2, d3] }
  | _ => none }
def FitsEdgeWrongFalsely : Prop := fitsEdgeRow.holds Tryz.pinned (OpenSpec.ofChange fitsEdgeWrong)

/-- 'interrexlaw18.QueueNew': WHATEVER THE INPUT: true; the input reads as it did. -/
def queueNewSpec : ChangeSpec := { name := "queueNew", fn := fun _ => fun
  | [d1, d2] => { results := [.lit (.bool true)], args := [d1, d2] }
  | _ => none }
def queueNewRow : OpenClaim := { program := "ytfobkjdmohaakaagreat", sum := "698a737d1fa9bd86650ad5dae2c45bdc5e875ef0a3d3717851d321286c40d000", func := "interrex/interrexlaw18.QueueNew", spec := "queueNew", inPlace := ["internal/bytealg.abigen_runtime_cmpstring", "slices.overlaps[interrex/api.Pod]", "sync/atomic.LoadUint32", "(*internal/sync.Mutex).Lock", "internal/race.Disable", "sync/atomic.CompareAndSwapInt32", "internal/race.Enable", "internal/race.Acquire", "(*internal/sync.Mutex).lockSlow", "internal/sync.runtime_canSpin", "internal/sync.runtime_doSpin", "internal/sync.throw", "internal/sync.runtime_nanotime", "internal/sync.runtime_SemacquireMutex", "sync/atomic.AddInt32", "(*internal/sync.Mutex).Unlock", "internal/race.ReleaseMerge", "(*internal/sync.Mutex).unlockSlow", "internal/sync.fatal", "internal/sync.runtime_Semrelease", "sync/atomic.StoreUint32", "sync/atomic.AddInt64"], unfollowed := true, recurses := true, apart := false }
def QueueNewSaid : Prop := queueNewRow.holds Tryz.pinned (OpenSpec.ofChange queueNewSpec)

/-- ITS FALSE NEIGHBOUR: 'it returns false'. Refute it at one input. -/
def queueNewWrong : ChangeSpec := { name := "queueNew", fn := fun _ => fun
  | [d1, d2] => { results := [.lit (.bool false)], args := [d1, d2] }
  | _ => none }
def QueueNewWrongFalsely : Prop := queueNewRow.holds Tryz.pinned (OpenSpec.ofChange queueNewWrong)

/-- 'interrexlaw18.QueueBack': WHATEVER THE INPUT: true; the input reads as it did. -/
def queueBackSpec : ChangeSpec := { name := "queueBack", fn := fun _ => fun
  | [d1, d2] => { results := [.lit (.bool true)], args := [d1, d2] }
  | _ => none }
def queueBackRow : OpenClaim := { program := "ytfobkjdmohaakaagreat", sum := "698a737d1fa9bd86650ad5dae2c45bdc5e875ef0a3d3717851d321286c40d000", func := "interrex/interrexlaw18.QueueBack", spec := "queueBack", inPlace := ["internal/bytealg.abigen_runtime_cmpstring", "slices.overlaps[interrex/api.Pod]", "sync/atomic.LoadUint32", "(*internal/sync.Mutex).Lock", "internal/race.Disable", "sync/atomic.CompareAndSwapInt32", "internal/race.Enable", "internal/race.Acquire", "(*internal/sync.Mutex).lockSlow", "internal/sync.runtime_canSpin", "internal/sync.runtime_doSpin", "internal/sync.throw", "internal/sync.runtime_nanotime", "internal/sync.runtime_SemacquireMutex", "sync/atomic.AddInt32", "(*internal/sync.Mutex).Unlock", "internal/race.ReleaseMerge", "(*internal/sync.Mutex).unlockSlow", "internal/sync.fatal", "internal/sync.runtime_Semrelease", "sync/atomic.StoreUint32", "sync/atomic.AddInt64"], unfollowed := true, recurses := true, apart := false }
def QueueBackSaid : Prop := queueBackRow.holds Tryz.pinned (OpenSpec.ofChange queueBackSpec)

/-- ITS FALSE NEIGHBOUR: 'it returns false'. Refute it at one input. -/
def queueBackWrong : ChangeSpec := { name := "queueBack", fn := fun _ => fun
  | [d1, d2] => { results := [.lit (.bool false)], args := [d1, d2] }
  | _ => none }
def QueueBackWrongFalsely : Prop := queueBackRow.holds Tryz.pinned (OpenSpec.ofChange queueBackWrong)

/-- 'interrexlaw18.FitsAll': WHATEVER THE INPUT: true; the input reads as it did. -/
def fitsAllSpec : ChangeSpec := { name := "fitsAll", fn := fun _ => fun
  | [d1, d2, d3] => { results := [.lit (.bool true)], args := [d1, d2, d3] }
  | _ => none }
def fitsAllRow : OpenClaim := { program := "ytfobkjdmohaakaagreat", sum := "698a737d1fa9bd86650ad5dae2c45bdc5e875ef0a3d3717851d321286c40d000", func := "interrex/interrexlaw18.FitsAll", spec := "fitsAll", inPlace := ["internal/bytealg.abigen_runtime_cmpstring", "slices.overlaps[interrex/api.Pod]", "sync/atomic.LoadUint32", "(*internal/sync.Mutex).Lock", "internal/race.Disable", "sync/atomic.CompareAndSwapInt32", "internal/race.Enable", "internal/race.Acquire", "(*internal/sync.Mutex).lockSlow", "internal/sync.runtime_canSpin", "internal/sync.runtime_doSpin", "internal/sync.throw", "internal/sync.runtime_nanotime", "internal/sync.runtime_SemacquireMutex", "sync/atomic.AddInt32", "(*internal/sync.Mutex).Unlock", "internal/race.ReleaseMerge", "(*internal/sync.Mutex).unlockSlow", "internal/sync.fatal", "internal/sync.runtime_Semrelease", "sync/atomic.StoreUint32", "sync/atomic.AddInt64"], unfollowed := true, recurses := true, apart := false }
def FitsAllSaid : Prop := fitsAllRow.holds Tryz.pinned (OpenSpec.ofChange fitsAllSpec)

/-- ITS FALSE NEIGHBOUR: 'it returns false'. Refute it at one input. -/
def fitsAllWrong : ChangeSpec := { name := "fitsAll", fn := fun _ => fun
  | [d1, d2, d3] => { results := [.lit (.bool false)], args := [d1, d2, d3] }
  | _ => none }
def FitsAllWrongFalsely : Prop := fitsAllRow.holds Tryz.pinned (OpenSpec.ofChange fitsAllWrong)

/-- 'interrexlaw18.TopoAll': WHATEVER THE INPUT: true; the input reads as it did. -/
def topoAllSpec : ChangeSpec := { name := "topoAll", fn := fun _ => fun
  | [d1, d2, d3, d4, d5, d6, d7] => { results := [.lit (.bool true)], args := [d1, d2, d3, d4, d5, d6, d7] }
  | _ => none }
def topoAllRow : OpenClaim := { program := "ytfobkjdmohaakaagreat", sum := "698a737d1fa9bd86650ad5dae2c45bdc5e875ef0a3d3717851d321286c40d000", func := "interrex/interrexlaw18.TopoAll", spec := "topoAll", inPlace := ["internal/bytealg.abigen_runtime_cmpstring", "slices.overlaps[interrex/api.Pod]", "sync/atomic.LoadUint32", "(*internal/sync.Mutex).Lock", "internal/race.Disable", "sync/atomic.CompareAndSwapInt32", "internal/race.Enable", "internal/race.Acquire", "(*internal/sync.Mutex).lockSlow", "internal/sync.runtime_canSpin", "internal/sync.runtime_doSpin", "internal/sync.throw", "internal/sync.runtime_nanotime", "internal/sync.runtime_SemacquireMutex", "sync/atomic.AddInt32", "(*internal/sync.Mutex).Unlock", "internal/race.ReleaseMerge", "(*internal/sync.Mutex).unlockSlow", "internal/sync.fatal", "internal/sync.runtime_Semrelease", "sync/atomic.StoreUint32", "sync/atomic.AddInt64"], unfollowed := true, recurses := true, apart := false }
def TopoAllSaid : Prop := topoAllRow.holds Tryz.pinned (OpenSpec.ofChange topoAllSpec)

/-- ITS FALSE NEIGHBOUR: 'it returns false'. Refute it at one input. -/
def topoAllWrong : ChangeSpec := { name := "topoAll", fn := fun _ => fun
  | [d1, d2, d3, d4, d5, d6, d7] => { results := [.lit (.bool false)], args := [d1, d2, d3, d4, d5, d6, d7] }
  | _ => none }
def TopoAllWrongFalsely : Prop := topoAllRow.holds Tryz.pinned (OpenSpec.ofChange topoAllWrong)

/-- 'interrexlaw18.FeasEach': WHATEVER THE INPUT: true; the input reads as it did. -/
def feasEachSpec : ChangeSpec := { name := "feasEach", fn := fun _ => fun
  | [d1, d2] => { results := [.lit (.bool true)], args := [d1, d2] }
  | _ => none }
def feasEachRow : OpenClaim := { program := "ytfobkjdmohaakaagreat", sum := "698a737d1fa9bd86650ad5dae2c45bdc5e875ef0a3d3717851d321286c40d000", func := "interrex/interrexlaw18.FeasEach", spec := "feasEach", inPlace := ["internal/bytealg.abigen_runtime_cmpstring", "slices.overlaps[interrex/api.Pod]", "sync/atomic.LoadUint32", "(*internal/sync.Mutex).Lock", "internal/race.Disable", "sync/atomic.CompareAndSwapInt32", "internal/race.Enable", "internal/race.Acquire", "(*internal/sync.Mutex).lockSlow", "internal/sync.runtime_canSpin", "internal/sync.runtime_doSpin", "internal/sync.throw", "internal/sync.runtime_nanotime", "internal/sync.runtime_SemacquireMutex", "sync/atomic.AddInt32", "(*internal/sync.Mutex).Unlock", "internal/race.ReleaseMerge", "(*internal/sync.Mutex).unlockSlow", "internal/sync.fatal", "internal/sync.runtime_Semrelease", "sync/atomic.StoreUint32", "sync/atomic.AddInt64"], unfollowed := true, recurses := true, apart := false }
def FeasEachSaid : Prop := feasEachRow.holds Tryz.pinned (OpenSpec.ofChange feasEachSpec)

/-- ITS FALSE NEIGHBOUR: 'it returns false'. Refute it at one input. -/
def feasEachWrong : ChangeSpec := { name := "feasEach", fn := fun _ => fun
  | [d1, d2] => { results := [.lit (.bool false)], args := [d1, d2] }
  | _ => none }
def FeasEachWrongFalsely : Prop := feasEachRow.holds Tryz.pinned (OpenSpec.ofChange feasEachWrong)

/- THE SECOND FORM. 'bulk': how many values and letters a reading holds, each counted each time it is reached (what is shared counts as often as it is met; a slice's spare places count too). A statement '..UptoSaid' is the law's where the arguments, and the package variables that the reading takes, are together of bulk at most 1048576: NARROWER than '..Said'. Prove '..Said' where nothing that the law and all that it calls make is longer than what came in: it says more and counts as full. Else prove '..UptoSaid'. A law counts once. -/
mutual
def uptoBulk {H : Type} : DataW H → Nat
  | .lit (.string bytes) => bytes.length + 1
  | .lit _ => 1
  | .nil => 1
  | .ptr d => uptoBulk d + 1
  | .slice elems spare => uptoBulkAll elems + uptoBulkAll spare + 1
  | .agg parts => uptoBulkAll parts + 1
  | .iface _ d => uptoBulk d + 1
  | .map entries => uptoBulkEntries entries + 1
  | .held _ => 1
def uptoBulkAll {H : Type} : List (DataW H) → Nat
  | [] => 0
  | d :: r => uptoBulk d + uptoBulkAll r
def uptoBulkEntries {H : Type} : List (Lit × DataW H) → Nat
  | [] => 0
  | x :: r => uptoBulkEntry x + uptoBulkEntries r
def uptoBulkEntry {H : Type} : Lit × DataW H → Nat
  | (.string bytes, d) => bytes.length + uptoBulk d + 1
  | (_, d) => uptoBulk d + 1
 end
def uptoSmall : (H : Type) → List (DataW H) → Bool := fun _ ds => decide (uptoBulkAll ds ≤ 1048576)
def OpenSpec.upto (s : _root_.Go.ChangeSpec) : _root_.Go.OpenSpec := { _root_.Go.OpenSpec.ofChange s with cond := some uptoSmall }

/-- 'interrexlaw18.PlanNone', WHERE WHAT IT READS IS OF BULK AT MOST 1048576: true; the input reads as it did. -/
def planNoneUptoRow : OpenClaim := { program := "ytfobkjdmohaakaagreat", sum := "698a737d1fa9bd86650ad5dae2c45bdc5e875ef0a3d3717851d321286c40d000", func := "interrex/interrexlaw18.PlanNone", spec := "planNone", inPlace := ["internal/bytealg.abigen_runtime_cmpstring", "sync/atomic.LoadUint32", "(*internal/sync.Mutex).Lock", "internal/race.Disable", "sync/atomic.CompareAndSwapInt32", "internal/race.Enable", "internal/race.Acquire", "(*internal/sync.Mutex).lockSlow", "internal/sync.runtime_canSpin", "internal/sync.runtime_doSpin", "internal/sync.throw", "internal/sync.runtime_nanotime", "internal/sync.runtime_SemacquireMutex", "sync/atomic.AddInt32", "(*internal/sync.Mutex).Unlock", "internal/race.ReleaseMerge", "(*internal/sync.Mutex).unlockSlow", "internal/sync.fatal", "internal/sync.runtime_Semrelease", "sync/atomic.StoreUint32", "slices.overlaps[interrex/api.Pod]", "sync/atomic.AddInt64"], unfollowed := true, recurses := true, apart := false, narrowed := true }
def PlanNoneUptoSaid : Prop := planNoneUptoRow.holds Tryz.pinned (OpenSpec.upto planNoneSpec)

/-- 'interrexlaw18.ScorePack', WHERE WHAT IT READS IS OF BULK AT MOST 1048576: true; the input reads as it did. -/
def scorePackUptoRow : OpenClaim := { program := "ytfobkjdmohaakaagreat", sum := "698a737d1fa9bd86650ad5dae2c45bdc5e875ef0a3d3717851d321286c40d000", func := "interrex/interrexlaw18.ScorePack", spec := "scorePack", inPlace := ["internal/bytealg.abigen_runtime_cmpstring", "slices.overlaps[interrex/api.Pod]", "sync/atomic.LoadUint32", "(*internal/sync.Mutex).Lock", "internal/race.Disable", "sync/atomic.CompareAndSwapInt32", "internal/race.Enable", "internal/race.Acquire", "(*internal/sync.Mutex).lockSlow", "internal/sync.runtime_canSpin", "internal/sync.runtime_doSpin", "internal/sync.throw", "internal/sync.runtime_nanotime", "internal/sync.runtime_SemacquireMutex", "sync/atomic.AddInt32", "(*internal/sync.Mutex).Unlock", "internal/race.ReleaseMerge", "(*internal/sync.Mutex).unlockSlow", "internal/sync.fatal", "internal/sync.runtime_Semrelease", "sync/atomic.StoreUint32", "sync/atomic.AddInt64"], unfollowed := true, recurses := true, apart := false, narrowed := true }
def ScorePackUptoSaid : Prop := scorePackUptoRow.holds Tryz.pinned (OpenSpec.upto scorePackSpec)

/-- 'interrexlaw18.ScoreEven', WHERE WHAT IT READS IS OF BULK AT MOST 1048576: true; the input reads as it did. -/
def scoreEvenUptoRow : OpenClaim := { program := "ytfobkjdmohaakaagreat", sum := "698a737d1fa9bd86650ad5dae2c45bdc5e875ef0a3d3717851d321286c40d000", func := "interrex/interrexlaw18.ScoreEven", spec := "scoreEven", inPlace := ["internal/bytealg.abigen_runtime_cmpstring", "slices.overlaps[interrex/api.Pod]", "sync/atomic.LoadUint32", "(*internal/sync.Mutex).Lock", "internal/race.Disable", "sync/atomic.CompareAndSwapInt32", "internal/race.Enable", "internal/race.Acquire", "(*internal/sync.Mutex).lockSlow", "internal/sync.runtime_canSpin", "internal/sync.runtime_doSpin", "internal/sync.throw", "internal/sync.runtime_nanotime", "internal/sync.runtime_SemacquireMutex", "sync/atomic.AddInt32", "(*internal/sync.Mutex).Unlock", "internal/race.ReleaseMerge", "(*internal/sync.Mutex).unlockSlow", "internal/sync.fatal", "internal/sync.runtime_Semrelease", "sync/atomic.StoreUint32", "sync/atomic.AddInt64"], unfollowed := true, recurses := true, apart := false, narrowed := true }
def ScoreEvenUptoSaid : Prop := scoreEvenUptoRow.holds Tryz.pinned (OpenSpec.upto scoreEvenSpec)

/-- 'interrexlaw18.FitsPorts', WHERE WHAT IT READS IS OF BULK AT MOST 1048576: true; the input reads as it did. -/
def fitsPortsUptoRow : OpenClaim := { program := "ytfobkjdmohaakaagreat", sum := "698a737d1fa9bd86650ad5dae2c45bdc5e875ef0a3d3717851d321286c40d000", func := "interrex/interrexlaw18.FitsPorts", spec := "fitsPorts", inPlace := ["internal/bytealg.abigen_runtime_cmpstring", "slices.overlaps[interrex/api.Pod]", "sync/atomic.LoadUint32", "(*internal/sync.Mutex).Lock", "internal/race.Disable", "sync/atomic.CompareAndSwapInt32", "internal/race.Enable", "internal/race.Acquire", "(*internal/sync.Mutex).lockSlow", "internal/sync.runtime_canSpin", "internal/sync.runtime_doSpin", "internal/sync.throw", "internal/sync.runtime_nanotime", "internal/sync.runtime_SemacquireMutex", "sync/atomic.AddInt32", "(*internal/sync.Mutex).Unlock", "internal/race.ReleaseMerge", "(*internal/sync.Mutex).unlockSlow", "internal/sync.fatal", "internal/sync.runtime_Semrelease", "sync/atomic.StoreUint32", "sync/atomic.AddInt64"], unfollowed := true, recurses := true, apart := false, narrowed := true }
def FitsPortsUptoSaid : Prop := fitsPortsUptoRow.holds Tryz.pinned (OpenSpec.upto fitsPortsSpec)

/-- 'interrexlaw18.FitsEdge', WHERE WHAT IT READS IS OF BULK AT MOST 1048576: true; the input reads as it did. -/
def fitsEdgeUptoRow : OpenClaim := { program := "ytfobkjdmohaakaagreat", sum := "698a737d1fa9bd86650ad5dae2c45bdc5e875ef0a3d3717851d321286c40d000", func := "interrex/interrexlaw18.FitsEdge", spec := "fitsEdge", inPlace := ["internal/bytealg.abigen_runtime_cmpstring", "slices.overlaps[interrex/api.Pod]", "sync/atomic.LoadUint32", "(*internal/sync.Mutex).Lock", "internal/race.Disable", "sync/atomic.CompareAndSwapInt32", "internal/race.Enable", "internal/race.Acquire", "(*internal/sync.Mutex).lockSlow", "internal/sync.runtime_canSpin", "internal/sync.runtime_doSpin", "internal/sync.throw", "internal/sync.runtime_nanotime", "internal/sync.runtime_SemacquireMutex", "sync/atomic.AddInt32", "(*internal/sync.Mutex).Unlock", "internal/race.ReleaseMerge", "(*internal/sync.Mutex).unlockSlow", "internal/sync.fatal", "internal/sync.runtime_Semrelease", "sync/atomic.StoreUint32", "sync/atomic.AddInt64"], unfollowed := true, recurses := true, apart := false, narrowed := true }
def FitsEdgeUptoSaid : Prop := fitsEdgeUptoRow.holds Tryz.pinned (OpenSpec.upto fitsEdgeSpec)

/-- 'interrexlaw18.QueueNew', WHERE WHAT IT READS IS OF BULK AT MOST 1048576: true; the input reads as it did. -/
def queueNewUptoRow : OpenClaim := { program := "ytfobkjdmohaakaagreat", sum := "698a737d1fa9bd86650ad5dae2c45bdc5e875ef0a3d3717851d321286c40d000", func := "interrex/interrexlaw18.QueueNew", spec := "queueNew", inPlace := ["internal/bytealg.abigen_runtime_cmpstring", "slices.overlaps[interrex/api.Pod]", "sync/atomic.LoadUint32", "(*internal/sync.Mutex).Lock", "internal/race.Disable", "sync/atomic.CompareAndSwapInt32", "internal/race.Enable", "internal/race.Acquire", "(*internal/sync.Mutex).lockSlow", "internal/sync.runtime_canSpin", "internal/sync.runtime_doSpin", "internal/sync.throw", "internal/sync.runtime_nanotime", "internal/sync.runtime_SemacquireMutex", "sync/atomic.AddInt32", "(*internal/sync.Mutex).Unlock", "internal/race.ReleaseMerge", "(*internal/sync.Mutex).unlockSlow", "internal/sync.fatal", "internal/sync.runtime_Semrelease", "sync/atomic.StoreUint32", "sync/atomic.AddInt64"], unfollowed := true, recurses := true, apart := false, narrowed := true }
def QueueNewUptoSaid : Prop := queueNewUptoRow.holds Tryz.pinned (OpenSpec.upto queueNewSpec)

/-- 'interrexlaw18.QueueBack', WHERE WHAT IT READS IS OF BULK AT MOST 1048576: true; the input reads as it did. -/
def queueBackUptoRow : OpenClaim := { program := "ytfobkjdmohaakaagreat", sum := "698a737d1fa9bd86650ad5dae2c45bdc5e875ef0a3d3717851d321286c40d000", func := "interrex/interrexlaw18.QueueBack", spec := "queueBack", inPlace := ["internal/bytealg.abigen_runtime_cmpstring", "slices.overlaps[interrex/api.Pod]", "sync/atomic.LoadUint32", "(*internal/sync.Mutex).Lock", "internal/race.Disable", "sync/atomic.CompareAndSwapInt32", "internal/race.Enable", "internal/race.Acquire", "(*internal/sync.Mutex).lockSlow", "internal/sync.runtime_canSpin", "internal/sync.runtime_doSpin", "internal/sync.throw", "internal/sync.runtime_nanotime", "internal/sync.runtime_SemacquireMutex", "sync/atomic.AddInt32", "(*internal/sync.Mutex).Unlock", "internal/race.ReleaseMerge", "(*internal/sync.Mutex).unlockSlow", "internal/sync.fatal", "internal/sync.runtime_Semrelease", "sync/atomic.StoreUint32", "sync/atomic.AddInt64"], unfollowed := true, recurses := true, apart := false, narrowed := true }
def QueueBackUptoSaid : Prop := queueBackUptoRow.holds Tryz.pinned (OpenSpec.upto queueBackSpec)

/-- 'interrexlaw18.FitsAll', WHERE WHAT IT READS IS OF BULK AT MOST 1048576: true; the input reads as it did. -/
def fitsAllUptoRow : OpenClaim := { program := "ytfobkjdmohaakaagreat", sum := "698a737d1fa9bd86650ad5dae2c45bdc5e875ef0a3d3717851d321286c40d000", func := "interrex/interrexlaw18.FitsAll", spec := "fitsAll", inPlace := ["internal/bytealg.abigen_runtime_cmpstring", "slices.overlaps[interrex/api.Pod]", "sync/atomic.LoadUint32", "(*internal/sync.Mutex).Lock", "internal/race.Disable", "sync/atomic.CompareAndSwapInt32", "internal/race.Enable", "internal/race.Acquire", "(*internal/sync.Mutex).lockSlow", "internal/sync.runtime_canSpin", "internal/sync.runtime_doSpin", "internal/sync.throw", "internal/sync.runtime_nanotime", "internal/sync.runtime_SemacquireMutex", "sync/atomic.AddInt32", "(*internal/sync.Mutex).Unlock", "internal/race.ReleaseMerge", "(*internal/sync.Mutex).unlockSlow", "internal/sync.fatal", "internal/sync.runtime_Semrelease", "sync/atomic.StoreUint32", "sync/atomic.AddInt64"], unfollowed := true, recurses := true, apart := false, narrowed := true }
def FitsAllUptoSaid : Prop := fitsAllUptoRow.holds Tryz.pinned (OpenSpec.upto fitsAllSpec)

/-- 'interrexlaw18.TopoAll', WHERE WHAT IT READS IS OF BULK AT MOST 1048576: true; the input reads as it did. -/
def topoAllUptoRow : OpenClaim := { program := "ytfobkjdmohaakaagreat", sum := "698a737d1fa9bd86650ad5dae2c45bdc5e875ef0a3d3717851d321286c40d000", func := "interrex/interrexlaw18.TopoAll", spec := "topoAll", inPlace := ["internal/bytealg.abigen_runtime_cmpstring", "slices.overlaps[interrex/api.Pod]", "sync/atomic.LoadUint32", "(*internal/sync.Mutex).Lock", "internal/race.Disable", "sync/atomic.CompareAndSwapInt32", "internal/race.Enable", "internal/race.Acquire", "(*internal/sync.Mutex).lockSlow", "internal/sync.runtime_canSpin", "internal/sync.runtime_doSpin", "internal/sync.throw", "internal/sync.runtime_nanotime", "internal/sync.runtime_SemacquireMutex", "sync/atomic.AddInt32", "(*internal/sync.Mutex).Unlock", "internal/race.ReleaseMerge", "(*internal/sync.Mutex).unlockSlow", "internal/sync.fatal", "internal/sync.runtime_Semrelease", "sync/atomic.StoreUint32", "sync/atomic.AddInt64"], unfollowed := true, recurses := true, apart := false, narrowed := true }
def TopoAllUptoSaid : Prop := topoAllUptoRow.holds Tryz.pinned (OpenSpec.upto topoAllSpec)

/-- 'interrexlaw18.FeasEach', WHERE WHAT IT READS IS OF BULK AT MOST 1048576: true; the input reads as it did. -/
def feasEachUptoRow : OpenClaim := { program := "ytfobkjdmohaakaagreat", sum := "698a737d1fa9bd86650ad5dae2c45bdc5e875ef0a3d3717851d321286c40d000", func := "interrex/interrexlaw18.FeasEach", spec := "feasEach", inPlace := ["internal/bytealg.abigen_runtime_cmpstring", "slices.overlaps[interrex/api.Pod]", "sync/atomic.LoadUint32", "(*internal/sync.Mutex).Lock", "internal/race.Disable", "sync/atomic.CompareAndSwapInt32", "internal/race.Enable", "internal/race.Acquire", "(*internal/sync.Mutex).lockSlow", "internal/sync.runtime_canSpin", "internal/sync.runtime_doSpin", "internal/sync.throw", "internal/sync.runtime_nanotime", "internal/sync.runtime_SemacquireMutex", "sync/atomic.AddInt32", "(*internal/sync.Mutex).Unlock", "internal/race.ReleaseMerge", "(*internal/sync.Mutex).unlockSlow", "internal/sync.fatal", "internal/sync.runtime_Semrelease", "sync/atomic.StoreUint32", "sync/atomic.AddInt64"], unfollowed := true, recurses := true, apart := false, narrowed := true }
def FeasEachUptoSaid : Prop := feasEachUptoRow.holds Tryz.pinned (OpenSpec.upto feasEachSpec)

end Rows
end Go.Proofs.YtfobkjdmohaakaaGreat
