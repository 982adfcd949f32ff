/-
The abstract machine: values, objects, heaps, interaction trees, operations. Plain definitions, no program in sight.
-/
import GoSem.Dispatch
import GoSem.Machine.Frame
import Derived.Calls
import Derived.Deep.MidRow
import Derived.ArgAppend
import Derived.MapKept
import Derived.Laws.Entries
import Derived.Laws.MakeOwn
namespace Go.Eng
open Go
inductive Key where
 | g (n : Nat)
 | l (n : Nat)
 deriving DecidableEq, Inhabited
inductive V where
 | b (x : Bool)
 | i (k : IntKind) (n : Int)
 | s (x : List UInt8)
 | nilp
 | p (k : Key) (off : Nat)
 | pa (k : Key) (sz ix off : Nat)
 | pc (cs : List V) (off : Nat)
 | nils
 | sl (tok : Option Key) (sz : Nat) (es : List (List V))
 | ms (k : Key) (sz st len : Nat)
 | nilm
 | m (k : Key)
 | fn (f : Nat) (first captured : List V)
 | nilf
 | agg (cs : List V)
 | tup (vs : List V)
 | junk
 deriving Inhabited
inductive Obj where
 | cs (c : List V)
 | arr (sz : Nat) (es : List (List V))
 | spare
 | mp (kd : Option IntKind) (es : List (V × V))
 deriving Inhabited
structure Heap where
 next : Nat
 objs : List (Nat × Obj)
 deriving Inhabited
def Heap.find : List (Nat × Obj) → Nat → Option Obj
 | [], _ => none
 | (k, o) :: r, n => if k = n then some o else Heap.find r n
def Heap.get (h : Heap) (n : Nat) : Option Obj := Heap.find h.objs n
def Heap.upd : List (Nat × Obj) → Nat → Obj → List (Nat × Obj)
 | [], _, _ => []
 | (k, o) :: r, n, x => if k = n then (k, x) :: r else (k, o) :: Heap.upd r n x
def Heap.set (h : Heap) (n : Nat) (o : Obj) : Heap :=
 match h with
 | ⟨x, l⟩ => ⟨x, Heap.upd l n o⟩
def Heap.del : List (Nat × Obj) → Nat → List (Nat × Obj)
 | [], _ => []
 | (k, o) :: r, n => if k = n then Heap.del r n else (k, o) :: Heap.del r n
def Heap.remove (h : Heap) (n : Nat) : Heap :=
 match h with
 | ⟨x, l⟩ => ⟨x, Heap.del l n⟩
def Heap.push (h : Heap) (o : Obj) : Heap :=
 match h with
 | ⟨x, l⟩ => ⟨x + 1, (x, o) :: l⟩
structure St where
 g : Heap
 l : Heap
 deriving Inhabited
def St.get (st : St) : Key → Option Obj
 | .g n => st.g.get n
 | .l n => st.l.get n
def St.set (st : St) (k : Key) (o : Obj) : St :=
 match st with
 | ⟨a, b⟩ => match k with
   | .g n => ⟨a.set n o, b⟩
   | .l n => ⟨a, b.set n o⟩
def St.remove (st : St) (k : Key) : St :=
 match st with
 | ⟨a, b⟩ => match k with
   | .g n => ⟨a.remove n, b⟩
   | .l n => ⟨a, b.remove n⟩
def St.newKey (st : St) (g : Bool) : Key :=
 match st with
 | ⟨⟨x, _⟩, ⟨y, _⟩⟩ => match g with
   | true => .g x
   | false => .l y
def St.push (st : St) (g : Bool) (o : Obj) : St :=
 match st with
 | ⟨a, b⟩ => match g with
   | true => ⟨a.push o, b⟩
   | false => ⟨a, b.push o⟩
def Key.isG : Key → Bool
 | .g _ => true
 | .l _ => false
inductive T (α : Type) : Type where
 | ret (a : α)
 | ite (c : Bool) (t e : T α)
 | elem (o : Option (List V)) (k : List V → T α)
 | byte (o : Option UInt8) (k : UInt8 → T α)
 | els (o : Option (List (List V))) (k : List (List V) → T α)
 | bys (o : Option (List UInt8)) (k : List UInt8 → T α)
 | obj (o : Option Obj) (k : Obj → T α)
 | optc (o : Option V) (n : T α) (k : V → T α)
 | chk (b : Bool) (k : T α)
 | wrap (kd : IntKind) (n : Int) (k : Int → T α)
 | any (k : Bool → T α)
 | same (v u : V) (k : T α)
 | call (f : Nat) (args : List V) (h : Heap) (k : V → Heap → T α)
 | fail
def T.bind {α β : Type} : T α → (α → T β) → T β
 | .ret a, f => f a
 | .ite c t e, f => .ite c (t.bind f) (e.bind f)
 | .elem o k, f => .elem o fun x => (k x).bind f
 | .byte o k, f => .byte o fun x => (k x).bind f
 | .els o k, f => .els o fun x => (k x).bind f
 | .bys o k, f => .bys o fun x => (k x).bind f
 | .obj o k, f => .obj o fun x => (k x).bind f
 | .optc o n k, f => .optc o (n.bind f) fun x => (k x).bind f
 | .chk b k, f => .chk b (k.bind f)
 | .wrap kd n k, f => .wrap kd n fun x => (k x).bind f
 | .any k, f => .any fun b => (k b).bind f
 | .same v u k, f => .same v u (k.bind f)
 | .call g as h k, f => .call g as h fun r h' => (k r h').bind f
 | .fail, _ => .fail
def T.opt {α β : Type} (o : Option α) (k : α → T β) : T β :=
 match o with
 | some x => k x
 | none => .fail
inductive Opd where
 | t (n : Nat)
 | c (v : V)
 deriving Inhabited
inductive SMode where
 | im (g : Bool)
 | mu (g : Bool)
 | fz
 deriving DecidableEq, Inhabited
inductive CK where
 | b
 | i
 | s
 deriving DecidableEq, Inhabited
inductive AOp where
 | mv (x : Opd)
 | asg (x : Opd)
 | pick (c a b : Opd)
 | alloc (g : Bool) (zero : List V)
 | box (g : Bool) (x : Opd)
 | bld (zero : List V) (parts : List (Nat × Nat × Opd))
 | bsl (m : SMode) (sz len : Nat) (zero : List V) (parts : List (Nat × Opd))
 | load (n : Option Nat) (a : Opd)
 | store (n : Nat) (a x : Opd)
 | nilc (x : Opd)
 | bin (op : BinOp) (x y : Opd)
 | eqc (row : Bool) (ks : List CK) (neg : Bool) (x y : Opd)
 | eqn (neg : Bool) (x y : Opd)
 | un (op : UnOp) (x : Opd)
 | cvi (k : IntKind) (x : Opd)
 | cvs (x : Opd)
 | s2b (m : SMode) (x : Opd)
 | mkb (x : Opd)
 | b2s (x : Opd)
 | mkfn (f : Nat) (captured : List Opd)
 | mkmap (g : Bool) (kd : Option IntKind)
 | mksl (m : SMode) (sz bytes : Nat) (zero : List V) (l c : Opd)
 | slstr (x : Opd) (lo hi : Option Opd)
 | slsl (sz : Nat) (x : Opd) (lo hi mx : Option Opd)
 | faddr (off : Nat) (x : Opd)
 | fld (off : Nat) (n : Option Nat) (x : Opd)
 | iasl (sz : Nat) (x i : Opd)
 | iaar (len sz : Nat) (x i : Opd)
 | ixs (x i : Opd)
 | ixa (len sz : Nat) (n : Option Nat) (x i : Opd)
 | lkp (kd : Option IntKind) (zero : V) (m k : Opd) (ok : Bool)
 | mupd (kd : Option IntKind) (m k v : Opd)
 | ext (x : Opd) (i : Nat)
 | call (f : Nat) (args : List Opd)
 | callv (f : Opd) (args : List Opd)
 | lenS (x : Opd)
 | lenL (x : Opd)
 | lenA (n : Nat)
 | lenM (x : Opd)
 | mnmx (max : Bool) (xs : List Opd)
 | append (m : SMode) (sz bytes : Nat) (s x : Opd)
 | copy (sz : Nat) (d x : Opd)
 | delete (kd : Option IntKind) (m k : Opd)
 | clear (sz : Nat) (zero : List V) (x : Opd)
 | no
 deriving Inhabited
structure AOper where
 dst : Option Nat
 op : AOp
 guard : Option (Nat × Bool) := none
 kill : List Nat := []
 deriving Inhabited
abbrev Fr := List (Nat × V)
def Fr.get : Fr → Nat → V
 | [], _ => .junk
 | (k, v) :: r, n => if k = n then v else Fr.get r n
def Opd.ev (fr : Fr) : Opd → V
 | .t n => fr.get n
 | .c v => v
def Opd.evs (fr : Fr) : List Opd → List V
 | [] => []
 | x :: r => x.ev fr :: Opd.evs fr r
def Opd.evo (fr : Fr) : Option Opd → Option V
 | none => none
 | some x => some (x.ev fr)
def evPartsB (fr : Fr) : List (Nat × Nat × Opd) → List (Nat × Nat × V)
 | [] => []
 | (a, b, x) :: r => (a, b, x.ev fr) :: evPartsB fr r
def evPartsS (fr : Fr) : List (Nat × Opd) → List (Nat × V)
 | [] => []
 | (a, x) :: r => (a, x.ev fr) :: evPartsS fr r
def V.cells : V → List V
 | .agg cs => cs
 | v => [v]
def ldCells (cs : List V) (off : Nat) : Option Nat → Option V
 | none => cs[off]?
 | some n => if off + n ≤ cs.length then some (.agg ((cs.drop off).take n)) else none
def stCells : List V → Nat → List V → List V
 | cs, _, [] => cs
 | cs, off, v :: r => stCells (cs.set off v) (off + 1) r
def V.one : V → Bool
 | .agg _ => false
 | .tup _ => false
 | .junk => false
 | .pc _ _ => false
 | _ => true
def V.sto : V → Bool
 | .agg _ => true
 | v => v.one
def stFits (cs : List V) (off : Nat) (vs : List V) : Bool := decide (off + vs.length ≤ cs.length)
def V.deep : V → Option V
 | .b x => some (.b x)
 | .i k n => some (.i k n)
 | .s x => some (.s x)
 | .nils => some .nils
 | .sl _ sz es => some (.sl none sz es)
 | _ => none
def deeps : List V → Option (List V)
 | [] => some []
 | v :: r => match v.deep, deeps r with
   | some x, some y => some (x :: y)
   | _, _ => none
def deepElems : List (List V) → Option (List (List V))
 | [] => some []
 | e :: r => match deeps e, deepElems r with
   | some x, some y => some (x :: y)
   | _, _ => none
def V.out : V → Option V
 | .b x => some (.b x)
 | .i k n => some (.i k n)
 | .s x => some (.s x)
 | .nilp => some .nilp
 | .p (.g n) off => some (.p (.g n) off)
 | .pa (.g n) sz ix off => some (.pa (.g n) sz ix off)
 | .nils => some .nils
 | .sl (some (.g n)) sz es => some (.sl (some (.g n)) sz es)
 | .sl (some (.l _)) sz es => some (.sl none sz es)
 | .sl none sz es => some (.sl none sz es)
 | .ms (.g n) sz st len => some (.ms (.g n) sz st len)
 | .nilm => some .nilm
 | .m (.g n) => some (.m (.g n))
 | .nilf => some .nilf
 | _ => none
def V.outs : List V → Option (List V)
 | [] => some []
 | v :: r => match v.out, V.outs r with
   | some x, some y => some (x :: y)
   | _, _ => none
def V.pass (v : V) : Option V :=
 match v with
 | .agg cs => match V.outs cs with
   | some x => some (.agg x)
   | none => none
 | .fn f a c => match V.outs a, V.outs c with
   | some x, some y => some (.fn f x y)
   | _, _ => none
 | v => v.out
def passes : List V → Option (List V)
 | [] => some []
 | v :: r => match v.pass, passes r with
   | some x, some y => some (x :: y)
   | _, _ => none
def ownG (g : Bool) (l : List V) : Option (List V) :=
 match g with
 | true => passes l
 | false => some l
def ownElems (g : Bool) : List (List V) → Option (List (List V))
 | [] => some []
 | e :: r => match ownG g e, ownElems g r with
   | some x, some y => some (x :: y)
   | _, _ => none
def ownV (g : Bool) (v : V) : Option V :=
 match g with
 | true => v.pass
 | false => some v
def cellEq : CK → V → V → Option Bool
 | .b, .b x, .b y => some (x == y)
 | .i, .i k x, .i k' y => if k = k' then some (decide (x = y)) else none
 | .s, .s x, .s y => some (x == y)
 | _, _, _ => none
def cellsEq : List CK → List V → List V → Option Bool
 | [], [], [] => some true
 | k :: ks, x :: r, y :: q => match cellEq k x y, cellsEq ks r q with
   | some a, some c => some (a && c)
   | _, _ => none
 | _, _, _ => none
def V.row : Bool → V → Option (List V)
 | true, .agg cs => some cs
 | true, _ => none
 | false, .agg _ => none
 | false, v => some [v]
def keyEq : V → V → Bool
 | .s x, .s y => x == y
 | .i k x, .i k' y => decide (k = k') && decide (x = y)
 | _, _ => false
def V.isKeyOf : Option IntKind → V → Bool
 | none, .s _ => true
 | some k, .i k' _ => decide (k = k')
 | _, _ => false
def mfind : List (V × V) → V → Option V
 | [], _ => none
 | (k, v) :: r, x => if keyEq x k then some v else mfind r x
def mput : List (V × V) → V → V → List (V × V)
 | [], x, v => [(x, v)]
 | (k, u) :: r, x, v => if keyEq x k then (x, v) :: r else (k, u) :: mput r x v
def mdel : List (V × V) → V → List (V × V)
 | [], _ => []
 | (k, u) :: r, x => if keyEq x k then r else (k, u) :: mdel r x
def bytesOf : List (List V) → Option (List UInt8)
 | [] => some []
 | [.i .u8 n] :: r => match bytesOf r with
   | some x => some (UInt8.ofNat n.toNat :: x)
   | none => none
 | _ => none
def byteCells (x : List UInt8) : List (List V) := x.map fun c => [V.i .u8 c.toNat]
def fillParts : List V → List (Nat × Nat × V) → Option (List V)
 | cs, [] => some cs
 | cs, (off, sz, v) :: r => if v.sto = true ∧ v.cells.length = sz ∧ off + sz ≤ cs.length then fillParts (stCells cs off v.cells) r else none
def fillElems : List (List V) → Nat → List (Nat × V) → Option (List (List V))
 | es, _, [] => some es
 | es, sz, (i, v) :: r => if v.sto = true ∧ v.cells.length = sz ∧ i < es.length then fillElems (es.set i v.cells) sz r else none
abbrev R := V × St
def elemsOf (sz : Nat) (st : St) (v : V) (k : List (List V) → T R) : T R :=
 match v with
 | .nils => k []
 | .sl _ sz' es => if sz' = sz then k es else .fail
 | .ms key sz' s n => if sz' = sz then .obj (st.get key) fun o => match o with
    | .arr sz'' es => if sz'' = sz then .chk (decide (s + n ≤ es.length)) (k ((es.drop s).take n)) else .fail
    | _ => .fail
   else .fail
 | .s x => if sz = 1 then k (byteCells x) else .fail
 | _ => .fail
def roomOk (n bytes : Nat) : Bool := decide (n * bytes ≤ 140737488355328)
def newSlice (m : SMode) (sz : Nat) (es : List (List V)) (st : St) : T R :=
 match m with
 | .im g => .els (deepElems es) fun ds => .ret (.sl (some (st.newKey g)) sz ds, st.push g .spare)
 | .mu g => .els (ownElems g es) fun ds => .ret (.ms (st.newKey g) sz 0 ds.length, st.push g (.arr sz ds))
 | .fz => .els (deepElems es) fun ds => .ret (.sl none sz ds, st)
def doAppend (m : SMode) (sz bytes : Nat) (st : St) (s : V) (new : List (List V)) : T R :=
 match s with
 | .nils => match new with
   | [] => .ret (.nils, st)
   | e :: r => .chk (roomOk (e :: r).length bytes) (newSlice m sz (e :: r) st)
 | .sl tok sz' es => if sz' = sz then match new with
    | [] => .ret (.sl tok sz es, st)
    | e :: r => .chk (roomOk (es.length + (e :: r).length) bytes) <| .els (deepElems (e :: r)) fun ds => match tok with
      | some k => .obj (st.get k) fun o => match o with
        | .spare => .ret (.sl (some ((st.remove k).newKey k.isG)) sz (es ++ ds), (st.remove k).push k.isG .spare)
        | _ => .fail
      | none => .fail
   else .fail
 | .ms k sz' off len => if sz' = sz then match new with
    | [] => .ret (.ms k sz off len, st)
    | e :: r => .chk (roomOk (len + (e :: r).length) bytes) <| .els (ownElems k.isG (e :: r)) fun ds => .obj (st.get k) fun o => match o with
      | .arr sz'' es => if sz'' = sz then
         .chk (decide (off + len ≤ es.length)) <| .ite (decide (off + len + ds.length ≤ es.length))
              (.ret (.ms k sz off (len + ds.length), st.set k (.arr sz (es.take (off + len) ++ ds ++ es.drop (off + len + ds.length)))))
              (.ret (.ms ((st.remove k).newKey k.isG) sz 0 (len + ds.length), (st.remove k).push k.isG (.arr sz ((es.take (off + len)).drop off ++ ds))))
        else .fail
      | _ => .fail
   else .fail
 | _ => .fail
def idxOk (i : Int) (n : Nat) : Bool := decide (0 ≤ i) && decide (i < (n : Int))
def intOf1 : V → Option Int
 | .i _ n => some n
 | _ => none
def boundOr (o : Option V) (n : Int) : Option Int :=
 match o with
 | none => some n
 | some v => intOf1 v
def mnmxFold (max : Bool) : V → List V → Option V
 | v, [] => some v
 | .i k x, .i _ y :: r => match max with
   | true => mnmxFold max (.i k (if x < y then y else x)) r
   | false => mnmxFold max (.i k (if y < x then y else x)) r
 | _, _ => none
def stepBin (op : BinOp) (x y : V) (st : St) : T R :=
 match x, y with
 | .i k a, .i k' c => match op with
   | .shl => .chk (decide (0 ≤ c)) <| .wrap k (a * 2 ^ (min c.toNat k.bits)) fun r => .ret (.i k r, st)
   | .shr => .chk (decide (0 ≤ c)) <| .ret (.i k (a.fdiv (2 ^ (min c.toNat k.bits))), st)
   | .add => if k = k' then .wrap k (a + c) fun r => .ret (.i k r, st) else .fail
   | .sub => if k = k' then .wrap k (a - c) fun r => .ret (.i k r, st) else .fail
   | .mul => if k = k' then .wrap k (a * c) fun r => .ret (.i k r, st) else .fail
   | .quo => if k = k' then .chk (!decide (c = 0)) <| .wrap k (a.tdiv c) fun r => .ret (.i k r, st) else .fail
   | .rem => if k = k' then .chk (!decide (c = 0)) <| .ret (.i k (a.tmod c), st) else .fail
   | .and => if k = k' then .ret (.i k (k.wrap ((BitVec.ofInt k.bits a &&& BitVec.ofInt k.bits c).toNat)), st) else .fail
   | .or => if k = k' then .ret (.i k (k.wrap ((BitVec.ofInt k.bits a ||| BitVec.ofInt k.bits c).toNat)), st) else .fail
   | .xor => if k = k' then .ret (.i k (k.wrap ((BitVec.ofInt k.bits a ^^^ BitVec.ofInt k.bits c).toNat)), st) else .fail
   | .andNot => if k = k' then .ret (.i k (k.wrap ((BitVec.ofInt k.bits a &&& ~~~ (BitVec.ofInt k.bits c)).toNat)), st) else .fail
   | .eql => if k = k' then .ret (.b (decide (a = c)), st) else .fail
   | .neq => if k = k' then .ret (.b (!decide (a = c)), st) else .fail
   | .lss => if k = k' then .ret (.b (decide (a < c)), st) else .fail
   | .leq => if k = k' then .ret (.b (decide (a ≤ c)), st) else .fail
   | .gtr => if k = k' then .ret (.b (decide (c < a)), st) else .fail
   | .geq => if k = k' then .ret (.b (decide (c ≤ a)), st) else .fail
 | .s a, .s c => match op with
   | .add => .chk (decide (((a.length + c.length : Nat) : Int) ≤ 9223372036854775807)) <| .ret (.s (a ++ c), st)
   | .eql => .ret (.b (a == c), st)
   | .neq => .ret (.b (!(a == c)), st)
   | .lss => .ret (.b (Op.bytesLess a c), st)
   | .leq => .ret (.b (Op.bytesLess a c || a == c), st)
   | .gtr => .ret (.b (!(Op.bytesLess a c || a == c)), st)
   | .geq => .ret (.b (!Op.bytesLess a c), st)
   | _ => .fail
 | _, _ => .fail
def stepNil (neg : Bool) (x y : V) (st : St) : T R :=
 match y with
 | .nilp => match x with
   | .nilp => .ret (.b (!neg), st)
   | .p _ _ => .ret (.b neg, st)
   | .pa _ _ _ _ => .ret (.b neg, st)
   | _ => .fail
 | .nils => match x with
   | .nils => .ret (.b (!neg), st)
   | .sl tok _ es => match tok with
     | some _ => .ret (.b neg, st)
     | none => .ite es.isEmpty (.any fun r => .ret (.b r, st)) (.ret (.b neg, st))
   | .ms _ _ _ _ => .ret (.b neg, st)
   | _ => .fail
 | .nilm => match x with
   | .nilm => .ret (.b (!neg), st)
   | .m _ => .ret (.b neg, st)
   | _ => .fail
 | .nilf => match x with
   | .nilf => .ret (.b (!neg), st)
   | .fn _ _ _ => .ret (.b neg, st)
   | _ => .fail
 | _ => .fail
def lkpRes (zero : V) (ok : Bool) (st : St) (o : Option V) : T R :=
 match ok with
 | true => .optc o (.ret (.tup [zero, .b false], st)) fun v => .ret (.tup [v, .b true], st)
 | false => .optc o (.ret (zero, st)) fun v => .ret (v, st)
def step (o : AOp) (fr : Fr) (st : St) : T R :=
 match o with
 | .mv x => .ret (x.ev fr, st)
 | .asg x => .ret (x.ev fr, st)
 | .pick c a d => match c.ev fr with
   | .b x => .ite x (.ret (a.ev fr, st)) (.ret (d.ev fr, st))
   | _ => .fail
 | .alloc g zero => .ret (.p (st.newKey g) 0, st.push g (.cs zero))
 | .box g x => match (x.ev fr).sto with
   | true => T.opt (ownG g (x.ev fr).cells) fun c => .ret (.p (st.newKey g) 0, st.push g (.cs c))
   | false => .fail
 | .bld zero parts => T.opt (fillParts zero (evPartsB fr parts)) fun cs => .ret (.agg cs, st)
 | .bsl m sz len zero parts => T.opt (fillElems (List.replicate len zero) sz (evPartsS fr parts)) fun es => newSlice m sz es st
 | .load n a => match a.ev fr with
   | .p k off => .obj (st.get k) fun o => match o with
     | .cs c => T.opt (ldCells c off n) fun v => .ret (v, st)
     | _ => .fail
   | .pa k sz ix off => .obj (st.get k) fun o => match o with
     | .arr sz' es => if sz' = sz then .elem es[ix]? fun e => T.opt (ldCells e off n) fun v => .ret (v, st) else .fail
     | _ => .fail
   | .pc cs off => T.opt (ldCells cs off n) fun v => .ret (v, st)
   | _ => .fail
 | .store n a x => if (x.ev fr).sto = true ∧ (x.ev fr).cells.length = n then match a.ev fr with
    | .p k off => T.opt (ownG k.isG (x.ev fr).cells) fun vs => .obj (st.get k) fun o => match o with
      | .cs c => match stFits c off vs with
        | true => .ret (.tup [], st.set k (.cs (stCells c off vs)))
        | false => .fail
      | _ => .fail
    | .pa k sz ix off => T.opt (ownG k.isG (x.ev fr).cells) fun vs => .obj (st.get k) fun o => match o with
      | .arr sz' es => if sz' = sz then .elem es[ix]? fun e => match stFits e off vs with
         | true => .ret (.tup [], st.set k (.arr sz (es.set ix (stCells e off vs))))
         | false => .fail
        else .fail
      | _ => .fail
    | _ => .fail
   else .fail
 | .nilc x => match x.ev fr with
   | .p k off => .ret (.p k off, st)
   | .pa k sz ix off => .ret (.pa k sz ix off, st)
   | .pc cs off => .ret (.pc cs off, st)
   | .fn f a c => .ret (.fn f a c, st)
   | _ => .fail
 | .bin op x y => stepBin op (x.ev fr) (y.ev fr) st
 | .eqc row ks neg x y => T.opt ((x.ev fr).row row) fun cs => T.opt ((y.ev fr).row row) fun ds => T.opt (cellsEq ks cs ds) fun r => match neg with
   | true => .ret (.b (!r), st)
   | false => .ret (.b r, st)
 | .eqn neg x y => stepNil neg (x.ev fr) (y.ev fr) st
 | .un op x => match op, x.ev fr with
   | .not, .b y => .ret (.b (!y), st)
   | .neg, .i k n => .wrap k (0 - n) fun r => .ret (.i k r, st)
   | _, _ => .fail
 | .cvi k x => match x.ev fr with
   | .i _ n => .wrap k n fun r => .ret (.i k r, st)
   | _ => .fail
 | .cvs x => match x.ev fr with
   | .s y => .ret (.s y, st)
   | _ => .fail
 | .s2b m x => match x.ev fr with
   | .s y => newSlice m 1 (byteCells y) st
   | _ => .fail
 | .mkb x => match x.ev fr with
   | .sl (some k) sz es => .obj (st.get k) fun o => match o with
     | .spare => .ret (.sl (some k) sz es, st)
     | _ => .fail
   | .ms k sz off len => .obj (st.get k) fun o => match o with
     | .arr z _ => if z = 1 then .ret (.ms k sz off len, st) else .fail
     | _ => .fail
   | _ => .fail
 | .b2s x => elemsOf 1 st (x.ev fr) fun es => .bys (bytesOf es) fun y => .ret (.s y, st)
 | .mkfn f cap => .ret (.fn f [] (Opd.evs fr cap), st)
 | .mkmap g kd => .ret (.m (st.newKey g), st.push g (.mp kd []))
 | .mksl m sz bytes zero l c => match l.ev fr, c.ev fr with
   | .i _ a, .i _ d => .chk (decide (0 ≤ a) && decide (a = d) && roomOk d.toNat bytes) <| newSlice m sz (List.replicate a.toNat zero) st
   | _, _ => .fail
 | .slstr x lo hi => match x.ev fr with
   | .s y => T.opt (boundOr (Opd.evo fr hi) y.length) fun h => T.opt (boundOr (Opd.evo fr lo) 0) fun l =>
     .chk (decide (0 ≤ l) && decide (l ≤ h) && decide (h ≤ (y.length : Int))) <| .ret (.s ((y.take h.toNat).drop l.toNat), st)
   | _ => .fail
 | .slsl sz x lo hi mx => match x.ev fr with
   | .nils => match mx with
     | none => T.opt (boundOr (Opd.evo fr hi) 0) fun h => T.opt (boundOr (Opd.evo fr lo) 0) fun l =>
       .chk (decide (l = 0) && decide (h = 0)) <| .ret (.nils, st)
     | some _ => .fail
   | .sl tok sz' es => if sz' = sz then match mx with
      | none => match Opd.evo fr hi with
        | none => T.opt (boundOr (Opd.evo fr lo) 0) fun l => .chk (decide (0 ≤ l) && decide (l ≤ (es.length : Int))) <| .ret (.sl tok sz (es.drop l.toNat), st)
        | some v => T.opt (intOf1 v) fun h => T.opt (boundOr (Opd.evo fr lo) 0) fun l =>
          .chk (decide (0 ≤ l) && decide (l ≤ h) && decide (h ≤ (es.length : Int))) <| .ret (.sl none sz ((es.take h.toNat).drop l.toNat), st)
      | some _ => .fail
     else .fail
   | .ms k sz' off len => if sz' = sz then T.opt (boundOr (Opd.evo fr hi) len) fun h => T.opt (boundOr (Opd.evo fr lo) 0) fun l => .obj (st.get k) fun o => match o with
      | .arr sz'' es => if sz'' = sz then match mx with
         | none => .chk (decide (0 ≤ l) && decide (l ≤ h) && decide ((off : Int) + h ≤ (es.length : Int))) <|
           .ret (.ms k sz (off + l.toNat) (h.toNat - l.toNat), st)
         | some m => T.opt (intOf1 (m.ev fr)) fun mx => .chk (decide (0 ≤ l) && decide (l ≤ h) && decide (h ≤ mx) && decide ((off : Int) + mx ≤ (es.length : Int))) <|
           .ret (.junk, st)
        else .fail
      | _ => .fail
     else .fail
   | _ => .fail
 | .faddr off x => match x.ev fr with
   | .p k o => .ret (.p k (o + off), st)
   | .pa k sz ix o => .ret (.pa k sz ix (o + off), st)
   | .pc cs o => .ret (.pc cs (o + off), st)
   | _ => .fail
 | .fld off n x => match x.ev fr with
   | .agg cs => T.opt (ldCells cs off n) fun v => .ret (v, st)
   | _ => .fail
 | .iasl sz x i => match i.ev fr with
   | .i _ n => match x.ev fr with
     | .sl _ sz' es => if sz' = sz then .chk (idxOk n es.length) <| .elem es[n.toNat]? fun e => .ret (.pc e 0, st) else .fail
     | .ms k sz' off len => if sz' = sz then .chk (idxOk n len) <| .ret (.pa k sz (off + n.toNat) 0, st) else .fail
     | _ => .fail
   | _ => .fail
 | .iaar len sz x i => match i.ev fr with
   | .i _ n => .chk (idxOk n len) <| match x.ev fr with
     | .p k o => .ret (.p k (o + n.toNat * sz), st)
     | .pa k sz' ix o => .ret (.pa k sz' ix (o + n.toNat * sz), st)
     | .pc cs o => .ret (.pc cs (o + n.toNat * sz), st)
     | _ => .fail
   | _ => .fail
 | .ixs x i => match x.ev fr, i.ev fr with
   | .s y, .i _ n => .chk (decide (0 ≤ n)) <| .byte y[n.toNat]? fun c => .ret (.i .u8 c.toNat, st)
   | _, _ => .fail
 | .ixa len sz n x i => match x.ev fr, i.ev fr with
   | .agg cs, .i _ j => .chk (idxOk j len) <| T.opt (ldCells cs (j.toNat * sz) n) fun v => .ret (v, st)
   | _, _ => .fail
 | .lkp kd zero m k ok => match (k.ev fr).isKeyOf kd with
   | true => match m.ev fr with
     | .nilm => lkpRes zero ok st none
     | .m key => .obj (st.get key) fun o => match o with
       | .mp kd' es => if kd' = kd then lkpRes zero ok st (mfind es (k.ev fr)) else .fail
       | _ => .fail
     | _ => .fail
   | false => .fail
 | .mupd kd m k v => match (k.ev fr).isKeyOf kd with
   | true => match m.ev fr with
     | .m key => .obj (st.get key) fun o => match o with
       | .mp kd' es => if kd' = kd then T.opt (ownV key.isG (v.ev fr)) fun u => .ret (.tup [], st.set key (.mp kd (mput es (k.ev fr) u))) else .fail
       | _ => .fail
     | _ => .fail
   | false => .fail
 | .ext x i => match x.ev fr with
   | .tup vs => T.opt vs[i]? fun v => .ret (v, st)
   | _ => .fail
 | .call f args => T.opt (passes (Opd.evs fr args)) fun vs => .call f vs st.g fun r h => .ret (r, ⟨h, st.l⟩)
 | .callv f args => match f.ev fr with
   | .fn g first cap => T.opt (passes (first ++ Opd.evs fr args ++ cap)) fun vs => .call g vs st.g fun r h => .ret (r, ⟨h, st.l⟩)
   | _ => .fail
 | .lenS x => match x.ev fr with
   | .s y => .ret (.i .i64 y.length, st)
   | _ => .fail
 | .lenL x => match x.ev fr with
   | .nils => .ret (.i .i64 0, st)
   | .sl _ _ es => .ret (.i .i64 es.length, st)
   | .ms _ _ _ n => .ret (.i .i64 n, st)
   | _ => .fail
 | .lenA n => .ret (.i .i64 n, st)
 | .lenM x => match x.ev fr with
   | .nilm => .ret (.i .i64 0, st)
   | .m key => .obj (st.get key) fun o => match o with
     | .mp _ es => .ret (.i .i64 es.length, st)
     | _ => .fail
   | _ => .fail
 | .mnmx max xs => match Opd.evs fr xs with
   | v :: r => T.opt (mnmxFold max v r) fun v => .ret (v, st)
   | [] => .fail
 | .append m sz bytes s x => elemsOf sz st (x.ev fr) fun new => doAppend m sz bytes st (s.ev fr) new
 | .copy sz d x => elemsOf sz st (x.ev fr) fun src => match d.ev fr with
   | .ms k sz' off len => if sz' = sz then .els (ownElems k.isG (src.take len)) fun ds => .obj (st.get k) fun o => match o with
      | .arr sz'' es => if sz'' = sz then
         .chk (decide (off + len ≤ es.length)) <| .ret (.i .i64 (ds.length : Nat), st.set k (.arr sz (es.take off ++ ds ++ es.drop (off + ds.length))))
        else .fail
      | _ => .fail
     else .fail
   | _ => .fail
 | .delete kd m k => match (k.ev fr).isKeyOf kd with
   | true => match m.ev fr with
     | .nilm => .ret (.tup [], st)
     | .m key => .obj (st.get key) fun o => match o with
       | .mp kd' es => if kd' = kd then .ret (.tup [], st.set key (.mp kd (mdel es (k.ev fr)))) else .fail
       | _ => .fail
     | _ => .fail
   | false => .fail
 | .clear sz zero x => match x.ev fr with
   | .nils => .ret (.tup [], st)
   | .ms k sz' off len => if sz' = sz then .obj (st.get k) fun o => match o with
      | .arr sz'' es => if sz'' = sz then .chk (decide (off + len ≤ es.length)) <| .ret (.tup [], st.set k (.arr sz (es.take off ++ List.replicate len zero ++ es.drop (off + len)))) else .fail
      | _ => .fail
     else .fail
   | _ => .fail
 | .no => .fail
def memNat : Nat → List Nat → Bool
 | _, [] => false
 | n, k :: r => match Nat.beq n k with
   | true => true
   | false => memNat n r
def V.force {α : Type} (v : V) (k : V → α) : α :=
 match v with
 | .b x => k (.b x)
 | .i kd n => k (.i kd n)
 | .s x => k (.s x)
 | .nilp => k .nilp
 | .p a o => k (.p a o)
 | .pa a z ix o => k (.pa a z ix o)
 | .pc c o => k (.pc c o)
 | .nils => k .nils
 | .sl t z e => k (.sl t z e)
 | .ms a z u l => k (.ms a z u l)
 | .nilm => k .nilm
 | .m a => k (.m a)
 | .fn f a c => k (.fn f a c)
 | .nilf => k .nilf
 | .agg c => k (.agg c)
 | .tup c => k (.tup c)
 | .junk => k .junk
def Fr.cut {α : Type} : Fr → List Nat → (Fr → α) → α
 | [], _, k => k []
 | (n, v) :: r, ks, k => match memNat n ks with
  | true => Fr.cut r ks k
  | false => Fr.cut r ks fun r' => k ((n, v) :: r')
def Fr.after {α : Type} (fr : Fr) (dst : Option Nat) (v : V) (kill : List Nat) (k : Fr → α) : α :=
 match dst with
 | some d => match kill with
   | [] => v.force fun v => k ((d, v) :: fr)
   | x :: ks => match memNat d (x :: ks) with
     | true => fr.cut (d :: x :: ks) k
     | false => fr.cut (d :: x :: ks) fun r => v.force fun v => k ((d, v) :: r)
 | none => match kill with
   | [] => k fr
   | x :: ks => fr.cut (x :: ks) k
def runOps : List AOper → Fr → St → T (Fr × St)
 | [], fr, st => .ret (fr, st)
 | o :: rest, fr, st =>
   match o.guard with
   | none => (step o.op fr st).bind fun x => match x with
     | (v, st) => fr.after o.dst v o.kill fun fr => runOps rest fr st
   | some (t, want) => match fr.get t with
     | .b x => match want with
       | true => .ite x
         (fr.cut [t] fun r => (step o.op ((t, .b true) :: r) st).bind fun x => match x with
           | (v, st) => Fr.after ((t, .b true) :: r) o.dst v o.kill fun fr => runOps rest fr st)
         (fr.cut [t] fun r => Fr.after ((t, .b false) :: r) o.dst (.tup []) o.kill fun fr => runOps rest fr st)
       | false => .ite x
         (fr.cut [t] fun r => Fr.after ((t, .b true) :: r) o.dst (.tup []) o.kill fun fr => runOps rest fr st)
         (fr.cut [t] fun r => (step o.op ((t, .b false) :: r) st).bind fun x => match x with
           | (v, st) => Fr.after ((t, .b false) :: r) o.dst v o.kill fun fr => runOps rest fr st)
     | .tup _ => fr.after o.dst (.tup []) o.kill fun fr => runOps rest fr st
     | _ => .fail
structure DOper where
 ix : Nat
 o : AOper
 loud : Bool
 re : List Nat
 deriving Inhabited
def gated {α : Type} (g : Option (Nat × Bool)) (fr : Fr) (yes no : Fr → T α) : T α :=
 match g with
 | none => yes fr
 | some (t, want) => match fr.get t with
   | .b x => match want with
     | true => .ite x (fr.cut [t] fun r => yes ((t, .b true) :: r)) (fr.cut [t] fun r => no ((t, .b false) :: r))
     | false => .ite x (fr.cut [t] fun r => no ((t, .b true) :: r)) (fr.cut [t] fun r => yes ((t, .b false) :: r))
   | .tup _ => no fr
   | _ => .fail
def gateNow (g : Option (Nat × Bool)) (fr : Fr) : Option Bool :=
 match g with
 | none => some true
 | some (t, want) => match fr.get t with
   | .b x => some (x == want)
   | .tup _ => some false
   | _ => none
def recheck {α : Type} (re : List Nat) : List DOper → Fr → St → T α → T α
 | [], _, _, k => k
 | p :: ps, fr, st, k => match memNat p.ix re with
   | true => match gateNow p.o.guard fr with
     | some true => (step p.o.op fr st).bind fun x => match p.o.dst with
       | some d => .same (fr.get d) x.1 (recheck re ps fr st k)
       | none => recheck re ps fr st k
     | some false => recheck re ps fr st k
     | none => .fail
   | false => recheck re ps fr st k
def runD : List DOper → List DOper → Fr → St → T (Fr × St)
 | _, [], fr, st => .ret (fr, st)
 | done, d :: rest, fr, st => gated d.o.guard fr
   (fun fr => (step d.o.op fr st).bind fun x => match x with
     | (v, st) => fr.after d.o.dst v [] fun fr => recheck d.re done fr st (runD (d :: done) rest fr st))
   (fun fr => fr.after d.o.dst (.tup []) [] fun fr => runD (d :: done) rest fr st)
inductive AC where
 | skip
 | reg (ops : List AOper)
 | dreg (ops : List DOper) (kill : List Nat)
 | seq (a b : AC)
 | cond (c : Opd) (a b : AC)
 | blk (id : Nat) (b : AC)
 | loop (b : AC)
 | exit (id : Nat)
 | ret
 | no
 deriving Inhabited
inductive RV where
 | t (n : Nat)
 | cell (n : Nat) (sz : Option Nat)
 deriving Inhabited
structure AFn where
 nparams : Nat
 body : AC
 results : List RV
 deriving Inhabited
inductive Ex where
 | normal
 | exit (id : Nat)
 | ret
 deriving DecidableEq, Inhabited
def paramFrame : Nat → List V → Fr
 | _, [] => []
 | n, v :: r => (n, v) :: paramFrame (n + 1) r
def resVal (fr : Fr) (st : St) : RV → Option V
 | .t n => (fr.get n).pass
 | .cell n sz => match fr.get n with
   | .p k off => match st.get k with
     | some (.cs c) => match ldCells c off sz with
       | some v => v.pass
       | none => none
     | _ => none
   | _ => none
def resVals (fr : Fr) (st : St) : List RV → Option (List V)
 | [] => some []
 | r :: rs => match resVal fr st r, resVals fr st rs with
   | some v, some vs => some (v :: vs)
   | _, _ => none
def resOf (fr : Fr) (st : St) (rs : List RV) : Option V :=
 match resVals fr st rs with
 | some [v] => some v
 | some vs => some (.tup vs)
 | none => none
mutual
def V.beq : V → V → Bool
 | .b x, .b y => x == y
 | .i k n, .i k' n' => decide (k = k') && decide (n = n')
 | .s x, .s y => x == y
 | .nilp, .nilp => true
 | .p k o, .p k' o' => decide (k = k') && decide (o = o')
 | .pa k z j o, .pa k' z' j' o' => decide (k = k') && decide (z = z') && decide (j = j') && decide (o = o')
 | .nils, .nils => true
 | .sl t z es, .sl t' z' es' => decide (t = t') && decide (z = z') && V.beqLL es es'
 | .ms k z u l, .ms k' z' u' l' => decide (k = k') && decide (z = z') && decide (u = u') && decide (l = l')
 | .nilm, .nilm => true
 | .m k, .m k' => decide (k = k')
 | .nilf, .nilf => true
 | .agg cs, .agg ds => V.beqL cs ds
 | .tup cs, .tup ds => V.beqL cs ds
 | _, _ => false
def V.beqL : List V → List V → Bool
 | [], [] => true
 | v :: r, u :: q => V.beq v u && V.beqL r q
 | _, _ => false
def V.beqLL : List (List V) → List (List V) → Bool
 | [], [] => true
 | v :: r, u :: q => V.beqL v u && V.beqLL r q
 | _, _ => false
end
def T.run {α : Type} (rf : Nat → List V → Heap → Option (V × Heap)) : T α → Option α
 | .ret a => some a
 | .ite c t e => match c with
   | true => t.run rf
   | false => e.run rf
 | .elem o k => match o with
   | some x => (k x).run rf
   | none => none
 | .byte o k => match o with
   | some x => (k x).run rf
   | none => none
 | .els o k => match o with
   | some x => (k x).run rf
   | none => none
 | .bys o k => match o with
   | some x => (k x).run rf
   | none => none
 | .obj o k => match o with
   | some x => (k x).run rf
   | none => none
 | .optc o n k => match o with
   | some x => (k x).run rf
   | none => n.run rf
 | .chk c k => match c with
   | true => k.run rf
   | false => none
 | .wrap kd n k => (k (kd.wrap n)).run rf
 | .any _ => none
 | .same v u k => match v.beq u with
   | true => k.run rf
   | false => none
 | .call f args h k => match rf f args h with
   | some (r, h') => (k r h').run rf
   | none => none
 | .fail => none
end Go.Eng
/-
How abstract values, objects and heaps stand to the model's: 'Rel', 'Sim', 'Ext', and the steps that keep them.
-/
namespace Go.Eng
open Go
abbrev Imm := Nat → Nat → Option Value
structure Loc where
 blk : Nat
 base : Nat
 fin : Nat
structure Env where
 I : Imm
 μ : Key → Loc
 ng : Nat
 nl : Nat
def Env.has (E : Env) : Key → Prop
 | .g n => n < E.ng
 | .l n => n < E.nl
structure Env.Le (E F : Env) : Prop where
 imm : ∀ b o x, E.I b o = some x → F.I b o = some x
 ng : E.ng ≤ F.ng
 nl : E.nl ≤ F.nl
 loc : ∀ k, E.has k → F.μ k = E.μ k
theorem Env.Le.refl (E : Env) : E.Le E := ⟨fun _ _ _ h => h, Nat.le_refl _, Nat.le_refl _, fun _ _ => rfl⟩
theorem Env.Le.has {E F : Env} (h : E.Le F) {k : Key} (hk : E.has k) : F.has k := by
 cases k with
 | g n => exact Nat.lt_of_lt_of_le hk h.ng
 | l n => exact Nat.lt_of_lt_of_le hk h.nl
theorem Env.Le.trans {E F G : Env} (h : E.Le F) (h' : F.Le G) : E.Le G :=
 ⟨fun b o x hx => h'.imm b o x (h.imm b o x hx), Nat.le_trans h.ng h'.ng, Nat.le_trans h.nl h'.nl,
  fun k hk => (h'.loc k (h.has hk)).trans (h.loc k hk)⟩
def str (l : List UInt8) : ByteArray := ⟨l.toArray⟩
inductive RelD (I : Imm) : V → Value → Prop where
 | b (x : Bool) : RelD I (.b x) (.bool x)
 | i (k : IntKind) (n : Int) : RelD I (.i k n) (.int k n)
 | s (l : List UInt8) : RelD I (.s l) (.string (str l))
 | nils : RelD I .nils (.slice none 0 0)
 | slNil (sz : Nat) : RelD I (.sl none sz []) (.slice none 0 0)
 | slE (sz : Nat) (a : Addr) (hs : a.spot ≠ none) : RelD I (.sl none sz []) (.slice (some a) 0 0)
 | sl (sz : Nat) (es : List (List V)) (blk off cap : Nat) (val : Nat → Value) (hc : es.length ≤ cap) (hl : ∀ e ∈ es, e.length = sz)
    (hv : ∀ j d, es.flatten[j]? = some d → I blk (off + j) = some (val j)) (hr : ∀ j d, es.flatten[j]? = some d → RelD I d (val j)) :
    RelD I (.sl none sz es) (.slice (some ⟨blk, off, none⟩) es.length cap)
def Env.cut (E : Env) : Env := { E with nl := 0 }
def Env.at (E : Env) : Key → Env
 | .g _ => E.cut
 | .l _ => E
theorem Env.cut_le (E : Env) : E.cut.Le E := ⟨fun _ _ _ h => h, Nat.le_refl _, Nat.zero_le _, fun _ _ => rfl⟩
theorem Env.cut_mono {E F : Env} (h : E.Le F) : E.cut.Le F.cut :=
 ⟨h.imm, h.ng, Nat.le_refl _, fun k hk => h.loc k (E.cut_le.has hk)⟩
theorem Env.at_mono {E F : Env} (h : E.Le F) (k : Key) : (E.at k).Le (F.at k) := by
 cases k with
 | g n => exact Env.cut_mono h
 | l n => exact h
theorem Env.at_le (E : Env) (k : Key) : (E.at k).Le E := by
 cases k with
 | g n => exact E.cut_le
 | l n => exact .refl E
inductive Rel (E : Env) : V → Value → Prop where
 | deep {v : V} {x : Value} (h : RelD E.I v x) : Rel E v x
 | nilp : Rel E .nilp (.pointer none)
 | p (k : Key) (off : Nat) (hk : E.has k) : Rel E (.p k off) (.pointer (some ⟨(E.μ k).blk, (E.μ k).base + off, none⟩))
 | pa (k : Key) (sz ix off : Nat) (hk : E.has k) : Rel E (.pa k sz ix off) (.pointer (some ⟨(E.μ k).blk, (E.μ k).base + ix * sz + off, none⟩))
 | pc (cs : List V) (off blk o : Nat) (val : Nat → Value) (hv : ∀ j d, cs[j]? = some d → E.I blk (o + j) = some (val j))
    (hr : ∀ j d, cs[j]? = some d → RelD E.I d (val j)) : Rel E (.pc cs off) (.pointer (some ⟨blk, o + off, none⟩))
 | tsl (k : Key) (sz : Nat) (es : List (List V)) (a : Addr) (cap : Nat) (hk : E.has k) (hd : RelD E.I (.sl none sz es) (.slice (some a) es.length cap))
    (hb : a.block = (E.μ k).blk ∧ a.spot = none) (hs : cap = es.length ∨ (a.off + es.length * sz = (E.μ k).base ∧ a.off + cap * sz = (E.μ k).fin)) :
    Rel E (.sl (some k) sz es) (.slice (some a) es.length cap)
 | ms (k : Key) (sz st len : Nat) (a : Addr) (cap : Nat) (hk : E.has k) (hc : len ≤ cap) (hf : (E.μ k).base + (st + cap) * sz = (E.μ k).fin)
    (hb : a.block = (E.μ k).blk) (ha : cap = 0 ∨ a = ⟨(E.μ k).blk, (E.μ k).base + st * sz, none⟩) : Rel E (.ms k sz st len) (.slice (some a) len cap)
 | nilm : Rel E .nilm (.map none)
 | m (k : Key) (hk : E.has k) : Rel E (.m k) (.map (some (E.μ k).blk))
 | fn (f : Nat) (a c : List V) (a' c' : Array Value) (ha : a'.size = a.length) (hc : c'.size = c.length)
    (hra : ∀ (j : Nat) (v : V) (x : Value), a[j]? = some v → a'[j]? = some x → Rel E v x)
    (hrc : ∀ (j : Nat) (v : V) (x : Value), c[j]? = some v → c'[j]? = some x → Rel E v x) : Rel E (.fn f a c) (.func (.func f) a' c')
 | nilf : Rel E .nilf .nilFunc
 | agg (cs : List V) (a : Array Value) (ha : a.size = cs.length) (h1 : ∀ (j : Nat) (x : Value), a[j]? = some x → x.oneCell' = true) (hr : ∀ (j : Nat) (v : V) (x : Value), cs[j]? = some v → a[j]? = some x → Rel E v x) : Rel E (.agg cs) (.agg a)
 | tup (cs : List V) (a : Array Value) (ha : a.size = cs.length) (hr : ∀ (j : Nat) (v : V) (x : Value), cs[j]? = some v → a[j]? = some x → Rel E v x) : Rel E (.tup cs) (.tuple a)
 | junk (x : Value) : Rel E .junk x
theorem RelD.mono {I J : Imm} (h : ∀ b o x, I b o = some x → J b o = some x) {v : V} {x : Value} (hr : RelD I v x) : RelD J v x := by
 induction hr with
 | b x => exact .b x
 | i k n => exact .i k n
 | s l => exact .s l
 | nils => exact .nils
 | slNil sz => exact .slNil sz
 | slE sz a hs => exact .slE sz a hs
 | sl sz es blk off cap val hc hl hv _ ih => exact .sl sz es blk off cap val hc hl (fun j d hj => h _ _ _ (hv j d hj)) ih
theorem RelD.slEmpty {I : Imm} (sz : Nat) (p : Option Addr) : RelD I (.sl none sz []) (.slice p 0 0) := by
 cases p with
 | none => exact .slNil sz
 | some a =>
   obtain ⟨blk, off, s⟩ := a
   cases s with
   | none => exact .sl sz [] blk off 0 (fun _ => default) (Nat.le_refl _) (fun e he => by cases he) (fun j d hj => by simp at hj) (fun j d hj => by simp at hj)
   | some x => exact .slE sz _ (by simp)
theorem Rel.mono {E F : Env} (h : E.Le F) {v : V} {x : Value} (hr : Rel E v x) : Rel F v x := by
 induction hr with
 | deep hd => exact .deep (hd.mono h.imm)
 | nilp => exact .nilp
 | p k off hk => rw [← h.loc k hk]; exact .p k off (h.has hk)
 | pa k sz ix off hk => rw [← h.loc k hk]; exact .pa k sz ix off (h.has hk)
 | pc cs off blk o val hv hr => exact .pc cs off blk o val (fun j d hj => h.imm _ _ _ (hv j d hj)) (fun j d hj => (hr j d hj).mono h.imm)
 | tsl k sz es a cap hk hd hb hs => exact .tsl k sz es a cap (h.has hk) (hd.mono h.imm) (by rw [h.loc k hk]; exact hb) (by rw [h.loc k hk]; exact hs)
 | ms k sz st len a cap hk hc hf hb ha => exact .ms k sz st len a cap (h.has hk) hc (by rw [h.loc k hk]; exact hf) (by rw [h.loc k hk]; exact hb) (by rw [h.loc k hk]; exact ha)
 | nilm => exact .nilm
 | m k hk => rw [← h.loc k hk]; exact .m k (h.has hk)
 | fn f a c a' c' ha hc _ _ iha ihc => exact .fn f a c a' c' ha hc iha ihc
 | nilf => exact .nilf
 | agg cs a ha h1 _ ih => exact .agg cs a ha h1 ih
 | tup cs a ha _ ih => exact .tup cs a ha ih
 | junk x => exact .junk x
def RelL (E : Env) (l : List V) (a : Array Value) : Prop := a.size = l.length ∧ ∀ (j : Nat) (v : V) (x : Value), l[j]? = some v → a[j]? = some x → Rel E v x
theorem RelL.mono {E F : Env} (h : E.Le F) {l : List V} {a : Array Value} (hr : RelL E l a) : RelL F l a := ⟨hr.1, fun j v x h1 h2 => (hr.2 j v x h1 h2).mono h⟩
theorem RelL.get {E : Env} {l : List V} {a : Array Value} (h : RelL E l a) {j : Nat} {v : V} (hj : l[j]? = some v) : ∃ x, a[j]? = some x ∧ Rel E v x := by
 have hlt : j < l.length := (List.getElem?_eq_some_iff.1 hj).1
 have : j < a.size := by rw [h.1]; exact hlt
 exact ⟨a[j], by simp [this], h.2 j v _ hj (by simp [this])⟩
def FzOk (z : Nat) (fz : Nat × Nat) (n : Nat) : Prop := fz.1 = fz.2 ∨ (n ≤ fz.1 ∧ z = 1)
theorem FzOk.one {z : Nat} {fz : Nat × Nat} {n : Nat} (h : FzOk z fz n) : FzOk 1 fz n := h.elim .inl fun h => .inr ⟨h.1, rfl⟩
def RowOf (z : Nat) (E : Env) (w : World) (L : Loc) (cs : List V) : Prop :=
 ∃ cells t fz, w.heap[L.blk]? = some (.cells cells t fz) ∧ FzOk z fz cells.size ∧ L.base + cs.length ≤ L.fin ∧ L.fin ≤ cells.size ∧
  ∀ j v, cs[j]? = some v → ∃ x, cells[L.base + j]? = some x ∧ Rel E v x ∧ x.oneCell' = true
def Born (ents : Array MapEntry) (clock : Nat) : Prop := (∀ x ∈ ents.toList, x.born < clock) ∧ (ents.toList.map (·.born)).Nodup
def Holds (E : Env) (w : World) (L : Loc) : Obj → Prop
 | .cs c => L.base = 0 ∧ RowOf 1 E w L c
 | .arr sz es => (∀ e ∈ es, e.length = sz) ∧ RowOf sz E w L es.flatten
 | .spare => RowOf 1 E w L []
 | .mp kd es => ∃ ents clock, w.heap[L.blk]? = some (.map ents clock) ∧ ents.size = es.length ∧
    (∀ (j : Nat) (q : V × V) (e : MapEntry), es[j]? = some q → ents[j]? = some e → RelD E.I q.1 e.key ∧ q.1.isKeyOf kd = true ∧ Rel E q.2 e.val) ∧ Born ents clock
def St.live (st : St) (k : Key) : Prop := ∃ o, st.get k = some o
def cellIn (w : World) (b o : Nat) : Option Value :=
 match w.heap[b]? with
 | some (.cells c _ _) => c[o]?
 | _ => none
theorem cell?_eq (w : World) (b o : Nat) : w.cell? ⟨b, o, none⟩ = cellIn w b o := by
 simp only [World.cell?, cellIn]
 split <;> simp_all
structure Sim (E : Env) (st : St) (w : World) : Prop where
 ng : st.g.next = E.ng
 nl : st.l.next = E.nl
 dom : ∀ k, st.live k → E.has k
 imm : ∀ b o x, E.I b o = some x → cellIn w b o = some x
 obj : ∀ k o, st.get k = some o → Holds (E.at k) w (E.μ k) o
 sep : ∀ k k', st.live k → st.live k' → k ≠ k' → (E.μ k).blk ≠ (E.μ k').blk
 own : ∀ k, st.live k → ∀ j, (E.μ k).base ≤ j → j < (E.μ k).fin → E.I (E.μ k).blk j = none
structure Ext (E : Env) (st : St) (w : World) (E' : Env) (st' : St) (w' : World) : Prop where
 le : E.Le E'
 size : w.heap.size ≤ w'.heap.size
 immNew : ∀ b o x, E'.I b o = some x → E.I b o = some x ∨ w.heap.size ≤ b ∨ ∃ k, st.live k ∧ (E.μ k).blk = b
 keyOld : ∀ k, st'.live k → E.has k → st.live k
 keyNew : ∀ k, st'.live k → ¬ E.has k → w.heap.size ≤ (E'.μ k).blk ∨ ∃ k0, st.live k0 ∧ (E.μ k0).blk = (E'.μ k).blk
 same : ∀ b, b < w.heap.size → (∀ k, st.live k → (E.μ k).blk ≠ b) → w'.heap[b]? = w.heap[b]?
 os : w'.os = w.os
 out : w'.output = w.output
 tape : w'.tape = w.tape
theorem Ext.refl (E : Env) (st : St) (w : World) : Ext E st w E st w :=
 ⟨.refl E, Nat.le_refl _, fun _ _ _ h => .inl h, fun _ h _ => h, fun k h _ => .inr ⟨k, h, rfl⟩, fun _ _ _ => rfl, rfl, rfl, rfl⟩
theorem Ext.trans {E : Env} {st : St} {w : World} {E' : Env} {st' : St} {w' : World} {E'' : Env} {st'' : St} {w'' : World}
 (h : Ext E st w E' st' w') (g : Ext E' st' w' E'' st'' w'') : Ext E st w E'' st'' w'' where
 le := h.le.trans g.le
 size := Nat.le_trans h.size g.size
 immNew b o x hx := by
  rcases g.immNew b o x hx with h1 | h1 | ⟨k, hk, hb⟩
  · exact h.immNew b o x h1
  · exact .inr (.inl (Nat.le_trans h.size h1))
  · by_cases he : E.has k
    · exact .inr (.inr ⟨k, h.keyOld k hk he, by rw [← hb, h.le.loc k he]⟩)
    · rcases h.keyNew k hk he with h2 | ⟨k0, h2, h3⟩
      · exact .inr (.inl (hb ▸ h2))
      · exact .inr (.inr ⟨k0, h2, h3.trans hb⟩)
 keyOld k hk he := h.keyOld k (g.keyOld k hk (h.le.has he)) he
 keyNew k hk he := by
  by_cases he' : E'.has k
  · have hk' := g.keyOld k hk he'
    rw [g.le.loc k he']
    exact h.keyNew k hk' he
  · rcases g.keyNew k hk he' with h1 | ⟨k0, h1, h2⟩
    · exact .inl (Nat.le_trans h.size h1)
    · rw [← h2]
      by_cases he0 : E.has k0
      · exact .inr ⟨k0, h.keyOld k0 h1 he0, by rw [h.le.loc k0 he0]⟩
      · exact h.keyNew k0 h1 he0
 same b hb hn := by
  rw [← h.same b hb hn]
  refine g.same b (Nat.lt_of_lt_of_le hb h.size) fun k hk => ?_
  by_cases he : E.has k
  · rw [h.le.loc k he]; exact hn k (h.keyOld k hk he)
  · rcases h.keyNew k hk he with h2 | ⟨k0, h2, h3⟩
    · omega
    · rw [← h3]; exact hn k0 h2
 os := g.os.trans h.os
 out := g.out.trans h.out
 tape := g.tape.trans h.tape
theorem Holds.of_heap {E : Env} {w w' : World} (h : w'.heap = w.heap) {L : Loc} {o : Obj} (ho : Holds E w L o) : Holds E w' L o := by
 cases o <;> simp only [Holds, RowOf, h] at * <;> exact ho
theorem Sim.of_heap {E : Env} {st : St} {w w' : World} (h : w'.heap = w.heap) (hs : Sim E st w) : Sim E st w' :=
 ⟨hs.ng, hs.nl, hs.dom, fun b o x hx => by simpa [cellIn, h] using hs.imm b o x hx, fun k o hk => (hs.obj k o hk).of_heap h, hs.sep, hs.own⟩
theorem Ext.drawn {E : Env} {st : St} {w : World} (n : Nat) : Ext E st w E st { w with drawn := n } :=
 ⟨.refl E, Nat.le_refl _, fun _ _ _ h => .inl h, fun _ h _ => h, fun k h _ => .inr ⟨k, h, rfl⟩, fun _ _ _ => rfl, rfl, rfl, rfl⟩
/-! Heaps. -/
theorem Heap.find_upd (l : List (Nat × Obj)) (n m : Nat) (x : Obj) : Heap.find (Heap.upd l n x) m = if m = n then (Heap.find l n).map fun _ => x else Heap.find l m := by
 induction l with
 | nil => simp [Heap.upd, Heap.find]
 | cons q r ih =>
   obtain ⟨k, o⟩ := q
   by_cases hk : k = n
   · subst hk
     simp only [Heap.upd, if_true, Heap.find]
     by_cases hm : m = k
     · subst hm; simp
     · have : ¬ k = m := fun e => hm e.symm
       simp [hm, this]
   · simp only [Heap.upd, if_neg hk, Heap.find, ih]
     by_cases hm : m = n
     · subst hm; simp [hk]
     · simp [hm]
theorem Heap.find_del (l : List (Nat × Obj)) (n m : Nat) : Heap.find (Heap.del l n) m = if m = n then none else Heap.find l m := by
 induction l with
 | nil => simp [Heap.del, Heap.find]
 | cons q r ih =>
   obtain ⟨k, o⟩ := q
   by_cases hk : k = n
   · subst hk
     simp only [Heap.del, if_true, Heap.find, ih]
     by_cases hm : m = k
     · simp [hm]
     · have : ¬ k = m := fun e => hm e.symm
       simp [hm, this]
   · simp only [Heap.del, if_neg hk, Heap.find, ih]
     by_cases hm : m = n
     · subst hm; simp [hk]
     · simp [hm]
theorem Heap.get_set (h : Heap) (n m : Nat) (x : Obj) : (h.set n x).get m = if m = n then (h.get n).map fun _ => x else h.get m := Heap.find_upd _ _ _ _
theorem Heap.get_remove (h : Heap) (n m : Nat) : (h.remove n).get m = if m = n then none else h.get m := Heap.find_del _ _ _
theorem Heap.get_push (h : Heap) (m : Nat) (x : Obj) : (h.push x).get m = if m = h.next then some x else h.get m := by
 simp only [Heap.push, Heap.get, Heap.find]
 by_cases hm : m = h.next
 · simp [hm]
 · have : ¬ h.next = m := fun e => hm e.symm
   simp [hm, this]
theorem St.get_set (st : St) (k k' : Key) (x : Obj) : (st.set k x).get k' = if k' = k then (st.get k).map fun _ => x else st.get k' := by
 cases k <;> cases k' <;> simp [St.set, St.get, Heap.get_set]
theorem St.get_remove (st : St) (k k' : Key) : (st.remove k).get k' = if k' = k then none else st.get k' := by
 cases k <;> cases k' <;> simp [St.remove, St.get, Heap.get_remove]
theorem St.get_push (st : St) (g : Bool) (k' : Key) (x : Obj) : (st.push g x).get k' = if k' = st.newKey g then some x else st.get k' := by
 cases g <;> cases k' <;> simp [St.push, St.newKey, St.get, Heap.get_push]
theorem St.newKey_remove (st : St) (k : Key) (g : Bool) : (st.remove k).newKey g = st.newKey g := by
 cases k <;> cases g <;> rfl
/-! The environment with one more object, and more immutable cells. -/
def Env.push (E : Env) (g : Bool) (L : Loc) (J : Imm) : Env where
 I b o := match E.I b o with
  | some x => some x
  | none => J b o
 μ k := match g with
  | true => if k = .g E.ng then L else E.μ k
  | false => if k = .l E.nl then L else E.μ k
 ng := match g with
  | true => E.ng + 1
  | false => E.ng
 nl := match g with
  | true => E.nl
  | false => E.nl + 1
def Env.newKey (E : Env) : Bool → Key
 | true => .g E.ng
 | false => .l E.nl
theorem Env.not_has_newKey (E : Env) (g : Bool) : ¬ E.has (E.newKey g) := by cases g <;> simp [Env.newKey, Env.has]
theorem Env.push_le (E : Env) (g : Bool) (L : Loc) (J : Imm) : E.Le (E.push g L J) := by
 refine ⟨fun b o x hx => by simp [Env.push, hx], ?_, ?_, ?_⟩
 · cases g <;> simp [Env.push]
 · cases g <;> simp [Env.push]
 · intro k hk
   cases g <;> simp only [Env.push] <;> rw [if_neg] <;> rintro rfl <;> simp [Env.has] at hk
theorem Env.push_new (E : Env) (g : Bool) (L : Loc) (J : Imm) : (E.push g L J).μ (E.newKey g) = L := by cases g <;> simp [Env.push, Env.newKey]
theorem Env.push_has (E : Env) (g : Bool) (L : Loc) (J : Imm) (k : Key) : (E.push g L J).has k ↔ E.has k ∨ k = E.newKey g := by
 cases g <;> cases k <;> simp [Env.push, Env.newKey, Env.has] <;> omega
theorem Env.push_has_new (E : Env) (g : Bool) (L : Loc) (J : Imm) : (E.push g L J).has (E.newKey g) := (E.push_has g L J _).2 (.inr rfl)
theorem Sim.newKey {E : Env} {st : St} {w : World} (h : Sim E st w) (g : Bool) : st.newKey g = E.newKey g := by
 cases g <;> simp [St.newKey, Env.newKey, h.ng, h.nl]
theorem RowOf.keep {z : Nat} {E F : Env} (hle : E.Le F) {w w' : World} {L : Loc} {cs : List V} (hb : w'.heap[L.blk]? = w.heap[L.blk]?) (h : RowOf z E w L cs) : RowOf z F w' L cs := by
 obtain ⟨cells, t, fz, h1, h2, h3, h4, h5⟩ := h
 exact ⟨cells, t, fz, by rw [hb, h1], h2, h3, h4, fun j v hj => let ⟨x, hx, hr, h1⟩ := h5 j v hj; ⟨x, hx, hr.mono hle, h1⟩⟩
theorem Holds.keep {E F : Env} (hle : E.Le F) {w w' : World} {L : Loc} {o : Obj} (hb : w'.heap[L.blk]? = w.heap[L.blk]?) (h : Holds E w L o) : Holds F w' L o := by
 cases o with
 | cs c => exact ⟨h.1, RowOf.keep hle hb h.2⟩
 | arr sz es => exact ⟨h.1, RowOf.keep hle hb h.2⟩
 | spare => exact RowOf.keep hle hb h
 | mp kd es =>
   obtain ⟨ents, clock, h1, h2, h3, h4⟩ := h
   exact ⟨ents, clock, by rw [hb, h1], h2, fun j q e hq he => let ⟨a, b, c⟩ := h3 j q e hq he; ⟨a.mono hle.imm, b, c.mono hle⟩, h4⟩
theorem Holds.size {E : Env} {w : World} {L : Loc} {o : Obj} (h : Holds E w L o) : L.blk < w.heap.size := by
 have : ∃ x, w.heap[L.blk]? = some x := by
  cases o with
  | cs c => obtain ⟨_, cells, t, fz, h1, _⟩ := h; exact ⟨_, h1⟩
  | arr sz es => obtain ⟨_, cells, t, fz, h1, _⟩ := h; exact ⟨_, h1⟩
  | spare => obtain ⟨cells, t, fz, h1, _⟩ := h; exact ⟨_, h1⟩
  | mp kd es => obtain ⟨ents, clock, h1, _⟩ := h; exact ⟨_, h1⟩
 obtain ⟨x, hx⟩ := this
 exact (Array.getElem?_eq_some_iff.1 hx).1
theorem Sim.lt {E : Env} {st : St} {w : World} (h : Sim E st w) {k : Key} (hk : st.live k) : (E.μ k).blk < w.heap.size :=
 let ⟨o, ho⟩ := hk; (h.obj k o ho).size
theorem Sim.fresh {E : Env} {st : St} {w w' : World} (h : Sim E st w) (gone : Option Key) (g : Bool) (base fin : Nat) (J : Nat → Option Value) (o : Obj) (ob : Go.Obj)
 (hh : w'.heap = w.heap.push ob) (hos : w'.os = w.os) (hout : w'.output = w.output) (htape : w'.tape = w.tape)
 (hJ : ∀ j x, J j = some x → (∃ c t fz, ob = .cells c t fz ∧ c[j]? = some x) ∧ ¬ (base ≤ j ∧ j < fin))
 (ho : Holds ((E.push g ⟨w.heap.size, base, fin⟩ fun b j => if b = w.heap.size then J j else none).at (E.newKey g)) w' ⟨w.heap.size, base, fin⟩ o) :
 let st' := (match gone with | some k => st.remove k | none => st).push g o
 let E' := E.push g ⟨w.heap.size, base, fin⟩ fun b j => if b = w.heap.size then J j else none
 Sim E' st' w' ∧ Ext E st w E' st' w' := by
 intro st' E'
 have hle : E.Le E' := Env.push_le _ _ _ _
 have hnk : st.newKey g = E.newKey g := h.newKey g
 have hget : ∀ k, st'.get k = if k = E.newKey g then some o else (match gone with | some k0 => if k = k0 then none else st.get k | none => st.get k) := by
  intro k
  simp only [st']
  cases gone with
  | none => rw [St.get_push, hnk]
  | some k0 => rw [St.get_push, St.newKey_remove, hnk, St.get_remove]
 have hliv : ∀ k, st'.live k → k ≠ E.newKey g → st.live k := by
  rintro k ⟨x, hx⟩ hne
  rw [hget, if_neg hne] at hx
  cases gone with
  | none => exact ⟨x, hx⟩
  | some k0 =>
    simp only at hx
    split at hx
    · cases hx
    · exact ⟨x, hx⟩
 have hold : ∀ b, b < w.heap.size → w'.heap[b]? = w.heap[b]? := by
  intro b hb
  rw [hh, Array.getElem?_push, if_neg (by omega)]
 have hnew : w'.heap[w.heap.size]? = some ob := by rw [hh]; simp
 have hsz : w'.heap.size = w.heap.size + 1 := by rw [hh]; simp
 have hImm : ∀ b j x, E.I b j = some x → b < w.heap.size := by
  intro b j x hx
  have := h.imm b j x hx
  simp only [cellIn] at this
  rcases Nat.lt_or_ge b w.heap.size with hl | hl
  · exact hl
  · simp [Array.getElem?_eq_none hl] at this
 have hnext : st'.g.next = E'.ng ∧ st'.l.next = E'.nl := by
  have h1 := h.ng
  have h2 := h.nl
  simp only [st', E']
  cases gone with
  | none => cases g <;> simp [St.push, Heap.push, Env.push, h1, h2]
  | some k => cases k <;> cases g <;> simp [St.push, Heap.push, St.remove, Heap.remove, Env.push, h1, h2]
 have hdom : ∀ k, st'.live k → E'.has k := by
  intro k hk
  by_cases hne : k = E.newKey g
  · subst hne; exact Env.push_has_new _ _ _ _
  · exact hle.has (h.dom k (hliv k hk hne))
 have hμn : E'.μ (E.newKey g) = ⟨w.heap.size, base, fin⟩ := Env.push_new _ _ _ _
 refine ⟨⟨hnext.1, hnext.2, hdom, ?_, ?_, ?_, ?_⟩, ⟨hle, by omega, ?_, ?_, ?_, fun b hb _ => hold b hb, hos, hout, htape⟩⟩
 · intro b j x hx
   simp only [E', Env.push] at hx
   cases hI : E.I b j with
   | some y =>
     rw [hI] at hx
     have hb := hImm b j y hI
     have := h.imm b j y hI
     simp only [cellIn, hold b hb] at *
     simp only [Option.some.injEq] at hx
     rw [this, hx]
   | none =>
     rw [hI] at hx
     simp only at hx
     split at hx
     · rename_i hb
       subst hb
       obtain ⟨⟨c, t, fz, rfl, hc⟩, _⟩ := hJ j x hx
       simp only [cellIn, hnew, hc]
     · cases hx
 · intro k x hk
   by_cases hne : k = E.newKey g
   · subst hne
     rw [hget, if_pos rfl] at hk
     simp only [Option.some.injEq] at hk
     subst hk
     rw [hμn]; exact ho
   · have hl := hliv k ⟨x, hk⟩ hne
     rw [hget, if_neg hne] at hk
     have hk' : st.get k = some x := by
      cases gone with
      | none => exact hk
      | some k0 =>
        simp only at hk
        split at hk
        · cases hk
        · exact hk
     rw [hle.loc k (h.dom k hl)]
     exact (h.obj k x hk').keep (Env.at_mono hle k) (hold _ (h.lt hl))
 · intro k k' hk hk' hne
   by_cases h1 : k = E.newKey g
   · subst h1
     have h2 : k' ≠ E.newKey g := fun e => hne e.symm
     have hl := hliv k' hk' h2
     rw [hμn, hle.loc k' (h.dom k' hl)]
     have := h.lt hl
     simp only [ne_eq]; omega
   · have hl := hliv k hk h1
     by_cases h2 : k' = E.newKey g
     · subst h2
       rw [hμn, hle.loc k (h.dom k hl)]
       have := h.lt hl
       simp only [ne_eq]; omega
     · have hl' := hliv k' hk' h2
       rw [hle.loc k (h.dom k hl), hle.loc k' (h.dom k' hl')]
       exact h.sep k k' hl hl' hne
 · intro k hk j hj1 hj2
   by_cases h1 : k = E.newKey g
   · subst h1
     rw [hμn] at *
     simp only at hj1 hj2 ⊢
     simp only [E', Env.push]
     cases hI : E.I w.heap.size j with
     | some y => exact absurd (hImm _ _ _ hI) (by omega)
     | none =>
       simp only [if_true]
       cases hJ' : J j with
       | none => rfl
       | some y => exact absurd ⟨hj1, hj2⟩ (hJ j y hJ').2
   · have hl := hliv k hk h1
     rw [hle.loc k (h.dom k hl)] at *
     have hlt := h.lt hl
     simp only [E', Env.push, h.own k hl j hj1 hj2]
     rw [if_neg (by omega)]
 · intro b j x hx
   simp only [E', Env.push] at hx
   cases hI : E.I b j with
   | some y => rw [hI] at hx; exact .inl hx
   | none =>
     rw [hI] at hx
     simp only at hx
     split at hx
     · rename_i hb; exact .inr (.inl (by omega))
     · cases hx
 · intro k hk he
   exact hliv k hk (fun e => E.not_has_newKey g (e ▸ he))
 · intro k hk he
   by_cases h1 : k = E.newKey g
   · subst h1; rw [hμn]; exact .inl (Nat.le_refl _)
   · exact absurd (h.dom k (hliv k hk h1)) he
theorem Sim.set {E : Env} {st : St} {w w' : World} (h : Sim E st w) {k : Key} {o0 : Obj} (hk : st.get k = some o0) (o : Obj)
 (hsz : w'.heap.size = w.heap.size) (hoth : ∀ b, b ≠ (E.μ k).blk → w'.heap[b]? = w.heap[b]?) (hos : w'.os = w.os) (hout : w'.output = w.output) (htape : w'.tape = w.tape)
 (himm : ∀ j x, E.I (E.μ k).blk j = some x → cellIn w' (E.μ k).blk j = some x) (ho : Holds (E.at k) w' (E.μ k) o) :
 Sim E (st.set k o) w' ∧ Ext E st w E (st.set k o) w' := by
 have hget : ∀ k', (st.set k o).get k' = if k' = k then some o else st.get k' := by
  intro k'; rw [St.get_set, hk]; rfl
 have hliv : ∀ k', (st.set k o).live k' ↔ st.live k' := by
  intro k'
  simp only [St.live, hget]
  by_cases e : k' = k
  · subst e; simp [hk]
  · simp [e]
 have hnext : (st.set k o).g.next = st.g.next ∧ (st.set k o).l.next = st.l.next := by cases k <;> simp [St.set, Heap.set]
 have hlk : st.live k := ⟨o0, hk⟩
 refine ⟨⟨hnext.1.trans h.ng, hnext.2.trans h.nl, fun k' hk' => h.dom k' ((hliv k').1 hk'), ?_, ?_, ?_, ?_⟩,
  ⟨.refl E, by omega, fun _ _ _ hx => .inl hx, fun k' hk' _ => (hliv k').1 hk', fun k' hk' _ => .inr ⟨k', (hliv k').1 hk', rfl⟩, ?_, hos, hout, htape⟩⟩
 · intro b j x hx
   by_cases e : b = (E.μ k).blk
   · subst e; exact himm j x hx
   · have := h.imm b j x hx
     simp only [cellIn, hoth b e] at *
     exact this
 · intro k' x hx
   rw [hget] at hx
   by_cases e : k' = k
   · subst e; rw [if_pos rfl] at hx; simp only [Option.some.injEq] at hx; subst hx; exact ho
   · rw [if_neg e] at hx
     exact (h.obj k' x hx).keep (.refl _) (hoth _ (h.sep k' k ⟨x, hx⟩ hlk e))
 · intro a b ha hb hne
   exact h.sep a b ((hliv a).1 ha) ((hliv b).1 hb) hne
 · intro a ha j h1 h2
   exact h.own a ((hliv a).1 ha) j h1 h2
 · intro b _ hn
   exact hoth b (fun e => hn k hlk e.symm)
theorem Sim.move {E : Env} {st : St} {w w' : World} (h : Sim E st w) {k : Key} {o0 : Obj} (hk : st.get k = some o0) (g : Bool) (L : Loc) (J : Nat → Option Value) (o : Obj)
 (hL : L.blk = (E.μ k).blk) (hb1 : (E.μ k).base ≤ L.base) (hb2 : L.fin ≤ (E.μ k).fin)
 (hsz : w'.heap.size = w.heap.size) (hoth : ∀ b, b ≠ (E.μ k).blk → w'.heap[b]? = w.heap[b]?) (hos : w'.os = w.os) (hout : w'.output = w.output) (htape : w'.tape = w.tape)
 (himm : ∀ j x, E.I (E.μ k).blk j = some x → cellIn w' (E.μ k).blk j = some x)
 (hJ : ∀ j x, J j = some x → cellIn w' (E.μ k).blk j = some x ∧ ¬ (L.base ≤ j ∧ j < L.fin))
 (ho : Holds ((E.push g L fun b j => if b = (E.μ k).blk then J j else none).at (E.newKey g)) w' L o) :
 let st' := (st.remove k).push g o
 let E' := E.push g L fun b j => if b = (E.μ k).blk then J j else none
 Sim E' st' w' ∧ Ext E st w E' st' w' := by
 intro st' E'
 have hle : E.Le E' := Env.push_le _ _ _ _
 have hnk : st.newKey g = E.newKey g := h.newKey g
 have hlk : st.live k := ⟨o0, hk⟩
 have hget : ∀ k', st'.get k' = if k' = E.newKey g then some o else if k' = k then none else st.get k' := by
  intro k'
  simp only [st']
  rw [St.get_push, St.newKey_remove, hnk, St.get_remove]
 have hliv : ∀ k', st'.live k' → k' ≠ E.newKey g → st.live k' ∧ k' ≠ k := by
  rintro k' ⟨x, hx⟩ hne
  rw [hget, if_neg hne] at hx
  split at hx
  · cases hx
  · rename_i hne'; exact ⟨⟨x, hx⟩, hne'⟩
 have hnext : st'.g.next = E'.ng ∧ st'.l.next = E'.nl := by
  have h1 := h.ng
  have h2 := h.nl
  simp only [st', E']
  cases k <;> cases g <;> simp [St.push, Heap.push, St.remove, Heap.remove, Env.push, h1, h2]
 have hμn : E'.μ (E.newKey g) = L := Env.push_new _ _ _ _
 refine ⟨⟨hnext.1, hnext.2, ?_, ?_, ?_, ?_, ?_⟩, ⟨hle, by omega, ?_, ?_, ?_, ?_, hos, hout, htape⟩⟩
 · intro k' hk'
   by_cases hne : k' = E.newKey g
   · subst hne; exact Env.push_has_new _ _ _ _
   · exact hle.has (h.dom k' (hliv k' hk' hne).1)
 · intro b j x hx
   simp only [E', Env.push] at hx
   cases hI : E.I b j with
   | some y =>
     rw [hI] at hx
     simp only [Option.some.injEq] at hx
     subst hx
     by_cases e : b = (E.μ k).blk
     · subst e; exact himm j y hI
     · have := h.imm b j y hI
       simp only [cellIn, hoth b e] at *
       exact this
   | none =>
     rw [hI] at hx
     simp only at hx
     split at hx
     · rename_i hb; subst hb; exact (hJ j x hx).1
     · cases hx
 · intro k' x hx
   rw [hget] at hx
   by_cases e : k' = E.newKey g
   · subst e; rw [if_pos rfl] at hx; simp only [Option.some.injEq] at hx; subst hx; rw [hμn]; exact ho
   · rw [if_neg e] at hx
     split at hx
     · cases hx
     · rename_i hne
       rw [hle.loc k' (h.dom k' ⟨x, hx⟩)]
       exact (h.obj k' x hx).keep (Env.at_mono hle k') (hoth _ (h.sep k' k ⟨x, hx⟩ hlk hne))
 · intro a b ha hb hne
   by_cases e1 : a = E.newKey g
   · subst e1
     have e2 : b ≠ E.newKey g := fun e => hne e.symm
     have hl := hliv b hb e2
     rw [hμn, hle.loc b (h.dom b hl.1), hL]
     exact h.sep k b hlk hl.1 (fun e => hl.2 e.symm)
   · have hl := hliv a ha e1
     by_cases e2 : b = E.newKey g
     · subst e2
       rw [hμn, hle.loc a (h.dom a hl.1), hL]
       exact h.sep a k hl.1 hlk hl.2
     · have hl' := hliv b hb e2
       rw [hle.loc a (h.dom a hl.1), hle.loc b (h.dom b hl'.1)]
       exact h.sep a b hl.1 hl'.1 hne
 · intro a ha j h1 h2
   by_cases e1 : a = E.newKey g
   · subst e1
     rw [hμn] at *
     simp only [E', Env.push, hL]
     rw [h.own k hlk j (by omega) (by omega)]
     simp only [if_true]
     cases hJ' : J j with
     | none => rfl
     | some y => exact absurd ⟨h1, h2⟩ (hJ j y hJ').2
   · have hl := hliv a ha e1
     rw [hle.loc a (h.dom a hl.1)] at *
     simp only [E', Env.push, h.own a hl.1 j h1 h2]
     rw [if_neg (h.sep a k hl.1 hlk hl.2)]
 · intro b j x hx
   simp only [E', Env.push] at hx
   cases hI : E.I b j with
   | some y => rw [hI] at hx; exact .inl hx
   | none =>
     rw [hI] at hx
     simp only at hx
     split at hx
     · rename_i hb; exact .inr (.inr ⟨k, hlk, hb.symm⟩)
     · cases hx
 · intro k' hk' he
   exact (hliv k' hk' (fun e => E.not_has_newKey g (e ▸ he))).1
 · intro k' hk' he
   by_cases e : k' = E.newKey g
   · subst e; rw [hμn, hL]; exact .inr ⟨k, hlk, rfl⟩
   · exact absurd (h.dom k' (hliv k' hk' e).1) he
 · intro b _ hn
   exact hoth b (fun e => hn k hlk e.symm)
end Go.Eng
/-
What a tree of asks needs ('T.wp'), what a call promises ('ACall').
-/
namespace Go.Eng
open Go
def wIf (c : Bool) (X Y : Prop) : Prop := (c = true → X) ∧ (c = false → Y)
def wEx {β : Type} (o : Option β) (k : β → Prop) : Prop := ∃ x, o = some x ∧ k x
def wOpt {β : Type} (o : Option β) (n : Prop) (k : β → Prop) : Prop := (o = none → n) ∧ (∀ x, o = some x → k x)
def wChk (c : Bool) (k : Prop) : Prop := c = true ∧ k
def wWrap (kd : IntKind) (n : Int) (k : Int → Prop) : Prop := k (kd.wrap n) ∨ (kd.min ≤ n ∧ n ≤ kd.max ∧ k n)
theorem wIf_t {c : Bool} {X Y : Prop} (h : c = true) (x : X) : wIf c X Y := ⟨fun _ => x, fun h' => (by rw [h] at h'; cases h')⟩
theorem wIf_f {c : Bool} {X Y : Prop} (h : c = false) (y : Y) : wIf c X Y := ⟨fun h' => (by rw [h] at h'; cases h'), fun _ => y⟩
theorem wOpt_n {β : Type} {o : Option β} {n : Prop} {k : β → Prop} (h : o = none) (hn : n) : wOpt o n k := ⟨fun _ => hn, fun x hx => by rw [h] at hx; cases hx⟩
theorem wOpt_i {β : Type} {o : Option β} {n : Prop} {k : β → Prop} {x : β} (h : o = some x) (hk : k x) : wOpt o n k :=
 ⟨fun hn => (by rw [h] at hn; cases hn), fun y hy => by rw [h] at hy; cases hy; exact hk⟩
theorem wrap_of_in {kd : IntKind} {n : Int} (h : kd.min ≤ n) (h' : n ≤ kd.max) : kd.wrap n = n := by
 cases kd <;> simp [IntKind.wrap, IntKind.min, IntKind.max, IntKind.bits, IntKind.signed] at * <;> (try split) <;> omega
theorem wWrap_iff {kd : IntKind} {n : Int} {k : Int → Prop} : wWrap kd n k ↔ k (kd.wrap n) := by
 constructor
 · rintro (h | ⟨h1, h2, h3⟩)
   · exact h
   · rwa [wrap_of_in h1 h2]
 · exact .inl
abbrev CallP := Nat → List V → Heap → (V → Heap → Prop) → Prop
def T.wp {α : Type} (A : CallP) : T α → (α → Prop) → Prop
 | .ret a, K => K a
 | .ite c t e, K => wIf c (t.wp A K) (e.wp A K)
 | .elem o k, K => wEx o fun x => (k x).wp A K
 | .byte o k, K => wEx o fun x => (k x).wp A K
 | .els o k, K => wEx o fun x => (k x).wp A K
 | .bys o k, K => wEx o fun x => (k x).wp A K
 | .obj o k, K => wEx o fun x => (k x).wp A K
 | .optc o n k, K => wOpt o (n.wp A K) fun x => (k x).wp A K
 | .chk c k, K => wChk c (k.wp A K)
 | .wrap kd n k, K => wWrap kd n fun x => (k x).wp A K
 | .any k, K => ∀ r, (k r).wp A K
 | .same v u k, K => v = u ∧ k.wp A K
 | .call f as h k, K => A f as h fun r h' => (k r h').wp A K
 | .fail, _ => False
def CallP.Mono (A : CallP) : Prop := ∀ f as h (K K' : V → Heap → Prop), (∀ r h', K r h' → K' r h') → A f as h K → A f as h K'
theorem T.wp_mono {α : Type} {A : CallP} (hA : A.Mono) {t : T α} : ∀ {K K' : α → Prop}, (∀ a, K a → K' a) → t.wp A K → t.wp A K' := by
 induction t with
 | ret a => exact fun h hk => h _ hk
 | ite c t e iht ihe => exact fun h hk => ⟨fun hc => iht h (hk.1 hc), fun hc => ihe h (hk.2 hc)⟩
 | elem o k ih => exact fun h ⟨x, hx, hk⟩ => ⟨x, hx, ih x h hk⟩
 | byte o k ih => exact fun h ⟨x, hx, hk⟩ => ⟨x, hx, ih x h hk⟩
 | els o k ih => exact fun h ⟨x, hx, hk⟩ => ⟨x, hx, ih x h hk⟩
 | bys o k ih => exact fun h ⟨x, hx, hk⟩ => ⟨x, hx, ih x h hk⟩
 | obj o k ih => exact fun h ⟨x, hx, hk⟩ => ⟨x, hx, ih x h hk⟩
 | optc o n k ihn ih => exact fun h hk => ⟨fun hn => ihn h (hk.1 hn), fun x hx => ih x h (hk.2 x hx)⟩
 | chk c k ih => exact fun h hk => ⟨hk.1, ih h hk.2⟩
 | wrap kd n k ih => exact fun h hk => hk.imp (ih _ h) fun ⟨a, b, c⟩ => ⟨a, b, ih _ h c⟩
 | any k ih => exact fun h hk r => ih r h (hk r)
 | same v u k ih => exact fun h hk => ⟨hk.1, ih h hk.2⟩
 | call f as hh k ih => exact fun h hk => hA _ _ _ _ _ (fun r h' hr => ih r h' h hr) hk
 | fail => exact fun _ hk => hk
theorem T.wp_bind {α β : Type} {A : CallP} (t : T α) (f : α → T β) (K : β → Prop) : (t.bind f).wp A K = t.wp A fun a => (f a).wp A K := by
 induction t with
 | ret a => rfl
 | ite c t e iht ihe => simp only [T.bind, T.wp, iht, ihe]
 | elem o k ih => simp only [T.bind, T.wp, ih]
 | byte o k ih => simp only [T.bind, T.wp, ih]
 | els o k ih => simp only [T.bind, T.wp, ih]
 | bys o k ih => simp only [T.bind, T.wp, ih]
 | obj o k ih => simp only [T.bind, T.wp, ih]
 | optc o n k ihn ih => simp only [T.bind, T.wp, ihn, ih]
 | chk c k ih => simp only [T.bind, T.wp, ih]
 | wrap kd n k ih => simp only [T.bind, T.wp, ih]
 | any k ih => simp only [T.bind, T.wp, ih]
 | same v u k ih => simp only [T.bind, T.wp, ih]
 | call g as h k ih => simp only [T.bind, T.wp, ih]
 | fail => rfl
def noL : Heap := ⟨0, []⟩
abbrev gst (h : Heap) : St := ⟨h, noL⟩
def bodyOk (P : Program) (f : Nat) : Bool :=
 match P.funcs[f]? with
 | some fn => fn.body.isSome && !(fn.name == "runtime.NumGoroutine")
 | none => false
def ACall (P : Program) : CallP := fun f args h K => bodyOk P f = true ∧
 ∀ (E : Env) (w : World) (vs : Array Value), E.nl = 0 → Sim E (gst h) w → RelL E args vs →
  Calls P f vs w fun e w' => ∃ v x h' E', K v h' ∧ e = .returned x ∧ E'.nl = 0 ∧ Sim E' (gst h') w' ∧ Ext E (gst h) w E' (gst h') w' ∧ Rel E' v x
theorem ACall.mono (P : Program) : (ACall P).Mono := fun _ _ _ _ _ hK hA => ⟨hA.1, fun E w vs hn hs hv =>
 (hA.2 E w vs hn hs hv).mono fun _ _ ⟨v, x, h', E', h1, h2, h3, h4, h5, h6⟩ => ⟨v, x, h', E', hK _ _ h1, h2, h3, h4, h5, h6⟩⟩
theorem noL_get (n : Nat) : noL.get n = none := rfl
theorem gst_live {h : Heap} {k : Key} (hk : (gst h).live k) : ∃ n, k = .g n ∧ ∃ o, h.get n = some o := by
 obtain ⟨o, ho⟩ := hk
 cases k with
 | g n => exact ⟨n, rfl, o, ho⟩
 | l n => simp [St.get, noL_get] at ho
theorem out_rel {E : Env} {v v' : V} {x : Value} (h : v.out = some v') (hr : Rel E v x) : Rel E.cut v' x := by
 unfold V.out at h
 split at h <;> simp only [Option.some.injEq, reduceCtorEq] at h <;> subst h
 all_goals (cases hr)
 all_goals (first
  | exact .deep ‹_›
  | exact .nilp
  | exact .nilm
  | exact .nilf
  | exact .p (E := E.cut) (.g _) _ ‹_›
  | exact .pa (E := E.cut) (.g _) _ _ _ ‹_›
  | exact .m (E := E.cut) (.g _) ‹_›
  | exact .tsl (E := E.cut) (.g _) _ _ _ _ ‹_› ‹_› ‹_› ‹_›
  | exact .ms (E := E.cut) (.g _) _ _ _ _ _ ‹_› ‹_› ‹_› ‹_› ‹_›
  | (exact .deep (by assumption))
  | skip)
 all_goals (rename_i hd; cases hd)
theorem outs_rel {E : Env} : ∀ {l l' : List V} {a : Array Value}, V.outs l = some l' → RelL E l a → RelL E.cut l' a := by
 intro l
 induction l with
 | nil =>
   intro l' a h hr
   simp only [V.outs, Option.some.injEq] at h
   subst h
   exact ⟨hr.1, fun j v x hj => by simp at hj⟩
 | cons v r ih =>
   intro l' a h hr
   simp only [V.outs] at h
   split at h
   · rename_i v' r' hv hrr
     simp only [Option.some.injEq] at h
     subst h
     have hsz : a.size = r.length + 1 := hr.1
     have htl : RelL E r (a.extract 1 a.size) := ⟨by simp [hsz], fun j u x hj hx => hr.2 (j + 1) u x (by simpa using hj) (by
      rw [Array.getElem?_extract] at hx
      split at hx
      · rw [Nat.add_comm]; exact hx
      · cases hx)⟩
     have ht := ih hrr htl
     have hl : r'.length = r.length := by have h1 := ht.1; have h2 := htl.1; omega
     refine ⟨by simp [hsz, hl], fun j u x hj hx => ?_⟩
     cases j with
     | zero =>
       simp only [List.getElem?_cons_zero, Option.some.injEq] at hj
       subst hj
       exact out_rel hv (hr.2 0 v x (by simp) hx)
     | succ j =>
       refine ht.2 j u x (by simpa using hj) ?_
       have hlt : j + 1 < a.size := (Array.getElem?_eq_some_iff.1 hx).1
       rw [Array.getElem?_extract, if_pos (by omega), Nat.add_comm]
       exact hx
   · cases h
theorem RelL.append {E : Env} {l r : List V} {a b : Array Value} (h : RelL E l a) (g : RelL E r b) : RelL E (l ++ r) (a ++ b) := by
 refine ⟨by simp [h.1, g.1], fun j v x hj hx => ?_⟩
 rw [Array.getElem?_append] at hx
 rw [List.getElem?_append] at hj
 rw [h.1] at hx
 split at hj
 · rename_i hlt
   rw [if_pos hlt] at hx
   exact h.2 j v x hj hx
 · rename_i hlt
   rw [if_neg hlt] at hx
   exact g.2 _ v x hj hx
theorem pass_rel {E : Env} {v v' : V} {x : Value} (h : v.pass = some v') (hr : Rel E v x) : Rel E.cut v' x := by
 unfold V.pass at h
 split at h
 · split at h
   · rename_i cs _ y hy
     simp only [Option.some.injEq] at h
     subst h
     cases hr with
     | deep hd => cases hd
     | agg _ a ha h1 hra =>
       have := outs_rel hy ⟨ha, hra⟩
       exact .agg _ _ this.1 h1 this.2
   · cases h
 · split at h
   · rename_i f a c _ _ y z hy hz
     simp only [Option.some.injEq] at h
     subst h
     cases hr with
     | deep hd => cases hd
     | fn _ _ _ a' c' ha hc hra hrc =>
       have h1 := outs_rel hy ⟨ha, hra⟩
       have h2 := outs_rel hz ⟨hc, hrc⟩
       exact .fn _ _ _ _ _ h1.1 h2.1 h1.2 h2.2
   · cases h
 · exact out_rel h hr
theorem passes_rel {E : Env} : ∀ {l l' : List V} {a : Array Value}, passes l = some l' → RelL E l a → RelL E.cut l' a := by
 intro l
 induction l with
 | nil =>
   intro l' a h hr
   simp only [passes, Option.some.injEq] at h
   subst h
   exact ⟨hr.1, fun j v x hj => by simp at hj⟩
 | cons v r ih =>
   intro l' a h hr
   simp only [passes] at h
   split at h
   · rename_i v' r' hv hrr
     simp only [Option.some.injEq] at h
     subst h
     have hsz : a.size = r.length + 1 := hr.1
     have htl : RelL E r (a.extract 1 a.size) := ⟨by simp [hsz], fun j u x hj hx => hr.2 (j + 1) u x (by simpa using hj) (by
      rw [Array.getElem?_extract] at hx
      split at hx
      · rw [Nat.add_comm]; exact hx
      · cases hx)⟩
     have ht := ih hrr htl
     have hl : r'.length = r.length := by have h1 := ht.1; have h2 := htl.1; omega
     refine ⟨by simp [hsz, hl], fun j u x hj hx => ?_⟩
     cases j with
     | zero =>
       simp only [List.getElem?_cons_zero, Option.some.injEq] at hj
       subst hj
       exact pass_rel hv (hr.2 0 v x (by simp) hx)
     | succ j =>
       refine ht.2 j u x (by simpa using hj) ?_
       have hlt : j + 1 < a.size := (Array.getElem?_eq_some_iff.1 hx).1
       rw [Array.getElem?_extract, if_pos (by omega), Nat.add_comm]
       exact hx
   · cases h
theorem Sim.cut {E : Env} {st : St} {w : World} (h : Sim E st w) : Sim E.cut (gst st.g) w := by
 have hl : ∀ k, (gst st.g).live k → st.live k := by
  intro k hk
  obtain ⟨n, rfl, o, ho⟩ := gst_live hk
  exact ⟨o, ho⟩
 refine ⟨h.ng, rfl, ?_, h.imm, ?_, fun k k' hk hk' hne => h.sep k k' (hl k hk) (hl k' hk') hne, fun k hk => h.own k (hl k hk)⟩
 · intro k hk
   obtain ⟨n, rfl, o, ho⟩ := gst_live hk
   exact h.dom (.g n) ⟨o, ho⟩
 · intro k o hk
   obtain ⟨n, rfl, o', ho'⟩ := gst_live ⟨o, hk⟩
   exact h.obj (.g n) o hk
def Env.join (E E' : Env) : Env where
 I := E'.I
 μ k := match k with
  | .g _ => E'.μ k
  | .l _ => E.μ k
 ng := E'.ng
 nl := E.nl
theorem Sim.back {E E' : Env} {st : St} {h' : Heap} {w w' : World} (h : Sim E st w) (hn : E'.nl = 0) (hs : Sim E' (gst h') w')
 (he : Ext E.cut (gst st.g) w E' (gst h') w') : Sim (E.join E') ⟨h', st.l⟩ w' ∧ Ext E st w (E.join E') ⟨h', st.l⟩ w' ∧ E'.Le (E.join E') := by
 have hle : E.Le (E.join E') := by
  refine ⟨fun b o x hx => he.le.imm b o x hx, he.le.ng, Nat.le_refl _, ?_⟩
  intro k hk
  cases k with
  | g n => exact he.le.loc (.g n) hk
  | l n => rfl
 have hle' : E'.Le (E.join E') := by
  refine ⟨fun b o x hx => hx, Nat.le_refl _, by rw [hn]; exact Nat.zero_le _, ?_⟩
  intro k hk
  cases k with
  | g n => rfl
  | l n => simp [Env.has, hn] at hk
 have hlg : ∀ n, st.live (.g n) → (gst st.g).live (.g n) := fun n ⟨o, ho⟩ => ⟨o, ho⟩
 have hlg' : ∀ k, (gst st.g).live k → st.live k := by
  intro k hk
  obtain ⟨n, rfl, o, ho⟩ := gst_live hk
  exact ⟨o, ho⟩
 -- an object of the caller's own lies apart from all that the callee may write
 have hapart : ∀ n, st.live (.l n) → ∀ k, (gst st.g).live k → (E.cut.μ k).blk ≠ (E.μ (.l n)).blk := by
  intro n hl k hk
  obtain ⟨m, rfl, o, ho⟩ := gst_live hk
  exact h.sep (.g m) (.l n) ⟨o, ho⟩ hl (by simp)
 have hlive : ∀ k, St.live ⟨h', st.l⟩ k → (∃ n, k = .g n ∧ (gst h').live (.g n)) ∨ ∃ n, k = .l n ∧ st.live (.l n) := by
  rintro (n | n) ⟨o, ho⟩
  · exact .inl ⟨n, rfl, o, ho⟩
  · exact .inr ⟨n, rfl, o, ho⟩
 have hsame : ∀ n, st.live (.l n) → w'.heap[(E.μ (.l n)).blk]? = w.heap[(E.μ (.l n)).blk]? := fun n hl =>
  he.same _ (h.lt hl) (hapart n hl)
 have hgl : ∀ n m, (gst h').live (.g n) → st.live (.l m) → (E'.μ (.g n)).blk ≠ (E.μ (.l m)).blk := by
  intro n m hg hl
  by_cases ha : E.cut.has (.g n)
  · rw [he.le.loc _ ha]
    exact hapart m hl _ (he.keyOld _ hg ha)
  · rcases he.keyNew _ hg ha with h1 | ⟨k0, h1, h2⟩
    · have := h.lt hl
      omega
    · rw [← h2]
      exact hapart m hl _ h1
 refine ⟨⟨hs.ng, h.nl, ?_, hs.imm, ?_, ?_, ?_⟩, ⟨hle, he.size, ?_, ?_, ?_, ?_, he.os, he.out, he.tape⟩, hle'⟩
 · intro k hk
   rcases hlive k hk with ⟨n, rfl, hg⟩ | ⟨n, rfl, hl⟩
   · exact hle'.has (hs.dom _ hg)
   · exact hle.has (h.dom _ hl)
 · intro k o hk
   cases k with
   | g n =>
     have := hs.obj (.g n) o hk
     exact this.keep (Env.cut_mono hle') rfl
   | l n =>
     have := h.obj (.l n) o hk
     exact this.keep hle (hsame n ⟨o, hk⟩)
 · intro a b ha hb hne
   rcases hlive a ha with ⟨n, rfl, hg⟩ | ⟨n, rfl, hl⟩ <;> rcases hlive b hb with ⟨m, rfl, hg'⟩ | ⟨m, rfl, hl'⟩
   · exact hs.sep _ _ hg hg' hne
   · exact hgl n m hg hl'
   · exact fun e => hgl m n hg' hl e.symm
   · exact h.sep _ _ hl hl' hne
 · intro k hk j h1 h2
   rcases hlive k hk with ⟨n, rfl, hg⟩ | ⟨n, rfl, hl⟩
   · exact hs.own _ hg j h1 h2
   · show E'.I _ j = none
     cases hx : E'.I (E.μ (.l n)).blk j with
     | none => exact hx
     | some x =>
       rcases he.immNew _ _ _ hx with h3 | h3 | ⟨k0, h3, h4⟩
       · have := h.own _ hl j h1 h2
         rw [show E.cut.I = E.I from rfl, this] at h3
         cases h3
       · have := h.lt hl
         omega
       · exact absurd h4 (hapart n hl _ h3)
 · intro b o x hx
   rcases he.immNew b o x hx with h1 | h1 | ⟨k, h1, h2⟩
   · exact .inl h1
   · exact .inr (.inl h1)
   · exact .inr (.inr ⟨k, hlg' k h1, h2⟩)
 · intro k hk ha
   rcases hlive k hk with ⟨n, rfl, hg⟩ | ⟨n, rfl, hl⟩
   · exact hlg' _ (he.keyOld _ hg ha)
   · exact hl
 · intro k hk ha
   rcases hlive k hk with ⟨n, rfl, hg⟩ | ⟨n, rfl, hl⟩
   · rcases he.keyNew _ hg ha with h1 | ⟨k0, h1, h2⟩
     · exact .inl h1
     · exact .inr ⟨k0, hlg' k0 h1, h2⟩
   · exact absurd (h.dom _ hl) ha
 · intro b hb hn
   exact he.same b hb fun k hk => by
    have := hn k (hlg' k hk)
    obtain ⟨n, rfl, o, ho⟩ := gst_live hk
    exact this
theorem ACall.use {P : Program} {f : Nat} {vs : List V} {E : Env} {st : St} {w : World} (hs : Sim E st w) {args : List V} {a : Array Value} (hp : passes args = some vs)
 (ha : RelL E args a) {K : V → Heap → Prop} (h : ACall P f vs st.g K) {next : Value → World → Prop}
 (hK : ∀ v h' E' w' x, K v h' → Sim E' ⟨h', st.l⟩ w' → Ext E st w E' ⟨h', st.l⟩ w' → Rel E' v x → next x w') {Q : Exit → Act → World → Prop} {act : Act} :
 Calls P f a w fun
  | .returned v, w' => next v w'
  | .panicked chain, w' => Q (.panic chain) act w'
  | .outgrown, _ => LetsOut Q := by
 refine (h.2 E.cut w a rfl hs.cut (passes_rel hp ha)).mono ?_
 rintro e w' ⟨v, x, h', E', hk, rfl, hn, hs', he, hr⟩
 obtain ⟨h1, h2, h3⟩ := hs.back hn hs' he
 exact hK v h' _ w' x hk h1 h2 (hr.mono h3)
end Go.Eng
/-
Each operation of the model does what the abstract step says (part one: operands, moves, arithmetic, loads, stores).
-/
namespace Go.Eng
open Go
/-! Constants and operands. -/
def constOk : Nat → Value → V → Bool
 | 0, _, _ => false
 | n + 1, x, v => match x, v with
   | .bool p, .b q => p == q
   | .int k p, .i k' q => decide (k = k') && decide (p = q)
   | .string p, .s q => decide (p.data.toList = q)
   | .pointer none, .nilp => true
   | .slice none 0 0, .nils => true
   | .map none, .nilm => true
   | .nilFunc, .nilf => true
   | .agg cs, .agg l => decide (cs.size = l.length) && cs.all (·.oneCell') && (cs.toList.zip l).all fun q => constOk n q.1 q.2
   | .tuple cs, .tup l => decide (cs.size = l.length) && (cs.toList.zip l).all fun q => constOk n q.1 q.2
   | _, _ => false
theorem zip_all {α β : Type} {p : α × β → Bool} {l : List α} {r : List β} (h : (l.zip r).all p = true) {j : Nat} {x : α} {y : β} (hx : l[j]? = some x) (hy : r[j]? = some y) : p (x, y) = true := by
 rw [List.all_eq_true] at h
 refine h (x, y) (List.mem_of_getElem? (i := j) ?_)
 rw [List.getElem?_zip_eq_some]
 exact ⟨hx, hy⟩
theorem constOk_rel {n : Nat} : ∀ {x : Value} {v : V}, constOk n x v = true → ∀ E, Rel E v x := by
 induction n with
 | zero => intro x v h; cases h
 | succ n ih =>
   intro x v h E
   unfold constOk at h
   split at h
   · rw [beq_iff_eq] at h; subst h; exact .deep (.b _)
   · simp only [Bool.and_eq_true, decide_eq_true_eq] at h; obtain ⟨rfl, rfl⟩ := h; exact .deep (.i _ _)
   · simp only [decide_eq_true_eq] at h
     subst h
     rename_i p
     have : str p.data.toList = p := by cases p; rfl
     have h2 := RelD.s (I := E.I) p.data.toList
     rw [this] at h2
     exact .deep h2
   · exact .nilp
   · exact .deep .nils
   · exact .nilm
   · exact .nilf
   · simp only [Bool.and_eq_true, decide_eq_true_eq] at h
     refine .agg _ _ h.1.1 ?_ fun j u y hj hy => ih (zip_all h.2 (by rw [Array.getElem?_toList]; exact hy) hj) E
     intro j x hx
     exact (Array.all_eq_true_iff_forall_mem.1 h.1.2) x (Array.mem_of_getElem? hx)
   · simp only [Bool.and_eq_true, decide_eq_true_eq] at h
     exact .tup _ _ h.1 fun j u y hj hy => ih (zip_all h.2 (by rw [Array.getElem?_toList]; exact hy) hj) E
   · cases h
def okX (x : Operand) (d : Opd) : Bool :=
 match x, d with
 | .tmp t, .t n => t == n
 | .const x, .c v => constOk 4 x v
 | .func f, .c (.fn g [] []) => f == g
 | _, _ => false
def okXs : List Operand → List Opd → Bool
 | [], [] => true
 | x :: r, d :: q => okX x d && okXs r q
 | _, _ => false
def okXo : Option Operand → Option Opd → Bool
 | none, none => true
 | some x, some d => okX x d
 | _, _ => false
structure FrRel (E : Env) (N : Nat) (fr : Fr) (a : Act) : Prop where
 size : a.tmps.size = N
 rel : ∀ t, Rel E (fr.get t) (a.tmps.getD t undef)
theorem FrRel.mono {E F : Env} (h : E.Le F) {N : Nat} {fr : Fr} {a : Act} (hf : FrRel E N fr a) : FrRel F N fr a := ⟨hf.size, fun t => (hf.rel t).mono h⟩
theorem okX_rel {x : Operand} {d : Opd} (h : okX x d = true) {E : Env} {N : Nat} {fr : Fr} {a : Act} (hf : FrRel E N fr a) : Rel E (d.ev fr) (a.eval x) := by
 unfold okX at h
 split at h
 · rw [beq_iff_eq] at h; subst h; exact hf.rel _
 · exact constOk_rel h E
 · rw [beq_iff_eq] at h
   subst h
   exact .fn _ _ _ _ _ rfl rfl (fun j v x hj => by simp at hj) (fun j v x hj => by simp at hj)
 · cases h
theorem okXs_rel {E : Env} {N : Nat} {fr : Fr} {a : Act} (hf : FrRel E N fr a) : ∀ {xs : List Operand} {ds : List Opd}, okXs xs ds = true → RelL E (Opd.evs fr ds) (xs.map a.eval).toArray := by
 intro xs
 induction xs with
 | nil =>
   intro ds h
   cases ds with
   | nil => exact ⟨rfl, fun j v x hj => by simp [Opd.evs] at hj⟩
   | cons d r => cases h
 | cons x r ih =>
   intro ds h
   cases ds with
   | nil => cases h
   | cons d q =>
     simp only [okXs, Bool.and_eq_true] at h
     have h1 := okX_rel h.1 hf
     have h2 := ih h.2
     refine ⟨by simp [Opd.evs, ← h2.1], fun j v y hj hy => ?_⟩
     cases j with
     | zero =>
       simp [Opd.evs] at hj hy
       subst hj; subst hy; exact h1
     | succ j => exact h2.2 j v y (by simpa [Opd.evs] using hj) (by simpa using hy)
theorem okXo_rel {E : Env} {N : Nat} {fr : Fr} {a : Act} (hf : FrRel E N fr a) {x : Option Operand} {d : Option Opd} (h : okXo x d = true) :
 (x = none ∧ Opd.evo fr d = none) ∨ ∃ y v, x.map a.eval = some y ∧ Opd.evo fr d = some v ∧ Rel E v y := by
 unfold okXo at h
 split at h
 · exact .inl ⟨rfl, rfl⟩
 · exact .inr ⟨_, _, rfl, rfl, okX_rel h hf⟩
 · cases h
/-! What an operation owes. -/
section
variable {P : Program} {o : Oper} {a : Act} {w : World} {next : Act → World → Prop} {Q : Exit → Act → World → Prop}
theorem wp_val {x : Value} {w' : World} (h : (execOp a.eval o).run P w = .ok (.value x) w') (hn : next (a.put o.dst x) w') : o.wp P a w next Q := by
 unfold Oper.wp; rw [h]; exact hn
theorem wp_skp {w' : World} (h : (execOp a.eval o).run P w = .ok .skip w') (hn : next (a.put o.dst undef) w') : o.wp P a w next Q := by
 unfold Oper.wp; rw [h]; exact hn
end
def Cont (E : Env) (st : St) (w : World) (o : Oper) (a : Act) (next : Act → World → Prop) (K : R → Prop) : Prop :=
 ∀ v st' E' w' x, K (v, st') → Sim E' st' w' → Ext E st w E' st' w' → Rel E' v x → next (a.put o.dst x) w'
section
variable {P : Program} {o : Oper} {a : Act} {E : Env} {N : Nat} {st : St} {w : World} {fr : Fr} {next : Act → World → Prop} {Q : Exit → Act → World → Prop} {K : R → Prop}
theorem Cont.same (hc : Cont E st w o a next K) (hs : Sim E st w) {v : V} {x : Value} (hk : K (v, st)) (hr : Rel E v x) : next (a.put o.dst x) w :=
 hc v st E w x hk hs (.refl E st w) hr
theorem step_mv {x : Operand} {d : Opd} (ho : o.op = .move x) (hx : okX x d = true) (hs : Sim E st w) (hf : FrRel E N fr a)
 (hw : (step (.mv d) fr st).wp (ACall P) K) (hc : Cont E st w o a next K) : o.wp P a w next Q :=
 wp_val (x := a.eval x) (by simp [execOp, ho]) (hc.same hs hw (okX_rel hx hf))
theorem step_asg {x : Operand} {d : Opd} (ho : o.op = .assign x) (hx : okX x d = true) (hs : Sim E st w) (hf : FrRel E N fr a)
 (hw : (step (.asg d) fr st).wp (ACall P) K) (hc : Cont E st w o a next K) : o.wp P a w next Q :=
 wp_val (x := a.eval x) (by simp [execOp, ho]) (hc.same hs hw (okX_rel hx hf))
theorem Rel.bool {x : Bool} {y : Value} (h : Rel E (.b x) y) : y = .bool x := by cases h with | deep h => cases h; rfl
theorem Rel.int {k : IntKind} {n : Int} {y : Value} (h : Rel E (.i k n) y) : y = .int k n := by cases h with | deep h => cases h; rfl
theorem Rel.strv {l : List UInt8} {y : Value} (h : Rel E (.s l) y) : y = .string (str l) := by cases h with | deep h => cases h; rfl
theorem step_pick {x y z : Operand} {c d e : Opd} (ho : o.op = .pick x y z) (hx : okX x c = true) (hy : okX y d = true) (hz : okX z e = true) (hs : Sim E st w) (hf : FrRel E N fr a)
 (hw : (step (.pick c d e) fr st).wp (ACall P) K) (hc : Cont E st w o a next K) : o.wp P a w next Q := by
 have h1 := okX_rel hx hf
 simp only [step] at hw
 split at hw
 · rename_i b hb
   rw [hb] at h1
   have h1 := h1.bool
   cases b with
   | true => exact wp_val (x := a.eval y) (by simp [execOp, ho, asBool, h1]) (hc.same hs (hw.1 rfl) (okX_rel hy hf))
   | false => exact wp_val (x := a.eval z) (by simp [execOp, ho, asBool, h1]) (hc.same hs (hw.2 rfl) (okX_rel hz hf))
 · exact hw.elim
end
end Go.Eng
/-
Each operation of the model does what the abstract step says (part two: arithmetic, comparisons, places, lengths).
-/
namespace Go.Eng
open Go
section
variable {P : Program} {o : Oper} {a : Act} {E : Env} {N : Nat} {st : St} {w : World} {fr : Fr} {next : Act → World → Prop} {Q : Exit → Act → World → Prop} {K : R → Prop}
theorem exec_bin {op : BinOp} {t yt : TypeId} {x y : Operand} {v : Value} (ho : o.op = .binOp op t x y yt) (hg : eqGuard op t x y (a.eval x) (a.eval y) = pure ())
 (h : (binOp op t (a.eval x) (a.eval y)).run P w = .ok v w) : (execOp a.eval o).run P w = .ok (.value v) w := by
 simp [execOp, ho, hg, h]
theorem ba_loop (bs : ByteArray) : ∀ (n i : Nat) (r : List UInt8), bs.size - i = n → ByteArray.toList.loop bs i r = r.reverse ++ bs.data.toList.drop i := by
 intro n
 induction n with
 | zero =>
   intro i r h
   unfold ByteArray.toList.loop
   rw [if_neg (by omega)]
   have : bs.data.toList.drop i = [] := List.drop_eq_nil_of_le (by simp; have : bs.size = bs.data.size := rfl; omega)
   rw [this, List.append_nil]
 | succ n ih =>
   intro i r h
   unfold ByteArray.toList.loop
   have hlt : i < bs.size := by omega
   rw [if_pos hlt, ih (i + 1) _ (by omega)]
   have hlt' : i < bs.data.toList.length := by simpa using hlt
   rw [List.drop_eq_getElem_cons hlt']
   have : bs.get! i = bs.data.toList[i] := by
    have : i < bs.data.size := hlt
    simp only [ByteArray.get!, Array.getElem_toList]
    exact getElem!_pos bs.data i this
   rw [this]
   simp
theorem ba_toList (bs : ByteArray) : bs.toList = bs.data.toList := by
 unfold ByteArray.toList
 rw [ba_loop bs _ 0 [] rfl]
 simp
theorem str_toList (l : List UInt8) : (str l).toList = l := by rw [ba_toList]; rfl
theorem step_bin {op : BinOp} {t yt : TypeId} {x y : Operand} {d e : Opd} (ho : o.op = .binOp op t x y yt) (hx : okX x d = true) (hy : okX y e = true) (hs : Sim E st w) (hf : FrRel E N fr a)
 (hw : (step (.bin op d e) fr st).wp (ACall P) K) (hc : Cont E st w o a next K) : o.wp P a w next Q := by
 have h1 := okX_rel hx hf
 have h2 := okX_rel hy hf
 simp only [step, stepBin] at hw
 split at hw
 · rename_i k p k' q e1 e2
   rw [e1] at h1
   rw [e2] at h2
   have h1 := h1.int
   have h2 := h2.int
   have hg : eqGuard op t x y (a.eval x) (a.eval y) = pure () := by rw [h1]; exact eqGuard_at_int _ _ _ _ _ _ _
   cases op
   case shl =>
    obtain ⟨hq, hw⟩ := hw
    have hq : 0 ≤ q := by simpa using hq
    rw [T.wp, wWrap_iff] at hw
    exact wp_val (exec_bin ho hg (by rw [h1, h2, binOp_shl]; simp [Op.shift, show ¬ q < 0 by omega])) (hc.same hs hw (.deep (.i _ _)))
   case shr =>
    obtain ⟨hq, hw⟩ := hw
    have hq : 0 ≤ q := by simpa using hq
    exact wp_val (exec_bin ho hg (by rw [h1, h2, binOp_shr]; simp [Op.shift, show ¬ q < 0 by omega])) (hc.same hs hw (.deep (.i _ _)))
   all_goals
    simp only at hw
    split at hw
    · rename_i hk
      subst hk
      first
       | (rw [T.wp, wWrap_iff] at hw
          exact wp_val (exec_bin ho hg (by rw [h1, h2]; simp [binOp, Op.intArith])) (hc.same hs hw (.deep (.i _ _))))
       | (obtain ⟨hq, hw⟩ := hw
          have hq : ¬ q = 0 := by simpa using hq
          rw [T.wp, wWrap_iff] at hw
          exact wp_val (exec_bin ho hg (by rw [h1, h2]; simp [binOp, Op.intDiv, hq])) (hc.same hs hw (.deep (.i _ _))))
       | (obtain ⟨hq, hw⟩ := hw
          have hq : ¬ q = 0 := by simpa using hq
          exact wp_val (exec_bin ho hg (by rw [h1, h2]; simp [binOp, Op.intDiv, hq])) (hc.same hs hw (.deep (.i _ _))))
       | exact wp_val (exec_bin ho hg (by rw [h1, h2]; simp [binOp, Op.intBits])) (hc.same hs hw (.deep (.i _ _)))
       | exact wp_val (exec_bin ho hg (by rw [h1, h2]; simp [binOp, Op.intCmp] <;> rfl)) (hc.same hs hw (.deep (.b _)))
    · exact hw.elim
 · rename_i p q e1 e2
   rw [e1] at h1
   rw [e2] at h2
   have h1 := h1.strv
   have h2 := h2.strv
   have hg : eqGuard op t x y (a.eval x) (a.eval y) = pure () := by rw [h1]; exact eqGuard_at_string _ _ _ _ _ _
   have hsz : ∀ l, (str l).size = l.length := fun l => by simp [str, ByteArray.size]
   cases op
   case add =>
    obtain ⟨hq, hw⟩ := hw
    have hq : ((p.length + q.length : Nat) : Int) ≤ 9223372036854775807 := by simpa using hq
    refine wp_val (x := .string (str (p ++ q))) (exec_bin ho hg ?_) (hc.same hs hw (.deep (.s _)))
    rw [h1, h2]
    simp only [binOp, Op.stringOp, hsz, IntKind.max_i64]
    rw [if_neg (by omega)]
    have : str p ++ str q = str (p ++ q) := by
     apply ByteArray.ext
     simp [str]
    rw [this]; rfl
   case eql => exact wp_val (exec_bin ho hg (by rw [h1, h2]; simp [binOp, Op.stringOp, str_toList])) (hc.same hs hw (.deep (.b _)))
   case neq => exact wp_val (exec_bin ho hg (by rw [h1, h2]; simp [binOp, Op.stringOp, str_toList])) (hc.same hs hw (.deep (.b _)))
   case lss => exact wp_val (exec_bin ho hg (by rw [h1, h2]; simp [binOp, Op.stringOp, str_toList])) (hc.same hs hw (.deep (.b _)))
   case leq => exact wp_val (exec_bin ho hg (by rw [h1, h2]; simp [binOp, Op.stringOp, str_toList])) (hc.same hs hw (.deep (.b _)))
   case gtr => exact wp_val (exec_bin ho hg (by rw [h1, h2]; simp [binOp, Op.stringOp, str_toList])) (hc.same hs hw (.deep (.b _)))
   case geq => exact wp_val (exec_bin ho hg (by rw [h1, h2]; simp [binOp, Op.stringOp, str_toList])) (hc.same hs hw (.deep (.b _)))
   all_goals exact hw.elim
 · exact hw.elim
theorem step_un {op : UnOp} {t : TypeId} {x : Operand} {d : Opd} (ho : o.op = .unOp op t x) (hx : okX x d = true) (hs : Sim E st w) (hf : FrRel E N fr a)
 (hw : (step (.un op d) fr st).wp (ACall P) K) (hc : Cont E st w o a next K) : o.wp P a w next Q := by
 have h1 := okX_rel hx hf
 simp only [step] at hw
 split at hw
 · rename_i y e1
   rw [e1] at h1
   have h1 := h1.bool
   exact wp_val (x := .bool (!y)) (by simp [execOp, ho, h1, Op.unary]) (hc.same hs hw (.deep (.b _)))
 · rename_i k n e1
   rw [e1] at h1
   have h1 := h1.int
   rw [T.wp, wWrap_iff] at hw
   exact wp_val (x := .int k (k.wrap (0 - n))) (by simp [execOp, ho, h1, Op.unary, Op.intArith]) (hc.same hs hw (.deep (.i _ _)))
 · exact hw.elim
theorem step_cvi {s t : TypeId} {k : IntKind} {x : Operand} {d : Opd} (ho : o.op = .convert s t x) (hx : okX x d = true) (hu : (P.underlying s).isSome = true) (ht : P.underlying t = some (.int k))
 (hs : Sim E st w) (hf : FrRel E N fr a) (hw : (step (.cvi k d) fr st).wp (ACall P) K) (hc : Cont E st w o a next K) : o.wp P a w next Q := by
 have h1 := okX_rel hx hf
 simp only [step] at hw
 split at hw
 · rename_i k' n e1
   rw [e1] at h1
   have h1 := h1.int
   rw [T.wp, wWrap_iff] at hw
   obtain ⟨du, hdu⟩ := Option.isSome_iff_exists.1 hu
   refine wp_val (x := .int k (k.wrap n)) ?_ (hc.same hs hw (.deep (.i _ _)))
   simp [execOp, ho, h1, convert, run_underlying hdu, run_underlying ht, Conv.intToInt]
 · exact hw.elim
theorem step_cvs {s t : TypeId} {x : Operand} {d : Opd} (ho : o.op = .convert s t x) (hx : okX x d = true) (hu : (P.underlying s).isSome = true) (ht : P.underlying t = some .string)
 (hs : Sim E st w) (hf : FrRel E N fr a) (hw : (step (.cvs d) fr st).wp (ACall P) K) (hc : Cont E st w o a next K) : o.wp P a w next Q := by
 have h1 := okX_rel hx hf
 simp only [step] at hw
 split at hw
 · rename_i y e1
   rw [e1] at h1
   have h1 := h1.strv
   obtain ⟨du, hdu⟩ := Option.isSome_iff_exists.1 hu
   refine wp_val (x := .string (str y)) ?_ (hc.same hs hw (.deep (.s _)))
   simp [execOp, ho, h1, convert, run_underlying hdu, run_underlying ht]
 · exact hw.elim
theorem step_nilc {x : Operand} {d : Opd} (ho : o.op = .nilCheck x) (hx : okX x d = true) (hs : Sim E st w) (hf : FrRel E N fr a)
 (hw : (step (.nilc d) fr st).wp (ACall P) K) (hc : Cont E st w o a next K) : o.wp P a w next Q := by
 have h1 := okX_rel hx hf
 simp only [step] at hw
 split at hw
 case h_5 => exact hw.elim
 all_goals
  rename_i e1
  rw [e1] at h1
  refine wp_val (x := a.eval x) ?_ (hc.same hs hw h1)
  generalize hy : a.eval x = y at h1
  cases h1 <;> first | (rename_i hd; cases hd) | simp [execOp, ho, hy]
theorem step_faddr {t : TypeId} {x : Operand} {f : Nat} {d : Opd} {fs : Array Field} {fl : Field} {off : Nat} (ho : o.op = .fieldAddr t x f) (hx : okX x d = true)
 (hu : P.underlying t = some (.struct fs)) (hfl : fs[f]? = some fl) (hoff : fl.offset = off) (hz : ∃ i, P.info? fl.type = some i ∧ i.size ≠ 0)
 (hs : Sim E st w) (hf : FrRel E N fr a) (hw : (step (.faddr off d) fr st).wp (ACall P) K) (hc : Cont E st w o a next K) : o.wp P a w next Q := by
 have h1 := okX_rel hx hf
 subst hoff
 obtain ⟨i, hi, hi0⟩ := hz
 have hrun : ∀ b c, a.eval x = .pointer (some ⟨b, c, none⟩) → (execOp a.eval o).run P w = .ok (.value (.pointer (some ⟨b, c + fl.offset, none⟩))) w := by
  intro b c hb
  simp [execOp, ho, hb, Instr.fieldAt, run_underlying hu, hfl, Instr.sureAddr, fieldPlace, sizeOf, typeInfo, hi, hi0, Addr.add_lit]
 simp only [step] at hw
 split at hw
 · rename_i k c e1
   rw [e1] at h1
   generalize hy : a.eval x = y at h1
   cases h1 with
   | deep hd => cases hd
   | p _ _ hk =>
     refine wp_val (hrun _ _ hy) (hc.same hs hw ?_)
     rw [Nat.add_assoc]; exact .p _ _ hk
 · rename_i k sz ix c e1
   rw [e1] at h1
   generalize hy : a.eval x = y at h1
   cases h1 with
   | deep hd => cases hd
   | pa _ _ _ _ hk =>
     refine wp_val (hrun _ _ hy) (hc.same hs hw ?_)
     rw [Nat.add_assoc]; exact .pa _ _ _ _ hk
 · rename_i cs c e1
   rw [e1] at h1
   generalize hy : a.eval x = y at h1
   cases h1 with
   | deep hd => cases hd
   | pc _ _ blk c0 val hv hr =>
     refine wp_val (hrun _ _ hy) (hc.same hs hw ?_)
     rw [Nat.add_assoc]; exact .pc _ _ _ _ val hv hr
 · exact hw.elim
theorem CellsOf_get {cs : List V} {off n : Nat} {v : V} (h : ldCells cs off (some n) = some v) : off + n ≤ cs.length ∧ v = .agg ((cs.drop off).take n) := by
 simp only [ldCells] at h
 split at h
 · rename_i hl; exact ⟨hl, (Option.some.inj h).symm⟩
 · cases h
def szOk (P : Program) (t : TypeId) (n : Option Nat) : Bool :=
 match n, P.underlying t with
 | none, some d => !d.isRow
 | some k, some d => d.isRow && (P.info? t).map (·.size) == some k
 | _, none => false
theorem run_isAgg {t : TypeId} {d : TypeDesc} (h : P.underlying t = some d) (w : World) : (isAgg t).run P w = .ok d.isRow w := by
 unfold isAgg
 rw [Sem.run_bind, run_underlying h w]
 cases d <;> rfl
theorem run_part {t : TypeId} {n : Option Nat} (hn : szOk P t n = true) {cs : List V} {xs : Array Value} (hr : RelL E cs xs) (h1 : ∀ (j : Nat) (x : Value), xs[j]? = some x → x.oneCell' = true)
 {off : Nat} {v : V} (hv : ldCells cs off n = some v) : ∃ x, (part t xs off).run P w = .ok x w ∧ Rel E v x := by
 unfold szOk at hn
 split at hn
 · rename_i d hd
   obtain ⟨x, hx, hrx⟩ := hr.get hv
   refine ⟨x, ?_, hrx⟩
   have : d.isRow = false := by simpa using hn
   simp [part, run_isAgg hd, this, hx]
 · rename_i k d hd
   simp only [Bool.and_eq_true, beq_iff_eq] at hn
   obtain ⟨hl, rfl⟩ := CellsOf_get hv
   cases hq : P.info? t with
   | none => simp [hq] at hn
   | some i =>
     have hs : i.size = k := by simpa [hq] using hn.2
     refine ⟨.agg (xs.extract off (off + k)), ?_, ?_⟩
     · simp [part, run_isAgg hd, hn.1, sizeOf, typeInfo, hq, hs]
     · have hsz := hr.1
       refine .agg _ _ ?_ ?_ ?_
       · simp only [Array.size_extract, List.length_take, List.length_drop]; omega
       · intro j x hx
         rw [Array.getElem?_extract] at hx
         split at hx
         · exact h1 _ _ hx
         · cases hx
       · intro j u x hj hx
         rw [Array.getElem?_extract] at hx
         rw [List.getElem?_take] at hj
         split at hj
         · split at hx
           · rw [List.getElem?_drop] at hj
             exact hr.2 _ u x hj hx
           · cases hx
         · cases hj
 · cases hn
theorem step_fld {t : TypeId} {x : Operand} {f : Nat} {d : Opd} {fs : Array Field} {fl : Field} {off : Nat} {n : Option Nat} (ho : o.op = .field t x f) (hx : okX x d = true)
 (hu : P.underlying t = some (.struct fs)) (hfl : fs[f]? = some fl) (hoff : fl.offset = off) (hz : szOk P fl.type n = true)
 (hs : Sim E st w) (hf : FrRel E N fr a) (hw : (step (.fld off n d) fr st).wp (ACall P) K) (hc : Cont E st w o a next K) : o.wp P a w next Q := by
 have h1 := okX_rel hx hf
 subst hoff
 simp only [step] at hw
 split at hw
 · rename_i cs e1
   rw [e1] at h1
   generalize hy : a.eval x = y at h1
   cases h1 with
   | deep hd => cases hd
   | agg _ b hb ho1 hrb =>
     unfold T.opt at hw
     split at hw
     · rename_i v hv
       obtain ⟨z, hz1, hz2⟩ := run_part (w := w) hz ⟨hb, hrb⟩ ho1 hv
       exact wp_val (x := z) (by simp [execOp, ho, hy, Instr.field, run_underlying hu, hfl, asAgg, hz1]) (hc.same hs hw hz2)
     · exact hw.elim
 · exact hw.elim
theorem idxOk_iff {i : Int} {n : Nat} : idxOk i n = true ↔ 0 ≤ i ∧ i < n := by simp [idxOk]
theorem step_iaar {t e : TypeId} {x y : Operand} {d c : Opd} {len sz : Nat} (ho : o.op = .indexAddr t x y) (hx : okX x d = true) (hy : okX y c = true)
 (hu : P.underlying t = some (.array len e)) (hz : (P.info? e).map (·.size) = some sz)
 (hs : Sim E st w) (hf : FrRel E N fr a) (hw : (step (.iaar len sz d c) fr st).wp (ACall P) K) (hc : Cont E st w o a next K) : o.wp P a w next Q := by
 have h1 := okX_rel hx hf
 have h2 := okX_rel hy hf
 cases hq : P.info? e with
 | none => simp [hq] at hz
 | some i =>
 have hi : i.size = sz := by simpa [hq] using hz
 simp only [step] at hw
 split at hw
 · rename_i k n e2
   rw [e2] at h2
   have h2 := h2.int
   obtain ⟨hix, hw⟩ := hw
   rw [idxOk_iff] at hix
   have hrun : ∀ b c, a.eval x = .pointer (some ⟨b, c, none⟩) → (execOp a.eval o).run P w = .ok (.value (.pointer (some ⟨b, c + n.toNat * sz, none⟩))) w := by
    intro b c hb
    simp [execOp, ho, hb, h2, Instr.indexAt, asIntOf, run_underlying hu, Instr.sureAddr, sizeOf, typeInfo, hq, hi, hix.1, hix.2, Addr.add_lit]
   split at hw
   · rename_i k c e1
     rw [e1] at h1
     generalize hy : a.eval x = y at h1
     cases h1 with
     | deep hd => cases hd
     | p _ _ hk =>
       refine wp_val (hrun _ _ hy) (hc.same hs hw ?_)
       rw [Nat.add_assoc]; exact .p _ _ hk
   · rename_i k sz ix c e1
     rw [e1] at h1
     generalize hy : a.eval x = y at h1
     cases h1 with
     | deep hd => cases hd
     | pa _ _ _ _ hk =>
       refine wp_val (hrun _ _ hy) (hc.same hs hw ?_)
       rw [Nat.add_assoc]; exact .pa _ _ _ _ hk
   · rename_i cs c e1
     rw [e1] at h1
     generalize hy : a.eval x = y at h1
     cases h1 with
     | deep hd => cases hd
     | pc _ _ blk c0 val hv hr =>
       refine wp_val (hrun _ _ hy) (hc.same hs hw ?_)
       rw [Nat.add_assoc]; exact .pc _ _ _ _ val hv hr
   · exact hw.elim
 · exact hw.elim
theorem step_ixs {t : TypeId} {x y : Operand} {d c : Opd} (ho : o.op = .index t x y) (hx : okX x d = true) (hy : okX y c = true) (hu : P.underlying t = some .string)
 (hs : Sim E st w) (hf : FrRel E N fr a) (hw : (step (.ixs d c) fr st).wp (ACall P) K) (hc : Cont E st w o a next K) : o.wp P a w next Q := by
 have h1 := okX_rel hx hf
 have h2 := okX_rel hy hf
 simp only [step] at hw
 split at hw
 · rename_i l k n e1 e2
   rw [e1] at h1
   rw [e2] at h2
   have h1 := h1.strv
   have h2 := h2.int
   obtain ⟨h0, b, hb, hw⟩ := hw
   have h0 : 0 ≤ n := by simpa using h0
   refine wp_val (x := .int .u8 b.toNat) ?_ (hc.same hs hw (.deep (.i _ _)))
   have : (str l)[n.toNat]? = some b := by
    have hlt := (List.getElem?_eq_some_iff.1 hb)
    obtain ⟨hlt, he⟩ := hlt
    have hsz : (str l).size = l.length := by simp [str, ByteArray.size]
    rw [getElem?_pos (str l) n.toNat (by rw [hsz]; exact hlt)]
    simp only [← he]
    rfl
   simp [execOp, ho, h1, h2, Instr.index, asIntOf, run_underlying hu, h0, this]
 · exact hw.elim
theorem step_ixa {t e : TypeId} {x y : Operand} {d c : Opd} {len sz : Nat} {n : Option Nat} (ho : o.op = .index t x y) (hx : okX x d = true) (hy : okX y c = true)
 (hu : P.underlying t = some (.array len e)) (hz : (P.info? e).map (·.size) = some sz) (hn : szOk P e n = true)
 (hs : Sim E st w) (hf : FrRel E N fr a) (hw : (step (.ixa len sz n d c) fr st).wp (ACall P) K) (hc : Cont E st w o a next K) : o.wp P a w next Q := by
 have h1 := okX_rel hx hf
 have h2 := okX_rel hy hf
 cases hq : P.info? e with
 | none => simp [hq] at hz
 | some i =>
 have hi : i.size = sz := by simpa [hq] using hz
 simp only [step] at hw
 split at hw
 · rename_i cs k j e1 e2
   rw [e1] at h1
   rw [e2] at h2
   have h2 := h2.int
   generalize hy : a.eval x = y at h1
   cases h1 with
   | deep hd => cases hd
   | agg _ b hb ho1 hrb =>
     obtain ⟨hix, hw⟩ := hw
     rw [idxOk_iff] at hix
     unfold T.opt at hw
     split at hw
     · rename_i v hv
       obtain ⟨z, hz1, hz2⟩ := run_part (w := w) hn ⟨hb, hrb⟩ ho1 hv
       exact wp_val (x := z) (by simp [execOp, ho, hy, h2, Instr.index, asIntOf, run_underlying hu, hix.1, hix.2, sizeOf, typeInfo, hq, hi, hz1]) (hc.same hs hw hz2)
     · exact hw.elim
 · exact hw.elim
theorem step_ext {x : Operand} {d : Opd} {i : Nat} (ho : o.op = .extract x i) (hx : okX x d = true)
 (hs : Sim E st w) (hf : FrRel E N fr a) (hw : (step (.ext d i) fr st).wp (ACall P) K) (hc : Cont E st w o a next K) : o.wp P a w next Q := by
 have h1 := okX_rel hx hf
 simp only [step] at hw
 split at hw
 · rename_i vs e1
   rw [e1] at h1
   generalize hy : a.eval x = y at h1
   cases h1 with
   | deep hd => cases hd
   | tup _ b hb hrb =>
     unfold T.opt at hw
     split at hw
     · rename_i v hv
       obtain ⟨z, hz1, hz2⟩ := RelL.get ⟨hb, hrb⟩ hv
       exact wp_val (x := z) (by simp [execOp, ho, hy, Instr.extract, hz1]) (hc.same hs hw hz2)
     · exact hw.elim
 · exact hw.elim
theorem step_mkfn {f : Nat} {first cap : Array Operand} {ds : List Opd} (ho : o.op = .makeFunc (.func f) first cap) (h0 : first.size = 0) (hx : okXs cap.toList ds = true)
 (hs : Sim E st w) (hf : FrRel E N fr a) (hw : (step (.mkfn f ds) fr st).wp (ACall P) K) (hc : Cont E st w o a next K) : o.wp P a w next Q := by
 have h1 := okXs_rel hf hx
 have h0 : first = #[] := by simpa using h0
 subst h0
 refine wp_val (x := .func (.func f) #[] (cap.map a.eval)) (by simp [execOp, ho, Instr.makeFunc]) (hc.same hs hw ?_)
 have e : (cap.toList.map a.eval).toArray = cap.map a.eval := by
  apply Array.ext'
  simp
 rw [e] at h1
 exact .fn _ _ _ _ _ rfl h1.1 (fun j v x hj => by simp at hj) h1.2
end
end Go.Eng
/-
Each operation of the model does what the abstract step says (part three: lengths, nil, cells loaded and stored, new objects).
-/
namespace Go.Eng
open Go
/-! Cells, many at once. -/
def CellsAt (E : Env) (w : World) (b o : Nat) (cs : List V) : Prop :=
 ∀ j v, cs[j]? = some v → ∃ x, cellIn w b (o + j) = some x ∧ Rel E v x ∧ x.oneCell' = true
theorem RelD.one {I : Imm} {v : V} {x : Value} (h : RelD I v x) : x.oneCell' = true := by cases h <;> rfl
theorem CellsAt.mono {E F : Env} (h : E.Le F) {w : World} {b o : Nat} {cs : List V} (hc : CellsAt E w b o cs) : CellsAt F w b o cs :=
 fun j v hj => let ⟨x, a, c, d⟩ := hc j v hj; ⟨x, a, c.mono h, d⟩
theorem CellsAt.sub {E : Env} {w : World} {b o : Nat} {cs : List V} (hc : CellsAt E w b o cs) (off n : Nat) : CellsAt E w b (o + off) ((cs.drop off).take n) := by
 intro j v hj
 rw [List.getElem?_take] at hj
 split at hj
 · rw [List.getElem?_drop] at hj
   rw [Nat.add_assoc]
   exact hc _ v hj
 · cases hj
theorem RowOf.cellsAt {z : Nat} {E : Env} {w : World} {L : Loc} {cs : List V} (h : RowOf z E w L cs) : CellsAt E w L.blk L.base cs := by
 obtain ⟨cells, t, fz, h1, _, _, _, h5⟩ := h
 intro j v hj
 obtain ⟨x, hx, hr, ho⟩ := h5 j v hj
 exact ⟨x, by simp [cellIn, h1, hx], hr, ho⟩
theorem Sim.immAt {E : Env} {st : St} {w : World} (h : Sim E st w) {cs : List V} {b o : Nat} {val : Nat → Value} (hv : ∀ j d, cs[j]? = some d → E.I b (o + j) = some (val j))
 (hr : ∀ j d, cs[j]? = some d → RelD E.I d (val j)) : CellsAt E w b o cs :=
 fun j v hj => ⟨val j, h.imm _ _ _ (hv j v hj), .deep (hr j v hj), (hr j v hj).one⟩
theorem CellsAt.list {E : Env} {w : World} {b : Nat} : ∀ {cs : List V} {o : Nat}, CellsAt E w b o cs →
 ∃ xs : List Value, xs.length = cs.length ∧ w.rangeAt b o xs ∧ RelL E cs xs.toArray ∧ ∀ x ∈ xs, x.oneCell' = true := by
 intro cs
 induction cs with
 | nil => exact fun _ => ⟨[], rfl, fun j v hj => by simp at hj, ⟨rfl, fun j v x hj => by simp at hj⟩, fun x hx => by simp at hx⟩
 | cons v r ih =>
   intro o h
   obtain ⟨x, hx, hr, ho⟩ := h 0 v rfl
   obtain ⟨xs, h1, h2, h3, h4⟩ := ih (o := o + 1) (fun j u hj => by
    have := h (j + 1) u (by simpa using hj)
    rw [show o + 1 + j = o + (j + 1) by omega]; exact this)
   refine ⟨x :: xs, by simp [h1], ?_, ⟨by simp [h1], ?_⟩, ?_⟩
   · intro j u hj
     cases j with
     | zero =>
       simp at hj
       subst hj
       rw [cell?_eq]; exact hx
     | succ j =>
       have := h2 j u (by simpa using hj)
       rw [show o + (j + 1) = o + 1 + j by omega]; exact this
   · intro j u y hj hy
     cases j with
     | zero =>
       simp at hj hy
       subst hj; subst hy; exact hr
     | succ j => exact h3.2 j u y (by simpa using hj) (by simpa using hy)
   · intro y hy
     cases hy with
     | head => exact ho
     | tail _ hy => exact h4 y hy
theorem run_load_cells {P : Program} {E : Env} {w : World} {t : TypeId} {n : Option Nat} (hn : szOk P t n = true) {b o : Nat} {cs : List V} (h : CellsAt E w b o cs) {off : Nat} {v : V}
 (hv : ldCells cs off n = some v) : ∃ x, (loadVar t ⟨b, o + off, none⟩).run P w = .ok x w ∧ Rel E v x := by
 unfold szOk at hn
 split at hn
 · rename_i d hd
   obtain ⟨x, hx, hr, _⟩ := h off v hv
   refine ⟨x, ?_, hr⟩
   have hf : d.isRow = false := by simpa using hn
   have hc : w.cell? ⟨b, o + off, none⟩ = some x := by rw [cell?_eq]; exact hx
   simp [loadVar, run_isAgg hd, hf, load, Sem.run, hc]
 · rename_i k d hd
   simp only [Bool.and_eq_true, beq_iff_eq] at hn
   obtain ⟨hl, rfl⟩ := CellsOf_get hv
   obtain ⟨xs, h1, h2, h3, h4⟩ := (h.sub off k).list
   have hk : xs.length = k := by rw [h1]; simp; omega
   refine ⟨.agg xs.toArray, run_loadVar_mid w b (o + off) t xs d h2 hd hn.1 (by rw [hn.2, hk]), .agg _ _ h3.1 ?_ h3.2⟩
   intro j x hx
   exact h4 x (List.mem_of_getElem? (i := j) (by simpa using hx))
 · cases hn
/-! Writing cells. -/
def stArr : Array Value → Nat → List Value → Array Value
 | c, _, [] => c
 | c, o, v :: r => stArr (c.setIfInBounds o v) (o + 1) r
theorem stArr_size : ∀ (vs : List Value) (c : Array Value) (o : Nat), (stArr c o vs).size = c.size
 | [], _, _ => rfl
 | v :: r, c, o => by rw [stArr, stArr_size r]; simp
theorem stArr_get : ∀ (vs : List Value) (c : Array Value) (o j : Nat), o + vs.length ≤ c.size →
 (stArr c o vs)[j]? = if o ≤ j ∧ j < o + vs.length then vs[j - o]? else c[j]?
 | [], c, o, j, _ => by simp [stArr]; omega
 | v :: r, c, o, j, h => by
   simp only [List.length_cons] at h
   rw [stArr, stArr_get r _ _ _ (by simp; omega)]
   by_cases h1 : j = o
   · subst h1
     rw [if_neg (by omega), if_pos (by simp)]
     simp [show j < c.size by omega]
   · by_cases h2 : o + 1 ≤ j ∧ j < o + 1 + r.length
     · rw [if_pos h2, if_pos (by simp; omega)]
       rw [show j - o = (j - (o + 1)) + 1 by omega]
       simp
     · rw [if_neg h2, if_neg (by simp; omega)]
       rw [Array.getElem?_setIfInBounds_ne (fun e => h1 e.symm)]
theorem stCells_length : ∀ (vs cs : List V) (o : Nat), (stCells cs o vs).length = cs.length
 | [], _, _ => rfl
 | v :: r, c, o => by rw [stCells, stCells_length r]; simp
theorem stCells_get : ∀ (vs cs : List V) (o j : Nat), o + vs.length ≤ cs.length →
 (stCells cs o vs)[j]? = if o ≤ j ∧ j < o + vs.length then vs[j - o]? else cs[j]?
 | [], c, o, j, _ => by simp [stCells]; omega
 | v :: r, c, o, j, h => by
   simp only [List.length_cons] at h
   rw [stCells, stCells_get r _ _ _ (by simp; omega)]
   by_cases h1 : j = o
   · subst h1
     rw [if_neg (by omega), if_pos (by simp)]
     simp [show j < c.length by omega]
   · by_cases h2 : o + 1 ≤ j ∧ j < o + 1 + r.length
     · rw [if_pos h2, if_pos (by simp; omega)]
       rw [show j - o = (j - (o + 1)) + 1 by omega]
       simp
     · rw [if_neg h2, if_neg (by simp; omega)]
       rw [List.getElem?_set_ne (fun e => h1 e.symm)]
theorem setCells_heap (b : Nat) : ∀ (vs : List Value) (o : Nat) (w : World) {c : Array Value} {t : TypeId} {fz : Nat × Nat}, w.heap[b]? = some (.cells c t fz) →
 (w.setCells b o vs).heap[b]? = some (.cells (stArr c o vs) t fz)
 | [], _, _, _, _, _, h => h
 | v :: r, o, w, c, t, fz, h => by
   refine setCells_heap b r (o + 1) _ ?_
   simp only [World.setCell, Array.getElem?_modify, h, if_true, Option.map_some]
   rfl
theorem setCells_other (b : Nat) {k : Nat} (hk : k ≠ b) : ∀ (vs : List Value) (o : Nat) (w : World), (w.setCells b o vs).heap[k]? = w.heap[k]?
 | [], _, _ => rfl
 | v :: r, o, w => by
   rw [World.setCells, setCells_other b hk r]
   simp only [World.setCell, Array.getElem?_modify]
   rw [if_neg (by omega)]
theorem setCells_rest (b : Nat) : ∀ (vs : List Value) (o : Nat) (w : World), (w.setCells b o vs).heap.size = w.heap.size ∧ (w.setCells b o vs).os = w.os ∧ (w.setCells b o vs).output = w.output ∧ (w.setCells b o vs).tape = w.tape
 | [], _, _ => ⟨rfl, rfl, rfl, rfl⟩
 | v :: r, o, w => by
   obtain ⟨h1, h2, h3, h4⟩ := setCells_rest b r (o + 1) (w.setCell ⟨b, o, none⟩ v)
   exact ⟨h1.trans (by simp [World.setCell]), h2, h3, h4⟩
theorem Fz.free {z : Nat} {w : World} {b : Nat} {c : Array Value} {t : TypeId} {fz : Nat × Nat} (hb : w.heap[b]? = some (.cells c t fz)) (hf : FzOk z fz c.size) {j : Nat} (hj : j < c.size) : w.frozen? ⟨b, j, none⟩ = false := by
 obtain ⟨lo, hi⟩ := fz
 simp only [World.frozen?, hb, Bool.and_eq_false_iff, decide_eq_false_iff_not]
 rcases hf with h | h
 · simp only at h; omega
 · simp only at h; omega
theorem Row.there {z : Nat} {w : World} {b : Nat} {c : Array Value} {t : TypeId} {fz : Nat × Nat} (hb : w.heap[b]? = some (.cells c t fz)) (hf : FzOk z fz c.size) {o n : Nat} (hn : o + n ≤ c.size) : w.there b o n := by
 intro j hj
 refine ⟨?_, Fz.free hb hf (by omega)⟩
 rw [cell?_eq]
 simp only [cellIn, hb]
 simp [show o + j < c.size by omega]
theorem Sim.write {E : Env} {st : St} {w : World} (h : Sim E st w) {k : Key} {o0 : Obj} (hk : st.get k = some o0) {cells : Array Value} {t : TypeId} {fz : Nat × Nat}
 (hb : w.heap[(E.μ k).blk]? = some (.cells cells t fz)) (hfin : (E.μ k).fin ≤ cells.size) {pos : Nat} {xs : List Value} (h1 : (E.μ k).base ≤ pos) (h2 : pos + xs.length ≤ (E.μ k).fin) (o' : Obj)
 (ho' : Holds (E.at k) (w.setCells (E.μ k).blk pos xs) (E.μ k) o') :
 Sim E (st.set k o') (w.setCells (E.μ k).blk pos xs) ∧ Ext E st w E (st.set k o') (w.setCells (E.μ k).blk pos xs) := by
 obtain ⟨r1, r2, r3, r4⟩ := setCells_rest (E.μ k).blk xs pos w
 refine h.set hk o' r1 (fun b hne => setCells_other _ hne _ _ _) r2 r3 r4 ?_ ho'
 intro j x hx
 have hI := h.imm _ _ _ hx
 simp only [cellIn, hb, setCells_heap _ xs pos w hb] at hI ⊢
 rw [stArr_get _ _ _ _ (by omega)]
 by_cases hin : pos ≤ j ∧ j < pos + xs.length
 · have := h.own k ⟨o0, hk⟩ j (by omega) (by omega)
   rw [this] at hx; cases hx
 · rw [if_neg hin]; exact hI
theorem RowOf.written {z : Nat} {E : Env} {w : World} {L : Loc} {cs : List V} {cells : Array Value} {t : TypeId} {fz : Nat × Nat} (hb : w.heap[L.blk]? = some (.cells cells t fz)) (hf : FzOk z fz cells.size)
 (h1 : L.base + cs.length ≤ L.fin) (h2 : L.fin ≤ cells.size) (h3 : ∀ j v, cs[j]? = some v → ∃ x, cells[L.base + j]? = some x ∧ Rel E v x ∧ x.oneCell' = true)
 {off : Nat} {vs : List V} {xs : List Value} (hr : RelL E vs xs.toArray) (ho : ∀ x ∈ xs, x.oneCell' = true) (hin : off + vs.length ≤ cs.length) :
 RowOf z E (w.setCells L.blk (L.base + off) xs) L (stCells cs off vs) := by
 have hl : xs.length = vs.length := by simpa using hr.1
 refine ⟨_, t, fz, setCells_heap _ xs _ w hb, by rw [stArr_size]; exact hf, by rw [stCells_length]; exact h1, by rw [stArr_size]; exact h2, ?_⟩
 intro j v hj
 rw [stCells_get _ _ _ _ hin] at hj
 rw [stArr_get _ _ _ _ (by omega)]
 by_cases hc : off ≤ j ∧ j < off + vs.length
 · rw [if_pos hc] at hj
   rw [if_pos (by omega)]
   obtain ⟨x, hx, hrx⟩ := hr.get hj
   rw [show L.base + j - (L.base + off) = j - off by omega]
   exact ⟨x, by simpa using hx, hrx, ho x (List.mem_of_getElem? (i := j - off) (by simpa using hx))⟩
 · rw [if_neg hc] at hj
   rw [if_neg (by omega)]
   exact h3 j v hj
section
variable {P : Program} {o : Oper} {a : Act} {E : Env} {N : Nat} {st : St} {w : World} {fr : Fr} {next : Act → World → Prop} {Q : Exit → Act → World → Prop} {K : R → Prop}
theorem Sim.cs {k : Key} {c : List V} (hs : Sim E st w) (hk : st.get k = some (.cs c)) : RowOf 1 (E.at k) w (E.μ k) c := (hs.obj k _ hk).2
theorem Sim.csBase {k : Key} {c : List V} (hs : Sim E st w) (hk : st.get k = some (.cs c)) : (E.μ k).base = 0 := (hs.obj k _ hk).1
theorem flat_get {sz : Nat} : ∀ {es : List (List V)}, (∀ e ∈ es, e.length = sz) → ∀ {ix j : Nat} {e : List V}, es[ix]? = some e → j < sz → es.flatten[ix * sz + j]? = e[j]? := by
 intro es
 induction es with
 | nil => intro _ ix j e h; simp at h
 | cons d r ih =>
   intro hl ix j e h hj
   have hd : d.length = sz := hl d (.head _)
   rw [List.flatten_cons]
   cases ix with
   | zero =>
     simp at h
     subst h
     rw [Nat.zero_mul, Nat.zero_add, List.getElem?_append_left (by omega)]
   | succ ix =>
     rw [List.getElem?_append_right (by rw [hd, Nat.succ_mul]; omega), hd]
     rw [show (ix + 1) * sz + j - sz = ix * sz + j by rw [Nat.succ_mul]; omega]
     exact ih (fun e he => hl e (.tail _ he)) (by simpa using h) hj
theorem flat_len {sz : Nat} : ∀ {es : List (List V)}, (∀ e ∈ es, e.length = sz) → es.flatten.length = es.length * sz := by
 intro es
 induction es with
 | nil => intro _; simp
 | cons d r ih =>
   intro hl
   rw [List.flatten_cons, List.length_append, ih (fun e he => hl e (.tail _ he)), hl d (.head _), List.length_cons, Nat.succ_mul]
   omega
theorem flat_take {sz : Nat} : ∀ {es : List (List V)}, (∀ e ∈ es, e.length = sz) → ∀ n, (es.take n).flatten = es.flatten.take (n * sz) := by
 intro es
 induction es with
 | nil => intro _ n; simp
 | cons d r ih =>
   intro hl n
   have hd : d.length = sz := hl d (.head _)
   cases n with
   | zero => simp
   | succ n =>
     rw [List.take_succ_cons, List.flatten_cons, List.flatten_cons, ih (fun e he => hl e (.tail _ he)), List.take_append, hd, Nat.succ_mul]
     rw [List.take_of_length_le (l := d) (by omega), show n * sz + sz - sz = n * sz by omega]
theorem flat_drop {sz : Nat} : ∀ {es : List (List V)}, (∀ e ∈ es, e.length = sz) → ∀ n, (es.drop n).flatten = es.flatten.drop (n * sz) := by
 intro es
 induction es with
 | nil => intro _ n; simp
 | cons d r ih =>
   intro hl n
   have hd : d.length = sz := hl d (.head _)
   cases n with
   | zero => simp
   | succ n =>
     rw [List.drop_succ_cons, List.flatten_cons, ih (fun e he => hl e (.tail _ he)), List.drop_append, hd, Nat.succ_mul]
     have h0 : d.drop (n * sz + sz) = [] := List.drop_eq_nil_of_le (by omega)
     rw [h0, List.nil_append, show n * sz + sz - sz = n * sz by omega]
theorem elem_at {w : World} {b base sz : Nat} {es : List (List V)} (hl : ∀ e ∈ es, e.length = sz) (h : CellsAt E w b base es.flatten) {ix : Nat} {e : List V} (he : es[ix]? = some e) :
 CellsAt E w b (base + ix * sz) e := by
 intro j v hj
 have hj' : j < sz := by
  have := (List.getElem?_eq_some_iff.1 hj).1
  rw [hl e (List.mem_of_getElem? he)] at this; exact this
 rw [Nat.add_assoc]
 exact h _ v (by rw [flat_get hl he hj']; exact hj)
theorem step_load {t : TypeId} {x : Operand} {d : Opd} {n : Option Nat} (ho : o.op = .load t x) (hx : okX x d = true) (hn : szOk P t n = true) (hs : Sim E st w) (hf : FrRel E N fr a)
 (hw : (step (.load n d) fr st).wp (ACall P) K) (hc : Cont E st w o a next K) : o.wp P a w next Q := by
 have h1 := okX_rel hx hf
 have fin : ∀ {b c : Nat} {cs : List V} {off : Nat} {v : V}, a.eval x = .pointer (some ⟨b, c + off, none⟩) → CellsAt E w b c cs → ldCells cs off n = some v → K (v, st) → o.wp P a w next Q := by
  intro b c cs off v hp hcs hv hk
  obtain ⟨z, hz1, hz2⟩ := run_load_cells (P := P) hn hcs hv
  exact wp_val (x := z) (by simp [execOp, ho, hp, Instr.loadAt, Instr.sureAddr, hz1]) (hc.same hs hk hz2)
 simp only [step] at hw
 split at hw
 · rename_i k off e1
   rw [e1] at h1
   generalize hy : a.eval x = y at h1
   cases h1 with
   | deep hd => cases hd
   | p _ _ hk =>
     obtain ⟨ob, hob, hw⟩ := hw
     dsimp only at hw
     split at hw
     · rename_i c
       unfold T.opt at hw
       split at hw
       · rename_i v hv
         exact fin hy ((hs.cs hob).cellsAt.mono (E.at_le k)) hv hw
       · exact hw.elim
     · exact hw.elim
 · rename_i k sz ix off e1
   rw [e1] at h1
   generalize hy : a.eval x = y at h1
   cases h1 with
   | deep hd => cases hd
   | pa _ _ _ _ hk =>
     obtain ⟨ob, hob, hw⟩ := hw
     dsimp only at hw
     split at hw
     · rename_i sz' es
       split at hw
       · rename_i hz
         subst hz
         obtain ⟨e, he, hw⟩ := hw
         dsimp only at hw
         unfold T.opt at hw
         split at hw
         · rename_i v hv
           have hrow := hs.obj k _ hob
           have := elem_at hrow.1 (hrow.2.cellsAt.mono (E.at_le k)) he
           exact fin hy this hv hw
         · exact hw.elim
       · exact hw.elim
     · exact hw.elim
 · rename_i cs off e1
   rw [e1] at h1
   generalize hy : a.eval x = y at h1
   cases h1 with
   | deep hd => cases hd
   | pc _ _ blk c0 val hv hr =>
     unfold T.opt at hw
     split at hw
     · rename_i v hv'
       exact fin hy (hs.immAt hv hr) hv' hw
     · exact hw.elim
 · exact hw.elim
end
end Go.Eng
/-
Each operation of the model does what the abstract step says (part four: stores, new objects, lengths, nil, calls).
-/
namespace Go.Eng
open Go
section
variable {P : Program} {o : Oper} {a : Act} {E : Env} {N : Nat} {st : St} {w : World} {fr : Fr} {next : Act → World → Prop} {Q : Exit → Act → World → Prop} {K : R → Prop}
theorem sto_cells {v : V} {x : Value} (hs : v.sto = true) (hr : Rel E v x) : RelL E v.cells x.cells ∧ ∀ y ∈ x.cells.toList, y.oneCell' = true := by
 cases hr with
 | agg cs b hb h1 hrb =>
   refine ⟨⟨hb, hrb⟩, fun y hy => ?_⟩
   obtain ⟨j, hj⟩ := List.getElem?_of_mem hy
   have hj' : b.toList[j]? = some y := hj
   rw [Array.getElem?_toList] at hj'
   exact h1 j y hj'
 | junk => cases hs
 | tup => cases hs
 | pc => cases hs
 | deep hd =>
   have h1 := hd.one
   have hc : x.cells = #[x] := by cases x <;> first | rfl | (simp [Value.oneCell'] at h1)
   have hv : v.cells = [v] := by cases hd <;> rfl
   rw [hc, hv]
   refine ⟨⟨rfl, fun j u y hj hy => ?_⟩, fun y hy => by simp at hy; subst hy; exact h1⟩
   cases j with
   | zero => simp at hj hy; subst hj; subst hy; exact .deep hd
   | succ j => simp at hj
 | nilp => exact ⟨⟨rfl, fun j u y hj hy => by cases j <;> simp [V.cells, Value.cells] at hj hy; subst hj; subst hy; exact .nilp⟩, fun y hy => by simp [Value.cells] at hy; subst hy; rfl⟩
 | p k off hk => exact ⟨⟨rfl, fun j u y hj hy => by cases j <;> simp [V.cells, Value.cells] at hj hy; subst hj; subst hy; exact .p _ _ hk⟩, fun y hy => by simp [Value.cells] at hy; subst hy; rfl⟩
 | pa k sz ix off hk => exact ⟨⟨rfl, fun j u y hj hy => by cases j <;> simp [V.cells, Value.cells] at hj hy; subst hj; subst hy; exact .pa _ _ _ _ hk⟩, fun y hy => by simp [Value.cells] at hy; subst hy; rfl⟩
 | tsl k sz es a cap hk hd hb' hs' => exact ⟨⟨rfl, fun j u y hj hy => by cases j <;> simp [V.cells, Value.cells] at hj hy; subst hj; subst hy; exact .tsl _ _ _ _ _ hk hd hb' hs'⟩, fun y hy => by simp [Value.cells] at hy; subst hy; rfl⟩
 | ms k sz st len a cap hk h1 h2 h4 h3 => exact ⟨⟨rfl, fun j u y hj hy => by cases j <;> simp [V.cells, Value.cells] at hj hy; subst hj; subst hy; exact .ms _ _ _ _ _ _ hk h1 h2 h4 h3⟩, fun y hy => by simp [Value.cells] at hy; subst hy; rfl⟩
 | nilm => exact ⟨⟨rfl, fun j u y hj hy => by cases j <;> simp [V.cells, Value.cells] at hj hy; subst hj; subst hy; exact .nilm⟩, fun y hy => by simp [Value.cells] at hy; subst hy; rfl⟩
 | m k hk => exact ⟨⟨rfl, fun j u y hj hy => by cases j <;> simp [V.cells, Value.cells] at hj hy; subst hj; subst hy; exact .m _ hk⟩, fun y hy => by simp [Value.cells] at hy; subst hy; rfl⟩
 | fn f p q p' q' h1 h2 h3 h4 => exact ⟨⟨rfl, fun j u y hj hy => by cases j <;> simp [V.cells, Value.cells] at hj hy; subst hj; subst hy; exact .fn _ _ _ _ _ h1 h2 h3 h4⟩, fun y hy => by simp [Value.cells] at hy; subst hy; rfl⟩
 | nilf => exact ⟨⟨rfl, fun j u y hj hy => by cases j <;> simp [V.cells, Value.cells] at hj hy; subst hj; subst hy; exact .nilf⟩, fun y hy => by simp [Value.cells] at hy; subst hy; rfl⟩
def Env.ofG (E : Env) (g : Bool) : Env :=
 match g with
 | true => E.cut
 | false => E
theorem ownG_rel {g : Bool} {l l' : List V} {xs : Array Value} (h : ownG g l = some l') (hr : RelL E l xs) : RelL (E.ofG g) l' xs := by
 cases g with
 | true => exact passes_rel h hr
 | false => simp only [ownG, Option.some.injEq] at h; subst h; exact hr
theorem Env.at_isG (E : Env) (k : Key) : E.at k = E.ofG k.isG := by cases k <;> rfl
theorem run_store_cells {t : TypeId} {x : Value} {b c : Nat} (hi : (P.info? t).map (·.size) = some x.cells.size) (ht : w.there b c x.cells.size) (h1 : ∀ y ∈ x.cells.toList, y.oneCell' = true) :
 (storeVar t ⟨b, c, none⟩ x).run P w = .ok () (w.setCells b c x.cells.toList) := by
 have := run_storeCells_cells (P := P) b c x.cells.toList 0 w (fun j hj => by simpa using (ht j (by simpa using hj)).1) (fun j hj => by simpa using (ht j (by simpa using hj)).2) h1
 cases hq : P.info? t with
 | none => simp [hq] at hi
 | some i =>
   have hs : x.cells.size = i.size := by simp [hq] at hi; omega
   simp only [Nat.add_zero] at this
   simp [storeVar, sizeOf, typeInfo, hq, hs, this]
theorem set_flat {sz : Nat} : ∀ {es : List (List V)}, (∀ e ∈ es, e.length = sz) → ∀ {ix : Nat} {e : List V}, es[ix]? = some e → ∀ (off : Nat) (vs : List V), off + vs.length ≤ sz →
 (es.set ix (stCells e off vs)).flatten = stCells es.flatten (ix * sz + off) vs := by
 intro es hl ix e he off vs hin
 have hlt : ix < es.length := (List.getElem?_eq_some_iff.1 he).1
 have hle : e.length = sz := hl e (List.mem_of_getElem? he)
 have hl' : ∀ d ∈ es.set ix (stCells e off vs), d.length = sz := by
  intro d hd
  rcases List.mem_or_eq_of_mem_set hd with h | h
  · exact hl d h
  · rw [h, stCells_length]; exact hle
 have hmul : (ix + 1) * sz ≤ es.length * sz := Nat.mul_le_mul_right _ hlt
 rw [Nat.succ_mul] at hmul
 apply List.ext_getElem?
 intro j
 have hlenL := flat_len hl'
 have hlenR := flat_len hl
 rw [stCells_get _ _ _ _ (by rw [hlenR]; omega)]
 by_cases hj : j < es.length * sz
 · have hsz : 0 < sz := by
    rcases Nat.eq_zero_or_pos sz with h | h
    · subst h; simp at hj
    · exact h
   have hd : j = j / sz * sz + j % sz := by rw [Nat.mul_comm]; exact (Nat.div_add_mod j sz).symm
   have hm : j % sz < sz := Nat.mod_lt _ hsz
   have hq : j / sz < es.length := (Nat.div_lt_iff_lt_mul hsz).2 hj
   generalize j / sz = q at hd hq
   generalize j % sz = m at hd hm
   subst hd
   obtain ⟨d, hdq⟩ : ∃ d, es[q]? = some d := ⟨es[q], by simp [hq]⟩
   rw [flat_get hl hdq hm]
   by_cases hqi : q = ix
   · subst hqi
     rw [he] at hdq
     cases hdq
     rw [flat_get hl' (e := stCells e off vs) (by simp [hq]) hm, stCells_get _ _ _ _ (by omega)]
     by_cases hc : off ≤ m ∧ m < off + vs.length
     · rw [if_pos hc, if_pos (by omega)]
       congr 1; omega
     · rw [if_neg hc, if_neg (by omega)]
   · rw [flat_get hl' (e := d) (by rw [List.getElem?_set_ne (fun e => hqi e.symm)]; exact hdq) hm]
     rw [if_neg]
     rintro ⟨h1, h2⟩
     have : q = ix := by
      rcases Nat.lt_trichotomy q ix with h | h | h
      · have : (q + 1) * sz ≤ ix * sz := Nat.mul_le_mul_right _ h
        rw [Nat.succ_mul] at this; omega
      · exact h
      · have : (ix + 1) * sz ≤ q * sz := Nat.mul_le_mul_right _ h
        rw [Nat.succ_mul] at this; omega
     exact hqi this
 · rw [List.getElem?_eq_none (by rw [hlenL]; simp; omega), if_neg (by omega), List.getElem?_eq_none (by rw [hlenR]; omega)]
theorem step_store {t : TypeId} {x y : Operand} {d e : Opd} {n : Nat} (ho : o.op = .store t x y) (hx : okX x d = true) (hy : okX y e = true) (hn : (P.info? t).map (·.size) = some n)
 (hs : Sim E st w) (hf : FrRel E N fr a) (hw : (step (.store n d e) fr st).wp (ACall P) K) (hc : Cont E st w o a next K) : o.wp P a w next Q := by
 have h1 := okX_rel hx hf
 have h2 := okX_rel hy hf
 simp only [step] at hw
 split at hw
 case isFalse => exact hw.elim
 rename_i hst
 obtain ⟨hsto, hlen⟩ := hst
 obtain ⟨hcl, hone⟩ := sto_cells hsto h2
 have hsz : (a.eval y).cells.size = n := by rw [hcl.1]; exact hlen
 have hrun : ∀ {b c : Nat}, a.eval x = .pointer (some ⟨b, c, none⟩) → w.there b c (a.eval y).cells.size → (execOp a.eval o).run P w = .ok .skip (w.setCells b c (a.eval y).cells.toList) := by
  intro b c hp ht
  have := run_store_cells (P := P) (t := t) (x := a.eval y) (by rw [hn, hsz]) ht hone
  simp [execOp, ho, hp, Instr.storeAt, Instr.sureAddr, this]
 have hundef : Rel E (.tup []) undef := .tup _ _ rfl (fun j v x hj => by simp at hj)
 split at hw
 · rename_i k off e1
   rw [e1] at h1
   generalize hp : a.eval x = z at h1
   cases h1 with
   | deep hd => cases hd
   | p _ _ hk =>
     unfold T.opt at hw
     split at hw
     case h_2 => exact hw.elim
     rename_i vs hvs
     obtain ⟨ob, hob, hw⟩ := hw
     dsimp only at hw
     split at hw
     case h_2 => exact hw.elim
     rename_i c
     split at hw
     case h_2 => exact hw.elim
     rename_i hfit
     have hfit : off + vs.length ≤ c.length := by simpa [stFits] using hfit
     have hrv := ownG_rel hvs hcl
     rw [← Env.at_isG] at hrv
     obtain ⟨cells, ty, fz, r1, r2, r3, r4, r5⟩ := hs.cs hob
     have hvl : (a.eval y).cells.size = vs.length := hrv.1
     have hrow := RowOf.written r1 r2 r3 r4 r5 (vs := vs) (xs := (a.eval y).cells.toList) hrv hone hfit
     obtain ⟨s1, s2⟩ := hs.write hob r1 r4 (pos := (E.μ k).base + off) (xs := (a.eval y).cells.toList) (by omega) (by simp [hvl]; omega) (.cs (stCells c off vs)) ⟨hs.csBase hob, hrow⟩
     exact wp_skp (hrun hp (Row.there r1 r2 (by rw [hvl]; omega))) (hc _ _ _ _ _ hw s1 s2 hundef)
 · rename_i k sz ix off e1
   rw [e1] at h1
   generalize hp : a.eval x = z at h1
   cases h1 with
   | deep hd => cases hd
   | pa _ _ _ _ hk =>
     unfold T.opt at hw
     split at hw
     case h_2 => exact hw.elim
     rename_i vs hvs
     obtain ⟨ob, hob, hw⟩ := hw
     dsimp only at hw
     split at hw
     case h_2 => exact hw.elim
     rename_i sz' es
     split at hw
     case isFalse => exact hw.elim
     rename_i hz
     subst hz
     obtain ⟨el, hel, hw⟩ := hw
     dsimp only at hw
     split at hw
     case h_2 => exact hw.elim
     rename_i hfit
     have hfit : off + vs.length ≤ el.length := by simpa [stFits] using hfit
     have hrv := ownG_rel hvs hcl
     rw [← Env.at_isG] at hrv
     have hobj := hs.obj k _ hob
     obtain ⟨hl, hrow0⟩ := hobj
     obtain ⟨cells, ty, fz, r1, r2, r3, r4, r5⟩ := hrow0
     have hvl : (a.eval y).cells.size = vs.length := hrv.1
     have hell : el.length = sz' := hl el (List.mem_of_getElem? hel)
     have hlt : ix < es.length := (List.getElem?_eq_some_iff.1 hel).1
     have hmul : (ix + 1) * sz' ≤ es.length * sz' := Nat.mul_le_mul_right _ hlt
     rw [Nat.succ_mul] at hmul
     have hfl := flat_len hl
     have hset := set_flat hl hel off vs (by omega)
     have hrow := RowOf.written r1 r2 r3 r4 r5 (off := ix * sz' + off) (vs := vs) (xs := (a.eval y).cells.toList) hrv hone (by omega)
     rw [← hset, ← Nat.add_assoc] at hrow
     have hl' : ∀ d ∈ es.set ix (stCells el off vs), d.length = sz' := by
      intro d hd
      rcases List.mem_or_eq_of_mem_set hd with h | h
      · exact hl d h
      · rw [h, stCells_length]; exact hell
     obtain ⟨s1, s2⟩ := hs.write hob r1 r4 (pos := (E.μ k).base + ix * sz' + off) (xs := (a.eval y).cells.toList) (by omega) (by simp [hvl]; omega) (.arr sz' (es.set ix (stCells el off vs))) ⟨hl', hrow⟩
     exact wp_skp (hrun hp (Row.there r1 r2 (by rw [hvl]; omega))) (hc _ _ _ _ _ hw s1 s2 hundef)
 · exact hw.elim
end
end Go.Eng
/-
Each operation of the model does what the abstract step says (part five: new objects).
-/
namespace Go.Eng
open Go
structure SameOut (w w' : World) : Prop where
 os : w'.os = w.os
 out : w'.output = w.output
 tape : w'.tape = w.tape
theorem SameOut.refl (w : World) : SameOut w w := ⟨rfl, rfl, rfl⟩
theorem Env.ofG_push (E : Env) (g g' : Bool) (L : Loc) (J : Imm) : (E.ofG g').Le ((E.push g L J).ofG g') := by
 cases g' with
 | true => exact Env.cut_mono (Env.push_le E g L J)
 | false => exact Env.push_le E g L J
theorem Env.at_newKey (E F : Env) (g : Bool) : F.at (E.newKey g) = F.ofG g := by cases g <;> rfl
section
variable {E : Env} {st : St} {w w' : World}
theorem Sim.newRow {z : Nat} (h : Sim E st w) (gone : Option Key) (g : Bool) {cells : Array Value} {t : TypeId} {fz : Nat × Nat} (hfz : FzOk z fz cells.size) (hh : w'.heap = w.heap.push (.cells cells t fz)) (ho : SameOut w w')
 (ob : Obj) (cs : List V) (hob : ∀ F (L : Loc), L.base = 0 → RowOf z F w' L cs → Holds F w' L ob) (hl : cs.length ≤ cells.size)
 (hr : ∀ (j : Nat) (v : V), cs[j]? = some v → ∃ x, cells[j]? = some x ∧ Rel (E.ofG g) v x ∧ x.oneCell' = true) :
 ∃ E', Sim E' ((match gone with | some k => st.remove k | none => st).push g ob) w' ∧ Ext E st w E' ((match gone with | some k => st.remove k | none => st).push g ob) w' ∧
  E'.has (st.newKey g) ∧ E'.μ (st.newKey g) = ⟨w.heap.size, 0, cells.size⟩ := by
 have hrow : RowOf z ((E.push g ⟨w.heap.size, 0, cells.size⟩ fun b j => if b = w.heap.size then (fun _ => none) j else none).at (E.newKey g)) w' ⟨w.heap.size, 0, cells.size⟩ cs := by
  refine ⟨cells, t, fz, by simp [hh], hfz, by simpa using hl, Nat.le_refl _, fun j v hj => ?_⟩
  obtain ⟨x, hx, hrx, h1⟩ := hr j v hj
  refine ⟨x, by simpa using hx, ?_, h1⟩
  rw [Env.at_newKey]
  exact hrx.mono (Env.ofG_push _ _ _ _ _)
 obtain ⟨h1, h2⟩ := h.fresh gone g 0 cells.size (fun _ => none) ob _ hh ho.os ho.out ho.tape (fun j x hx => by cases hx) (hob _ _ rfl hrow)
 refine ⟨_, h1, h2, ?_, ?_⟩
 · rw [h.newKey]; exact Env.push_has_new _ _ _ _
 · rw [h.newKey]; exact Env.push_new _ _ _ _
theorem Sim.newImm {z : Nat} (h : Sim E st w) (gone : Option Key) (g : Bool) {cells : Array Value} {t : TypeId} {fz : Nat × Nat} (hfz : FzOk z fz cells.size) (hh : w'.heap = w.heap.push (.cells cells t fz)) (ho : SameOut w w')
 (n : Nat) (hn : n ≤ cells.size) :
 ∃ E', Sim E' ((match gone with | some k => st.remove k | none => st).push g .spare) w' ∧ Ext E st w E' ((match gone with | some k => st.remove k | none => st).push g .spare) w' ∧
  E'.has (st.newKey g) ∧ E'.μ (st.newKey g) = ⟨w.heap.size, n, cells.size⟩ ∧ ∀ j, j < n → E'.I w.heap.size j = cells[j]? := by
 have hold : ∀ j, E.I w.heap.size j = none := by
  intro j
  cases hI : E.I w.heap.size j with
  | none => rfl
  | some x => have := h.imm _ _ _ hI; simp [cellIn] at this
 have hrow : RowOf 1 ((E.push g ⟨w.heap.size, n, cells.size⟩ fun b j => if b = w.heap.size then (fun j => if j < n then cells[j]? else none) j else none).at (E.newKey g)) w' ⟨w.heap.size, n, cells.size⟩ [] :=
  ⟨cells, t, fz, by simp [hh], hfz.one, by simpa using hn, Nat.le_refl _, fun j v hj => by simp at hj⟩
 obtain ⟨h1, h2⟩ := h.fresh gone g n cells.size (fun j => if j < n then cells[j]? else none) .spare _ hh ho.os ho.out ho.tape (fun j x hx => by
  split at hx
  · exact ⟨⟨_, _, _, rfl, hx⟩, by omega⟩
  · cases hx) hrow
 refine ⟨_, h1, h2, ?_, ?_, ?_⟩
 · rw [h.newKey]; exact Env.push_has_new _ _ _ _
 · rw [h.newKey]; exact Env.push_new _ _ _ _
 · intro j hj
   simp [Env.push, hold, hj]
theorem Sim.newMap (h : Sim E st w) (g : Bool) (kd : Option IntKind) : ∃ E', Sim E' (st.push g (.mp kd [])) (w.alloc (.map #[] 0)) ∧ Ext E st w E' (st.push g (.mp kd [])) (w.alloc (.map #[] 0)) ∧
 E'.has (st.newKey g) ∧ (E'.μ (st.newKey g)).blk = w.heap.size := by
 obtain ⟨h1, h2⟩ := h.fresh (w' := w.alloc (.map #[] 0)) none g 0 0 (fun _ => none) (.mp kd []) (.map #[] 0) rfl rfl rfl rfl (fun j x hx => by cases hx)
  ⟨#[], 0, (by show (w.heap.push _)[w.heap.size]? = _; simp), rfl, (fun j q e hq => by simp at hq), ⟨fun x hx => by simp at hx, by simp⟩⟩
 refine ⟨_, h1, h2, ?_, ?_⟩
 · rw [h.newKey]; exact Env.push_has_new _ _ _ _
 · rw [h.newKey]; rw [Env.push_new]
end
/-! Zero values. -/
def zeroOk (P : Program) (t : TypeId) (zs : List V) : Bool :=
 match P.info? t with
 | some i => match i.zero with
   | some z => decide (z.cells.size = zs.length) && decide (i.size = zs.length) && z.cells.all (·.oneCell') && (z.cells.toList.zip zs).all fun q => constOk 4 q.1 q.2
   | none => false
 | none => false
theorem zeroOk_spec {P : Program} {t : TypeId} {zs : List V} (h : zeroOk P t zs = true) :
 ∃ i z, P.info? t = some i ∧ i.zero = some z ∧ i.size = zs.length ∧ (∀ E, RelL E zs z.cells) ∧ z.cells.size = zs.length ∧ ∀ (j : Nat) (x : Value), z.cells[j]? = some x → x.oneCell' = true := by
 unfold zeroOk at h
 split at h
 · rename_i i hi
   split at h
   · rename_i z hz
     simp only [Bool.and_eq_true, decide_eq_true_eq] at h
     refine ⟨i, z, hi, hz, h.1.1.2, fun E => ⟨h.1.1.1, fun j v x hj hx => constOk_rel (zip_all h.2 (by rw [Array.getElem?_toList]; exact hx) hj) E⟩, h.1.1.1, ?_⟩
     intro j x hx
     exact (Array.all_eq_true_iff_forall_mem.1 h.1.2) x (Array.mem_of_getElem? hx)
   · cases h
 · cases h
theorem run_zeroValue {P : Program} {t : TypeId} {i : TypeInfo} {z : Value} (hi : P.info? t = some i) (hz : i.zero = some z) (w : World) : (zeroValue t).run P w = .ok z w := by
 simp [zeroValue, typeInfo, hi, hz]
section
variable {P : Program} {o : Oper} {a : Act} {E : Env} {N : Nat} {st : St} {w : World} {fr : Fr} {next : Act → World → Prop} {Q : Exit → Act → World → Prop} {K : R → Prop}
theorem step_alloc {t : TypeId} {g : Bool} {zero : List V} (ho : o.op = .alloc t) (hz : zeroOk P t zero = true) (hs : Sim E st w)
 (hw : (step (.alloc g zero) fr st).wp (ACall P) K) (hc : Cont E st w o a next K) : o.wp P a w next Q := by
 obtain ⟨i, z, hi, hz0, hsz, hr, hl, h1⟩ := zeroOk_spec hz
 obtain ⟨E', s1, s2, s3, s4⟩ := hs.newRow (z := 1) (w' := w.alloc (.cells z.cells t)) none g (.inl rfl) rfl ⟨rfl, rfl, rfl⟩ (.cs zero) zero (fun _ _ h0 h => ⟨h0, h⟩) (by omega)
  (fun j v hj => let ⟨x, hx, hrx⟩ := (hr (E.ofG g)).get hj; ⟨x, hx, hrx, h1 j x hx⟩)
 refine wp_val (x := .pointer (some ⟨w.heap.size, 0, none⟩)) ?_ (hc _ _ E' _ _ hw s1 s2 ?_)
 · simp [execOp, ho, Instr.alloc, run_zeroValue hi hz0, newVar, newRow]
 · have := Rel.p (E := E') (st.newKey g) 0 s3
   rw [s4] at this
   exact this
theorem step_box {t : TypeId} {x : Operand} {d : Opd} {g : Bool} (ho : o.op = .box t x) (hx : okX x d = true) (hs : Sim E st w) (hf : FrRel E N fr a)
 (hw : (step (.box g d) fr st).wp (ACall P) K) (hc : Cont E st w o a next K) : o.wp P a w next Q := by
 have h1 := okX_rel hx hf
 simp only [step] at hw
 split at hw
 case h_2 => exact hw.elim
 rename_i hsto
 unfold T.opt at hw
 split at hw
 case h_2 => exact hw.elim
 rename_i c hcs
 obtain ⟨hcl, hone⟩ := sto_cells hsto h1
 have hrv := ownG_rel hcs hcl
 have hsz : (a.eval x).cells.size = c.length := hrv.1
 obtain ⟨E', s1, s2, s3, s4⟩ := hs.newRow (w' := w.alloc (.cells (a.eval x).cells t)) none g (.inl rfl) rfl ⟨rfl, rfl, rfl⟩ (.cs c) c (fun _ _ h0 h => ⟨h0, h⟩) (by omega)
  (fun j v hj => let ⟨x, hx, hrx⟩ := hrv.get hj; ⟨x, hx, hrx, hone x (by rw [Array.mem_toList_iff]; exact Array.mem_of_getElem? hx)⟩)
 refine wp_val (x := .pointer (some ⟨w.heap.size, 0, none⟩)) ?_ (hc _ _ E' _ _ hw s1 s2 ?_)
 · simp [execOp, ho, Instr.box, newVar, newRow]
 · have := Rel.p (E := E') (st.newKey g) 0 s3
   rw [s4] at this
   exact this
theorem step_mkmap {t : TypeId} {g : Bool} {kd : Option IntKind} (ho : o.op = .makeMap t none) (hs : Sim E st w)
 (hw : (step (.mkmap g kd) fr st).wp (ACall P) K) (hc : Cont E st w o a next K) : o.wp P a w next Q := by
 obtain ⟨E', s1, s2, s3, s4⟩ := hs.newMap g kd
 refine wp_val (x := .map (some w.heap.size)) ?_ (hc _ _ E' _ _ hw s1 s2 ?_)
 · simp [execOp, ho, Instr.makeMap]
 · have := Rel.m (E := E') (st.newKey g) s3
   rw [s4] at this
   exact this
/-! Aggregates put together. -/
def partsOk (P : Program) (fs : Array Field) : List (Nat × Operand) → List (Nat × Nat × Opd) → Bool
 | [], [] => true
 | (i, x) :: r, (off, sz, d) :: q => (match fs[i]? with
     | some f => decide (f.offset = off) && (P.info? f.type).map (·.size) == some sz
     | none => false) && okX x d && partsOk P fs r q
 | _, _ => false
def partsOkA (sz : Nat) : List (Nat × Operand) → List (Nat × Nat × Opd) → Bool
 | [], [] => true
 | (i, x) :: r, (off, sz', d) :: q => decide (off = i * sz) && decide (sz' = sz) && okX x d && partsOkA sz r q
 | _, _ => false
theorem foldl_put (cs : Array Value) (off : Nat) : ∀ (l : List Value) (k : Nat) (acc : Array Value), (l.zipIdx k).foldl (fun (cs : Array Value) (q : Value × Nat) => cs.setIfInBounds (off + q.2) q.1) acc = stArr acc (off + k) l
 | [], _, _ => rfl
 | v :: r, k, acc => by
   rw [List.zipIdx_cons, List.foldl_cons, foldl_put cs off r]
   rfl
theorem fill_put (v : Array Value) (off : Nat) (acc : Array Value) : v.zipIdx.foldl (fun (cs : Array Value) (q : Value × Nat) => cs.setIfInBounds (off + q.2) q.1) acc = stArr acc off v.toList := by
 rw [← Array.foldl_toList, Array.toList_zipIdx, foldl_put acc off v.toList 0 acc, Nat.add_zero]
theorem stRel {cs : List V} {xs : Array Value} (hr : RelL E cs xs) (h1 : ∀ (j : Nat) (x : Value), xs[j]? = some x → x.oneCell' = true) {off : Nat} {vs : List V} {ys : Array Value} (hv : RelL E vs ys) (hy : ∀ y ∈ ys.toList, y.oneCell' = true)
 (hin : off + vs.length ≤ cs.length) : RelL E (stCells cs off vs) (stArr xs off ys.toList) ∧ ∀ (j : Nat) (x : Value), (stArr xs off ys.toList)[j]? = some x → x.oneCell' = true := by
 have hl : ys.toList.length = vs.length := by simpa using hv.1
 have hs := hr.1
 refine ⟨⟨by rw [stArr_size, stCells_length, hs], fun j v x hj hx => ?_⟩, fun j x hx => ?_⟩
 · rw [stCells_get _ _ _ _ hin] at hj
   rw [stArr_get _ _ _ _ (by omega)] at hx
   by_cases hc : off ≤ j ∧ j < off + vs.length
   · rw [if_pos hc] at hj
     rw [if_pos (by omega)] at hx
     exact hv.2 _ v x hj (by simpa using hx)
   · rw [if_neg hc] at hj
     rw [if_neg (by omega)] at hx
     exact hr.2 _ v x hj hx
 · rw [stArr_get _ _ _ _ (by omega)] at hx
   by_cases hc : off ≤ j ∧ j < off + ys.toList.length
   · rw [if_pos hc] at hx
     exact hy x (List.mem_of_getElem? hx)
   · rw [if_neg hc] at hx
     exact h1 j x hx
theorem fill_rel (place : Nat → Option (Nat × Nat)) : ∀ (_ps : List (Nat × V)) (qs : List (Nat × Nat × V)) (xs : List (Nat × Value)) (cs cs' : List V) (ys : Array Value),
 fillParts cs qs = some cs' → RelL E cs ys → (∀ (j : Nat) (x : Value), ys[j]? = some x → x.oneCell' = true) →
 qs.length = xs.length → (∀ (j : Nat) (q : Nat × Nat × V) (x : Nat × Value), qs[j]? = some q → xs[j]? = some x → place x.1 = some (q.1, q.2.1) ∧ Rel E q.2.2 x.2) →
 ∃ zs, Instr.fill place ys xs = some zs ∧ RelL E cs' zs ∧ ∀ (j : Nat) (x : Value), zs[j]? = some x → x.oneCell' = true := by
 intro ps qs
 induction qs with
 | nil =>
   intro xs cs cs' ys h hr h1 hl _
   simp only [fillParts, Option.some.injEq] at h
   subst h
   have : xs = [] := List.eq_nil_of_length_eq_zero hl.symm
   subst this
   exact ⟨ys, rfl, hr, h1⟩
 | cons q r ih =>
   obtain ⟨off, sz, v⟩ := q
   intro xs cs cs' ys h hr h1 hl hp
   match xs, hl with
   | (i, x) :: xr, hl =>
   simp only [fillParts] at h
   split at h
   case isFalse => cases h
   rename_i hc
   obtain ⟨hst, hsz, hin⟩ := hc
   obtain ⟨hpl, hrv⟩ := hp 0 _ _ rfl rfl
   obtain ⟨hcl, hone⟩ := sto_cells hst hrv
   have hxs : x.cells.size = sz := by rw [hcl.1]; exact hsz
   have hys : ys.size = cs.length := hr.1
   obtain ⟨hr', h1'⟩ := stRel hr h1 hcl hone (off := off) (by omega)
   obtain ⟨zs, hz1, hz2, hz3⟩ := ih xr _ cs' _ h hr' h1' (by simpa using hl) (fun j q y hq hy => hp (j + 1) q y (by simpa using hq) (by simpa using hy))
   refine ⟨zs, ?_, hz2, hz3⟩
   simp only at hpl
   simp only [Instr.fill, hpl]
   rw [if_neg (by simp [hxs]; omega)]
   rw [← hz1]
   congr 1
   exact fill_put _ _ _
theorem evPartsB_spec {fs : Array Field} (hf : FrRel E N fr a) : ∀ {ps : List (Nat × Operand)} {qs : List (Nat × Nat × Opd)}, partsOk P fs ps qs = true →
 (evPartsB fr qs).length = ps.length ∧ ∀ (j : Nat) (q : Nat × Nat × V) (p : Nat × Operand), (evPartsB fr qs)[j]? = some q → ps[j]? = some p → (∃ f : Field, fs[p.1]? = some f ∧ f.offset = q.1 ∧ (P.info? f.type).map (·.size) = some q.2.1) ∧ Rel E q.2.2 (a.eval p.2)
 | [], [], _ => ⟨rfl, fun j q p hq => by simp [evPartsB] at hq⟩
 | (i, x) :: r, (off, sz, d) :: q, h => by
  simp only [partsOk, Bool.and_eq_true] at h
  obtain ⟨⟨h1, h2⟩, h3⟩ := h
  obtain ⟨l1, l2⟩ := evPartsB_spec hf h3
  refine ⟨by simp [evPartsB, l1], fun j y p hy hp => ?_⟩
  cases j with
  | zero =>
    simp [evPartsB] at hy hp
    subst hy; subst hp
    refine ⟨?_, okX_rel h2 hf⟩
    split at h1
    · rename_i f hfi
      simp only [Bool.and_eq_true, decide_eq_true_eq, beq_iff_eq] at h1
      exact ⟨f, hfi, h1.1, h1.2⟩
    · cases h1
  | succ j => exact l2 j y p (by simpa [evPartsB] using hy) (by simpa using hp)
 | [], _ :: _, h => by cases h
 | (_, _) :: _, [], h => by simp [partsOk] at h
theorem evPartsB_specA {sz : Nat} (hf : FrRel E N fr a) : ∀ {ps : List (Nat × Operand)} {qs : List (Nat × Nat × Opd)}, partsOkA sz ps qs = true →
 (evPartsB fr qs).length = ps.length ∧ ∀ (j : Nat) (q : Nat × Nat × V) (p : Nat × Operand), (evPartsB fr qs)[j]? = some q → ps[j]? = some p → (q.1 = p.1 * sz ∧ q.2.1 = sz) ∧ Rel E q.2.2 (a.eval p.2)
 | [], [], _ => ⟨rfl, fun j q p hq => by simp [evPartsB] at hq⟩
 | (i, x) :: r, (off, sz', d) :: q, h => by
  simp only [partsOkA, Bool.and_eq_true, decide_eq_true_eq] at h
  obtain ⟨⟨⟨h0, h1⟩, h2⟩, h3⟩ := h
  obtain ⟨l1, l2⟩ := evPartsB_specA hf h3
  refine ⟨by simp [evPartsB, l1], fun j y p hy hp => ?_⟩
  cases j with
  | zero =>
    simp [evPartsB] at hy hp
    subst hy; subst hp
    exact ⟨⟨h0, h1⟩, okX_rel h2 hf⟩
  | succ j => exact l2 j y p (by simpa [evPartsB] using hy) (by simpa using hp)
 | [], _ :: _, h => by cases h
 | (_, _) :: _, [], h => by simp [partsOkA] at h
theorem mapM_ok {α β : Type} {f : α → Sem β} {g : α → β} : ∀ (l : List α), (∀ x ∈ l, (f x).run P w = .ok (g x) w) → (l.mapM f).run P w = .ok (l.map g) w
 | [], _ => rfl
 | x :: r, h => by
   have h1 := h x (.head _)
   have h2 := mapM_ok r (fun y hy => h y (.tail _ hy))
   rw [List.mapM_cons]
   simp only [Sem.run_bind, h1, h2, Result.andThen_ok, Sem.run_pure, List.map_cons]
theorem mapM_okA {α β : Type} {f : α → Sem β} {g : α → β} (l : Array α) (h : ∀ x ∈ l.toList, (f x).run P w = .ok (g x) w) : (l.mapM f).run P w = .ok (l.map g) w := by
 have := mapM_ok (P := P) (w := w) l.toList h
 cases l with
 | mk l =>
   rw [List.mapM_toArray]
   simp only at this
   rw [map_eq_pure_bind]
   simp only [Sem.run_bind, this, Result.andThen_ok, Sem.run_pure]
   simp
theorem step_bld_s {t : TypeId} {ps : Array (Nat × Operand)} {qs : List (Nat × Nat × Opd)} {zero : List V} {fs : Array Field} (ho : o.op = .build t ps) (hz : zeroOk P t zero = true) (hu : P.underlying t = some (.struct fs))
 (hall : (fs.toList.all fun f => (P.info? f.type).isSome) = true) (hp : partsOk P fs ps.toList qs = true) (hs : Sim E st w) (hf : FrRel E N fr a)
 (hw : (step (.bld zero qs) fr st).wp (ACall P) K) (hc : Cont E st w o a next K) : o.wp P a w next Q := by
 obtain ⟨i, z, hi, hz0, hsz, hr, hl, h1⟩ := zeroOk_spec hz
 simp only [step] at hw
 unfold T.opt at hw
 split at hw
 case h_2 => exact hw.elim
 rename_i cs' hfp
 obtain ⟨l1, l2⟩ := evPartsB_spec (P := P) hf hp
 obtain ⟨zs, hz1, hz2, hz3⟩ := fill_rel (E := E) (fun k => (fs.map fun f => (f.offset, P.cellsOf f.type))[k]?) [] (evPartsB fr qs) (ps.toList.map fun q => (q.1, a.eval q.2)) zero cs' z.cells hfp (hr E) h1 (by simp [l1]) (fun j q x hq hx => by
  rw [List.getElem?_map] at hx
  cases hpj : ps.toList[j]? with
  | none => rw [hpj] at hx; cases hx
  | some p =>
    rw [hpj] at hx
    simp only [Option.map_some, Option.some.injEq] at hx
    subst hx
    obtain ⟨⟨f, hfi, ho1, ho2⟩, hrel⟩ := l2 j q p hq hpj
    refine ⟨?_, hrel⟩
    simp only [Array.getElem?_map, hfi, Option.map_some, Program.cellsOf, ho1]
    cases hq2 : P.info? f.type with
    | none => simp [hq2] at ho2
    | some i2 =>
      simp [hq2] at ho2
      simp [ho2])
 have hm : (fs.mapM fun f => do pure (f.offset, ← sizeOf f.type) : Sem (Array (Nat × Nat))).run P w = .ok (fs.map fun f => (f.offset, P.cellsOf f.type)) w := by
  refine mapM_okA fs fun f hfm => ?_
  have := List.all_eq_true.1 hall f hfm
  obtain ⟨i2, hi2⟩ := Option.isSome_iff_exists.1 this
  simp [sizeOf, typeInfo, hi2, Program.cellsOf]
 refine wp_val (x := .agg zs) ?_ (hc.same hs hw (.agg _ _ hz2.1 hz3 hz2.2))
 have hparts : (ps.map fun (q : Nat × Operand) => (q.1, a.eval q.2)).toList = ps.toList.map fun q => (q.1, a.eval q.2) := by simp
 simp only [execOp, ho, Instr.build, Sem.run_bind, run_zeroValue hi hz0, run_underlying hu, Result.andThen_ok, hm]
 simp only [hparts, hz1, Sem.run_pure, Result.andThen_ok]
theorem step_bld_a {t e : TypeId} {n sz : Nat} {ps : Array (Nat × Operand)} {qs : List (Nat × Nat × Opd)} {zero : List V} (ho : o.op = .build t ps) (hz : zeroOk P t zero = true) (hu : P.underlying t = some (.array n e))
 (hsz' : (P.info? e).map (·.size) = some sz) (hp : partsOkA sz ps.toList qs = true) (hs : Sim E st w) (hf : FrRel E N fr a)
 (hw : (step (.bld zero qs) fr st).wp (ACall P) K) (hc : Cont E st w o a next K) : o.wp P a w next Q := by
 obtain ⟨i, z, hi, hz0, hsz, hr, hl, h1⟩ := zeroOk_spec hz
 simp only [step] at hw
 unfold T.opt at hw
 split at hw
 case h_2 => exact hw.elim
 rename_i cs' hfp
 obtain ⟨l1, l2⟩ := evPartsB_specA hf hp
 obtain ⟨zs, hz1, hz2, hz3⟩ := fill_rel (E := E) (fun k => some (k * sz, sz)) [] (evPartsB fr qs) (ps.toList.map fun q => (q.1, a.eval q.2)) zero cs' z.cells hfp (hr E) h1 (by simp [l1]) (fun j q x hq hx => by
  rw [List.getElem?_map] at hx
  cases hpj : ps.toList[j]? with
  | none => rw [hpj] at hx; cases hx
  | some p =>
    rw [hpj] at hx
    simp only [Option.map_some, Option.some.injEq] at hx
    subst hx
    obtain ⟨⟨ho1, ho2⟩, hrel⟩ := l2 j q p hq hpj
    exact ⟨by simp [ho1, ho2], hrel⟩)
 cases hq : P.info? e with
 | none => simp [hq] at hsz'
 | some i2 =>
 have hi2 : i2.size = sz := by simpa [hq] using hsz'
 refine wp_val (x := .agg zs) ?_ (hc.same hs hw (.agg _ _ hz2.1 hz3 hz2.2))
 have hparts : (ps.map fun (q : Nat × Operand) => (q.1, a.eval q.2)).toList = ps.toList.map fun q => (q.1, a.eval q.2) := by simp
 simp only [execOp, ho, Instr.build, Sem.run_bind, run_zeroValue hi hz0, run_underlying hu, Result.andThen_ok]
 simp only [sizeOf, typeInfo, program, hparts]
 simp [hz1, Sem.run, hq, hi2]
end
end Go.Eng
/-
Each operation of the model does what the abstract step says (part six: slices).
-/
namespace Go.Eng
open Go
theorem deep_rel {E : Env} {v d : V} {x : Value} (h : v.deep = some d) (hr : Rel E v x) : RelD E.I d x := by
 unfold V.deep at h
 split at h <;> simp only [Option.some.injEq, reduceCtorEq] at h <;> subst h
 all_goals (cases hr)
 all_goals (first | assumption | skip)
 all_goals (rename_i hd; first | exact hd | (cases hd <;> first | exact .slNil _ | exact .slE _ _ ‹_› | exact .sl _ _ _ _ _ _ ‹_› ‹_› ‹_› ‹_›))
theorem deeps_append : ∀ {l r l' r' : List V}, deeps l = some l' → deeps r = some r' → deeps (l ++ r) = some (l' ++ r')
 | [], r, l', r', h, g => by simp only [deeps, Option.some.injEq] at h; subst h; exact g
 | v :: l, r, l', r', h, g => by
   simp only [deeps] at h
   split at h
   · rename_i x y hx hy
     simp only [Option.some.injEq] at h
     subst h
     simp only [List.cons_append, deeps, hx, deeps_append hy g]
   · cases h
theorem deeps_spec : ∀ {l l' : List V}, deeps l = some l' → l'.length = l.length ∧ ∀ (j : Nat) (d : V), l'[j]? = some d → ∃ v, l[j]? = some v ∧ v.deep = some d
 | [], l', h => by simp only [deeps, Option.some.injEq] at h; subst h; exact ⟨rfl, fun j d hd => by simp at hd⟩
 | v :: l, l', h => by
   simp only [deeps] at h
   split at h
   · rename_i x y hx hy
     simp only [Option.some.injEq] at h
     subst h
     obtain ⟨h1, h2⟩ := deeps_spec hy
     refine ⟨by simp [h1], fun j d hd => ?_⟩
     cases j with
     | zero => simp at hd; subst hd; exact ⟨v, rfl, hx⟩
     | succ j => exact h2 j d (by simpa using hd)
   · cases h
theorem deepElems_spec : ∀ {es ds : List (List V)}, deepElems es = some ds → deeps es.flatten = some ds.flatten ∧ ds.length = es.length ∧ ∀ {sz : Nat}, (∀ e ∈ es, e.length = sz) → ∀ e ∈ ds, e.length = sz
 | [], ds, h => by simp only [deepElems, Option.some.injEq] at h; subst h; exact ⟨rfl, rfl, fun _ e he => by cases he⟩
 | e :: es, ds, h => by
   simp only [deepElems] at h
   split at h
   · rename_i x y hx hy
     simp only [Option.some.injEq] at h
     subst h
     obtain ⟨h1, h2, h3⟩ := deepElems_spec hy
     refine ⟨deeps_append hx h1, by simp [h2], fun hl d hd => ?_⟩
     cases hd with
     | head => rw [(deeps_spec hx).1]; exact hl e (.head _)
     | tail _ hd => exact h3 (fun d hd => hl d (.tail _ hd)) d hd
   · cases h
theorem passes_append : ∀ {l r l' r' : List V}, passes l = some l' → passes r = some r' → passes (l ++ r) = some (l' ++ r')
 | [], r, l', r', h, g => by simp only [passes, Option.some.injEq] at h; subst h; exact g
 | v :: l, r, l', r', h, g => by
   simp only [passes] at h
   split at h
   · rename_i x y hx hy
     simp only [Option.some.injEq] at h
     subst h
     simp only [List.cons_append, passes, hx, passes_append hy g]
   · cases h
theorem passes_len : ∀ {l l' : List V}, passes l = some l' → l'.length = l.length
 | [], l', h => by simp only [passes, Option.some.injEq] at h; subst h; rfl
 | v :: l, l', h => by
   simp only [passes] at h
   split at h
   · rename_i x y hx hy
     simp only [Option.some.injEq] at h
     subst h
     simp [passes_len hy]
   · cases h
theorem ownG_len {g : Bool} {l l' : List V} (h : ownG g l = some l') : l'.length = l.length := by
 cases g with
 | true => exact passes_len h
 | false => simp only [ownG, Option.some.injEq] at h; rw [h]
theorem ownElems_spec {g : Bool} : ∀ {es ds : List (List V)}, ownElems g es = some ds → ownG g es.flatten = some ds.flatten ∧ ds.length = es.length ∧ ∀ {sz : Nat}, (∀ e ∈ es, e.length = sz) → ∀ e ∈ ds, e.length = sz
 | [], ds, h => by simp only [ownElems, Option.some.injEq] at h; subst h; cases g <;> exact ⟨rfl, rfl, fun _ e he => by cases he⟩
 | e :: es, ds, h => by
   simp only [ownElems] at h
   split at h
   · rename_i x y hx hy
     simp only [Option.some.injEq] at h
     subst h
     obtain ⟨h1, h2, h3⟩ := ownElems_spec hy
     refine ⟨?_, by simp [h2], fun hl d hd => ?_⟩
     · cases g with
       | true => exact passes_append hx h1
       | false => simp only [ownG, Option.some.injEq] at hx h1 ⊢; simp [hx, h1]
     · cases hd with
       | head => rw [ownG_len hx]; exact hl e (.head _)
       | tail _ hd => exact h3 (fun d hd => hl d (.tail _ hd)) d hd
   · cases h
def InRow (E : Env) (cs : List V) (xs : List Value) : Prop := ∀ (j : Nat) (v : V), cs[j]? = some v → ∃ x, xs[j]? = some x ∧ Rel E v x ∧ x.oneCell' = true
def InRowD (I : Imm) (cs : List V) (xs : List Value) : Prop := ∀ (j : Nat) (v : V), cs[j]? = some v → ∃ x, xs[j]? = some x ∧ RelD I v x
theorem InRowD.mono {I J : Imm} (h : ∀ b o x, I b o = some x → J b o = some x) {cs : List V} {xs : List Value} (hr : InRowD I cs xs) : InRowD J cs xs :=
 fun j v hj => let ⟨x, a, c⟩ := hr j v hj; ⟨x, a, c.mono h⟩
section
variable {P : Program} {o : Oper} {a : Act} {E : Env} {N : Nat} {st : St} {w w' : World} {fr : Fr} {next : Act → World → Prop} {Q : Exit → Act → World → Prop} {K : R → Prop}
theorem fresh_im {z : Nat} (hs : Sim E st w) (gone : Option Key) (g : Bool) {cells : Array Value} {t : TypeId} {fz : Nat × Nat} (hfz : FzOk z fz cells.size) (hh : w'.heap = w.heap.push (.cells cells t fz)) (ho : SameOut w w')
 {sz cap : Nat} {ds : List (List V)} (hl : ∀ e ∈ ds, e.length = sz) (hcap : cells.size = cap * sz) (hc : ds.length ≤ cap) (hr : InRowD E.I ds.flatten cells.toList) :
 ∃ E', Sim E' ((match gone with | some k => st.remove k | none => st).push g .spare) w' ∧ Ext E st w E' ((match gone with | some k => st.remove k | none => st).push g .spare) w' ∧
  Rel E' (.sl (some (st.newKey g)) sz ds) (.slice (some ⟨w.heap.size, 0, none⟩) ds.length cap) := by
 have hfl := flat_len hl
 have hle : ds.length * sz ≤ cells.size := by rw [hcap]; exact Nat.mul_le_mul_right _ hc
 obtain ⟨E', s1, s2, s3, s4, s5⟩ := hs.newImm gone g hfz hh ho (ds.length * sz) hle
 refine ⟨E', s1, s2, ?_⟩
 have hr' := hr.mono s2.le.imm
 refine .tsl _ _ _ _ _ s3 (.sl sz ds w.heap.size 0 cap (fun j => cells.toList.getD j default) hc hl (fun j d hj => ?_) (fun j d hj => ?_)) (by rw [s4]; exact ⟨rfl, rfl⟩) (.inr ?_)
 · have hlt : j < ds.length * sz := by rw [← hfl]; exact (List.getElem?_eq_some_iff.1 hj).1
   rw [Nat.zero_add, s5 j hlt]
   have : j < cells.size := by omega
   simp [this]
 · obtain ⟨x, hx, hrx⟩ := hr' j d hj
   simp only [List.getD_eq_getElem?_getD, hx]
   exact hrx
 · rw [s4]; simp [hcap]
theorem fresh_fz {z : Nat} (hs : Sim E st w) {cells : Array Value} {t : TypeId} {fz : Nat × Nat} (hfz : FzOk z fz cells.size) (hh : w'.heap = w.heap.push (.cells cells t fz)) (ho : SameOut w w')
 {sz cap : Nat} {ds : List (List V)} (hl : ∀ e ∈ ds, e.length = sz) (hcap : cells.size = cap * sz) (hc : ds.length ≤ cap) (hr : InRowD E.I ds.flatten cells.toList) :
 ∃ E', Sim E' st w' ∧ Ext E st w E' st w' ∧ Rel E' (.sl none sz ds) (.slice (some ⟨w.heap.size, 0, none⟩) ds.length cap) := by
 obtain ⟨E', s1, s2, s3⟩ := fresh_im hs none false hfz hh ho hl hcap hc hr
 dsimp only at s1 s2
 have hlp : ∀ k, st.live k → (st.push false .spare).live k := by
  rintro k ⟨o, hk⟩
  refine ⟨o, ?_⟩
  rw [St.get_push, if_neg, hk]
  intro e
  have := hs.dom k ⟨o, hk⟩
  rw [e, hs.newKey] at this
  exact Env.not_has_newKey E false this
 have hle : E.Le { E' with nl := E.nl } := ⟨s2.le.imm, s2.le.ng, Nat.le_refl _, s2.le.loc⟩
 have hsame : ∀ k, st.live k → w'.heap[(E.μ k).blk]? = w.heap[(E.μ k).blk]? := fun k hk => by
  rw [hh, Array.getElem?_push, if_neg (Nat.ne_of_lt (hs.lt hk))]
 refine ⟨{ E' with nl := E.nl }, ⟨?_, hs.nl, fun k hk => hle.has (hs.dom k hk), s1.imm, fun k o hk => ?_, fun k k' hk hk' hne => ?_, fun k hk => s1.own k (hlp k hk)⟩,
  ⟨hle, s2.size, s2.immNew, fun k hk _ => hk, fun k hk hn => absurd (hs.dom k hk) hn, s2.same, s2.os, s2.out, s2.tape⟩, ?_⟩
 · have := s1.ng
   simpa [St.push] using this
 · have := (hs.obj k o hk).keep (Env.at_mono hle k) (hsame k ⟨o, hk⟩)
   rw [show ({ E' with nl := E.nl } : Env).μ k = E.μ k from hle.loc k (hs.dom k ⟨o, hk⟩)]
   exact this
 · rw [hle.loc k (hs.dom k hk), hle.loc k' (hs.dom k' hk')]
   exact hs.sep k k' hk hk' hne
 · cases s3 with
   | deep hd => cases hd
   | tsl _ _ _ _ _ hk hd => exact .deep hd
theorem fresh_mu {sz : Nat} (hs : Sim E st w) (gone : Option Key) (g : Bool) {cells : Array Value} {t : TypeId} {fz : Nat × Nat} (hfz : FzOk sz fz cells.size) (hh : w'.heap = w.heap.push (.cells cells t fz)) (ho : SameOut w w')
 {cap : Nat} {ds : List (List V)} (hl : ∀ e ∈ ds, e.length = sz) (hcap : cells.size = cap * sz) (hc : ds.length ≤ cap) (hr : InRow (E.ofG g) ds.flatten cells.toList) :
 ∃ E', Sim E' ((match gone with | some k => st.remove k | none => st).push g (.arr sz ds)) w' ∧ Ext E st w E' ((match gone with | some k => st.remove k | none => st).push g (.arr sz ds)) w' ∧
  Rel E' (.ms (st.newKey g) sz 0 ds.length) (.slice (some ⟨w.heap.size, 0, none⟩) ds.length cap) := by
 have hfl := flat_len hl
 have hle : ds.length * sz ≤ cells.size := by rw [hcap]; exact Nat.mul_le_mul_right _ hc
 obtain ⟨E', s1, s2, s3, s4⟩ := hs.newRow gone g hfz hh ho (.arr sz ds) ds.flatten (fun F L _ h => ⟨hl, h⟩) (by omega) (fun j v hj => let ⟨x, hx, h⟩ := hr j v hj; ⟨x, by simpa using hx, h⟩)
 refine ⟨E', s1, s2, .ms _ _ _ _ _ _ s3 hc ?_ (by rw [s4]) (.inr ?_)⟩
 · rw [s4]; simp [hcap]
 · rw [s4]; simp
theorem newSlice_ok {m : SMode} {sz : Nat} {es : List (List V)} {A : CallP} (hw : (newSlice m sz es st).wp A K) (hs : Sim E st w) {cells : Array Value} {t : TypeId} {fz : Nat × Nat} (hfz : FzOk sz fz cells.size)
 (hh : w'.heap = w.heap.push (.cells cells t fz)) (ho : SameOut w w') {cap : Nat} (hl : ∀ e ∈ es, e.length = sz) (hcap : cells.size = cap * sz) (hc : es.length ≤ cap) (hr : InRow E es.flatten cells.toList) :
 ∃ v st' E', K (v, st') ∧ Sim E' st' w' ∧ Ext E st w E' st' w' ∧ Rel E' v (.slice (some ⟨w.heap.size, 0, none⟩) es.length cap) := by
 cases m with
 | im g =>
   obtain ⟨ds, hd, hk⟩ := hw
   obtain ⟨h1, h2, h3⟩ := deepElems_spec hd
   have hrd : InRowD E.I ds.flatten cells.toList := by
    intro j d hj
    obtain ⟨v, hv, hvd⟩ := (deeps_spec h1).2 j d hj
    obtain ⟨x, hx, hrx, _⟩ := hr j v hv
    exact ⟨x, hx, deep_rel hvd hrx⟩
   obtain ⟨E', s1, s2, s3⟩ := fresh_im hs none g hfz hh ho (h3 hl) hcap (by omega) hrd
   exact ⟨_, _, E', hk, s1, s2, by rw [h2] at s3; exact s3⟩
 | fz =>
   obtain ⟨ds, hd, hk⟩ := hw
   obtain ⟨h1, h2, h3⟩ := deepElems_spec hd
   have hrd : InRowD E.I ds.flatten cells.toList := by
    intro j d hj
    obtain ⟨v, hv, hvd⟩ := (deeps_spec h1).2 j d hj
    obtain ⟨x, hx, hrx, _⟩ := hr j v hv
    exact ⟨x, hx, deep_rel hvd hrx⟩
   obtain ⟨E', s1, s2, s3⟩ := fresh_fz hs hfz hh ho (h3 hl) hcap (by omega) hrd
   exact ⟨_, _, E', hk, s1, s2, by rw [h2] at s3; exact s3⟩
 | mu g =>
   obtain ⟨ds, hd, hk⟩ := hw
   obtain ⟨h1, h2, h3⟩ := ownElems_spec hd
   have hrd : InRow (E.ofG g) ds.flatten cells.toList := by
    intro j d hj
    have hlen := ownG_len h1
    have hlt : j < es.flatten.length := by rw [← hlen]; exact (List.getElem?_eq_some_iff.1 hj).1
    obtain ⟨x, hx, hrx, h1x⟩ := hr j _ (List.getElem?_eq_getElem hlt)
    have hrl : RelL E es.flatten (cells.extract 0 es.flatten.length) := by
     have hsz : es.flatten.length ≤ cells.size := by rw [flat_len hl, hcap]; exact Nat.mul_le_mul_right _ hc
     refine ⟨by rw [Array.size_extract]; omega, fun j v y hj hy => ?_⟩
     obtain ⟨z, hz, hrz, _⟩ := hr j v hj
     rw [Array.getElem?_extract] at hy
     split at hy
     · rw [Nat.zero_add] at hy
       rw [Array.getElem?_toList, hy] at hz
       cases hz; exact hrz
     · cases hy
    have := ownG_rel h1 hrl
    refine ⟨x, hx, this.2 j d x hj ?_, h1x⟩
    have hc' : j < cells.size := by
     have := (List.getElem?_eq_some_iff.1 hx).1
     simpa using this
    rw [Array.getElem?_extract, if_pos (by omega), Nat.zero_add]
    simpa using hx
   obtain ⟨E', s1, s2, s3⟩ := fresh_mu hs none g hfz hh ho (h3 hl) hcap (by omega) hrd
   exact ⟨_, _, E', hk, s1, s2, by rw [h2] at s3 ⊢; exact s3⟩
end
end Go.Eng
