/-
The abstract machine: values, objects, heaps, interaction trees, operations. Plain definitions, no program in sight.
-/
import GoSem.Dispatch
import GoSem.Machine.Frame
namespace Go.Eng
open Go

/-- The name of an object: 'g': of the whole call tree; 'l': of one activation. -/
inductive Key where
  | g (n : Nat)
  | l (n : Nat)
  deriving DecidableEq, Inhabited

/-- Abstract values. A slice whose elements are never written again bears them ('sl'); 'sl none' without elements may be nil. -/
inductive V where
  | b (x : Bool)
  | i (k : IntKind) (n : Int)
  | s (x : List UInt8)
  | nilp
  | p (k : Key) (off : Nat)
  | pa (k : Key) (sz ix off : Nat)
  | pc (cs : List V) (off : Nat)
  | nils
  | sl (tok : Option Key) (sz : Nat) (es : List (List V))
  | ms (k : Key) (sz st len : Nat)
  | nilm
  | m (k : Key)
  | fn (f : Nat) (first captured : List V)
  | nilf
  | agg (cs : List V)
  | tup (vs : List V)
  | junk
  deriving Inhabited

inductive Obj where
  | cs (c : List V)
  | arr (sz : Nat) (es : List (List V))
  | spare
  | mp (kd : Option IntKind) (es : List (V × V))
  deriving Inhabited

structure Heap where
  next : Nat
  objs : List (Nat × Obj)
  deriving Inhabited

def Heap.find : List (Nat × Obj) → Nat → Option Obj
  | [], _ => none
  | (k, o) :: r, n => if k = n then some o else Heap.find r n
def Heap.get (h : Heap) (n : Nat) : Option Obj := Heap.find h.objs n
def Heap.upd : List (Nat × Obj) → Nat → Obj → List (Nat × Obj)
  | [], _, _ => []
  | (k, o) :: r, n, x => if k = n then (k, x) :: r else (k, o) :: Heap.upd r n x
def Heap.set (h : Heap) (n : Nat) (o : Obj) : Heap :=
  match h with
  | ⟨x, l⟩ => ⟨x, Heap.upd l n o⟩
def Heap.del : List (Nat × Obj) → Nat → List (Nat × Obj)
  | [], _ => []
  | (k, o) :: r, n => if k = n then Heap.del r n else (k, o) :: Heap.del r n
def Heap.remove (h : Heap) (n : Nat) : Heap :=
  match h with
  | ⟨x, l⟩ => ⟨x, Heap.del l n⟩
def Heap.push (h : Heap) (o : Obj) : Heap :=
  match h with
  | ⟨x, l⟩ => ⟨x + 1, (x, o) :: l⟩

structure St where
  g : Heap
  l : Heap
  deriving Inhabited

def St.get (st : St) : Key → Option Obj
  | .g n => st.g.get n
  | .l n => st.l.get n
def St.set (st : St) (k : Key) (o : Obj) : St :=
  match st with
  | ⟨a, b⟩ => match k with
    | .g n => ⟨a.set n o, b⟩
    | .l n => ⟨a, b.set n o⟩
def St.remove (st : St) (k : Key) : St :=
  match st with
  | ⟨a, b⟩ => match k with
    | .g n => ⟨a.remove n, b⟩
    | .l n => ⟨a, b.remove n⟩
/-- A new object, of the whole call tree (true) or of this activation. -/
def St.newKey (st : St) (g : Bool) : Key :=
  match st with
  | ⟨⟨x, _⟩, ⟨y, _⟩⟩ => match g with
    | true => .g x
    | false => .l y
def St.push (st : St) (g : Bool) (o : Obj) : St :=
  match st with
  | ⟨a, b⟩ => match g with
    | true => ⟨a.push o, b⟩
    | false => ⟨a, b.push o⟩
def Key.isG : Key → Bool
  | .g _ => true
  | .l _ => false

/-- What an operation comes to: a tree of what it asks. -/
inductive T (α : Type) : Type where
  | ret (a : α)
  | ite (c : Bool) (t e : T α)
  | elem (o : Option (List V)) (k : List V → T α)
  | byte (o : Option UInt8) (k : UInt8 → T α)
  | els (o : Option (List (List V))) (k : List (List V) → T α)
  | bys (o : Option (List UInt8)) (k : List UInt8 → T α)
  | obj (o : Option Obj) (k : Obj → T α)
  | optc (o : Option V) (n : T α) (k : V → T α)
  | chk (b : Bool) (k : T α)
  | wrap (kd : IntKind) (n : Int) (k : Int → T α)
  | any (k : Bool → T α)
  | same (v u : V) (k : T α)
  | call (f : Nat) (args : List V) (h : Heap) (k : V → Heap → T α)
  | fail

def T.bind {α β : Type} : T α → (α → T β) → T β
  | .ret a, f => f a
  | .ite c t e, f => .ite c (t.bind f) (e.bind f)
  | .elem o k, f => .elem o fun x => (k x).bind f
  | .byte o k, f => .byte o fun x => (k x).bind f
  | .els o k, f => .els o fun x => (k x).bind f
  | .bys o k, f => .bys o fun x => (k x).bind f
  | .obj o k, f => .obj o fun x => (k x).bind f
  | .optc o n k, f => .optc o (n.bind f) fun x => (k x).bind f
  | .chk b k, f => .chk b (k.bind f)
  | .wrap kd n k, f => .wrap kd n fun x => (k x).bind f
  | .any k, f => .any fun b => (k b).bind f
  | .same v u k, f => .same v u (k.bind f)
  | .call g as h k, f => .call g as h fun r h' => (k r h').bind f
  | .fail, _ => .fail

def T.opt {α β : Type} (o : Option α) (k : α → T β) : T β :=
  match o with
  | some x => k x
  | none => .fail

inductive Opd where
  | t (n : Nat)
  | c (v : V)
  deriving Inhabited

/-- How a new slice is kept: 'im': its elements are never written again, the right to append lies with this activation or, 'im true', with the whole call tree; 'mu': its elements may be written; 'fz': neither. -/
inductive SMode where
  | im (g : Bool)
  | mu (g : Bool)
  | fz
  deriving DecidableEq, Inhabited

/-- What cells are compared as. -/
inductive CK where
  | b
  | i
  | s
  deriving DecidableEq, Inhabited

inductive AOp where
  | mv (x : Opd)
  | asg (x : Opd)
  | pick (c a b : Opd)
  | alloc (g : Bool) (zero : List V)
  | box (g : Bool) (x : Opd)
  | bld (zero : List V) (parts : List (Nat × Nat × Opd))
  | bsl (m : SMode) (sz len : Nat) (zero : List V) (parts : List (Nat × Opd))
  | load (n : Option Nat) (a : Opd)
  | store (n : Nat) (a x : Opd)
  | nilc (x : Opd)
  | bin (op : BinOp) (x y : Opd)
  | eqc (row : Bool) (ks : List CK) (neg : Bool) (x y : Opd)
  | eqn (neg : Bool) (x y : Opd)
  | un (op : UnOp) (x : Opd)
  | cvi (k : IntKind) (x : Opd)
  | cvs (x : Opd)
  | s2b (m : SMode) (x : Opd)
  | mkb (x : Opd)
  | b2s (x : Opd)
  | mkfn (f : Nat) (captured : List Opd)
  | mkmap (g : Bool) (kd : Option IntKind)
  | mksl (m : SMode) (sz bytes : Nat) (zero : List V) (l c : Opd)
  | slstr (x : Opd) (lo hi : Option Opd)
  | slsl (sz : Nat) (x : Opd) (lo hi mx : Option Opd)
  | faddr (off : Nat) (x : Opd)
  | fld (off : Nat) (n : Option Nat) (x : Opd)
  | iasl (sz : Nat) (x i : Opd)
  | iaar (len sz : Nat) (x i : Opd)
  | ixs (x i : Opd)
  | ixa (len sz : Nat) (n : Option Nat) (x i : Opd)
  | lkp (kd : Option IntKind) (zero : V) (m k : Opd) (ok : Bool)
  | mupd (kd : Option IntKind) (m k v : Opd)
  | ext (x : Opd) (i : Nat)
  | call (f : Nat) (args : List Opd)
  | callv (f : Opd) (args : List Opd)
  | lenS (x : Opd)
  | lenL (x : Opd)
  | lenA (n : Nat)
  | lenM (x : Opd)
  | mnmx (max : Bool) (xs : List Opd)
  | append (m : SMode) (sz bytes : Nat) (s x : Opd)
  | copy (sz : Nat) (d x : Opd)
  | delete (kd : Option IntKind) (m k : Opd)
  | clear (sz : Nat) (zero : List V) (x : Opd)
  | no
  deriving Inhabited

structure AOper where
  dst : Option Nat
  op : AOp
  guard : Option (Nat × Bool) := none
  kill : List Nat := []
  deriving Inhabited

abbrev Fr := List (Nat × V)
def Fr.get : Fr → Nat → V
  | [], _ => .junk
  | (k, v) :: r, n => if k = n then v else Fr.get r n

def Opd.ev (fr : Fr) : Opd → V
  | .t n => fr.get n
  | .c v => v
def Opd.evs (fr : Fr) : List Opd → List V
  | [] => []
  | x :: r => x.ev fr :: Opd.evs fr r
def Opd.evo (fr : Fr) : Option Opd → Option V
  | none => none
  | some x => some (x.ev fr)
def evPartsB (fr : Fr) : List (Nat × Nat × Opd) → List (Nat × Nat × V)
  | [] => []
  | (a, b, x) :: r => (a, b, x.ev fr) :: evPartsB fr r
def evPartsS (fr : Fr) : List (Nat × Opd) → List (Nat × V)
  | [] => []
  | (a, x) :: r => (a, x.ev fr) :: evPartsS fr r

def V.cells : V → List V
  | .agg cs => cs
  | v => [v]

/-- One cell, or so many, out of a row of cells. -/
def ldCells (cs : List V) (off : Nat) : Option Nat → Option V
  | none => cs[off]?
  | some n => if off + n ≤ cs.length then some (.agg ((cs.drop off).take n)) else none
def stCells : List V → Nat → List V → List V
  | cs, _, [] => cs
  | cs, off, v :: r => stCells (cs.set off v) (off + 1) r
/-- May it be stored into one cell? -/
def V.one : V → Bool
  | .agg _ => false
  | .tup _ => false
  | .junk => false
  | .pc _ _ => false
  | _ => true
/-- A value that is laid into cells: one cell, or a row of them. -/
def V.sto : V → Bool
  | .agg _ => true
  | v => v.one
def stFits (cs : List V) (off : Nat) (vs : List V) : Bool := decide (off + vs.length ≤ cs.length)

/-- What may lie among immutable cells: no object's name. -/
def V.deep : V → Option V
  | .b x => some (.b x)
  | .i k n => some (.i k n)
  | .s x => some (.s x)
  | .nils => some .nils
  | .sl _ sz es => some (.sl none sz es)
  | _ => none
def deeps : List V → Option (List V)
  | [] => some []
  | v :: r => match v.deep, deeps r with
    | some x, some y => some (x :: y)
    | _, _ => none
def deepElems : List (List V) → Option (List (List V))
  | [] => some []
  | e :: r => match deeps e, deepElems r with
    | some x, some y => some (x :: y)
    | _, _ => none

/-- What may be handed to a callee, or back to a caller: no name of this activation's objects. -/
def V.out : V → Option V
  | .b x => some (.b x)
  | .i k n => some (.i k n)
  | .s x => some (.s x)
  | .nilp => some .nilp
  | .p (.g n) off => some (.p (.g n) off)
  | .pa (.g n) sz ix off => some (.pa (.g n) sz ix off)
  | .nils => some .nils
  | .sl (some (.g n)) sz es => some (.sl (some (.g n)) sz es)
  | .sl (some (.l _)) sz es => some (.sl none sz es)
  | .sl none sz es => some (.sl none sz es)
  | .ms (.g n) sz st len => some (.ms (.g n) sz st len)
  | .nilm => some .nilm
  | .m (.g n) => some (.m (.g n))
  | .nilf => some .nilf
  | _ => none
def V.outs : List V → Option (List V)
  | [] => some []
  | v :: r => match v.out, V.outs r with
    | some x, some y => some (x :: y)
    | _, _ => none
def V.pass (v : V) : Option V :=
  match v with
  | .agg cs => match V.outs cs with
    | some x => some (.agg x)
    | none => none
  | .fn f a c => match V.outs a, V.outs c with
    | some x, some y => some (.fn f x y)
    | _, _ => none
  | v => v.out
def passes : List V → Option (List V)
  | [] => some []
  | v :: r => match v.pass, passes r with
    | some x, some y => some (x :: y)
    | _, _ => none

/-- What may be laid into an object: in one of the whole call tree, no name of this activation's objects. -/
def ownG (g : Bool) (l : List V) : Option (List V) :=
  match g with
  | true => passes l
  | false => some l
def ownElems (g : Bool) : List (List V) → Option (List (List V))
  | [] => some []
  | e :: r => match ownG g e, ownElems g r with
    | some x, some y => some (x :: y)
    | _, _ => none
def ownV (g : Bool) (v : V) : Option V :=
  match g with
  | true => v.pass
  | false => some v

/-- == of bools, integers, strings, cell by cell. -/
def cellEq : CK → V → V → Option Bool
  | .b, .b x, .b y => some (x == y)
  | .i, .i k x, .i k' y => if k = k' then some (decide (x = y)) else none
  | .s, .s x, .s y => some (x == y)
  | _, _, _ => none
def cellsEq : List CK → List V → List V → Option Bool
  | [], [], [] => some true
  | k :: ks, x :: r, y :: q => match cellEq k x y, cellsEq ks r q with
    | some a, some c => some (a && c)
    | _, _ => none
  | _, _, _ => none
/-- The cells that are compared: of a struct or an array, or one alone. -/
def V.row : Bool → V → Option (List V)
  | true, .agg cs => some cs
  | true, _ => none
  | false, .agg _ => none
  | false, v => some [v]

def keyEq : V → V → Bool
  | .s x, .s y => x == y
  | .i k x, .i k' y => decide (k = k') && decide (x = y)
  | _, _ => false
/-- A map's key, of its kind: strings, or integers of one kind. -/
def V.isKeyOf : Option IntKind → V → Bool
  | none, .s _ => true
  | some k, .i k' _ => decide (k = k')
  | _, _ => false
def mfind : List (V × V) → V → Option V
  | [], _ => none
  | (k, v) :: r, x => if keyEq x k then some v else mfind r x
def mput : List (V × V) → V → V → List (V × V)
  | [], x, v => [(x, v)]
  | (k, u) :: r, x, v => if keyEq x k then (x, v) :: r else (k, u) :: mput r x v
def mdel : List (V × V) → V → List (V × V)
  | [], _ => []
  | (k, u) :: r, x => if keyEq x k then r else (k, u) :: mdel r x

/-- The bytes of cells that hold bytes. -/
def bytesOf : List (List V) → Option (List UInt8)
  | [] => some []
  | [.i .u8 n] :: r => match bytesOf r with
    | some x => some (UInt8.ofNat n.toNat :: x)
    | none => none
  | _ => none
def byteCells (x : List UInt8) : List (List V) := x.map fun c => [V.i .u8 c.toNat]

/-- Parts laid into a row of cells: each at its offset, of its size. -/
def fillParts : List V → List (Nat × Nat × V) → Option (List V)
  | cs, [] => some cs
  | cs, (off, sz, v) :: r => if v.sto = true ∧ v.cells.length = sz ∧ off + sz ≤ cs.length then fillParts (stCells cs off v.cells) r else none
def fillElems : List (List V) → Nat → List (Nat × V) → Option (List (List V))
  | es, _, [] => some es
  | es, sz, (i, v) :: r => if v.sto = true ∧ v.cells.length = sz ∧ i < es.length then fillElems (es.set i v.cells) sz r else none

abbrev R := V × St

/-- The elements that a slice's or string's value shows. -/
def elemsOf (sz : Nat) (st : St) (v : V) (k : List (List V) → T R) : T R :=
  match v with
  | .nils => k []
  | .sl _ sz' es => if sz' = sz then k es else .fail
  | .ms key sz' s n => if sz' = sz then .obj (st.get key) fun o => match o with
      | .arr sz'' es => if sz'' = sz then .chk (decide (s + n ≤ es.length)) (k ((es.drop s).take n)) else .fail
      | _ => .fail
    else .fail
  | .s x => if sz = 1 then k (byteCells x) else .fail
  | _ => .fail

def roomOk (n bytes : Nat) : Bool := decide (n * bytes ≤ 140737488355328)

/-- A new slice of so many elements: what it is, by its mode. -/
def newSlice (m : SMode) (sz : Nat) (es : List (List V)) (st : St) : T R :=
  match m with
  | .im g => .els (deepElems es) fun ds => .ret (.sl (some (st.newKey g)) sz ds, st.push g .spare)
  | .mu g => .els (ownElems g es) fun ds => .ret (.ms (st.newKey g) sz 0 ds.length, st.push g (.arr sz ds))
  | .fz => .els (deepElems es) fun ds => .ret (.sl none sz ds, st)

def doAppend (m : SMode) (sz bytes : Nat) (st : St) (s : V) (new : List (List V)) : T R :=
  match s with
  | .nils => match new with
    | [] => .ret (.nils, st)
    | e :: r => .chk (roomOk (e :: r).length bytes) (newSlice m sz (e :: r) st)
  | .sl tok sz' es => if sz' = sz then match new with
      | [] => .ret (.sl tok sz es, st)
      | e :: r => .chk (roomOk (es.length + (e :: r).length) bytes) <| .els (deepElems (e :: r)) fun ds => match tok with
        | some k => .obj (st.get k) fun o => match o with
          | .spare => .ret (.sl (some ((st.remove k).newKey k.isG)) sz (es ++ ds), (st.remove k).push k.isG .spare)
          | _ => .fail
        | none => .fail
    else .fail
  | .ms k sz' off len => if sz' = sz then match new with
      | [] => .ret (.ms k sz off len, st)
      | e :: r => .chk (roomOk (len + (e :: r).length) bytes) <| .els (ownElems k.isG (e :: r)) fun ds => .obj (st.get k) fun o => match o with
        | .arr sz'' es => if sz'' = sz then
            .chk (decide (off + len ≤ es.length)) <| .ite (decide (off + len + ds.length ≤ es.length))
              (.ret (.ms k sz off (len + ds.length), st.set k (.arr sz (es.take (off + len) ++ ds ++ es.drop (off + len + ds.length)))))
              (.ret (.ms ((st.remove k).newKey k.isG) sz 0 (len + ds.length), (st.remove k).push k.isG (.arr sz ((es.take (off + len)).drop off ++ ds))))
          else .fail
        | _ => .fail
    else .fail
  | _ => .fail

def idxOk (i : Int) (n : Nat) : Bool := decide (0 ≤ i) && decide (i < (n : Int))

def intOf1 : V → Option Int
  | .i _ n => some n
  | _ => none
/-- A slice expression's bound: what stands there, or so much. -/
def boundOr (o : Option V) (n : Int) : Option Int :=
  match o with
  | none => some n
  | some v => intOf1 v

def mnmxFold (max : Bool) : V → List V → Option V
  | v, [] => some v
  | .i k x, .i _ y :: r => match max with
    | true => mnmxFold max (.i k (if x < y then y else x)) r
    | false => mnmxFold max (.i k (if y < x then y else x)) r
  | _, _ => none

def stepBin (op : BinOp) (x y : V) (st : St) : T R :=
  match x, y with
  | .i k a, .i k' c => match op with
    | .shl => .chk (decide (0 ≤ c)) <| .wrap k (a * 2 ^ (min c.toNat k.bits)) fun r => .ret (.i k r, st)
    | .shr => .chk (decide (0 ≤ c)) <| .ret (.i k (a.fdiv (2 ^ (min c.toNat k.bits))), st)
    | .add => if k = k' then .wrap k (a + c) fun r => .ret (.i k r, st) else .fail
    | .sub => if k = k' then .wrap k (a - c) fun r => .ret (.i k r, st) else .fail
    | .mul => if k = k' then .wrap k (a * c) fun r => .ret (.i k r, st) else .fail
    | .quo => if k = k' then .chk (!decide (c = 0)) <| .wrap k (a.tdiv c) fun r => .ret (.i k r, st) else .fail
    | .rem => if k = k' then .chk (!decide (c = 0)) <| .ret (.i k (a.tmod c), st) else .fail
    | .and => if k = k' then .ret (.i k (k.wrap ((BitVec.ofInt k.bits a &&& BitVec.ofInt k.bits c).toNat)), st) else .fail
    | .or => if k = k' then .ret (.i k (k.wrap ((BitVec.ofInt k.bits a ||| BitVec.ofInt k.bits c).toNat)), st) else .fail
    | .xor => if k = k' then .ret (.i k (k.wrap ((BitVec.ofInt k.bits a ^^^ BitVec.ofInt k.bits c).toNat)), st) else .fail
    | .andNot => if k = k' then .ret (.i k (k.wrap ((BitVec.ofInt k.bits a &&& ~~~ (BitVec.ofInt k.bits c)).toNat)), st) else .fail
    | .eql => if k = k' then .ret (.b (decide (a = c)), st) else .fail
    | .neq => if k = k' then .ret (.b (!decide (a = c)), st) else .fail
    | .lss => if k = k' then .ret (.b (decide (a < c)), st) else .fail
    | .leq => if k = k' then .ret (.b (decide (a ≤ c)), st) else .fail
    | .gtr => if k = k' then .ret (.b (decide (c < a)), st) else .fail
    | .geq => if k = k' then .ret (.b (decide (c ≤ a)), st) else .fail
  | .s a, .s c => match op with
    | .add => .chk (decide (((a.length + c.length : Nat) : Int) ≤ 9223372036854775807)) <| .ret (.s (a ++ c), st)
    | .eql => .ret (.b (a == c), st)
    | .neq => .ret (.b (!(a == c)), st)
    | .lss => .ret (.b (Op.bytesLess a c), st)
    | .leq => .ret (.b (Op.bytesLess a c || a == c), st)
    | .gtr => .ret (.b (!(Op.bytesLess a c || a == c)), st)
    | .geq => .ret (.b (!Op.bytesLess a c), st)
    | _ => .fail
  | _, _ => .fail

/-- x == nil, the nil of its kind. -/
def stepNil (neg : Bool) (x y : V) (st : St) : T R :=
  match y with
  | .nilp => match x with
    | .nilp => .ret (.b (!neg), st)
    | .p _ _ => .ret (.b neg, st)
    | .pa _ _ _ _ => .ret (.b neg, st)
    | _ => .fail
  | .nils => match x with
    | .nils => .ret (.b (!neg), st)
    | .sl tok _ es => match tok with
      | some _ => .ret (.b neg, st)
      | none => .ite es.isEmpty (.any fun r => .ret (.b r, st)) (.ret (.b neg, st))
    | .ms _ _ _ _ => .ret (.b neg, st)
    | _ => .fail
  | .nilm => match x with
    | .nilm => .ret (.b (!neg), st)
    | .m _ => .ret (.b neg, st)
    | _ => .fail
  | .nilf => match x with
    | .nilf => .ret (.b (!neg), st)
    | .fn _ _ _ => .ret (.b neg, st)
    | _ => .fail
  | _ => .fail

def lkpRes (zero : V) (ok : Bool) (st : St) (o : Option V) : T R :=
  match ok with
  | true => .optc o (.ret (.tup [zero, .b false], st)) fun v => .ret (.tup [v, .b true], st)
  | false => .optc o (.ret (zero, st)) fun v => .ret (v, st)

def step (o : AOp) (fr : Fr) (st : St) : T R :=
  match o with
  | .mv x => .ret (x.ev fr, st)
  | .asg x => .ret (x.ev fr, st)
  | .pick c a d => match c.ev fr with
    | .b x => .ite x (.ret (a.ev fr, st)) (.ret (d.ev fr, st))
    | _ => .fail
  | .alloc g zero => .ret (.p (st.newKey g) 0, st.push g (.cs zero))
  | .box g x => match (x.ev fr).sto with
    | true => T.opt (ownG g (x.ev fr).cells) fun c => .ret (.p (st.newKey g) 0, st.push g (.cs c))
    | false => .fail
  | .bld zero parts => T.opt (fillParts zero (evPartsB fr parts)) fun cs => .ret (.agg cs, st)
  | .bsl m sz len zero parts => T.opt (fillElems (List.replicate len zero) sz (evPartsS fr parts)) fun es => newSlice m sz es st
  | .load n a => match a.ev fr with
    | .p k off => .obj (st.get k) fun o => match o with
      | .cs c => T.opt (ldCells c off n) fun v => .ret (v, st)
      | _ => .fail
    | .pa k sz ix off => .obj (st.get k) fun o => match o with
      | .arr sz' es => if sz' = sz then .elem es[ix]? fun e => T.opt (ldCells e off n) fun v => .ret (v, st) else .fail
      | _ => .fail
    | .pc cs off => T.opt (ldCells cs off n) fun v => .ret (v, st)
    | _ => .fail
  | .store n a x => if (x.ev fr).sto = true ∧ (x.ev fr).cells.length = n then match a.ev fr with
      | .p k off => T.opt (ownG k.isG (x.ev fr).cells) fun vs => .obj (st.get k) fun o => match o with
        | .cs c => match stFits c off vs with
          | true => .ret (.tup [], st.set k (.cs (stCells c off vs)))
          | false => .fail
        | _ => .fail
      | .pa k sz ix off => T.opt (ownG k.isG (x.ev fr).cells) fun vs => .obj (st.get k) fun o => match o with
        | .arr sz' es => if sz' = sz then .elem es[ix]? fun e => match stFits e off vs with
            | true => .ret (.tup [], st.set k (.arr sz (es.set ix (stCells e off vs))))
            | false => .fail
          else .fail
        | _ => .fail
      | _ => .fail
    else .fail
  | .nilc x => match x.ev fr with
    | .p k off => .ret (.p k off, st)
    | .pa k sz ix off => .ret (.pa k sz ix off, st)
    | .pc cs off => .ret (.pc cs off, st)
    | .fn f a c => .ret (.fn f a c, st)
    | _ => .fail
  | .bin op x y => stepBin op (x.ev fr) (y.ev fr) st
  | .eqc row ks neg x y => T.opt ((x.ev fr).row row) fun cs => T.opt ((y.ev fr).row row) fun ds => T.opt (cellsEq ks cs ds) fun r => match neg with
    | true => .ret (.b (!r), st)
    | false => .ret (.b r, st)
  | .eqn neg x y => stepNil neg (x.ev fr) (y.ev fr) st
  | .un op x => match op, x.ev fr with
    | .not, .b y => .ret (.b (!y), st)
    | .neg, .i k n => .wrap k (0 - n) fun r => .ret (.i k r, st)
    | _, _ => .fail
  | .cvi k x => match x.ev fr with
    | .i _ n => .wrap k n fun r => .ret (.i k r, st)
    | _ => .fail
  | .cvs x => match x.ev fr with
    | .s y => .ret (.s y, st)
    | _ => .fail
  | .s2b m x => match x.ev fr with
    | .s y => newSlice m 1 (byteCells y) st
    | _ => .fail
  | .mkb x => match x.ev fr with
    | .sl (some k) sz es => .obj (st.get k) fun o => match o with
      | .spare => .ret (.sl (some k) sz es, st)
      | _ => .fail
    | .ms k sz off len => .obj (st.get k) fun o => match o with
      | .arr _ _ => .ret (.ms k sz off len, st)
      | _ => .fail
    | _ => .fail
  | .b2s x => elemsOf 1 st (x.ev fr) fun es => .bys (bytesOf es) fun y => .ret (.s y, st)
  | .mkfn f cap => .ret (.fn f [] (Opd.evs fr cap), st)
  | .mkmap g kd => .ret (.m (st.newKey g), st.push g (.mp kd []))
  | .mksl m sz bytes zero l c => match l.ev fr, c.ev fr with
    | .i _ a, .i _ d => .chk (decide (0 ≤ a) && decide (a = d) && roomOk d.toNat bytes) <| newSlice m sz (List.replicate a.toNat zero) st
    | _, _ => .fail
  | .slstr x lo hi => match x.ev fr with
    | .s y => T.opt (boundOr (Opd.evo fr hi) y.length) fun h => T.opt (boundOr (Opd.evo fr lo) 0) fun l =>
      .chk (decide (0 ≤ l) && decide (l ≤ h) && decide (h ≤ (y.length : Int))) <| .ret (.s ((y.take h.toNat).drop l.toNat), st)
    | _ => .fail
  | .slsl sz x lo hi mx => match x.ev fr with
    | .nils => match mx with
      | none => T.opt (boundOr (Opd.evo fr hi) 0) fun h => T.opt (boundOr (Opd.evo fr lo) 0) fun l =>
        .chk (decide (l = 0) && decide (h = 0)) <| .ret (.nils, st)
      | some _ => .fail
    | .sl tok sz' es => if sz' = sz then match mx with
        | none => match Opd.evo fr hi with
          | none => T.opt (boundOr (Opd.evo fr lo) 0) fun l => .chk (decide (0 ≤ l) && decide (l ≤ (es.length : Int))) <| .ret (.sl tok sz (es.drop l.toNat), st)
          | some v => T.opt (intOf1 v) fun h => T.opt (boundOr (Opd.evo fr lo) 0) fun l =>
            .chk (decide (0 ≤ l) && decide (l ≤ h) && decide (h ≤ (es.length : Int))) <| .ret (.sl none sz ((es.take h.toNat).drop l.toNat), st)
        | some _ => .fail
      else .fail
    | .ms k sz' off len => if sz' = sz then T.opt (boundOr (Opd.evo fr hi) len) fun h => T.opt (boundOr (Opd.evo fr lo) 0) fun l => .obj (st.get k) fun o => match o with
        | .arr sz'' es => if sz'' = sz then match mx with
            | none => .chk (decide (0 ≤ l) && decide (l ≤ h) && decide ((off : Int) + h ≤ (es.length : Int))) <|
              .ret (.ms k sz (off + l.toNat) (h.toNat - l.toNat), st)
            | some m => T.opt (intOf1 (m.ev fr)) fun mx => .chk (decide (0 ≤ l) && decide (l ≤ h) && decide (h ≤ mx) && decide ((off : Int) + mx ≤ (es.length : Int))) <|
              .ret (.junk, st)
          else .fail
        | _ => .fail
      else .fail
    | _ => .fail
  | .faddr off x => match x.ev fr with
    | .p k o => .ret (.p k (o + off), st)
    | .pa k sz ix o => .ret (.pa k sz ix (o + off), st)
    | .pc cs o => .ret (.pc cs (o + off), st)
    | _ => .fail
  | .fld off n x => match x.ev fr with
    | .agg cs => T.opt (ldCells cs off n) fun v => .ret (v, st)
    | _ => .fail
  | .iasl sz x i => match i.ev fr with
    | .i _ n => match x.ev fr with
      | .sl _ sz' es => if sz' = sz then .chk (idxOk n es.length) <| .elem es[n.toNat]? fun e => .ret (.pc e 0, st) else .fail
      | .ms k sz' off len => if sz' = sz then .chk (idxOk n len) <| .ret (.pa k sz (off + n.toNat) 0, st) else .fail
      | _ => .fail
    | _ => .fail
  | .iaar len sz x i => match i.ev fr with
    | .i _ n => .chk (idxOk n len) <| match x.ev fr with
      | .p k o => .ret (.p k (o + n.toNat * sz), st)
      | .pa k sz' ix o => .ret (.pa k sz' ix (o + n.toNat * sz), st)
      | .pc cs o => .ret (.pc cs (o + n.toNat * sz), st)
      | _ => .fail
    | _ => .fail
  | .ixs x i => match x.ev fr, i.ev fr with
    | .s y, .i _ n => .chk (decide (0 ≤ n)) <| .byte y[n.toNat]? fun c => .ret (.i .u8 c.toNat, st)
    | _, _ => .fail
  | .ixa len sz n x i => match x.ev fr, i.ev fr with
    | .agg cs, .i _ j => .chk (idxOk j len) <| T.opt (ldCells cs (j.toNat * sz) n) fun v => .ret (v, st)
    | _, _ => .fail
  | .lkp kd zero m k ok => match (k.ev fr).isKeyOf kd with
    | true => match m.ev fr with
      | .nilm => lkpRes zero ok st none
      | .m key => .obj (st.get key) fun o => match o with
        | .mp kd' es => if kd' = kd then lkpRes zero ok st (mfind es (k.ev fr)) else .fail
        | _ => .fail
      | _ => .fail
    | false => .fail
  | .mupd kd m k v => match (k.ev fr).isKeyOf kd with
    | true => match m.ev fr with
      | .m key => .obj (st.get key) fun o => match o with
        | .mp kd' es => if kd' = kd then T.opt (ownV key.isG (v.ev fr)) fun u => .ret (.tup [], st.set key (.mp kd (mput es (k.ev fr) u))) else .fail
        | _ => .fail
      | _ => .fail
    | false => .fail
  | .ext x i => match x.ev fr with
    | .tup vs => T.opt vs[i]? fun v => .ret (v, st)
    | _ => .fail
  | .call f args => T.opt (passes (Opd.evs fr args)) fun vs => .call f vs st.g fun r h => .ret (r, ⟨h, st.l⟩)
  | .callv f args => match f.ev fr with
    | .fn g first cap => T.opt (passes (first ++ Opd.evs fr args ++ cap)) fun vs => .call g vs st.g fun r h => .ret (r, ⟨h, st.l⟩)
    | _ => .fail
  | .lenS x => match x.ev fr with
    | .s y => .ret (.i .i64 y.length, st)
    | _ => .fail
  | .lenL x => match x.ev fr with
    | .nils => .ret (.i .i64 0, st)
    | .sl _ _ es => .ret (.i .i64 es.length, st)
    | .ms _ _ _ n => .ret (.i .i64 n, st)
    | _ => .fail
  | .lenA n => .ret (.i .i64 n, st)
  | .lenM x => match x.ev fr with
    | .nilm => .ret (.i .i64 0, st)
    | .m key => .obj (st.get key) fun o => match o with
      | .mp _ es => .ret (.i .i64 es.length, st)
      | _ => .fail
    | _ => .fail
  | .mnmx max xs => match Opd.evs fr xs with
    | v :: r => T.opt (mnmxFold max v r) fun v => .ret (v, st)
    | [] => .fail
  | .append m sz bytes s x => elemsOf sz st (x.ev fr) fun new => doAppend m sz bytes st (s.ev fr) new
  | .copy sz d x => elemsOf sz st (x.ev fr) fun src => match d.ev fr with
    | .ms k sz' off len => if sz' = sz then .els (ownElems k.isG (src.take len)) fun ds => .obj (st.get k) fun o => match o with
        | .arr sz'' es => if sz'' = sz then
            .chk (decide (off + len ≤ es.length)) <| .ret (.i .i64 (ds.length : Nat), st.set k (.arr sz (es.take off ++ ds ++ es.drop (off + ds.length))))
          else .fail
        | _ => .fail
      else .fail
    | _ => .fail
  | .delete kd m k => match (k.ev fr).isKeyOf kd with
    | true => match m.ev fr with
      | .nilm => .ret (.tup [], st)
      | .m key => .obj (st.get key) fun o => match o with
        | .mp kd' es => if kd' = kd then .ret (.tup [], st.set key (.mp kd (mdel es (k.ev fr)))) else .fail
        | _ => .fail
      | _ => .fail
    | false => .fail
  | .clear sz zero x => match x.ev fr with
    | .nils => .ret (.tup [], st)
    | .ms k sz' off len => if sz' = sz then .obj (st.get k) fun o => match o with
        | .arr sz'' es => if sz'' = sz then .chk (decide (off + len ≤ es.length)) <| .ret (.tup [], st.set k (.arr sz (es.take off ++ List.replicate len zero ++ es.drop (off + len)))) else .fail
        | _ => .fail
      else .fail
    | _ => .fail
  | .no => .fail

def memNat : Nat → List Nat → Bool
  | _, [] => false
  | n, k :: r => match Nat.beq n k with
    | true => true
    | false => memNat n r
/-- A value in its head form. -/
def V.force {α : Type} (v : V) (k : V → α) : α :=
  match v with
  | .b x => k (.b x)
  | .i kd n => k (.i kd n)
  | .s x => k (.s x)
  | .nilp => k .nilp
  | .p a o => k (.p a o)
  | .pa a z ix o => k (.pa a z ix o)
  | .pc c o => k (.pc c o)
  | .nils => k .nils
  | .sl t z e => k (.sl t z e)
  | .ms a z u l => k (.ms a z u l)
  | .nilm => k .nilm
  | .m a => k (.m a)
  | .fn f a c => k (.fn f a c)
  | .nilf => k .nilf
  | .agg c => k (.agg c)
  | .tup c => k (.tup c)
  | .junk => k .junk
/-- A frame without some slots, spelt out. -/
def Fr.cut {α : Type} : Fr → List Nat → (Fr → α) → α
  | [], _, k => k []
  | (n, v) :: r, ks, k => match memNat n ks with
    | true => Fr.cut r ks k
    | false => Fr.cut r ks fun r' => k ((n, v) :: r')
/-- The frame behind an operation. -/
def Fr.after {α : Type} (fr : Fr) (dst : Option Nat) (v : V) (kill : List Nat) (k : Fr → α) : α :=
  match dst with
  | some d => match kill with
    | [] => v.force fun v => k ((d, v) :: fr)
    | x :: ks => match memNat d (x :: ks) with
      | true => fr.cut (d :: x :: ks) k
      | false => fr.cut (d :: x :: ks) fun r => v.force fun v => k ((d, v) :: r)
  | none => match kill with
    | [] => k fr
    | x :: ks => fr.cut (x :: ks) k

/-- The operations of a region in the text's order. -/
def runOps : List AOper → Fr → St → T (Fr × St)
  | [], fr, st => .ret (fr, st)
  | o :: rest, fr, st =>
    match o.guard with
    | none => (step o.op fr st).bind fun x => match x with
      | (v, st) => fr.after o.dst v o.kill fun fr => runOps rest fr st
    | some (t, want) => match fr.get t with
      | .b x => match want with
        | true => .ite x
          (fr.cut [t] fun r => (step o.op ((t, .b true) :: r) st).bind fun x => match x with
            | (v, st) => Fr.after ((t, .b true) :: r) o.dst v o.kill fun fr => runOps rest fr st)
          (fr.cut [t] fun r => Fr.after ((t, .b false) :: r) o.dst (.tup []) o.kill fun fr => runOps rest fr st)
        | false => .ite x
          (fr.cut [t] fun r => Fr.after ((t, .b true) :: r) o.dst (.tup []) o.kill fun fr => runOps rest fr st)
          (fr.cut [t] fun r => (step o.op ((t, .b false) :: r) st).bind fun x => match x with
            | (v, st) => Fr.after ((t, .b false) :: r) o.dst v o.kill fun fr => runOps rest fr st)
      | .tup _ => fr.after o.dst (.tup []) o.kill fun fr => runOps rest fr st
      | _ => .fail

/-- An operation of a region whose order is drawn: its number there; whether it may turn memory; what is looked at again behind it. -/
structure DOper where
  ix : Nat
  o : AOper
  loud : Bool
  re : List Nat
  deriving Inhabited

/-- What is done or passed over, by a guard; behind the split the guard's slot is spelt out. -/
def gated {α : Type} (g : Option (Nat × Bool)) (fr : Fr) (yes no : Fr → T α) : T α :=
  match g with
  | none => yes fr
  | some (t, want) => match fr.get t with
    | .b x => match want with
      | true => .ite x (fr.cut [t] fun r => yes ((t, .b true) :: r)) (fr.cut [t] fun r => no ((t, .b false) :: r))
      | false => .ite x (fr.cut [t] fun r => no ((t, .b true) :: r)) (fr.cut [t] fun r => yes ((t, .b false) :: r))
    | .tup _ => no fr
    | _ => .fail
def gateNow (g : Option (Nat × Bool)) (fr : Fr) : Option Bool :=
  match g with
  | none => some true
  | some (t, want) => match fr.get t with
    | .b x => some (x == want)
    | .tup _ => some false
    | _ => none
/-- What was looked at is looked at again: it is as it was. -/
def recheck {α : Type} (re : List Nat) : List DOper → Fr → St → T α → T α
  | [], _, _, k => k
  | p :: ps, fr, st, k => match memNat p.ix re with
    | true => match gateNow p.o.guard fr with
      | some true => (step p.o.op fr st).bind fun x => match p.o.dst with
        | some d => .same (fr.get d) x.1 (recheck re ps fr st k)
        | none => recheck re ps fr st k
      | some false => recheck re ps fr st k
      | none => .fail
    | false => recheck re ps fr st k
/-- The operations of a region whose order is drawn, in the order that serves for all. 'done': those that went before. -/
def runD : List DOper → List DOper → Fr → St → T (Fr × St)
  | _, [], fr, st => .ret (fr, st)
  | done, d :: rest, fr, st => gated d.o.guard fr
    (fun fr => (step d.o.op fr st).bind fun x => match x with
      | (v, st) => fr.after d.o.dst v [] fun fr => recheck d.re done fr st (runD (d :: done) rest fr st))
    (fun fr => fr.after d.o.dst (.tup []) [] fun fr => runD (d :: done) rest fr st)

inductive AC where
  | skip
  | reg (ops : List AOper)
  | dreg (ops : List DOper) (kill : List Nat)
  | seq (a b : AC)
  | cond (c : Opd) (a b : AC)
  | blk (id : Nat) (b : AC)
  | loop (b : AC)
  | exit (id : Nat)
  | ret
  | no
  deriving Inhabited

inductive RV where
  | t (n : Nat)
  | cell (n : Nat) (sz : Option Nat)
  deriving Inhabited

structure AFn where
  nparams : Nat
  body : AC
  results : List RV
  deriving Inhabited

inductive Ex where
  | normal
  | exit (id : Nat)
  | ret
  deriving DecidableEq, Inhabited

def paramFrame : Nat → List V → Fr
  | _, [] => []
  | n, v :: r => (n, v) :: paramFrame (n + 1) r

def resVal (fr : Fr) (st : St) : RV → Option V
  | .t n => (fr.get n).pass
  | .cell n sz => match fr.get n with
    | .p k off => match st.get k with
      | some (.cs c) => match ldCells c off sz with
        | some v => v.pass
        | none => none
      | _ => none
    | _ => none
def resVals (fr : Fr) (st : St) : List RV → Option (List V)
  | [] => some []
  | r :: rs => match resVal fr st r, resVals fr st rs with
    | some v, some vs => some (v :: vs)
    | _, _ => none
def resOf (fr : Fr) (st : St) (rs : List RV) : Option V :=
  match resVals fr st rs with
  | some [v] => some v
  | some vs => some (.tup vs)
  | none => none

mutual
/-- The same value (told only where it is plain that it is). -/
def V.beq : V → V → Bool
  | .b x, .b y => x == y
  | .i k n, .i k' n' => decide (k = k') && decide (n = n')
  | .s x, .s y => x == y
  | .nilp, .nilp => true
  | .p k o, .p k' o' => decide (k = k') && decide (o = o')
  | .pa k z j o, .pa k' z' j' o' => decide (k = k') && decide (z = z') && decide (j = j') && decide (o = o')
  | .nils, .nils => true
  | .sl t z es, .sl t' z' es' => decide (t = t') && decide (z = z') && V.beqLL es es'
  | .ms k z u l, .ms k' z' u' l' => decide (k = k') && decide (z = z') && decide (u = u') && decide (l = l')
  | .nilm, .nilm => true
  | .m k, .m k' => decide (k = k')
  | .nilf, .nilf => true
  | .agg cs, .agg ds => V.beqL cs ds
  | .tup cs, .tup ds => V.beqL cs ds
  | _, _ => false
def V.beqL : List V → List V → Bool
  | [], [] => true
  | v :: r, u :: q => V.beq v u && V.beqL r q
  | _, _ => false
def V.beqLL : List (List V) → List (List V) → Bool
  | [], [] => true
  | v :: r, u :: q => V.beqL v u && V.beqLL r q
  | _, _ => false
end

/-- A run, of so much fuel. 'rf': what a call answers. -/
def T.run {α : Type} (rf : Nat → List V → Heap → Option (V × Heap)) : T α → Option α
  | .ret a => some a
  | .ite c t e => match c with
    | true => t.run rf
    | false => e.run rf
  | .elem o k => match o with
    | some x => (k x).run rf
    | none => none
  | .byte o k => match o with
    | some x => (k x).run rf
    | none => none
  | .els o k => match o with
    | some x => (k x).run rf
    | none => none
  | .bys o k => match o with
    | some x => (k x).run rf
    | none => none
  | .obj o k => match o with
    | some x => (k x).run rf
    | none => none
  | .optc o n k => match o with
    | some x => (k x).run rf
    | none => n.run rf
  | .chk c k => match c with
    | true => k.run rf
    | false => none
  | .wrap kd n k => (k (kd.wrap n)).run rf
  | .any _ => none
  | .same v u k => match v.beq u with
    | true => k.run rf
    | false => none
  | .call f args h k => match rf f args h with
    | some (r, h') => (k r h').run rf
    | none => none
  | .fail => none
end Go.Eng
