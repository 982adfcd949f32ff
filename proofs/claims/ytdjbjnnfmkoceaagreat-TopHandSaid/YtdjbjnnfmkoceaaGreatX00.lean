/-
The abstract machine: values, objects, heaps, interaction trees, operations. Plain definitions, no program in sight.
-/
import GoSem.Dispatch
import GoSem.Machine.Frame
import Derived.Calls
import Derived.Deep.MidRow
import Derived.ArgAppend
import Derived.MapKept
import Derived.Laws.Entries
import Derived.Laws.MakeOwn
set_option linter.unusedVariables false
set_option linter.unusedSimpArgs false
namespace Go.Eng
open Go
inductive Key where
 |g (n:Nat)
 |l (n:Nat)
 deriving DecidableEq,Inhabited
inductive V where
 |b (x:Bool)
 |i (k:IntKind) (n:Int)
 |s (x:List UInt8)
 |dZ
 |p (k:Key) (off:Nat)
 |pa (k:Key) (sz ix off:Nat)
 |pc (cs:List V) (off:Nat)
 |bU
 |sl (tok:Option Key) (sz:Nat) (es:List (List V))
 |ms (k:Key) (sz st len:Nat)
 |cY
 |m (k:Key)
 |fn (f:Nat) (first captured:List V)
 |eA
 |agg (cs:List V)
 |bO (vs:List V)
 |a8
 deriving Inhabited
inductive Obj where
 |cs (c:List V)
 |arr (sz:Nat) (es:List (List V))
 |spare
 |mp (kd:Option IntKind) (es:List (V×V))
 deriving Inhabited
structure aA where
 next:Nat
 CP:List (Nat×Obj)
 deriving Inhabited
def aA.find:List (Nat×Obj)->Nat->Option Obj
 |[],_=>none
 |(k,o)::r,n=>if k=n then some o else aA.find r n
def aA.get (h:aA) (n:Nat):Option Obj:=aA.find h.CP n
def aA.rF:List (Nat×Obj)->Nat->Obj->List (Nat×Obj)
 |[],_,_=>[]
 |(k,o)::r,n,x=>if k=n then (k,x)::r else (k,o)::aA.rF r n x
def aA.set (h:aA) (n:Nat) (o:Obj):aA:=
 match h with
 |⟨x,l⟩=>⟨x,aA.rF l n o⟩
def aA.del:List (Nat×Obj)->Nat->List (Nat×Obj)
 |[],_=>[]
 |(k,o)::r,n=>if k=n then aA.del r n else (k,o)::aA.del r n
def aA.remove (h:aA) (n:Nat):aA:=
 match h with
 |⟨x,l⟩=>⟨x,aA.del l n⟩
def aA.push (h:aA) (o:Obj):aA:=
 match h with
 |⟨x,l⟩=>⟨x+1,(x,o)::l⟩
structure St where
 g:aA
 l:aA
 deriving Inhabited
def St.get (st:St):Key->Option Obj
 |.g n=>st.g.get n
 |.l n=>st.l.get n
def St.set (st:St) (k:Key) (o:Obj):St:=
 match st with
 |⟨a,b⟩=>match k with
  |.g n=>⟨a.set n o,b⟩
  |.l n=>⟨a,b.set n o⟩
def St.remove (st:St) (k:Key):St:=
 match st with
 |⟨a,b⟩=>match k with
  |.g n=>⟨a.remove n,b⟩
  |.l n=>⟨a,b.remove n⟩
def St.aE (st:St) (g:Bool):Key:=
 match st with
 |⟨⟨x,_⟩,⟨y,_⟩⟩=>match g with
  |true=>.g x
  |false=>.l y
def St.push (st:St) (g:Bool) (o:Obj):St:=
 match st with
 |⟨a,b⟩=>match g with
  |true=>⟨a.push o,b⟩
  |false=>⟨a,b.push o⟩
def Key.lH:Key->Bool
 |.g _=>true
 |.l _=>false
inductive T (α:Type):Type where
 |ret (a:α)
 |ite (c:Bool) (t e:T α)
 |elem (o:Option (List V)) (k:List V->T α)
 |byte (o:Option UInt8) (k:UInt8->T α)
 |eU (o:Option (List (List V))) (k:List (List V)->T α)
 |CQ (o:Option (List UInt8)) (k:List UInt8->T α)
 |obj (o:Option Obj) (k:Obj->T α)
 |jR (o:Option V) (n:T α) (k:V->T α)
 |jE (b:Bool) (k:T α)
 |wrap (kd:IntKind) (n:Int) (k:Int->T α)
 |any (k:Bool->T α)
 |same (v u:V) (k:T α)
 |call (f:Nat) (args:List V) (h:aA) (k:V->aA->T α)
 |fail
def T.bind {α β:Type}:T α->(α->T β)->T β
 |.ret a,f=>f a
 |.ite c t e,f=>.ite c (t.bind f) (e.bind f)
 |.elem o k,f=>.elem o fun x=>(k x).bind f
 |.byte o k,f=>.byte o fun x=>(k x).bind f
 |.eU o k,f=>.eU o fun x=>(k x).bind f
 |.CQ o k,f=>.CQ o fun x=>(k x).bind f
 |.obj o k,f=>.obj o fun x=>(k x).bind f
 |.jR o n k,f=>.jR o (n.bind f) fun x=>(k x).bind f
 |.jE b k,f=>.jE b (k.bind f)
 |.wrap kd n k,f=>.wrap kd n fun x=>(k x).bind f
 |.any k,f=>.any fun b=>(k b).bind f
 |.same v u k,f=>.same v u (k.bind f)
 |.call g aeN h k,f=>.call g aeN h fun r h'=>(k r h').bind f
 |.fail,_=>.fail
def T.opt {α β:Type} (o:Option α) (k:α->T β):T β:=
 match o with
 |some x=>k x
 |none=>.fail
inductive aV where
 |t (n:Nat)
 |c (v:V)
 deriving Inhabited
inductive gI where
 |im (g:Bool)
 |mu (g:Bool)
 |fz
 deriving DecidableEq,Inhabited
inductive CK where
 |b
 |i
 |s
 deriving DecidableEq,Inhabited
inductive pQ where
 |mv (x:aV)
 |IU (x:aV)
 |pick (c a b:aV)
 |alloc (g:Bool) (zero:List V)
 |box (g:Bool) (x:aV)
 |IW (zero:List V) (parts:List (Nat×Nat×aV))
 |IX (m:gI) (sz len:Nat) (zero:List V) (parts:List (Nat×aV))
 |load (n:Option Nat) (a:aV)
 |store (n:Nat) (a x:aV)
 |rG (x:aV)
 |bin (op:BinOp) (x y:aV)
 |N8 (row:Bool) (ks:List CK) (neg:Bool) (x y:aV)
 |RH (neg:Bool) (x y:aV)
 |un (op:UnOp) (x:aV)
 |N9 (k:IntKind) (x:aV)
 |Oa (x:aV)
 |IY (m:gI) (x:aV)
 |Ob (x:aV)
 |Ga (x:aV)
 |zL (f:Nat) (captured:List aV)
 |uF (g:Bool) (kd:Option IntKind)
 |CR (m:gI) (sz bytes:Nat) (zero:List V) (l c:aV)
 |pW (x:aV) (lo hi:Option aV)
 |mY (sz:Nat) (x:aV) (lo hi mx:Option aV)
 |jS (off:Nat) (x:aV)
 |Hf (off:Nat) (n:Option Nat) (x:aV)
 |zM (sz:Nat) (x i:aV)
 |zN (len sz:Nat) (x i:aV)
 |Od (x i:aV)
 |IG (len sz:Nat) (n:Option Nat) (x i:aV)
 |IZ (kd:Option IntKind) (zero:V) (m k:aV) (ok:Bool)
 |zO (kd:Option IntKind) (m k v:aV)
 |ext (x:aV) (i:Nat)
 |call (f:Nat) (args:List aV)
 |pX (f:aV) (args:List aV)
 |zP (x:aV)
 |zQ (x:aV)
 |zR (n:Nat)
 |zS (x:aV)
 |rH (max:Bool) (xs:List aV)
 |append (m:gI) (sz bytes:Nat) (s x:aV)
 |copy (sz:Nat) (d x:aV)
 |delete (kd:Option IntKind) (m k:aV)
 |clear (sz:Nat) (zero:List V) (x:aV)
 |no
 deriving Inhabited
structure cD where
 dst:Option Nat
 op:pQ
 guard:Option (Nat×Bool):=none
 kill:List Nat:=[]
 deriving Inhabited
abbrev Fr:=List (Nat×V)
def Fr.get:Fr->Nat->V
 |[],_=>.a8
 |(k,v)::r,n=>if k=n then v else Fr.get r n
def aV.ev (fr:Fr):aV->V
 |.t n=>fr.get n
 |.c v=>v
def aV.wH (fr:Fr):List aV->List V
 |[]=>[]
 |x::r=>x.ev fr::aV.wH fr r
def aV.mZ (fr:Fr):Option aV->Option V
 |none=>none
 |some x=>some (x.ev fr)
def cE (fr:Fr):List (Nat×Nat×aV)->List (Nat×Nat×V)
 |[]=>[]
 |(a,b,x)::r=>(a,b,x.ev fr)::cE fr r
def dT (fr:Fr):List (Nat×aV)->List (Nat×V)
 |[]=>[]
 |(a,x)::r=>(a,x.ev fr)::dT fr r
def V.cells:V->List V
 |.agg cs=>cs
 |v=>[v]
def cG (cs:List V) (off:Nat):Option Nat->Option V
 |none=>cs[off]?
 |some n=>if off+n<=cs.length then some (.agg ((cs.drop off).take n)) else none
def b8:List V->Nat->List V->List V
 |cs,_,[]=>cs
 |cs,off,v::r=>b8 (cs.set off v) (off+1) r
def V.one:V->Bool
 |.agg _=>false
 |.bO _=>false
 |.a8=>false
 |.pc _ _=>false
 |_=>true
def V.RI:V->Bool
 |.agg _=>true
 |v=>v.one
def kY (cs:List V) (off:Nat) (vs:List V):Bool:=decide (off+vs.length<=cs.length)
def V.deep:V->Option V
 |.b x=>some (.b x)
 |.i k n=>some (.i k n)
 |.s x=>some (.s x)
 |.bU=>some .bU
 |.sl _ sz es=>some (.sl none sz es)
 |_=>none
def hY:List V->Option (List V)
 |[]=>some []
 |v::r=>match v.deep,hY r with
  |some x,some y=>some (x::y)
  |_,_=>none
def dD:List (List V)->Option (List (List V))
 |[]=>some []
 |e::r=>match hY e,dD r with
  |some x,some y=>some (x::y)
  |_,_=>none
def V.out:V->Option V
 |.b x=>some (.b x)
 |.i k n=>some (.i k n)
 |.s x=>some (.s x)
 |.dZ=>some .dZ
 |.p (.g n) off=>some (.p (.g n) off)
 |.pa (.g n) sz ix off=>some (.pa (.g n) sz ix off)
 |.bU=>some .bU
 |.sl (some (.g n)) sz es=>some (.sl (some (.g n)) sz es)
 |.sl (some (.l _)) sz es=>some (.sl none sz es)
 |.sl none sz es=>some (.sl none sz es)
 |.ms (.g n) sz st len=>some (.ms (.g n) sz st len)
 |.cY=>some .cY
 |.m (.g n)=>some (.m (.g n))
 |.eA=>some .eA
 |_=>none
def V.outs:List V->Option (List V)
 |[]=>some []
 |v::r=>match v.out,V.outs r with
  |some x,some y=>some (x::y)
  |_,_=>none
def V.pass (v:V):Option V:=
 match v with
 |.agg cs=>match V.outs cs with
  |some x=>some (.agg x)
  |none=>none
 |.fn f a c=>match V.outs a,V.outs c with
  |some x,some y=>some (.fn f x y)
  |_,_=>none
 |v=>v.out
def dI:List V->Option (List V)
 |[]=>some []
 |v::r=>match v.pass,dI r with
  |some x,some y=>some (x::y)
  |_,_=>none
def lJ (g:Bool) (l:List V):Option (List V):=
 match g with
 |true=>dI l
 |false=>some l
def dF (g:Bool):List (List V)->Option (List (List V))
 |[]=>some []
 |e::r=>match lJ g e,dF g r with
  |some x,some y=>some (x::y)
  |_,_=>none
def CS (g:Bool) (v:V):Option V:=
 match g with
 |true=>v.pass
 |false=>some v
def jT:CK->V->V->Option Bool
 |.b,.b x,.b y=>some (x==y)
 |.i,.i k x,.i k' y=>if k=k' then some (decide (x=y)) else none
 |.s,.s x,.s y=>some (x==y)
 |_,_,_=>none
def bV:List CK->List V->List V->Option Bool
 |[],[],[]=>some true
 |k::ks,x::r,y::q=>match jT k x y,bV ks r q with
  |some a,some c=>some (a&&c)
  |_,_=>none
 |_,_,_=>none
def V.row:Bool->V->Option (List V)
 |true,.agg cs=>some cs
 |true,_=>none
 |false,.agg _=>none
 |false,v=>some [v]
def lK:V->V->Bool
 |.s x,.s y=>x==y
 |.i k x,.i k' y=>decide (k=k')&&decide (x=y)
 |_,_=>false
def V.cB:Option IntKind->V->Bool
 |none,.s _=>true
 |some k,.i k' _=>decide (k=k')
 |_,_=>false
def rI:List (V×V)->V->Option V
 |[],_=>none
 |(k,v)::r,x=>if lK x k then some v else rI r x
def dU:List (V×V)->V->V->List (V×V)
 |[],x,v=>[(x,v)]
 |(k,u)::r,x,v=>if lK x k then (x,v)::r else (k,u)::dU r x v
def CT:List (V×V)->V->List (V×V)
 |[],_=>[]
 |(k,u)::r,x=>if lK x k then r else (k,u)::CT r x
def bytesOf:List (List V)->Option (List UInt8)
 |[]=>some []
 |[.i .u8 n]::r=>match bytesOf r with
  |some x=>some (UInt8.ofNat n.toNat::x)
  |none=>none
 |_=>none
def cT (x:List UInt8):List (List V):=x.map fun c=>[V.i .u8 c.toNat]
def fI:List V->List (Nat×Nat×V)->Option (List V)
 |cs,[]=>some cs
 |cs,(off,sz,v)::r=>if v.RI=true/\v.cells.length=sz/\off+sz<=cs.length then fI (b8 cs off v.cells) r else none
def iB:List (List V)->Nat->List (Nat×V)->Option (List (List V))
 |es,_,[]=>some es
 |es,sz,(i,v)::r=>if v.RI=true/\v.cells.length=sz/\i<es.length then iB (es.set i v.cells) sz r else none
abbrev R:=V×St
def eD (sz:Nat) (st:St) (v:V) (k:List (List V)->T R):T R:=
 match v with
 |.bU=>k []
 |.sl _ cS es=>if cS=sz then k es else .fail
 |.ms key cS s n=>if cS=sz then .obj (st.get key) fun o=>match o with
   |.arr dB es=>if dB=sz then .jE (decide (s+n<=es.length)) (k ((es.drop s).take n)) else .fail
   |_=>.fail
  else .fail
 |.s x=>if sz=1 then k (cT x) else .fail
 |_=>.fail
def eW (n bytes:Nat):Bool:=decide (n*bytes<=140737488355328)
def jU (m:gI) (sz:Nat) (es:List (List V)) (st:St):T R:=
 match m with
 |.im g=>.eU (dD es) fun ds=>.ret (.sl (some (st.aE g)) sz ds,st.push g .spare)
 |.mu g=>.eU (dF g es) fun ds=>.ret (.ms (st.aE g) sz 0 ds.length,st.push g (.arr sz ds))
 |.fz=>.eU (dD es) fun ds=>.ret (.sl none sz ds,st)
def fN (m:gI) (sz bytes:Nat) (st:St) (s:V) (new:List (List V)):T R:=
 match s with
 |.bU=>match new with
  |[]=>.ret (.bU,st)
  |e::r=>.jE (eW (e::r).length bytes) (jU m sz (e::r) st)
 |.sl tok cS es=>if cS=sz then match new with
   |[]=>.ret (.sl tok sz es,st)
   |e::r=>.jE (eW (es.length+(e::r).length) bytes)<|.eU (dD (e::r)) fun ds=>match tok with
    |some k=>.obj (st.get k) fun o=>match o with
     |.spare=>.ret (.sl (some ((st.remove k).aE k.lH)) sz (es++ds),(st.remove k).push k.lH .spare)
     |_=>.fail
    |none=>.fail
  else .fail
 |.ms k cS off len=>if cS=sz then match new with
   |[]=>.ret (.ms k sz off len,st)
   |e::r=>.jE (eW (len+(e::r).length) bytes)<|.eU (dF k.lH (e::r)) fun ds=>.obj (st.get k) fun o=>match o with
    |.arr dB es=>if dB=sz then
      .jE (decide (off+len<=es.length))<|.ite (decide (off+len+ds.length<=es.length))
       (.ret (.ms k sz off (len+ds.length),st.set k (.arr sz (es.take (off+len)++ds++es.drop (off+len+ds.length)))))
       (.ret (.ms ((st.remove k).aE k.lH) sz 0 (len+ds.length),(st.remove k).push k.lH (.arr sz ((es.take (off+len)).drop off++ds))))
     else .fail
    |_=>.fail
  else .fail
 |_=>.fail
def kJ (i:Int) (n:Nat):Bool:=decide (0<=i)&&decide (i<(n:Int))
def m6:V->Option Int
 |.i _ n=>some n
 |_=>none
def cL (o:Option V) (n:Int):Option Int:=
 match o with
 |none=>some n
 |some v=>m6 v
def eM (max:Bool):V->List V->Option V
 |v,[]=>some v
 |.i k x,.i _ y::r=>match max with
  |true=>eM max (.i k (if x<y then y else x)) r
  |false=>eM max (.i k (if y<x then y else x)) r
 |_,_=>none
def cK (op:BinOp) (x y:V) (st:St):T R:=
 match x,y with
 |.i k a,.i k' c=>match op with
  |.shl=>.jE (decide (0<=c))<|.wrap k (a*2 ^ (min c.toNat k.bits)) fun r=>.ret (.i k r,st)
  |.shr=>.jE (decide (0<=c))<|.ret (.i k (a.fdiv (2 ^ (min c.toNat k.bits))),st)
  |.add=>if k=k' then .wrap k (a+c) fun r=>.ret (.i k r,st) else .fail
  |.sub=>if k=k' then .wrap k (a - c) fun r=>.ret (.i k r,st) else .fail
  |.mul=>if k=k' then .wrap k (a*c) fun r=>.ret (.i k r,st) else .fail
  |.quo=>if k=k' then .jE (!decide (c=0))<|.wrap k (a.tdiv c) fun r=>.ret (.i k r,st) else .fail
  |.rem=>if k=k' then .jE (!decide (c=0))<|.ret (.i k (a.tmod c),st) else .fail
  |.and=>if k=k' then .ret (.i k (k.wrap ((BitVec.ofInt k.bits a&&&BitVec.ofInt k.bits c).toNat)),st) else .fail
  |.or=>if k=k' then .ret (.i k (k.wrap ((BitVec.ofInt k.bits a|||BitVec.ofInt k.bits c).toNat)),st) else .fail
  |.xor=>if k=k' then .ret (.i k (k.wrap ((BitVec.ofInt k.bits a ^^^ BitVec.ofInt k.bits c).toNat)),st) else .fail
  |.andNot=>if k=k' then .ret (.i k (k.wrap ((BitVec.ofInt k.bits a&&&~~~ (BitVec.ofInt k.bits c)).toNat)),st) else .fail
  |.eql=>if k=k' then .ret (.b (decide (a=c)),st) else .fail
  |.neq=>if k=k' then .ret (.b (!decide (a=c)),st) else .fail
  |.lss=>if k=k' then .ret (.b (decide (a<c)),st) else .fail
  |.leq=>if k=k' then .ret (.b (decide (a<=c)),st) else .fail
  |.gtr=>if k=k' then .ret (.b (decide (c<a)),st) else .fail
  |.geq=>if k=k' then .ret (.b (decide (c<=a)),st) else .fail
 |.s a,.s c=>match op with
  |.add=>.jE (decide (((a.length+c.length:Nat):Int)<=9223372036854775807))<|.ret (.s (a++c),st)
  |.eql=>.ret (.b (a==c),st)
  |.neq=>.ret (.b (!(a==c)),st)
  |.lss=>.ret (.b (Op.bytesLess a c),st)
  |.leq=>.ret (.b (Op.bytesLess a c||a==c),st)
  |.gtr=>.ret (.b (!(Op.bytesLess a c||a==c)),st)
  |.geq=>.ret (.b (!Op.bytesLess a c),st)
  |_=>.fail
 |_,_=>.fail
def oZ (neg:Bool) (x y:V) (st:St):T R:=
 match y with
 |.dZ=>match x with
  |.dZ=>.ret (.b (!neg),st)
  |.p _ _=>.ret (.b neg,st)
  |.pa _ _ _ _=>.ret (.b neg,st)
  |_=>.fail
 |.bU=>match x with
  |.bU=>.ret (.b (!neg),st)
  |.sl tok _ es=>match tok with
   |some _=>.ret (.b neg,st)
   |none=>.ite es.isEmpty (.any fun r=>.ret (.b r,st)) (.ret (.b neg,st))
  |.ms _ _ _ _=>.ret (.b neg,st)
  |_=>.fail
 |.cY=>match x with
  |.cY=>.ret (.b (!neg),st)
  |.m _=>.ret (.b neg,st)
  |_=>.fail
 |.eA=>match x with
  |.eA=>.ret (.b (!neg),st)
  |.fn _ _ _=>.ret (.b neg,st)
  |_=>.fail
 |_=>.fail
def qE (zero:V) (ok:Bool) (st:St) (o:Option V):T R:=
 match ok with
 |true=>.jR o (.ret (.bO [zero,.b false],st)) fun v=>.ret (.bO [v,.b true],st)
 |false=>.jR o (.ret (zero,st)) fun v=>.ret (v,st)
def step (o:pQ) (fr:Fr) (st:St):T R:=
 match o with
 |.mv x=>.ret (x.ev fr,st)
 |.IU x=>.ret (x.ev fr,st)
 |.pick c a d=>match c.ev fr with
  |.b x=>.ite x (.ret (a.ev fr,st)) (.ret (d.ev fr,st))
  |_=>.fail
 |.alloc g zero=>.ret (.p (st.aE g) 0,st.push g (.cs zero))
 |.box g x=>match (x.ev fr).RI with
  |true=>T.opt (lJ g (x.ev fr).cells) fun c=>.ret (.p (st.aE g) 0,st.push g (.cs c))
  |false=>.fail
 |.IW zero parts=>T.opt (fI zero (cE fr parts)) fun cs=>.ret (.agg cs,st)
 |.IX m sz len zero parts=>T.opt (iB (List.replicate len zero) sz (dT fr parts)) fun es=>jU m sz es st
 |.load n a=>match a.ev fr with
  |.p k off=>.obj (st.get k) fun o=>match o with
   |.cs c=>T.opt (cG c off n) fun v=>.ret (v,st)
   |_=>.fail
  |.pa k sz ix off=>.obj (st.get k) fun o=>match o with
   |.arr cS es=>if cS=sz then .elem es[ix]? fun e=>T.opt (cG e off n) fun v=>.ret (v,st) else .fail
   |_=>.fail
  |.pc cs off=>T.opt (cG cs off n) fun v=>.ret (v,st)
  |_=>.fail
 |.store n a x=>if (x.ev fr).RI=true/\(x.ev fr).cells.length=n then match a.ev fr with
   |.p k off=>T.opt (lJ k.lH (x.ev fr).cells) fun vs=>.obj (st.get k) fun o=>match o with
    |.cs c=>match kY c off vs with
     |true=>.ret (.bO [],st.set k (.cs (b8 c off vs)))
     |false=>.fail
    |_=>.fail
   |.pa k sz ix off=>T.opt (lJ k.lH (x.ev fr).cells) fun vs=>.obj (st.get k) fun o=>match o with
    |.arr cS es=>if cS=sz then .elem es[ix]? fun e=>match kY e off vs with
      |true=>.ret (.bO [],st.set k (.arr sz (es.set ix (b8 e off vs))))
      |false=>.fail
     else .fail
    |_=>.fail
   |_=>.fail
  else .fail
 |.rG x=>match x.ev fr with
  |.p k off=>.ret (.p k off,st)
  |.pa k sz ix off=>.ret (.pa k sz ix off,st)
  |.pc cs off=>.ret (.pc cs off,st)
  |.fn f a c=>.ret (.fn f a c,st)
  |_=>.fail
 |.bin op x y=>cK op (x.ev fr) (y.ev fr) st
 |.N8 row ks neg x y=>T.opt ((x.ev fr).row row) fun cs=>T.opt ((y.ev fr).row row) fun ds=>T.opt (bV ks cs ds) fun r=>match neg with
  |true=>.ret (.b (!r),st)
  |false=>.ret (.b r,st)
 |.RH neg x y=>oZ neg (x.ev fr) (y.ev fr) st
 |.un op x=>match op,x.ev fr with
  |.not,.b y=>.ret (.b (!y),st)
  |.neg,.i k n=>.wrap k (0 - n) fun r=>.ret (.i k r,st)
  |_,_=>.fail
 |.N9 k x=>match x.ev fr with
  |.i _ n=>.wrap k n fun r=>.ret (.i k r,st)
  |_=>.fail
 |.Oa x=>match x.ev fr with
  |.s y=>.ret (.s y,st)
  |_=>.fail
 |.IY m x=>match x.ev fr with
  |.s y=>jU m 1 (cT y) st
  |_=>.fail
 |.Ob x=>match x.ev fr with
  |.sl (some k) sz es=>.obj (st.get k) fun o=>match o with
   |.spare=>.ret (.sl (some k) sz es,st)
   |_=>.fail
  |.ms k sz off len=>.obj (st.get k) fun o=>match o with
   |.arr z _=>if z=1 then .ret (.ms k sz off len,st) else .fail
   |_=>.fail
  |_=>.fail
 |.Ga x=>eD 1 st (x.ev fr) fun es=>.CQ (bytesOf es) fun y=>.ret (.s y,st)
 |.zL f cap=>.ret (.fn f [] (aV.wH fr cap),st)
 |.uF g kd=>.ret (.m (st.aE g),st.push g (.mp kd []))
 |.CR m sz bytes zero l c=>match l.ev fr,c.ev fr with
  |.i _ a,.i _ d=>.jE (decide (0<=a)&&decide (a=d)&&eW d.toNat bytes)<|jU m sz (List.replicate a.toNat zero) st
  |_,_=>.fail
 |.pW x lo hi=>match x.ev fr with
  |.s y=>T.opt (cL (aV.mZ fr hi) y.length) fun h=>T.opt (cL (aV.mZ fr lo) 0) fun l=>
   .jE (decide (0<=l)&&decide (l<=h)&&decide (h<=(y.length:Int)))<|.ret (.s ((y.take h.toNat).drop l.toNat),st)
  |_=>.fail
 |.mY sz x lo hi mx=>match x.ev fr with
  |.bU=>match mx with
   |none=>T.opt (cL (aV.mZ fr hi) 0) fun h=>T.opt (cL (aV.mZ fr lo) 0) fun l=>
    .jE (decide (l=0)&&decide (h=0))<|.ret (.bU,st)
   |some _=>.fail
  |.sl tok cS es=>if cS=sz then match mx with
    |none=>match aV.mZ fr hi with
     |none=>T.opt (cL (aV.mZ fr lo) 0) fun l=>.jE (decide (0<=l)&&decide (l<=(es.length:Int)))<|.ret (.sl tok sz (es.drop l.toNat),st)
     |some v=>T.opt (m6 v) fun h=>T.opt (cL (aV.mZ fr lo) 0) fun l=>
      .jE (decide (0<=l)&&decide (l<=h)&&decide (h<=(es.length:Int)))<|.ret (.sl none sz ((es.take h.toNat).drop l.toNat),st)
    |some _=>.fail
   else .fail
  |.ms k cS off len=>if cS=sz then T.opt (cL (aV.mZ fr hi) len) fun h=>T.opt (cL (aV.mZ fr lo) 0) fun l=>.obj (st.get k) fun o=>match o with
    |.arr dB es=>if dB=sz then match mx with
      |none=>.jE (decide (0<=l)&&decide (l<=h)&&decide ((off:Int)+h<=(es.length:Int)))<|
       .ret (.ms k sz (off+l.toNat) (h.toNat - l.toNat),st)
      |some m=>T.opt (m6 (m.ev fr)) fun mx=>.jE (decide (0<=l)&&decide (l<=h)&&decide (h<=mx)&&decide ((off:Int)+mx<=(es.length:Int)))<|
       .ret (.a8,st)
     else .fail
    |_=>.fail
   else .fail
  |_=>.fail
 |.jS off x=>match x.ev fr with
  |.p k o=>.ret (.p k (o+off),st)
  |.pa k sz ix o=>.ret (.pa k sz ix (o+off),st)
  |.pc cs o=>.ret (.pc cs (o+off),st)
  |_=>.fail
 |.Hf off n x=>match x.ev fr with
  |.agg cs=>T.opt (cG cs off n) fun v=>.ret (v,st)
  |_=>.fail
 |.zM sz x i=>match i.ev fr with
  |.i _ n=>match x.ev fr with
   |.sl _ cS es=>if cS=sz then .jE (kJ n es.length)<|.elem es[n.toNat]? fun e=>.ret (.pc e 0,st) else .fail
   |.ms k cS off len=>if cS=sz then .jE (kJ n len)<|.ret (.pa k sz (off+n.toNat) 0,st) else .fail
   |_=>.fail
  |_=>.fail
 |.zN len sz x i=>match i.ev fr with
  |.i _ n=>.jE (kJ n len)<|match x.ev fr with
   |.p k o=>.ret (.p k (o+n.toNat*sz),st)
   |.pa k cS ix o=>.ret (.pa k cS ix (o+n.toNat*sz),st)
   |.pc cs o=>.ret (.pc cs (o+n.toNat*sz),st)
   |_=>.fail
  |_=>.fail
 |.Od x i=>match x.ev fr,i.ev fr with
  |.s y,.i _ n=>.jE (decide (0<=n))<|.byte y[n.toNat]? fun c=>.ret (.i .u8 c.toNat,st)
  |_,_=>.fail
 |.IG len sz n x i=>match x.ev fr,i.ev fr with
  |.agg cs,.i _ j=>.jE (kJ j len)<|T.opt (cG cs (j.toNat*sz) n) fun v=>.ret (v,st)
  |_,_=>.fail
 |.IZ kd zero m k ok=>match (k.ev fr).cB kd with
  |true=>match m.ev fr with
   |.cY=>qE zero ok st none
   |.m key=>.obj (st.get key) fun o=>match o with
    |.mp s0 es=>if s0=kd then qE zero ok st (rI es (k.ev fr)) else .fail
    |_=>.fail
   |_=>.fail
  |false=>.fail
 |.zO kd m k v=>match (k.ev fr).cB kd with
  |true=>match m.ev fr with
   |.m key=>.obj (st.get key) fun o=>match o with
    |.mp s0 es=>if s0=kd then T.opt (CS key.lH (v.ev fr)) fun u=>.ret (.bO [],st.set key (.mp kd (dU es (k.ev fr) u))) else .fail
    |_=>.fail
   |_=>.fail
  |false=>.fail
 |.ext x i=>match x.ev fr with
  |.bO vs=>T.opt vs[i]? fun v=>.ret (v,st)
  |_=>.fail
 |.call f args=>T.opt (dI (aV.wH fr args)) fun vs=>.call f vs st.g fun r h=>.ret (r,⟨h,st.l⟩)
 |.pX f args=>match f.ev fr with
  |.fn g first cap=>T.opt (dI (first++aV.wH fr args++cap)) fun vs=>.call g vs st.g fun r h=>.ret (r,⟨h,st.l⟩)
  |_=>.fail
 |.zP x=>match x.ev fr with
  |.s y=>.ret (.i .i64 y.length,st)
  |_=>.fail
 |.zQ x=>match x.ev fr with
  |.bU=>.ret (.i .i64 0,st)
  |.sl _ _ es=>.ret (.i .i64 es.length,st)
  |.ms _ _ _ n=>.ret (.i .i64 n,st)
  |_=>.fail
 |.zR n=>.ret (.i .i64 n,st)
 |.zS x=>match x.ev fr with
  |.cY=>.ret (.i .i64 0,st)
  |.m key=>.obj (st.get key) fun o=>match o with
   |.mp _ es=>.ret (.i .i64 es.length,st)
   |_=>.fail
  |_=>.fail
 |.rH max xs=>match aV.wH fr xs with
  |v::r=>T.opt (eM max v r) fun v=>.ret (v,st)
  |[]=>.fail
 |.append m sz bytes s x=>eD sz st (x.ev fr) fun new=>fN m sz bytes st (s.ev fr) new
 |.copy sz d x=>eD sz st (x.ev fr) fun src=>match d.ev fr with
  |.ms k cS off len=>if cS=sz then .eU (dF k.lH (src.take len)) fun ds=>.obj (st.get k) fun o=>match o with
    |.arr dB es=>if dB=sz then
      .jE (decide (off+len<=es.length))<|.ret (.i .i64 (ds.length:Nat),st.set k (.arr sz (es.take off++ds++es.drop (off+ds.length))))
     else .fail
    |_=>.fail
   else .fail
  |_=>.fail
 |.delete kd m k=>match (k.ev fr).cB kd with
  |true=>match m.ev fr with
   |.cY=>.ret (.bO [],st)
   |.m key=>.obj (st.get key) fun o=>match o with
    |.mp s0 es=>if s0=kd then .ret (.bO [],st.set key (.mp kd (CT es (k.ev fr)))) else .fail
    |_=>.fail
   |_=>.fail
  |false=>.fail
 |.clear sz zero x=>match x.ev fr with
  |.bU=>.ret (.bO [],st)
  |.ms k cS off len=>if cS=sz then .obj (st.get k) fun o=>match o with
    |.arr dB es=>if dB=sz then .jE (decide (off+len<=es.length))<|.ret (.bO [],st.set k (.arr sz (es.take off++List.replicate len zero++es.drop (off+len)))) else .fail
    |_=>.fail
   else .fail
  |_=>.fail
 |.no=>.fail
def bK:Nat->List Nat->Bool
 |_,[]=>false
 |n,k::r=>match Nat.beq n k with
  |true=>true
  |false=>bK n r
def V.force {α:Type} (v:V) (k:V->α):α:=
 match v with
 |.b x=>k (.b x)
 |.i kd n=>k (.i kd n)
 |.s x=>k (.s x)
 |.dZ=>k .dZ
 |.p a o=>k (.p a o)
 |.pa a z ix o=>k (.pa a z ix o)
 |.pc c o=>k (.pc c o)
 |.bU=>k .bU
 |.sl t z e=>k (.sl t z e)
 |.ms a z u l=>k (.ms a z u l)
 |.cY=>k .cY
 |.m a=>k (.m a)
 |.fn f a c=>k (.fn f a c)
 |.eA=>k .eA
 |.agg c=>k (.agg c)
 |.bO c=>k (.bO c)
 |.a8=>k .a8
def Fr.cut {α:Type}:Fr->List Nat->(Fr->α)->α
 |[],_,k=>k []
 |(n,v)::r,ks,k=>match bK n ks with
  |true=>Fr.cut r ks k
  |false=>Fr.cut r ks fun r'=>k ((n,v)::r')
def Fr.after {α:Type} (fr:Fr) (dst:Option Nat) (v:V) (kill:List Nat) (k:Fr->α):α:=
 match dst with
 |some d=>match kill with
  |[]=>v.force fun v=>k ((d,v)::fr)
  |x::ks=>match bK d (x::ks) with
   |true=>fr.cut (d::x::ks) k
   |false=>fr.cut (d::x::ks) fun r=>v.force fun v=>k ((d,v)::r)
 |none=>match kill with
  |[]=>k fr
  |x::ks=>fr.cut (x::ks) k
def cM:List cD->Fr->St->T (Fr×St)
 |[],fr,st=>.ret (fr,st)
 |o::rest,fr,st=>
  match o.guard with
  |none=>(step o.op fr st).bind fun x=>match x with
   |(v,st)=>fr.after o.dst v o.kill fun fr=>cM rest fr st
  |some (t,want)=>match fr.get t with
   |.b x=>match want with
    |true=>.ite x
     (fr.cut [t] fun r=>(step o.op ((t,.b true)::r) st).bind fun x=>match x with
       |(v,st)=>Fr.after ((t,.b true)::r) o.dst v o.kill fun fr=>cM rest fr st)
     (fr.cut [t] fun r=>Fr.after ((t,.b false)::r) o.dst (.bO []) o.kill fun fr=>cM rest fr st)
    |false=>.ite x
     (fr.cut [t] fun r=>Fr.after ((t,.b true)::r) o.dst (.bO []) o.kill fun fr=>cM rest fr st)
     (fr.cut [t] fun r=>(step o.op ((t,.b false)::r) st).bind fun x=>match x with
       |(v,st)=>Fr.after ((t,.b false)::r) o.dst v o.kill fun fr=>cM rest fr st)
   |.bO _=>fr.after o.dst (.bO []) o.kill fun fr=>cM rest fr st
   |_=>.fail
structure aF where
 ix:Nat
 o:cD
 fO:Bool
 re:List Nat
 deriving Inhabited
def lL {α:Type} (g:Option (Nat×Bool)) (fr:Fr) (yes no:Fr->T α):T α:=
 match g with
 |none=>yes fr
 |some (t,want)=>match fr.get t with
  |.b x=>match want with
   |true=>.ite x (fr.cut [t] fun r=>yes ((t,.b true)::r)) (fr.cut [t] fun r=>no ((t,.b false)::r))
   |false=>.ite x (fr.cut [t] fun r=>no ((t,.b true)::r)) (fr.cut [t] fun r=>yes ((t,.b false)::r))
  |.bO _=>no fr
  |_=>.fail
def bW (g:Option (Nat×Bool)) (fr:Fr):Option Bool:=
 match g with
 |none=>some true
 |some (t,want)=>match fr.get t with
  |.b x=>some (x==want)
  |.bO _=>some false
  |_=>none
def recheck {α:Type} (re:List Nat):List aF->Fr->St->T α->T α
 |[],_,_,k=>k
 |p::ps,fr,st,k=>match bK p.ix re with
  |true=>match bW p.o.guard fr with
   |some true=>(step p.o.op fr st).bind fun x=>match p.o.dst with
    |some d=>.same (fr.get d) x.1 (recheck re ps fr st k)
    |none=>recheck re ps fr st k
   |some false=>recheck re ps fr st k
   |none=>.fail
  |false=>recheck re ps fr st k
def eN:List aF->List aF->Fr->St->T (Fr×St)
 |_,[],fr,st=>.ret (fr,st)
 |done,d::rest,fr,st=>lL d.o.guard fr
  (fun fr=>(step d.o.op fr st).bind fun x=>match x with
    |(v,st)=>fr.after d.o.dst v [] fun fr=>recheck d.re done fr st (eN (d::done) rest fr st))
  (fun fr=>fr.after d.o.dst (.bO []) [] fun fr=>eN (d::done) rest fr st)
inductive AC where
 |skip
 |Gb (ops:List cD)
 |vD (ops:List aF) (kill:List Nat)
 |seq (a b:AC)
 |cond (c:aV) (a b:AC)
 |aW (id:Nat) (b:AC)
 |loop (b:AC)
 |exit (id:Nat)
 |ret
 |no
 deriving Inhabited
inductive RV where
 |t (n:Nat)
 |cell (n:Nat) (sz:Option Nat)
 deriving Inhabited
structure aC where
 nparams:Nat
 body:AC
 results:List RV
 deriving Inhabited
inductive Ex where
 |normal
 |exit (id:Nat)
 |ret
 deriving DecidableEq,Inhabited
def cI:Nat->List V->Fr
 |_,[]=>[]
 |n,v::r=>(n,v)::cI (n+1) r
def Bn (fr:Fr) (st:St):RV->Option V
 |.t n=>(fr.get n).pass
 |.cell n sz=>match fr.get n with
  |.p k off=>match st.get k with
   |some (.cs c)=>match cG c off sz with
    |some v=>v.pass
    |none=>none
   |_=>none
  |_=>none
def jJ (fr:Fr) (st:St):List RV->Option (List V)
 |[]=>some []
 |r::rs=>match Bn fr st r,jJ fr st rs with
  |some v,some vs=>some (v::vs)
  |_,_=>none
def rJ (fr:Fr) (st:St) (rs:List RV):Option V:=
 match jJ fr st rs with
 |some [v]=>some v
 |some vs=>some (.bO vs)
 |none=>none
mutual
def V.beq:V->V->Bool
 |.b x,.b y=>x==y
 |.i k n,.i k' n'=>decide (k=k')&&decide (n=n')
 |.s x,.s y=>x==y
 |.dZ,.dZ=>true
 |.p k o,.p k' o'=>decide (k=k')&&decide (o=o')
 |.pa k z j o,.pa k' z' j' o'=>decide (k=k')&&decide (z=z')&&decide (j=j')&&decide (o=o')
 |.bU,.bU=>true
 |.sl t z es,.sl t' z' l4=>decide (t=t')&&decide (z=z')&&V.CU es l4
 |.ms k z u l,.ms k' z' u' l'=>decide (k=k')&&decide (z=z')&&decide (u=u')&&decide (l=l')
 |.cY,.cY=>true
 |.m k,.m k'=>decide (k=k')
 |.eA,.eA=>true
 |.agg cs,.agg ds=>V.EV cs ds
 |.bO cs,.bO ds=>V.EV cs ds
 |_,_=>false
def V.EV:List V->List V->Bool
 |[],[]=>true
 |v::r,u::q=>V.beq v u&&V.EV r q
 |_,_=>false
def V.CU:List (List V)->List (List V)->Bool
 |[],[]=>true
 |v::r,u::q=>V.EV v u&&V.CU r q
 |_,_=>false
end
open Go
abbrev rK:=Nat->Nat->Option Value
structure Loc where
 aW:Nat
 base:Nat
 fin:Nat
structure Env where
 I:rK
 μ:Key->Loc
 ng:Nat
 nl:Nat
def Env.has (E:Env):Key->Prop
 |.g n=>n<E.ng
 |.l n=>n<E.nl
structure Env.Le (E F:Env):Prop where
 gJ:∀ b o x,E.I b o=some x->F.I b o=some x
 ng:E.ng<=F.ng
 nl:E.nl<=F.nl
 loc:∀ k,E.has k->F.μ k=E.μ k
theorem Env.Le.refl (E:Env):E.Le E:=⟨fun _ _ _ h=>h,Nat.le_refl _,Nat.le_refl _,fun _ _=>rfl⟩
theorem Env.Le.has {E F:Env} (h:E.Le F) {k:Key} (hk:E.has k):F.has k:=by
 cases k with
 |g n=>exact Nat.lt_of_lt_of_le hk h.ng
 |l n=>exact Nat.lt_of_lt_of_le hk h.nl
theorem Env.Le.trans {E F G:Env} (h:E.Le F) (h':F.Le G):E.Le G:=
 ⟨fun b o x hx=>h'.gJ b o x (h.gJ b o x hx),Nat.le_trans h.ng h'.ng,Nat.le_trans h.nl h'.nl,
  fun k hk=>(h'.loc k (h.has hk)).trans (h.loc k hk)⟩
def str (l:List UInt8):ByteArray:=⟨l.toArray⟩
inductive cV (I:rK):V->Value->Prop where
 |b (x:Bool):cV I (.b x) (.bool x)
 |i (k:IntKind) (n:Int):cV I (.i k n) (.int k n)
 |s (l:List UInt8):cV I (.s l) (.string (str l))
 |bU:cV I .bU (.slice none 0 0)
 |jF (sz:Nat):cV I (.sl none sz []) (.slice none 0 0)
 |EW (sz:Nat) (a:Addr) (hs:a.spot≠none):cV I (.sl none sz []) (.slice (some a) 0 0)
 |sl (sz:Nat) (es:List (List V)) (aW off cap:Nat) (val:Nat->Value) (hc:es.length<=cap) (hl:∀ e∈es,e.length=sz)
   (hv:∀ j d,es.flatten[j]? =some d->I aW (off+j)=some (val j)) (hr:∀ j d,es.flatten[j]? =some d->cV I d (val j)):
   cV I (.sl none sz es) (.slice (some ⟨aW,off,none⟩) es.length cap)
def Env.cut (E:Env):Env:={ E with nl:=0 }
def Env.at (E:Env):Key->Env
 |.g _=>E.cut
 |.l _=>E
theorem Env.I0 (E:Env):E.cut.Le E:=⟨fun _ _ _ h=>h,Nat.le_refl _,Nat.zero_le _,fun _ _=>rfl⟩
theorem Env.wW {E F:Env} (h:E.Le F):E.cut.Le F.cut:=
 ⟨h.gJ,h.ng,Nat.le_refl _,fun k hk=>h.loc k (E.I0.has hk)⟩
theorem Env.gK {E F:Env} (h:E.Le F) (k:Key):(E.at k).Le (F.at k):=by
 cases k with
 |g n=>exact Env.wW h
 |l n=>exact h
theorem Env.rL (E:Env) (k:Key):(E.at k).Le E:=by
 cases k with
 |g n=>exact E.I0
 |l n=>exact .refl E
inductive Rel (E:Env):V->Value->Prop where
 |deep {v:V} {x:Value} (h:cV E.I v x):Rel E v x
 |dZ:Rel E .dZ (.pointer none)
 |p (k:Key) (off:Nat) (hk:E.has k):Rel E (.p k off) (.pointer (some ⟨(E.μ k).aW,(E.μ k).base+off,none⟩))
 |pa (k:Key) (sz ix off:Nat) (hk:E.has k):Rel E (.pa k sz ix off) (.pointer (some ⟨(E.μ k).aW,(E.μ k).base+ix*sz+off,none⟩))
 |pc (cs:List V) (off aW o:Nat) (val:Nat->Value) (hv:∀ j d,cs[j]? =some d->E.I aW (o+j)=some (val j))
   (hr:∀ j d,cs[j]? =some d->cV E.I d (val j)):Rel E (.pc cs off) (.pointer (some ⟨aW,o+off,none⟩))
 |AE (k:Key) (sz:Nat) (es:List (List V)) (a:Addr) (cap:Nat) (hk:E.has k) (hd:cV E.I (.sl none sz es) (.slice (some a) es.length cap))
   (hb:a.block=(E.μ k).aW/\a.spot=none) (hs:cap=es.length\/(a.off+es.length*sz=(E.μ k).base/\a.off+cap*sz=(E.μ k).fin)):
   Rel E (.sl (some k) sz es) (.slice (some a) es.length cap)
 |ms (k:Key) (sz st len:Nat) (a:Addr) (cap:Nat) (hk:E.has k) (hc:len<=cap) (hf:(E.μ k).base+(st+cap)*sz=(E.μ k).fin)
   (hb:a.block=(E.μ k).aW) (ha:cap=0\/a=⟨(E.μ k).aW,(E.μ k).base+st*sz,none⟩):Rel E (.ms k sz st len) (.slice (some a) len cap)
 |cY:Rel E .cY (.map none)
 |m (k:Key) (hk:E.has k):Rel E (.m k) (.map (some (E.μ k).aW))
 |fn (f:Nat) (a c:List V) (a' c':Array Value) (ha:a'.size=a.length) (hc:c'.size=c.length)
   (II:∀ (j:Nat) (v:V) (x:Value),a[j]? =some v->a'[j]? =some x->Rel E v x)
   (T4:∀ (j:Nat) (v:V) (x:Value),c[j]? =some v->c'[j]? =some x->Rel E v x):Rel E (.fn f a c) (.func (.func f) a' c')
 |eA:Rel E .eA .nilFunc
 |agg (cs:List V) (a:Array Value) (ha:a.size=cs.length) (h1:∀ (j:Nat) (x:Value),a[j]? =some x->x.oneCell'=true) (hr:∀ (j:Nat) (v:V) (x:Value),cs[j]? =some v->a[j]? =some x->Rel E v x):Rel E (.agg cs) (.agg a)
 |bO (cs:List V) (a:Array Value) (ha:a.size=cs.length) (hr:∀ (j:Nat) (v:V) (x:Value),cs[j]? =some v->a[j]? =some x->Rel E v x):Rel E (.bO cs) (.tuple a)
 |a8 (x:Value):Rel E .a8 x
theorem cV.mono {I J:rK} (h:∀ b o x,I b o=some x->J b o=some x) {v:V} {x:Value} (hr:cV I v x):cV J v x:=by
 induction hr with
 |b x=>exact .b x
 |i k n=>exact .i k n
 |s l=>exact .s l
 |bU=>exact .bU
 |jF sz=>exact .jF sz
 |EW sz a hs=>exact .EW sz a hs
 |sl sz es aW off cap val hc hl hv _ ih=>exact .sl sz es aW off cap val hc hl (fun j d hj=>h _ _ _ (hv j d hj)) ih
theorem cV.wI {I:rK} (sz:Nat) (p:Option Addr):cV I (.sl none sz []) (.slice p 0 0):=by
 cases p with
 |none=>exact .jF sz
 |some a=>
  obtain ⟨aW,off,s⟩:=a
  cases s with
  |none=>exact .sl sz [] aW off 0 (fun _=>default) (Nat.le_refl _) (fun e he=>by cases he) (fun j d hj=>by simp at hj) (fun j d hj=>by simp at hj)
  |some x=>exact .EW sz _ (by simp)
theorem Rel.mono {E F:Env} (h:E.Le F) {v:V} {x:Value} (hr:Rel E v x):Rel F v x:=by
 induction hr with
 |deep hd=>exact .deep (hd.mono h.gJ)
 |dZ=>exact .dZ
 |p k off hk=>rw [<-h.loc k hk];exact .p k off (h.has hk)
 |pa k sz ix off hk=>rw [<-h.loc k hk];exact .pa k sz ix off (h.has hk)
 |pc cs off aW o val hv hr=>exact .pc cs off aW o val (fun j d hj=>h.gJ _ _ _ (hv j d hj)) (fun j d hj=>(hr j d hj).mono h.gJ)
 |AE k sz es a cap hk hd hb hs=>exact .AE k sz es a cap (h.has hk) (hd.mono h.gJ) (by rw [h.loc k hk];exact hb) (by rw [h.loc k hk];exact hs)
 |ms k sz st len a cap hk hc hf hb ha=>exact .ms k sz st len a cap (h.has hk) hc (by rw [h.loc k hk];exact hf) (by rw [h.loc k hk];exact hb) (by rw [h.loc k hk];exact ha)
 |cY=>exact .cY
 |m k hk=>rw [<-h.loc k hk];exact .m k (h.has hk)
 |fn f a c a' c' ha hc _ _ iha ihc=>exact .fn f a c a' c' ha hc iha ihc
 |eA=>exact .eA
 |agg cs a ha h1 _ ih=>exact .agg cs a ha h1 ih
 |bO cs a ha _ ih=>exact .bO cs a ha ih
 |a8 x=>exact .a8 x
def cP (E:Env) (l:List V) (a:Array Value):Prop:=a.size=l.length/\∀ (j:Nat) (v:V) (x:Value),l[j]? =some v->a[j]? =some x->Rel E v x
theorem cP.get {E:Env} {l:List V} {a:Array Value} (h:cP E l a) {j:Nat} {v:V} (hj:l[j]? =some v):∃ x,a[j]? =some x/\Rel E v x:=by
 have cQ:j<l.length:=(List.getElem?_eq_some_iff.1 hj).1
 have:j<a.size:=by rw [h.1];exact cQ
 exact ⟨a[j],by simp [this],h.2 j v _ hj (by simp [this])⟩
def mV (z:Nat) (fz:Nat×Nat) (n:Nat):Prop:=fz.1=fz.2\/(n<=fz.1/\z=1)
theorem mV.one {z:Nat} {fz:Nat×Nat} {n:Nat} (h:mV z fz n):mV 1 fz n:=h.elim .inl fun h=>.inr ⟨h.1,rfl⟩
def eH (z:Nat) (E:Env) (w:World) (L:Loc) (cs:List V):Prop:=
 ∃ cells t fz,w.heap[L.aW]? =some (.cells cells t fz)/\mV z fz cells.size/\L.base+cs.length<=L.fin/\L.fin<=cells.size/\
  ∀ j v,cs[j]? =some v->∃ x,cells[L.base+j]? =some x/\Rel E v x/\x.oneCell'=true
def vE (aP:Array MapEntry) (clock:Nat):Prop:=(∀ x∈aP.toList,x.born<clock)/\(aP.toList.map (·.born)).Nodup
def Holds (E:Env) (w:World) (L:Loc):Obj->Prop
 |.cs c=>L.base=0/\eH 1 E w L c
 |.arr sz es=>(∀ e∈es,e.length=sz)/\eH sz E w L es.flatten
 |.spare=>eH 1 E w L []
 |.mp kd es=>∃ aP clock,w.heap[L.aW]? =some (.map aP clock)/\aP.size=es.length/\
   (∀ (j:Nat) (q:V×V) (e:MapEntry),es[j]? =some q->aP[j]? =some e->cV E.I q.1 e.key/\q.1.cB kd=true/\Rel E q.2 e.val)/\vE aP clock
def St.live (st:St) (k:Key):Prop:=∃ o,st.get k=some o
def aT (w:World) (b o:Nat):Option Value:=
 match w.heap[b]? with
 |some (.cells c _ _)=>c[o]?
 |_=>none
theorem jV (w:World) (b o:Nat):w.cell? ⟨b,o,none⟩=aT w b o:=by
 simp only [World.cell?,aT]
 split<;>simp_all
structure bC (E:Env) (st:St) (w:World):Prop where
 ng:st.g.next=E.ng
 nl:st.l.next=E.nl
 g9:∀ k,st.live k->E.has k
 gJ:∀ b o x,E.I b o=some x->aT w b o=some x
 obj:∀ k o,st.get k=some o->Holds (E.at k) w (E.μ k) o
 sep:∀ k k',st.live k->st.live k'->k≠k'->(E.μ k).aW≠(E.μ k').aW
 own:∀ k,st.live k->∀ j,(E.μ k).base<=j->j<(E.μ k).fin->E.I (E.μ k).aW j=none
structure Ext (E:Env) (st:St) (w:World) (E':Env) (aR:St) (w':World):Prop where
 le:E.Le E'
 size:w.heap.size<=w'.heap.size
 eJ:∀ b o x,E'.I b o=some x->E.I b o=some x\/w.heap.size<=b\/∃ k,st.live k/\(E.μ k).aW=b
 eF:∀ k,aR.live k->E.has k->st.live k
 eQ:∀ k,aR.live k->¬E.has k->w.heap.size<=(E'.μ k).aW\/∃ k0,st.live k0/\(E.μ k0).aW=(E'.μ k).aW
 same:∀ b,b<w.heap.size->(∀ k,st.live k->(E.μ k).aW≠b)->w'.heap[b]? =w.heap[b]?
 os:w'.os=w.os
 out:w'.output=w.output
 tape:w'.tape=w.tape
theorem Ext.refl (E:Env) (st:St) (w:World):Ext E st w E st w:=
 ⟨.refl E,Nat.le_refl _,fun _ _ _ h=>.inl h,fun _ h _=>h,fun k h _=>.inr ⟨k,h,rfl⟩,fun _ _ _=>rfl,rfl,rfl,rfl⟩
theorem Ext.trans {E:Env} {st:St} {w:World} {E':Env} {aR:St} {w':World} {ZB:Env} {Uo:St} {QO:World}
 (h:Ext E st w E' aR w') (g:Ext E' aR w' ZB Uo QO):Ext E st w ZB Uo QO where
 le:=h.le.trans g.le
 size:=Nat.le_trans h.size g.size
 eJ b o x hx:=by
  rcases g.eJ b o x hx with h1|h1|⟨k,hk,hb⟩
  · exact h.eJ b o x h1
  · exact .inr (.inl (Nat.le_trans h.size h1))
  · by_cases he:E.has k
    · exact .inr (.inr ⟨k,h.eF k hk he,by rw [<-hb,h.le.loc k he]⟩)
    · rcases h.eQ k hk he with h2|⟨k0,h2,h3⟩
      · exact .inr (.inl (hb▸h2))
      · exact .inr (.inr ⟨k0,h2,h3.trans hb⟩)
 eF k hk he:=h.eF k (g.eF k hk (h.le.has he)) he
 eQ k hk he:=by
  by_cases CV:E'.has k
  · have jG:=g.eF k hk CV
    rw [g.le.loc k CV]
    exact h.eQ k jG he
  · rcases g.eQ k hk CV with h1|⟨k0,h1,h2⟩
    · exact .inl (Nat.le_trans h.size h1)
    · rw [<-h2]
      by_cases Xd:E.has k0
      · exact .inr ⟨k0,h.eF k0 h1 Xd,by rw [h.le.loc k0 Xd]⟩
      · exact h.eQ k0 h1 Xd
 same b hb hn:=by
  rw [<-h.same b hb hn]
  refine g.same b (Nat.lt_of_lt_of_le hb h.size) fun k hk=>?_
  by_cases he:E.has k
  · rw [h.le.loc k he];exact hn k (h.eF k hk he)
  · rcases h.eQ k hk he with h2|⟨k0,h2,h3⟩
    · omega
    · rw [<-h3];exact hn k0 h2
 os:=g.os.trans h.os
 out:=g.out.trans h.out
 tape:=g.tape.trans h.tape
theorem Holds.of_heap {E:Env} {w w':World} (h:w'.heap=w.heap) {L:Loc} {o:Obj} (ho:Holds E w L o):Holds E w' L o:=by
 cases o<;>simp only [Holds,eH,h] at*<;>exact ho
theorem bC.of_heap {E:Env} {st:St} {w w':World} (h:w'.heap=w.heap) (hs:bC E st w):bC E st w':=
 ⟨hs.ng,hs.nl,hs.g9,fun b o x hx=>by simpa [aT,h] using hs.gJ b o x hx,fun k o hk=>(hs.obj k o hk).of_heap h,hs.sep,hs.own⟩
theorem Ext.drawn {E:Env} {st:St} {w:World} (n:Nat):Ext E st w E st { w with drawn:=n }:=
 ⟨.refl E,Nat.le_refl _,fun _ _ _ h=>.inl h,fun _ h _=>h,fun k h _=>.inr ⟨k,h,rfl⟩,fun _ _ _=>rfl,rfl,rfl,rfl⟩
theorem aA.rM (l:List (Nat×Obj)) (n m:Nat) (x:Obj):aA.find (aA.rF l n x) m=if m=n then (aA.find l n).map fun _=>x else aA.find l m:=by
 induction l with
 |nil=>simp [aA.rF,aA.find]
 |cons q r ih=>
  obtain ⟨k,o⟩:=q
  by_cases hk:k=n
  · subst hk
    simp only [aA.rF,if_true,aA.find]
    by_cases hm:m=k
    · subst hm;simp
    · have:¬k=m:=fun e=>hm e.symm
      simp [hm,this]
  · simp only [aA.rF,if_neg hk,aA.find,ih]
    by_cases hm:m=n
    · subst hm;simp [hk]
    · simp [hm]
theorem aA.m7 (l:List (Nat×Obj)) (n m:Nat):aA.find (aA.del l n) m=if m=n then none else aA.find l m:=by
 induction l with
 |nil=>simp [aA.del,aA.find]
 |cons q r ih=>
  obtain ⟨k,o⟩:=q
  by_cases hk:k=n
  · subst hk
    simp only [aA.del,if_true,aA.find,ih]
    by_cases hm:m=k
    · simp [hm]
    · have:¬k=m:=fun e=>hm e.symm
      simp [hm,this]
  · simp only [aA.del,if_neg hk,aA.find,ih]
    by_cases hm:m=n
    · subst hm;simp [hk]
    · simp [hm]
theorem aA.rN (h:aA) (n m:Nat) (x:Obj):(h.set n x).get m=if m=n then (h.get n).map fun _=>x else h.get m:=aA.rM _ _ _ _
theorem aA.eX (h:aA) (n m:Nat):(h.remove n).get m=if m=n then none else h.get m:=aA.m7 _ _ _
theorem aA.gL (h:aA) (m:Nat) (x:Obj):(h.push x).get m=if m=h.next then some x else h.get m:=by
 simp only [aA.push,aA.get,aA.find]
 by_cases hm:m=h.next
 · simp [hm]
 · have:¬h.next=m:=fun e=>hm e.symm
   simp [hm,this]
theorem St.rN (st:St) (k k':Key) (x:Obj):(st.set k x).get k'=if k'=k then (st.get k).map fun _=>x else st.get k':=by
 cases k<;>cases k'<;>simp [St.set,St.get,aA.rN]
theorem St.eX (st:St) (k k':Key):(st.remove k).get k'=if k'=k then none else st.get k':=by
 cases k<;>cases k'<;>simp [St.remove,St.get,aA.eX]
theorem St.gL (st:St) (g:Bool) (k':Key) (x:Obj):(st.push g x).get k'=if k'=st.aE g then some x else st.get k':=by
 cases g<;>cases k'<;>simp [St.push,St.aE,St.get,aA.gL]
theorem St.fP (st:St) (k:Key) (g:Bool):(st.remove k).aE g=st.aE g:=by
 cases k<;>cases g<;>rfl
def Env.push (E:Env) (g:Bool) (L:Loc) (J:rK):Env where
 I b o:=match E.I b o with
  |some x=>some x
  |none=>J b o
 μ k:=match g with
  |true=>if k=.g E.ng then L else E.μ k
  |false=>if k=.l E.nl then L else E.μ k
 ng:=match g with
  |true=>E.ng+1
  |false=>E.ng
 nl:=match g with
  |true=>E.nl
  |false=>E.nl+1
def Env.aE (E:Env):Bool->Key
 |true=>.g E.ng
 |false=>.l E.nl
theorem Env.gM (E:Env) (g:Bool):¬E.has (E.aE g):=by cases g<;>simp [Env.aE,Env.has]
theorem Env.kK (E:Env) (g:Bool) (L:Loc) (J:rK):E.Le (E.push g L J):=by
 refine ⟨fun b o x hx=>by simp [Env.push,hx],?_,?_,?_⟩
 · cases g<;>simp [Env.push]
 · cases g<;>simp [Env.push]
 · intro k hk
   cases g<;>simp only [Env.push]<;>rw [if_neg]<;>rintro rfl<;>simp [Env.has] at hk
theorem Env.dP (E:Env) (g:Bool) (L:Loc) (J:rK):(E.push g L J).μ (E.aE g)=L:=by cases g<;>simp [Env.push,Env.aE]
theorem Env.I1 (E:Env) (g:Bool) (L:Loc) (J:rK) (k:Key):(E.push g L J).has k↔E.has k\/k=E.aE g:=by
 cases g<;>cases k<;>simp [Env.push,Env.aE,Env.has]<;>omega
theorem Env.cW (E:Env) (g:Bool) (L:Loc) (J:rK):(E.push g L J).has (E.aE g):=(E.I1 g L J _).2 (.inr rfl)
theorem bC.aE {E:Env} {st:St} {w:World} (h:bC E st w) (g:Bool):st.aE g=E.aE g:=by
 cases g<;>simp [St.aE,Env.aE,h.ng,h.nl]
theorem eH.lM {z:Nat} {E F:Env} (hle:E.Le F) {w w':World} {L:Loc} {cs:List V} (hb:w'.heap[L.aW]? =w.heap[L.aW]?) (h:eH z E w L cs):eH z F w' L cs:=by
 obtain ⟨cells,t,fz,h1,h2,h3,h4,h5⟩:=h
 exact ⟨cells,t,fz,by rw [hb,h1],h2,h3,h4,fun j v hj=>let ⟨x,hx,hr,h1⟩:=h5 j v hj;⟨x,hx,hr.mono hle,h1⟩⟩
theorem Holds.lM {E F:Env} (hle:E.Le F) {w w':World} {L:Loc} {o:Obj} (hb:w'.heap[L.aW]? =w.heap[L.aW]?) (h:Holds E w L o):Holds F w' L o:=by
 cases o with
 |cs c=>exact ⟨h.1,eH.lM hle hb h.2⟩
 |arr sz es=>exact ⟨h.1,eH.lM hle hb h.2⟩
 |spare=>exact eH.lM hle hb h
 |mp kd es=>
  obtain ⟨aP,clock,h1,h2,h3,h4⟩:=h
  exact ⟨aP,clock,by rw [hb,h1],h2,fun j q e hq he=>let ⟨a,b,c⟩:=h3 j q e hq he;⟨a.mono hle.gJ,b,c.mono hle⟩,h4⟩
theorem Holds.size {E:Env} {w:World} {L:Loc} {o:Obj} (h:Holds E w L o):L.aW<w.heap.size:=by
 have:∃ x,w.heap[L.aW]? =some x:=by
  cases o with
  |cs c=>obtain ⟨_,cells,t,fz,h1,_⟩:=h;exact ⟨_,h1⟩
  |arr sz es=>obtain ⟨_,cells,t,fz,h1,_⟩:=h;exact ⟨_,h1⟩
  |spare=>obtain ⟨cells,t,fz,h1,_⟩:=h;exact ⟨_,h1⟩
  |mp kd es=>obtain ⟨aP,clock,h1,_⟩:=h;exact ⟨_,h1⟩
 obtain ⟨x,hx⟩:=this
 exact (Array.getElem?_eq_some_iff.1 hx).1
theorem bC.lt {E:Env} {st:St} {w:World} (h:bC E st w) {k:Key} (hk:st.live k):(E.μ k).aW<w.heap.size:=
 let ⟨o,ho⟩:=hk;(h.obj k o ho).size
theorem bC.fresh {E:Env} {st:St} {w w':World} (h:bC E st w) (gone:Option Key) (g:Bool) (base fin:Nat) (J:Nat->Option Value) (o:Obj) (ob:Go.Obj)
 (hh:w'.heap=w.heap.push ob) (Up:w'.os=w.os) (I2:w'.output=w.output) (CW:w'.tape=w.tape)
 (hJ:∀ j x,J j=some x->(∃ c t fz,ob=.cells c t fz/\c[j]? =some x)/\¬(base<=j/\j<fin))
 (ho:Holds ((E.push g ⟨w.heap.size,base,fin⟩ fun b j=>if b=w.heap.size then J j else none).at (E.aE g)) w' ⟨w.heap.size,base,fin⟩ o):
 let aR:=(match gone with|some k=>st.remove k|none=>st).push g o
 let E':=E.push g ⟨w.heap.size,base,fin⟩ fun b j=>if b=w.heap.size then J j else none
 bC E' aR w'/\Ext E st w E' aR w':=by
 intro aR E'
 have hle:E.Le E':=Env.kK _ _ _ _
 have I3:st.aE g=E.aE g:=h.aE g
 have eK:∀ k,aR.get k=if k=E.aE g then some o else (match gone with|some k0=>if k=k0 then none else st.get k|none=>st.get k):=by
  intro k
  simp only [aR]
  cases gone with
  |none=>rw [St.gL,I3]
  |some k0=>rw [St.gL,St.fP,I3,St.eX]
 have fL:∀ k,aR.live k->k≠E.aE g->st.live k:=by
  rintro k ⟨x,hx⟩ cO
  rw [eK,if_neg cO] at hx
  cases gone with
  |none=>exact ⟨x,hx⟩
  |some k0=>
   simp only at hx
   split at hx
   · cases hx
   · exact ⟨x,hx⟩
 have hold:∀ b,b<w.heap.size->w'.heap[b]? =w.heap[b]? :=by
  intro b hb
  rw [hh,Array.getElem?_push,if_neg (by omega)]
 have Xe:w'.heap[w.heap.size]? =some ob:=by rw [hh];simp
 have gH:w'.heap.size=w.heap.size+1:=by rw [hh];simp
 have Oz:∀ b j x,E.I b j=some x->b<w.heap.size:=by
  intro b j x hx
  have:=h.gJ b j x hx
  simp only [aT] at this
  rcases Nat.lt_or_ge b w.heap.size with hl|hl
  · exact hl
  · simp [Array.getElem?_eq_none hl] at this
 have uG:aR.g.next=E'.ng/\aR.l.next=E'.nl:=by
  have h1:=h.ng
  have h2:=h.nl
  simp only [aR,E']
  cases gone with
  |none=>cases g<;>simp [St.push,aA.push,Env.push,h1,h2]
  |some k=>cases k<;>cases g<;>simp [St.push,aA.push,St.remove,aA.remove,Env.push,h1,h2]
 have Xf:∀ k,aR.live k->E'.has k:=by
  intro k hk
  by_cases cO:k=E.aE g
  · subst cO;exact Env.cW _ _ _ _
  · exact hle.has (h.g9 k (fL k hk cO))
 have EH:E'.μ (E.aE g)=⟨w.heap.size,base,fin⟩:=Env.dP _ _ _ _
 refine ⟨⟨uG.1,uG.2,Xf,?_,?_,?_,?_⟩,⟨hle,by omega,?_,?_,?_,fun b hb _=>hold b hb,Up,I2,CW⟩⟩
 · intro b j x hx
   simp only [E',Env.push] at hx
   cases hI:E.I b j with
   |some y=>
    rw [hI] at hx
    have hb:=Oz b j y hI
    have:=h.gJ b j y hI
    simp only [aT,hold b hb] at*
    simp only [Option.some.injEq] at hx
    rw [this,hx]
   |none=>
    rw [hI] at hx
    simp only at hx
    split at hx
    · rename_i hb
      subst hb
      obtain ⟨⟨c,t,fz,rfl,hc⟩,_⟩:=hJ j x hx
      simp only [aT,Xe,hc]
    · cases hx
 · intro k x hk
   by_cases cO:k=E.aE g
   · subst cO
     rw [eK,if_pos rfl] at hk
     simp only [Option.some.injEq] at hk
     subst hk
     rw [EH];exact ho
   · have hl:=fL k ⟨x,hk⟩ cO
     rw [eK,if_neg cO] at hk
     have jG:st.get k=some x:=by
      cases gone with
      |none=>exact hk
      |some k0=>
       simp only at hk
       split at hk
       · cases hk
       · exact hk
     rw [hle.loc k (h.g9 k hl)]
     exact (h.obj k x jG).lM (Env.gK hle k) (hold _ (h.lt hl))
 · intro k k' hk jG cO
   by_cases h1:k=E.aE g
   · subst h1
     have h2:k'≠E.aE g:=fun e=>cO e.symm
     have hl:=fL k' jG h2
     rw [EH,hle.loc k' (h.g9 k' hl)]
     have:=h.lt hl
     simp only [ne_eq];omega
   · have hl:=fL k hk h1
     by_cases h2:k'=E.aE g
     · subst h2
       rw [EH,hle.loc k (h.g9 k hl)]
       have:=h.lt hl
       simp only [ne_eq];omega
     · have qF:=fL k' jG h2
       rw [hle.loc k (h.g9 k hl),hle.loc k' (h.g9 k' qF)]
       exact h.sep k k' hl qF cO
 · intro k hk j Uq QP
   by_cases h1:k=E.aE g
   · subst h1
     rw [EH] at*
     simp only at Uq QP ⊢
     simp only [E',Env.push]
     cases hI:E.I w.heap.size j with
     |some y=>exact absurd (Oz _ _ _ hI) (by omega)
     |none=>
      simp only [if_true]
      cases Xg:J j with
      |none=>rfl
      |some y=>exact absurd ⟨Uq,QP⟩ (hJ j y Xg).2
   · have hl:=fL k hk h1
     rw [hle.loc k (h.g9 k hl)] at*
     have cQ:=h.lt hl
     simp only [E',Env.push,h.own k hl j Uq QP]
     rw [if_neg (by omega)]
 · intro b j x hx
   simp only [E',Env.push] at hx
   cases hI:E.I b j with
   |some y=>rw [hI] at hx;exact .inl hx
   |none=>
    rw [hI] at hx
    simp only at hx
    split at hx
    · rename_i hb;exact .inr (.inl (by omega))
    · cases hx
 · intro k hk he
   exact fL k hk (fun e=>E.gM g (e▸he))
 · intro k hk he
   by_cases h1:k=E.aE g
   · subst h1;rw [EH];exact .inl (Nat.le_refl _)
   · exact absurd (h.g9 k (fL k hk h1)) he
theorem bC.set {E:Env} {st:St} {w w':World} (h:bC E st w) {k:Key} {o0:Obj} (hk:st.get k=some o0) (o:Obj)
 (gH:w'.heap.size=w.heap.size) (vH:∀ b,b≠(E.μ k).aW->w'.heap[b]? =w.heap[b]?) (Up:w'.os=w.os) (I2:w'.output=w.output) (CW:w'.tape=w.tape)
 (EX:∀ j x,E.I (E.μ k).aW j=some x->aT w' (E.μ k).aW j=some x) (ho:Holds (E.at k) w' (E.μ k) o):
 bC E (st.set k o) w'/\Ext E st w E (st.set k o) w':=by
 have eK:∀ k',(st.set k o).get k'=if k'=k then some o else st.get k':=by
  intro k';rw [St.rN,hk];rfl
 have fL:∀ k',(st.set k o).live k'↔st.live k':=by
  intro k'
  simp only [St.live,eK]
  by_cases e:k'=k
  · subst e;simp [hk]
  · simp [e]
 have uG:(st.set k o).g.next=st.g.next/\(st.set k o).l.next=st.l.next:=by cases k<;>simp [St.set,aA.set]
 have I4:st.live k:=⟨o0,hk⟩
 refine ⟨⟨uG.1.trans h.ng,uG.2.trans h.nl,fun k' jG=>h.g9 k' ((fL k').1 jG),?_,?_,?_,?_⟩,
  ⟨.refl E,by omega,fun _ _ _ hx=>.inl hx,fun k' jG _=>(fL k').1 jG,fun k' jG _=>.inr ⟨k',(fL k').1 jG,rfl⟩,?_,Up,I2,CW⟩⟩
 · intro b j x hx
   by_cases e:b=(E.μ k).aW
   · subst e;exact EX j x hx
   · have:=h.gJ b j x hx
     simp only [aT,vH b e] at*
     exact this
 · intro k' x hx
   rw [eK] at hx
   by_cases e:k'=k
   · subst e;rw [if_pos rfl] at hx;simp only [Option.some.injEq] at hx;subst hx;exact ho
   · rw [if_neg e] at hx
     exact (h.obj k' x hx).lM (.refl _) (vH _ (h.sep k' k ⟨x,hx⟩ I4 e))
 · intro a b ha hb cO
   exact h.sep a b ((fL a).1 ha) ((fL b).1 hb) cO
 · intro a ha j h1 h2
   exact h.own a ((fL a).1 ha) j h1 h2
 · intro b _ hn
   exact vH b (fun e=>hn k I4 e.symm)
theorem bC.move {E:Env} {st:St} {w w':World} (h:bC E st w) {k:Key} {o0:Obj} (hk:st.get k=some o0) (g:Bool) (L:Loc) (J:Nat->Option Value) (o:Obj)
 (hL:L.aW=(E.μ k).aW) (IJ:(E.μ k).base<=L.base) (Oe:L.fin<=(E.μ k).fin)
 (gH:w'.heap.size=w.heap.size) (vH:∀ b,b≠(E.μ k).aW->w'.heap[b]? =w.heap[b]?) (Up:w'.os=w.os) (I2:w'.output=w.output) (CW:w'.tape=w.tape)
 (EX:∀ j x,E.I (E.μ k).aW j=some x->aT w' (E.μ k).aW j=some x)
 (hJ:∀ j x,J j=some x->aT w' (E.μ k).aW j=some x/\¬(L.base<=j/\j<L.fin))
 (ho:Holds ((E.push g L fun b j=>if b=(E.μ k).aW then J j else none).at (E.aE g)) w' L o):
 let aR:=(st.remove k).push g o
 let E':=E.push g L fun b j=>if b=(E.μ k).aW then J j else none
 bC E' aR w'/\Ext E st w E' aR w':=by
 intro aR E'
 have hle:E.Le E':=Env.kK _ _ _ _
 have I3:st.aE g=E.aE g:=h.aE g
 have I4:st.live k:=⟨o0,hk⟩
 have eK:∀ k',aR.get k'=if k'=E.aE g then some o else if k'=k then none else st.get k':=by
  intro k'
  simp only [aR]
  rw [St.gL,St.fP,I3,St.eX]
 have fL:∀ k',aR.live k'->k'≠E.aE g->st.live k'/\k'≠k:=by
  rintro k' ⟨x,hx⟩ cO
  rw [eK,if_neg cO] at hx
  split at hx
  · cases hx
  · rename_i Xh;exact ⟨⟨x,hx⟩,Xh⟩
 have uG:aR.g.next=E'.ng/\aR.l.next=E'.nl:=by
  have h1:=h.ng
  have h2:=h.nl
  simp only [aR,E']
  cases k<;>cases g<;>simp [St.push,aA.push,St.remove,aA.remove,Env.push,h1,h2]
 have EH:E'.μ (E.aE g)=L:=Env.dP _ _ _ _
 refine ⟨⟨uG.1,uG.2,?_,?_,?_,?_,?_⟩,⟨hle,by omega,?_,?_,?_,?_,Up,I2,CW⟩⟩
 · intro k' jG
   by_cases cO:k'=E.aE g
   · subst cO;exact Env.cW _ _ _ _
   · exact hle.has (h.g9 k' (fL k' jG cO).1)
 · intro b j x hx
   simp only [E',Env.push] at hx
   cases hI:E.I b j with
   |some y=>
    rw [hI] at hx
    simp only [Option.some.injEq] at hx
    subst hx
    by_cases e:b=(E.μ k).aW
    · subst e;exact EX j y hI
    · have:=h.gJ b j y hI
      simp only [aT,vH b e] at*
      exact this
   |none=>
    rw [hI] at hx
    simp only at hx
    split at hx
    · rename_i hb;subst hb;exact (hJ j x hx).1
    · cases hx
 · intro k' x hx
   rw [eK] at hx
   by_cases e:k'=E.aE g
   · subst e;rw [if_pos rfl] at hx;simp only [Option.some.injEq] at hx;subst hx;rw [EH];exact ho
   · rw [if_neg e] at hx
     split at hx
     · cases hx
     · rename_i cO
       rw [hle.loc k' (h.g9 k' ⟨x,hx⟩)]
       exact (h.obj k' x hx).lM (Env.gK hle k') (vH _ (h.sep k' k ⟨x,hx⟩ I4 cO))
 · intro a b ha hb cO
   by_cases e1:a=E.aE g
   · subst e1
     have e2:b≠E.aE g:=fun e=>cO e.symm
     have hl:=fL b hb e2
     rw [EH,hle.loc b (h.g9 b hl.1),hL]
     exact h.sep k b I4 hl.1 (fun e=>hl.2 e.symm)
   · have hl:=fL a ha e1
     by_cases e2:b=E.aE g
     · subst e2
       rw [EH,hle.loc a (h.g9 a hl.1),hL]
       exact h.sep a k hl.1 I4 hl.2
     · have qF:=fL b hb e2
       rw [hle.loc a (h.g9 a hl.1),hle.loc b (h.g9 b qF.1)]
       exact h.sep a b hl.1 qF.1 cO
 · intro a ha j h1 h2
   by_cases e1:a=E.aE g
   · subst e1
     rw [EH] at*
     simp only [E',Env.push,hL]
     rw [h.own k I4 j (by omega) (by omega)]
     simp only [if_true]
     cases Xg:J j with
     |none=>rfl
     |some y=>exact absurd ⟨h1,h2⟩ (hJ j y Xg).2
   · have hl:=fL a ha e1
     rw [hle.loc a (h.g9 a hl.1)] at*
     simp only [E',Env.push,h.own a hl.1 j h1 h2]
     rw [if_neg (h.sep a k hl.1 I4 hl.2)]
 · intro b j x hx
   simp only [E',Env.push] at hx
   cases hI:E.I b j with
   |some y=>rw [hI] at hx;exact .inl hx
   |none=>
    rw [hI] at hx
    simp only at hx
    split at hx
    · rename_i hb;exact .inr (.inr ⟨k,I4,hb.symm⟩)
    · cases hx
 · intro k' jG he
   exact (fL k' jG (fun e=>E.gM g (e▸he))).1
 · intro k' jG he
   by_cases e:k'=E.aE g
   · subst e;rw [EH,hL];exact .inr ⟨k,I4,rfl⟩
   · exact absurd (h.g9 k' (fL k' jG e).1) he
 · intro b _ hn
   exact vH b (fun e=>hn k I4 e.symm)
open Go
def Ur (c:Bool) (X Y:Prop):Prop:=(c=true->X)/\(c=false->Y)
def Us {β:Type} (o:Option β) (k:β->Prop):Prop:=∃ x,o=some x/\k x
def RJ {β:Type} (o:Option β) (n:Prop) (k:β->Prop):Prop:=(o=none->n)/\(∀ x,o=some x->k x)
def Xi (c:Bool) (k:Prop):Prop:=c=true/\k
def I5 (kd:IntKind) (n:Int) (k:Int->Prop):Prop:=k (kd.wrap n)\/(kd.min<=n/\n<=kd.max/\k n)
theorem uH {c:Bool} {X Y:Prop} (h:c=true) (x:X):Ur c X Y:=⟨fun _=>x,fun h'=>(by rw [h] at h';cases h')⟩
theorem rO {c:Bool} {X Y:Prop} (h:c=false) (y:Y):Ur c X Y:=⟨fun h'=>(by rw [h] at h';cases h'),fun _=>y⟩
theorem wX {β:Type} {o:Option β} {n:Prop} {k:β->Prop} (h:o=none) (hn:n):RJ o n k:=⟨fun _=>hn,fun x hx=>by rw [h] at hx;cases hx⟩
theorem EY {β:Type} {o:Option β} {n:Prop} {k:β->Prop} {x:β} (h:o=some x) (hk:k x):RJ o n k:=
 ⟨fun hn=>(by rw [h] at hn;cases hn),fun y hy=>by rw [h] at hy;cases hy;exact hk⟩
theorem l5 {kd:IntKind} {n:Int} {k:Int->Prop} (hk:k (kd.wrap n)):I5 kd n k:=.inl hk
theorem iD {kd:IntKind} {n:Int} (h:kd.min<=n) (h':n<=kd.max):kd.wrap n=n:=by
 cases kd<;>simp [IntKind.wrap,IntKind.min,IntKind.max,IntKind.bits,IntKind.signed] at*<;>(try split)<;>omega
theorem jQ {kd:IntKind} {n:Int} {k:Int->Prop}:I5 kd n k↔k (kd.wrap n):=by
 constructor
 · rintro (h|⟨h1,h2,h3⟩)
   · exact h
   · rwa [iD h1 h2]
 · exact .inl
abbrev aX:=Nat->List V->aA->(V->aA->Prop)->Prop
def T.wp {α:Type} (A:aX):T α->(α->Prop)->Prop
 |.ret a,K=>K a
 |.ite c t e,K=>Ur c (t.wp A K) (e.wp A K)
 |.elem o k,K=>Us o fun x=>(k x).wp A K
 |.byte o k,K=>Us o fun x=>(k x).wp A K
 |.eU o k,K=>Us o fun x=>(k x).wp A K
 |.CQ o k,K=>Us o fun x=>(k x).wp A K
 |.obj o k,K=>Us o fun x=>(k x).wp A K
 |.jR o n k,K=>RJ o (n.wp A K) fun x=>(k x).wp A K
 |.jE c k,K=>Xi c (k.wp A K)
 |.wrap kd n k,K=>I5 kd n fun x=>(k x).wp A K
 |.any k,K=>∀ r,(k r).wp A K
 |.same v u k,K=>v=u/\k.wp A K
 |.call f aeN h k,K=>A f aeN h fun r h'=>(k r h').wp A K
 |.fail,_=>False
def aX.s7 (A:aX):Prop:=∀ f aeN h (K K':V->aA->Prop),(∀ r h',K r h'->K' r h')->A f aeN h K->A f aeN h K'
theorem T.wp_mono {α:Type} {A:aX} (hA:A.s7) {t:T α}:∀ {K K':α->Prop},(∀ a,K a->K' a)->t.wp A K->t.wp A K':=by
 induction t with
 |ret a=>exact fun h hk=>h _ hk
 |ite c t e I6 I7=>exact fun h hk=>⟨fun hc=>I6 h (hk.1 hc),fun hc=>I7 h (hk.2 hc)⟩
 |elem o k ih=>exact fun h ⟨x,hx,hk⟩=>⟨x,hx,ih x h hk⟩
 |byte o k ih=>exact fun h ⟨x,hx,hk⟩=>⟨x,hx,ih x h hk⟩
 |eU o k ih=>exact fun h ⟨x,hx,hk⟩=>⟨x,hx,ih x h hk⟩
 |CQ o k ih=>exact fun h ⟨x,hx,hk⟩=>⟨x,hx,ih x h hk⟩
 |obj o k ih=>exact fun h ⟨x,hx,hk⟩=>⟨x,hx,ih x h hk⟩
 |jR o n k CX ih=>exact fun h hk=>⟨fun hn=>CX h (hk.1 hn),fun x hx=>ih x h (hk.2 x hx)⟩
 |jE c k ih=>exact fun h hk=>⟨hk.1,ih h hk.2⟩
 |wrap kd n k ih=>exact fun h hk=>hk.imp (ih _ h) fun ⟨a,b,c⟩=>⟨a,b,ih _ h c⟩
 |any k ih=>exact fun h hk r=>ih r h (hk r)
 |same v u k ih=>exact fun h hk=>⟨hk.1,ih h hk.2⟩
 |call f aeN hh k ih=>exact fun h hk=>hA _ _ _ _ _ (fun r h' hr=>ih r h' h hr) hk
 |fail=>exact fun _ hk=>hk
theorem T.wp_bind {α β:Type} {A:aX} (t:T α) (f:α->T β) (K:β->Prop):(t.bind f).wp A K=t.wp A fun a=>(f a).wp A K:=by
 induction t with
 |ret a=>rfl
 |ite c t e I6 I7=>simp only [T.bind,T.wp,I6,I7]
 |elem o k ih=>simp only [T.bind,T.wp,ih]
 |byte o k ih=>simp only [T.bind,T.wp,ih]
 |eU o k ih=>simp only [T.bind,T.wp,ih]
 |CQ o k ih=>simp only [T.bind,T.wp,ih]
 |obj o k ih=>simp only [T.bind,T.wp,ih]
 |jR o n k CX ih=>simp only [T.bind,T.wp,CX,ih]
 |jE c k ih=>simp only [T.bind,T.wp,ih]
 |wrap kd n k ih=>simp only [T.bind,T.wp,ih]
 |any k ih=>simp only [T.bind,T.wp,ih]
 |same v u k ih=>simp only [T.bind,T.wp,ih]
 |call g aeN h k ih=>simp only [T.bind,T.wp,ih]
 |fail=>rfl
def Xj:aA:=⟨0,[]⟩
abbrev eR (h:aA):St:=⟨h,Xj⟩
def iE (P:Program) (f:Nat):Bool:=
 match P.funcs[f]? with
 | some fn => fn.body.isSome && !(fn.name == "runtime.NumGoroutine")
 |none=>false
def aB (P:Program):aX:=fun f args h K=>iE P f=true/\
 ∀ (E:Env) (w:World) (vs:Array Value),E.nl=0->bC E (eR h) w->cP E args vs->
  Calls P f vs w fun e w'=>∃ v x h' E',K v h'/\e=.returned x/\E'.nl=0/\bC E' (eR h') w'/\Ext E (eR h) w E' (eR h') w'/\Rel E' v x
theorem aB.mono (P:Program):(aB P).s7:=fun _ _ _ _ _ hK hA=>⟨hA.1,fun E w vs hn hs hv=>
 (hA.2 E w vs hn hs hv).mono fun _ _ ⟨v,x,h',E',h1,h2,h3,h4,h5,h6⟩=>⟨v,x,h',E',hK _ _ h1,h2,h3,h4,h5,h6⟩⟩
theorem OA (n:Nat):Xj.get n=none:=rfl
theorem iR {h:aA} {k:Key} (hk:(eR h).live k):∃ n,k=.g n/\∃ o,h.get n=some o:=by
 obtain ⟨o,ho⟩:=hk
 cases k with
 |g n=>exact ⟨n,rfl,o,ho⟩
 |l n=>simp [St.get,OA] at ho
theorem Gc {E:Env} {v v':V} {x:Value} (h:v.out=some v') (hr:Rel E v x):Rel E.cut v' x:=by
 unfold V.out at h
 split at h<;>simp only [Option.some.injEq,reduceCtorEq] at h<;>subst h
 all_goals (cases hr)
 all_goals (first
  |exact .deep ‹_›
  |exact .dZ
  |exact .cY
  |exact .eA
  |exact .p (E:=E.cut) (.g _) _ ‹_›
  |exact .pa (E:=E.cut) (.g _) _ _ _ ‹_›
  |exact .m (E:=E.cut) (.g _) ‹_›
  |exact .AE (E:=E.cut) (.g _) _ _ _ _ ‹_› ‹_› ‹_› ‹_›
  |exact .ms (E:=E.cut) (.g _) _ _ _ _ _ ‹_› ‹_› ‹_› ‹_› ‹_›
  |(exact .deep (by assumption))
  |skip)
 all_goals (rename_i hd;cases hd)
theorem wY {E:Env}:∀ {l l':List V} {a:Array Value},V.outs l=some l'->cP E l a->cP E.cut l' a:=by
 intro l
 induction l with
 |nil=>
  intro l' a h hr
  simp only [V.outs,Option.some.injEq] at h
  subst h
  exact ⟨hr.1,fun j v x hj=>by simp at hj⟩
 |cons v r ih=>
  intro l' a h hr
  simp only [V.outs] at h
  split at h
  · rename_i v' r' hv I8
    simp only [Option.some.injEq] at h
    subst h
    have gH:a.size=r.length+1:=hr.1
    have IK:cP E r (a.extract 1 a.size):=⟨by simp [gH],fun j u x hj hx=>hr.2 (j+1) u x (by simpa using hj) (by
     rw [Array.getElem?_extract] at hx
     split at hx
     · rw [Nat.add_comm];exact hx
     · cases hx)⟩
    have ht:=ih I8 IK
    have hl:r'.length=r.length:=by have h1:=ht.1;have h2:=IK.1;omega
    refine ⟨by simp [gH,hl],fun j u x hj hx=>?_⟩
    cases j with
    |zero=>
     simp only [List.getElem?_cons_zero,Option.some.injEq] at hj
     subst hj
     exact Gc hv (hr.2 0 v x (by simp) hx)
    |succ j=>
     refine ht.2 j u x (by simpa using hj) ?_
     have cQ:j+1<a.size:=(Array.getElem?_eq_some_iff.1 hx).1
     rw [Array.getElem?_extract,if_pos (by omega),Nat.add_comm]
     exact hx
  · cases h
theorem cP.append {E:Env} {l r:List V} {a b:Array Value} (h:cP E l a) (g:cP E r b):cP E (l++r) (a++b):=by
 refine ⟨by simp [h.1,g.1],fun j v x hj hx=>?_⟩
 rw [Array.getElem?_append] at hx
 rw [List.getElem?_append] at hj
 rw [h.1] at hx
 split at hj
 · rename_i cQ
   rw [if_pos cQ] at hx
   exact h.2 j v x hj hx
 · rename_i cQ
   rw [if_neg cQ] at hx
   exact g.2 _ v x hj hx
theorem rP {E:Env} {v v':V} {x:Value} (h:v.pass=some v') (hr:Rel E v x):Rel E.cut v' x:=by
 unfold V.pass at h
 split at h
 · split at h
   · rename_i cs _ y hy
     simp only [Option.some.injEq] at h
     subst h
     cases hr with
     |deep hd=>cases hd
     |agg _ a ha h1 II=>
      have:=wY hy ⟨ha,II⟩
      exact .agg _ _ this.1 h1 this.2
   · cases h
 · split at h
   · rename_i f a c _ _ y z hy hz
     simp only [Option.some.injEq] at h
     subst h
     cases hr with
     |deep hd=>cases hd
     |fn _ _ _ a' c' ha hc II T4=>
      have h1:=wY hy ⟨ha,II⟩
      have h2:=wY hz ⟨hc,T4⟩
      exact .fn _ _ _ _ _ h1.1 h2.1 h1.2 h2.2
   · cases h
 · exact Gc h hr
theorem wZ {E:Env}:∀ {l l':List V} {a:Array Value},dI l=some l'->cP E l a->cP E.cut l' a:=by
 intro l
 induction l with
 |nil=>
  intro l' a h hr
  simp only [dI,Option.some.injEq] at h
  subst h
  exact ⟨hr.1,fun j v x hj=>by simp at hj⟩
 |cons v r ih=>
  intro l' a h hr
  simp only [dI] at h
  split at h
  · rename_i v' r' hv I8
    simp only [Option.some.injEq] at h
    subst h
    have gH:a.size=r.length+1:=hr.1
    have IK:cP E r (a.extract 1 a.size):=⟨by simp [gH],fun j u x hj hx=>hr.2 (j+1) u x (by simpa using hj) (by
     rw [Array.getElem?_extract] at hx
     split at hx
     · rw [Nat.add_comm];exact hx
     · cases hx)⟩
    have ht:=ih I8 IK
    have hl:r'.length=r.length:=by have h1:=ht.1;have h2:=IK.1;omega
    refine ⟨by simp [gH,hl],fun j u x hj hx=>?_⟩
    cases j with
    |zero=>
     simp only [List.getElem?_cons_zero,Option.some.injEq] at hj
     subst hj
     exact rP hv (hr.2 0 v x (by simp) hx)
    |succ j=>
     refine ht.2 j u x (by simpa using hj) ?_
     have cQ:j+1<a.size:=(Array.getElem?_eq_some_iff.1 hx).1
     rw [Array.getElem?_extract,if_pos (by omega),Nat.add_comm]
     exact hx
  · cases h
theorem bC.cut {E:Env} {st:St} {w:World} (h:bC E st w):bC E.cut (eR st.g) w:=by
 have hl:∀ k,(eR st.g).live k->st.live k:=by
  intro k hk
  obtain ⟨n,rfl,o,ho⟩:=iR hk
  exact ⟨o,ho⟩
 refine ⟨h.ng,rfl,?_,h.gJ,?_,fun k k' hk jG cO=>h.sep k k' (hl k hk) (hl k' jG) cO,fun k hk=>h.own k (hl k hk)⟩
 · intro k hk
   obtain ⟨n,rfl,o,ho⟩:=iR hk
   exact h.g9 (.g n) ⟨o,ho⟩
 · intro k o hk
   obtain ⟨n,rfl,o',Of⟩:=iR ⟨o,hk⟩
   exact h.obj (.g n) o hk
def Env.join (E E':Env):Env where
 I:=E'.I
 μ k:=match k with
  |.g _=>E'.μ k
  |.l _=>E.μ k
 ng:=E'.ng
 nl:=E.nl
theorem bC.back {E E':Env} {st:St} {h':aA} {w w':World} (h:bC E st w) (hn:E'.nl=0) (hs:bC E' (eR h') w')
 (he:Ext E.cut (eR st.g) w E' (eR h') w'):bC (E.join E') ⟨h',st.l⟩ w'/\Ext E st w (E.join E') ⟨h',st.l⟩ w'/\E'.Le (E.join E'):=by
 have hle:E.Le (E.join E'):=by
  refine ⟨fun b o x hx=>he.le.gJ b o x hx,he.le.ng,Nat.le_refl _,?_⟩
  intro k hk
  cases k with
  |g n=>exact he.le.loc (.g n) hk
  |l n=>rfl
 have RK:E'.Le (E.join E'):=by
  refine ⟨fun b o x hx=>hx,Nat.le_refl _,by rw [hn];exact Nat.zero_le _,?_⟩
  intro k hk
  cases k with
  |g n=>rfl
  |l n=>simp [Env.has,hn] at hk
 have hlg:∀ n,st.live (.g n)->(eR st.g).live (.g n):=fun n ⟨o,ho⟩=>⟨o,ho⟩
 have OB:∀ k,(eR st.g).live k->st.live k:=by
  intro k hk
  obtain ⟨n,rfl,o,ho⟩:=iR hk
  exact ⟨o,ho⟩
 -- an object of EI Ut own aaX apart from all OC EI callee may write
 have Bo:∀ n,st.live (.l n)->∀ k,(eR st.g).live k->(E.cut.μ k).aW≠(E.μ (.l n)).aW:=by
  intro n hl k hk
  obtain ⟨m,rfl,o,ho⟩:=iR hk
  exact h.sep (.g m) (.l n) ⟨o,ho⟩ hl (by simp)
 have hZ:∀ k,St.live ⟨h',st.l⟩ k->(∃ n,k=.g n/\(eR h').live (.g n))\/∃ n,k=.l n/\st.live (.l n):=by
  rintro (n|n) ⟨o,ho⟩
  · exact .inl ⟨n,rfl,o,ho⟩
  · exact .inr ⟨n,rfl,o,ho⟩
 have kL:∀ n,st.live (.l n)->w'.heap[(E.μ (.l n)).aW]? =w.heap[(E.μ (.l n)).aW]? :=fun n hl=>
  he.same _ (h.lt hl) (Bo n hl)
 have ZC:∀ n m,(eR h').live (.g n)->st.live (.l m)->(E'.μ (.g n)).aW≠(E.μ (.l m)).aW:=by
  intro n m hg hl
  by_cases ha:E.cut.has (.g n)
  · rw [he.le.loc _ ha]
    exact Bo m hl _ (he.eF _ hg ha)
  · rcases he.eQ _ hg ha with h1|⟨k0,h1,h2⟩
    · have:=h.lt hl
      omega
    · rw [<-h2]
      exact Bo m hl _ h1
 refine ⟨⟨hs.ng,h.nl,?_,hs.gJ,?_,?_,?_⟩,⟨hle,he.size,?_,?_,?_,?_,he.os,he.out,he.tape⟩,RK⟩
 · intro k hk
   rcases hZ k hk with ⟨n,rfl,hg⟩|⟨n,rfl,hl⟩
   · exact RK.has (hs.g9 _ hg)
   · exact hle.has (h.g9 _ hl)
 · intro k o hk
   cases k with
   |g n=>
    have:=hs.obj (.g n) o hk
    exact this.lM (Env.wW RK) rfl
   |l n=>
    have:=h.obj (.l n) o hk
    exact this.lM hle (kL n ⟨o,hk⟩)
 · intro a b ha hb cO
   rcases hZ a ha with ⟨n,rfl,hg⟩|⟨n,rfl,hl⟩<;>rcases hZ b hb with ⟨m,rfl,ZD⟩|⟨m,rfl,qF⟩
   · exact hs.sep _ _ hg ZD cO
   · exact ZC n m hg qF
   · exact fun e=>ZC m n ZD hl e.symm
   · exact h.sep _ _ hl qF cO
 · intro k hk j h1 h2
   rcases hZ k hk with ⟨n,rfl,hg⟩|⟨n,rfl,hl⟩
   · exact hs.own _ hg j h1 h2
   · show E'.I _ j=none
     cases hx:E'.I (E.μ (.l n)).aW j with
     |none=>exact hx
     |some x=>
      rcases he.eJ _ _ _ hx with h3|h3|⟨k0,h3,h4⟩
      · have:=h.own _ hl j h1 h2
        rw [show E.cut.I=E.I from rfl,this] at h3
        cases h3
      · have:=h.lt hl
        omega
      · exact absurd h4 (Bo n hl _ h3)
 · intro b o x hx
   rcases he.eJ b o x hx with h1|h1|⟨k,h1,h2⟩
   · exact .inl h1
   · exact .inr (.inl h1)
   · exact .inr (.inr ⟨k,OB k h1,h2⟩)
 · intro k hk ha
   rcases hZ k hk with ⟨n,rfl,hg⟩|⟨n,rfl,hl⟩
   · exact OB _ (he.eF _ hg ha)
   · exact hl
 · intro k hk ha
   rcases hZ k hk with ⟨n,rfl,hg⟩|⟨n,rfl,hl⟩
   · rcases he.eQ _ hg ha with h1|⟨k0,h1,h2⟩
     · exact .inl h1
     · exact .inr ⟨k0,OB k0 h1,h2⟩
   · exact absurd (h.g9 _ hl) ha
 · intro b hb hn
   exact he.same b hb fun k hk=>by
    have:=hn k (OB k hk)
    obtain ⟨n,rfl,o,ho⟩:=iR hk
    exact this
theorem aB.use {P:Program} {f:Nat} {vs:List V} {E:Env} {st:St} {w:World} (hs:bC E st w) {args:List V} {a:Array Value} (hp:dI args=some vs)
 (ha:cP E args a) {K:V->aA->Prop} (h:aB P f vs st.g K) {next:Value->World->Prop}
 (hK:∀ v h' E' w' x,K v h'->bC E' ⟨h',st.l⟩ w'->Ext E st w E' ⟨h',st.l⟩ w'->Rel E' v x->next x w') {Q:Exit->Act->World->Prop} {act:Act}:
 Calls P f a w fun
  |.returned v,w'=>next v w'
  |.panicked chain,w'=>Q (.panic chain) act w'
  |.outgrown,_=>LetsOut Q:=by
 refine (h.2 E.cut w a rfl hs.cut (wZ hp ha)).mono ?_
 rintro e w' ⟨v,x,h',E',hk,rfl,hn,iA,he,hr⟩
 obtain ⟨h1,h2,h3⟩:=hs.back hn iA he
 exact hK v h' _ w' x hk h1 h2 (hr.mono h3)
open Go
def kM:Nat->Value->V->Bool
 |0,_,_=>false
 |n+1,x,v=>match x,v with
  |.bool p,.b q=>p==q
  |.int k p,.i k' q=>decide (k=k')&&decide (p=q)
  |.string p,.s q=>decide (p.data.toList=q)
  |.pointer none,.dZ=>true
  |.slice none 0 0,.bU=>true
  |.map none,.cY=>true
  |.nilFunc,.eA=>true
  |.agg cs,.agg l=>decide (cs.size=l.length)&&cs.all (·.oneCell')&&(cs.toList.zip l).all fun q=>kM n q.1 q.2
  |.tuple cs,.bO l=>decide (cs.size=l.length)&&(cs.toList.zip l).all fun q=>kM n q.1 q.2
  |_,_=>false
theorem Bp {α β:Type} {p:α×β->Bool} {l:List α} {r:List β} (h:(l.zip r).all p=true) {j:Nat} {x:α} {y:β} (hx:l[j]? =some x) (hy:r[j]? =some y):p (x,y)=true:=by
 rw [List.all_eq_true] at h
 refine h (x,y) (List.mem_of_getElem? (i:=j) ?_)
 rw [List.getElem?_zip_eq_some]
 exact ⟨hx,hy⟩
theorem gC {n:Nat}:∀ {x:Value} {v:V},kM n x v=true->∀ E,Rel E v x:=by
 induction n with
 |zero=>intro x v h;cases h
 |succ n ih=>
  intro x v h E
  unfold kM at h
  split at h
  · rw [beq_iff_eq] at h;subst h;exact .deep (.b _)
  · simp only [Bool.and_eq_true,decide_eq_true_eq] at h;obtain ⟨rfl,rfl⟩:=h;exact .deep (.i _ _)
  · simp only [decide_eq_true_eq] at h
    subst h
    rename_i p
    have:str p.data.toList=p:=by cases p;rfl
    have h2:=cV.s (I:=E.I) p.data.toList
    rw [this] at h2
    exact .deep h2
  · exact .dZ
  · exact .deep .bU
  · exact .cY
  · exact .eA
  · simp only [Bool.and_eq_true,decide_eq_true_eq] at h
    refine .agg _ _ h.1.1 ?_ fun j u y hj hy=>ih (Bp h.2 (by rw [Array.getElem?_toList];exact hy) hj) E
    intro j x hx
    exact (Array.all_eq_true_iff_forall_mem.1 h.1.2) x (Array.mem_of_getElem? hx)
  · simp only [Bool.and_eq_true,decide_eq_true_eq] at h
    exact .bO _ _ h.1 fun j u y hj hy=>ih (Bp h.2 (by rw [Array.getElem?_toList];exact hy) hj) E
  · cases h
def b9 (x:Operand) (d:aV):Bool:=
 match x,d with
 |.tmp t,.t n=>t==n
 |.const x,.c v=>kM 4 x v
 |.func f,.c (.fn g [] [])=>f==g
 |_,_=>false
def w6:List Operand->List aV->Bool
 |[],[]=>true
 |x::r,d::q=>b9 x d&&w6 r q
 |_,_=>false
def m8:Option Operand->Option aV->Bool
 |none,none=>true
 |some x,some d=>b9 x d
 |_,_=>false
structure aJ (E:Env) (N:Nat) (fr:Fr) (a:Act):Prop where
 size:a.tmps.size=N
 rel:∀ t,Rel E (fr.get t) (a.tmps.getD t undef)
theorem aJ.mono {E F:Env} (h:E.Le F) {N:Nat} {fr:Fr} {a:Act} (hf:aJ E N fr a):aJ F N fr a:=⟨hf.size,fun t=>(hf.rel t).mono h⟩
theorem aH {x:Operand} {d:aV} (h:b9 x d=true) {E:Env} {N:Nat} {fr:Fr} {a:Act} (hf:aJ E N fr a):Rel E (d.ev fr) (a.eval x):=by
 unfold b9 at h
 split at h
 · rw [beq_iff_eq] at h;subst h;exact hf.rel _
 · exact gC h E
 · rw [beq_iff_eq] at h
   subst h
   exact .fn _ _ _ _ _ rfl rfl (fun j v x hj=>by simp at hj) (fun j v x hj=>by simp at hj)
 · cases h
theorem rQ {E:Env} {N:Nat} {fr:Fr} {a:Act} (hf:aJ E N fr a):∀ {xs:List Operand} {ds:List aV},w6 xs ds=true->cP E (aV.wH fr ds) (xs.map a.eval).toArray:=by
 intro xs
 induction xs with
 |nil=>
  intro ds h
  cases ds with
  |nil=>exact ⟨rfl,fun j v x hj=>by simp [aV.wH] at hj⟩
  |cons d r=>cases h
 |cons x r ih=>
  intro ds h
  cases ds with
  |nil=>cases h
  |cons d q=>
   simp only [w6,Bool.and_eq_true] at h
   have h1:=aH h.1 hf
   have h2:=ih h.2
   refine ⟨by simp [aV.wH,<-h2.1],fun j v y hj hy=>?_⟩
   cases j with
   |zero=>
    simp [aV.wH] at hj hy
    subst hj;subst hy;exact h1
   |succ j=>exact h2.2 j v y (by simpa [aV.wH] using hj) (by simpa using hy)
theorem CY {E:Env} {N:Nat} {fr:Fr} {a:Act} (hf:aJ E N fr a) {x:Option Operand} {d:Option aV} (h:m8 x d=true):
 (x=none/\aV.mZ fr d=none)\/∃ y v,x.map a.eval=some y/\aV.mZ fr d=some v/\Rel E v y:=by
 unfold m8 at h
 split at h
 · exact .inl ⟨rfl,rfl⟩
 · exact .inr ⟨_,_,rfl,rfl,aH h hf⟩
 · cases h
section
variable {P:Program} {o:Oper} {a:Act} {w:World} {next:Act->World->Prop} {Q:Exit->Act->World->Prop}
theorem aG {x:Value} {w':World} (h:(execOp a.eval o).run P w=.ok (.value x) w') (hn:next (a.put o.dst x) w'):o.wp P a w next Q:=by
 unfold Oper.wp;rw [h];exact hn
theorem w7 {w':World} (h:(execOp a.eval o).run P w=.ok .skip w') (hn:next (a.put o.dst undef) w'):o.wp P a w next Q:=by
 unfold Oper.wp;rw [h];exact hn
end
def dJ (E:Env) (st:St) (w:World) (o:Oper) (a:Act) (next:Act->World->Prop) (K:R->Prop):Prop:=
 ∀ v aR E' w' x,K (v,aR)->bC E' aR w'->Ext E st w E' aR w'->Rel E' v x->next (a.put o.dst x) w'
section
variable {P:Program} {o:Oper} {a:Act} {E:Env} {N:Nat} {st:St} {w:World} {fr:Fr} {next:Act->World->Prop} {Q:Exit->Act->World->Prop} {K:R->Prop}
theorem dJ.same (hc:dJ E st w o a next K) (hs:bC E st w) {v:V} {x:Value} (hk:K (v,st)) (hr:Rel E v x):next (a.put o.dst x) w:=
 hc v st E w x hk hs (.refl E st w) hr
theorem OD {x:Operand} {d:aV} (ho:o.op=.move x) (hx:b9 x d=true) (hs:bC E st w) (hf:aJ E N fr a)
 (hw:(step (.mv d) fr st).wp (aB P) K) (hc:dJ E st w o a next K):o.wp P a w next Q:=
 aG (x:=a.eval x) (by simp [execOp,ho]) (hc.same hs hw (aH hx hf))
theorem I9 {x:Operand} {d:aV} (ho:o.op=.assign x) (hx:b9 x d=true) (hs:bC E st w) (hf:aJ E N fr a)
 (hw:(step (.IU d) fr st).wp (aB P) K) (hc:dJ E st w o a next K):o.wp P a w next Q:=
 aG (x:=a.eval x) (by simp [execOp,ho]) (hc.same hs hw (aH hx hf))
theorem Rel.bool {x:Bool} {y:Value} (h:Rel E (.b x) y):y=.bool x:=by cases h with|deep h=>cases h;rfl
theorem Rel.int {k:IntKind} {n:Int} {y:Value} (h:Rel E (.i k n) y):y=.int k n:=by cases h with|deep h=>cases h;rfl
theorem Rel.vJ {l:List UInt8} {y:Value} (h:Rel E (.s l) y):y=.string (str l):=by cases h with|deep h=>cases h;rfl
theorem Hg {x y z:Operand} {c d e:aV} (ho:o.op=.pick x y z) (hx:b9 x c=true) (hy:b9 y d=true) (hz:b9 z e=true) (hs:bC E st w) (hf:aJ E N fr a)
 (hw:(step (.pick c d e) fr st).wp (aB P) K) (hc:dJ E st w o a next K):o.wp P a w next Q:=by
 have h1:=aH hx hf
 simp only [step] at hw
 split at hw
 · rename_i b hb
   rw [hb] at h1
   have h1:=h1.bool
   cases b with
   |true=>exact aG (x:=a.eval y) (by simp [execOp,ho,asBool,h1]) (hc.same hs (hw.1 rfl) (aH hy hf))
   |false=>exact aG (x:=a.eval z) (by simp [execOp,ho,asBool,h1]) (hc.same hs (hw.2 rfl) (aH hz hf))
 · exact hw.elim
end
open Go
section
variable {P:Program} {o:Oper} {a:Act} {E:Env} {N:Nat} {st:St} {w:World} {fr:Fr} {next:Act->World->Prop} {Q:Exit->Act->World->Prop} {K:R->Prop}
theorem dQ {op:BinOp} {t yt:TypeId} {x y:Operand} {v:Value} (ho:o.op=.binOp op t x y yt) (hg:eqGuard op t x y (a.eval x) (a.eval y)=pure ())
 (h:(binOp op t (a.eval x) (a.eval y)).run P w=.ok v w):(execOp a.eval o).run P w=.ok (.value v) w:=by
 simp [execOp,ho,hg,h]
theorem OE (bs:ByteArray):∀ (n i:Nat) (r:List UInt8),bs.size - i=n->ByteArray.toList.loop bs i r=r.reverse++bs.data.toList.drop i:=by
 intro n
 induction n with
 |zero=>
  intro i r h
  unfold ByteArray.toList.loop
  rw [if_neg (by omega)]
  have:bs.data.toList.drop i=[]:=List.drop_eq_nil_of_le (by simp;have:bs.size=bs.data.size:=rfl;omega)
  rw [this,List.append_nil]
 |succ n ih=>
  intro i r h
  unfold ByteArray.toList.loop
  have cQ:i<bs.size:=by omega
  rw [if_pos cQ,ih (i+1) _ (by omega)]
  have Ja:i<bs.data.toList.length:=by simpa using cQ
  rw [List.drop_eq_getElem_cons Ja]
  have:bs.get! i=bs.data.toList[i]:=by
   have:i<bs.data.size:=cQ
   simp only [ByteArray.get!,Array.getElem_toList]
   exact getElem!_pos bs.data i this
  rw [this]
  simp
theorem Hh (bs:ByteArray):bs.toList=bs.data.toList:=by
 unfold ByteArray.toList
 rw [OE bs _ 0 [] rfl]
 simp
theorem eY (l:List UInt8):(str l).toList=l:=by rw [Hh];rfl
theorem Jb {op:BinOp} {t yt:TypeId} {x y:Operand} {d e:aV} (ho:o.op=.binOp op t x y yt) (hx:b9 x d=true) (hy:b9 y e=true) (hs:bC E st w) (hf:aJ E N fr a)
 (hw:(step (.bin op d e) fr st).wp (aB P) K) (hc:dJ E st w o a next K):o.wp P a w next Q:=by
 have h1:=aH hx hf
 have h2:=aH hy hf
 simp only [step,cK] at hw
 split at hw
 · rename_i k p k' q e1 e2
   rw [e1] at h1
   rw [e2] at h2
   have h1:=h1.int
   have h2:=h2.int
   have hg:eqGuard op t x y (a.eval x) (a.eval y)=pure ():=by rw [h1];exact eqGuard_at_int _ _ _ _ _ _ _
   cases op
   case shl=>
    obtain ⟨hq,hw⟩:=hw
    have hq:0<=q:=by simpa using hq
    rw [T.wp,jQ] at hw
    exact aG (dQ ho hg (by rw [h1,h2,binOp_shl];simp [Op.shift,show ¬q<0 by omega])) (hc.same hs hw (.deep (.i _ _)))
   case shr=>
    obtain ⟨hq,hw⟩:=hw
    have hq:0<=q:=by simpa using hq
    exact aG (dQ ho hg (by rw [h1,h2,binOp_shr];simp [Op.shift,show ¬q<0 by omega])) (hc.same hs hw (.deep (.i _ _)))
   all_goals
    simp only at hw
    split at hw
    · rename_i hk
      subst hk
      first
       |(rw [T.wp,jQ] at hw
         exact aG (dQ ho hg (by rw [h1,h2];simp [binOp,Op.intArith])) (hc.same hs hw (.deep (.i _ _))))
       |(obtain ⟨hq,hw⟩:=hw
         have hq:¬q=0:=by simpa using hq
         rw [T.wp,jQ] at hw
         exact aG (dQ ho hg (by rw [h1,h2];simp [binOp,Op.intDiv,hq])) (hc.same hs hw (.deep (.i _ _))))
       |(obtain ⟨hq,hw⟩:=hw
         have hq:¬q=0:=by simpa using hq
         exact aG (dQ ho hg (by rw [h1,h2];simp [binOp,Op.intDiv,hq])) (hc.same hs hw (.deep (.i _ _))))
       |exact aG (dQ ho hg (by rw [h1,h2];simp [binOp,Op.intBits])) (hc.same hs hw (.deep (.i _ _)))
       |exact aG (dQ ho hg (by rw [h1,h2];simp [binOp,Op.intCmp]<;>rfl)) (hc.same hs hw (.deep (.b _)))
    · exact hw.elim
 · rename_i p q e1 e2
   rw [e1] at h1
   rw [e2] at h2
   have h1:=h1.vJ
   have h2:=h2.vJ
   have hg:eqGuard op t x y (a.eval x) (a.eval y)=pure ():=by rw [h1];exact eqGuard_at_string _ _ _ _ _ _
   have gH:∀ l,(str l).size=l.length:=fun l=>by simp [str,ByteArray.size]
   cases op
   case add=>
    obtain ⟨hq,hw⟩:=hw
    have hq:((p.length+q.length:Nat):Int)<=9223372036854775807:=by simpa using hq
    refine aG (x:=.string (str (p++q))) (dQ ho hg ?_) (hc.same hs hw (.deep (.s _)))
    rw [h1,h2]
    simp only [binOp,Op.stringOp,gH,IntKind.max_i64]
    rw [if_neg (by omega)]
    have:str p++str q=str (p++q):=by
     apply ByteArray.ext
     simp [str]
    rw [this];rfl
   case eql=>exact aG (dQ ho hg (by rw [h1,h2];simp [binOp,Op.stringOp,eY])) (hc.same hs hw (.deep (.b _)))
   case neq=>exact aG (dQ ho hg (by rw [h1,h2];simp [binOp,Op.stringOp,eY])) (hc.same hs hw (.deep (.b _)))
   case lss=>exact aG (dQ ho hg (by rw [h1,h2];simp [binOp,Op.stringOp,eY])) (hc.same hs hw (.deep (.b _)))
   case leq=>exact aG (dQ ho hg (by rw [h1,h2];simp [binOp,Op.stringOp,eY])) (hc.same hs hw (.deep (.b _)))
   case gtr=>exact aG (dQ ho hg (by rw [h1,h2];simp [binOp,Op.stringOp,eY])) (hc.same hs hw (.deep (.b _)))
   case geq=>exact aG (dQ ho hg (by rw [h1,h2];simp [binOp,Op.stringOp,eY])) (hc.same hs hw (.deep (.b _)))
   all_goals exact hw.elim
 · exact hw.elim
theorem OF {op:UnOp} {t:TypeId} {x:Operand} {d:aV} (ho:o.op=.unOp op t x) (hx:b9 x d=true) (hs:bC E st w) (hf:aJ E N fr a)
 (hw:(step (.un op d) fr st).wp (aB P) K) (hc:dJ E st w o a next K):o.wp P a w next Q:=by
 have h1:=aH hx hf
 simp only [step] at hw
 split at hw
 · rename_i y e1
   rw [e1] at h1
   have h1:=h1.bool
   exact aG (x:=.bool (!y)) (by simp [execOp,ho,h1,Op.unary]) (hc.same hs hw (.deep (.b _)))
 · rename_i k n e1
   rw [e1] at h1
   have h1:=h1.int
   rw [T.wp,jQ] at hw
   exact aG (x:=.int k (k.wrap (0 - n))) (by simp [execOp,ho,h1,Op.unary,Op.intArith]) (hc.same hs hw (.deep (.i _ _)))
 · exact hw.elim
theorem Jc {s t:TypeId} {k:IntKind} {x:Operand} {d:aV} (ho:o.op=.convert s t x) (hx:b9 x d=true) (hu:(P.underlying s).isSome=true) (ht:P.underlying t=some (.int k))
 (hs:bC E st w) (hf:aJ E N fr a) (hw:(step (.N9 k d) fr st).wp (aB P) K) (hc:dJ E st w o a next K):o.wp P a w next Q:=by
 have h1:=aH hx hf
 simp only [step] at hw
 split at hw
 · rename_i k' n e1
   rw [e1] at h1
   have h1:=h1.int
   rw [T.wp,jQ] at hw
   obtain ⟨du,RL⟩:=Option.isSome_iff_exists.1 hu
   refine aG (x:=.int k (k.wrap n)) ?_ (hc.same hs hw (.deep (.i _ _)))
   simp [execOp,ho,h1,convert,run_underlying RL,run_underlying ht,Conv.intToInt]
 · exact hw.elim
theorem Jd {s t:TypeId} {x:Operand} {d:aV} (ho:o.op=.convert s t x) (hx:b9 x d=true) (hu:(P.underlying s).isSome=true) (ht:P.underlying t=some .string)
 (hs:bC E st w) (hf:aJ E N fr a) (hw:(step (.Oa d) fr st).wp (aB P) K) (hc:dJ E st w o a next K):o.wp P a w next Q:=by
 have h1:=aH hx hf
 simp only [step] at hw
 split at hw
 · rename_i y e1
   rw [e1] at h1
   have h1:=h1.vJ
   obtain ⟨du,RL⟩:=Option.isSome_iff_exists.1 hu
   refine aG (x:=.string (str y)) ?_ (hc.same hs hw (.deep (.s _)))
   simp [execOp,ho,h1,convert,run_underlying RL,run_underlying ht]
 · exact hw.elim
theorem Hi {x:Operand} {d:aV} (ho:o.op=.nilCheck x) (hx:b9 x d=true) (hs:bC E st w) (hf:aJ E N fr a)
 (hw:(step (.rG d) fr st).wp (aB P) K) (hc:dJ E st w o a next K):o.wp P a w next Q:=by
 have h1:=aH hx hf
 simp only [step] at hw
 split at hw
 case h_5=>exact hw.elim
 all_goals
  rename_i e1
  rw [e1] at h1
  refine aG (x:=a.eval x) ?_ (hc.same hs hw h1)
  generalize hy:a.eval x=y at h1
  cases h1<;>first|(rename_i hd;cases hd)|simp [execOp,ho,hy]
theorem EZ {t:TypeId} {x:Operand} {f:Nat} {d:aV} {fs:Array Field} {fl:Field} {off:Nat} (ho:o.op=.fieldAddr t x f) (hx:b9 x d=true)
 (hu:P.underlying t=some (.struct fs)) (w8:fs[f]? =some fl) (RM:fl.offset=off) (hz:∃ i,P.info? fl.type=some i/\i.size≠0)
 (hs:bC E st w) (hf:aJ E N fr a) (hw:(step (.jS off d) fr st).wp (aB P) K) (hc:dJ E st w o a next K):o.wp P a w next Q:=by
 have h1:=aH hx hf
 subst RM
 obtain ⟨i,hi,Xk⟩:=hz
 have cJ:∀ b c,a.eval x=.pointer (some ⟨b,c,none⟩)->(execOp a.eval o).run P w=.ok (.value (.pointer (some ⟨b,c+fl.offset,none⟩))) w:=by
  intro b c hb
  simp [execOp,ho,hb,Instr.fieldAt,run_underlying hu,w8,Instr.sureAddr,fieldPlace,sizeOf,typeInfo,hi,Xk,Addr.add_lit]
 simp only [step] at hw
 split at hw
 · rename_i k c e1
   rw [e1] at h1
   generalize hy:a.eval x=y at h1
   cases h1 with
   |deep hd=>cases hd
   |p _ _ hk=>
    refine aG (cJ _ _ hy) (hc.same hs hw ?_)
    rw [Nat.add_assoc];exact .p _ _ hk
 · rename_i k sz ix c e1
   rw [e1] at h1
   generalize hy:a.eval x=y at h1
   cases h1 with
   |deep hd=>cases hd
   |pa _ _ _ _ hk=>
    refine aG (cJ _ _ hy) (hc.same hs hw ?_)
    rw [Nat.add_assoc];exact .pa _ _ _ _ hk
 · rename_i cs c e1
   rw [e1] at h1
   generalize hy:a.eval x=y at h1
   cases h1 with
   |deep hd=>cases hd
   |pc _ _ aW c0 val hv hr=>
    refine aG (cJ _ _ hy) (hc.same hs hw ?_)
    rw [Nat.add_assoc];exact .pc _ _ _ _ val hv hr
 · exact hw.elim
theorem uI {cs:List V} {off n:Nat} {v:V} (h:cG cs off (some n)=some v):off+n<=cs.length/\v=.agg ((cs.drop off).take n):=by
 simp only [cG] at h
 split at h
 · rename_i hl;exact ⟨hl,(Option.some.inj h).symm⟩
 · cases h
def m9 (P:Program) (t:TypeId) (n:Option Nat):Bool:=
 match n,P.underlying t with
 |none,some d=>!d.isRow
 |some k,some d=>d.isRow&&(P.info? t).map (·.size)==some k
 |_,none=>false
theorem s8 {t:TypeId} {d:TypeDesc} (h:P.underlying t=some d) (w:World):(isAgg t).run P w=.ok d.isRow w:=by
 unfold isAgg
 rw [Sem.run_bind,run_underlying h w]
 cases d<;>rfl
theorem lN {t:TypeId} {n:Option Nat} (hn:m9 P t n=true) {cs:List V} {xs:Array Value} (hr:cP E cs xs) (h1:∀ (j:Nat) (x:Value),xs[j]? =some x->x.oneCell'=true)
 {off:Nat} {v:V} (hv:cG cs off n=some v):∃ x,(part t xs off).run P w=.ok x w/\Rel E v x:=by
 unfold m9 at hn
 split at hn
 · rename_i d hd
   obtain ⟨x,hx,s6⟩:=hr.get hv
   refine ⟨x,?_,s6⟩
   have:d.isRow=false:=by simpa using hn
   simp [part,s8 hd,this,hx]
 · rename_i k d hd
   simp only [Bool.and_eq_true,beq_iff_eq] at hn
   obtain ⟨hl,rfl⟩:=uI hv
   cases hq:P.info? t with
   |none=>simp [hq] at hn
   |some i=>
    have hs:i.size=k:=by simpa [hq] using hn.2
    refine ⟨.agg (xs.extract off (off+k)),?_,?_⟩
    · simp [part,s8 hd,hn.1,sizeOf,typeInfo,hq,hs]
    · have gH:=hr.1
      refine .agg _ _ ?_ ?_ ?_
      · simp only [Array.size_extract,List.length_take,List.length_drop];omega
      · intro j x hx
        rw [Array.getElem?_extract] at hx
        split at hx
        · exact h1 _ _ hx
        · cases hx
      · intro j u x hj hx
        rw [Array.getElem?_extract] at hx
        rw [List.getElem?_take] at hj
        split at hj
        · split at hx
          · rw [List.getElem?_drop] at hj
            exact hr.2 _ u x hj hx
          · cases hx
        · cases hj
 · cases hn
theorem Je {t:TypeId} {x:Operand} {f:Nat} {d:aV} {fs:Array Field} {fl:Field} {off:Nat} {n:Option Nat} (ho:o.op=.field t x f) (hx:b9 x d=true)
 (hu:P.underlying t=some (.struct fs)) (w8:fs[f]? =some fl) (RM:fl.offset=off) (hz:m9 P fl.type n=true)
 (hs:bC E st w) (hf:aJ E N fr a) (hw:(step (.Hf off n d) fr st).wp (aB P) K) (hc:dJ E st w o a next K):o.wp P a w next Q:=by
 have h1:=aH hx hf
 subst RM
 simp only [step] at hw
 split at hw
 · rename_i cs e1
   rw [e1] at h1
   generalize hy:a.eval x=y at h1
   cases h1 with
   |deep hd=>cases hd
   |agg _ b hb E3 RN=>
    unfold T.opt at hw
    split at hw
    · rename_i v hv
      obtain ⟨z,uJ,wJ⟩:=lN (w:=w) hz ⟨hb,RN⟩ E3 hv
      exact aG (x:=z) (by simp [execOp,ho,hy,Instr.field,run_underlying hu,w8,asAgg,uJ]) (hc.same hs hw wJ)
    · exact hw.elim
 · exact hw.elim
theorem o4 {i:Int} {n:Nat}:kJ i n=true↔0<=i/\i<n:=by simp [kJ]
theorem Hj {t e:TypeId} {x y:Operand} {d c:aV} {len sz:Nat} (ho:o.op=.indexAddr t x y) (hx:b9 x d=true) (hy:b9 y c=true)
 (hu:P.underlying t=some (.array len e)) (hz:(P.info? e).map (·.size)=some sz)
 (hs:bC E st w) (hf:aJ E N fr a) (hw:(step (.zN len sz d c) fr st).wp (aB P) K) (hc:dJ E st w o a next K):o.wp P a w next Q:=by
 have h1:=aH hx hf
 have h2:=aH hy hf
 cases hq:P.info? e with
 |none=>simp [hq] at hz
 |some i=>
 have hi:i.size=sz:=by simpa [hq] using hz
 simp only [step] at hw
 split at hw
 · rename_i k n e2
   rw [e2] at h2
   have h2:=h2.int
   obtain ⟨lO,hw⟩:=hw
   rw [o4] at lO
   have cJ:∀ b c,a.eval x=.pointer (some ⟨b,c,none⟩)->(execOp a.eval o).run P w=.ok (.value (.pointer (some ⟨b,c+n.toNat*sz,none⟩))) w:=by
    intro b c hb
    simp [execOp,ho,hb,h2,Instr.indexAt,asIntOf,run_underlying hu,Instr.sureAddr,sizeOf,typeInfo,hq,hi,lO.1,lO.2,Addr.add_lit]
   split at hw
   · rename_i k c e1
     rw [e1] at h1
     generalize hy:a.eval x=y at h1
     cases h1 with
     |deep hd=>cases hd
     |p _ _ hk=>
      refine aG (cJ _ _ hy) (hc.same hs hw ?_)
      rw [Nat.add_assoc];exact .p _ _ hk
   · rename_i k sz ix c e1
     rw [e1] at h1
     generalize hy:a.eval x=y at h1
     cases h1 with
     |deep hd=>cases hd
     |pa _ _ _ _ hk=>
      refine aG (cJ _ _ hy) (hc.same hs hw ?_)
      rw [Nat.add_assoc];exact .pa _ _ _ _ hk
   · rename_i cs c e1
     rw [e1] at h1
     generalize hy:a.eval x=y at h1
     cases h1 with
     |deep hd=>cases hd
     |pc _ _ aW c0 val hv hr=>
      refine aG (cJ _ _ hy) (hc.same hs hw ?_)
      rw [Nat.add_assoc];exact .pc _ _ _ _ val hv hr
   · exact hw.elim
 · exact hw.elim
theorem Jf {t:TypeId} {x y:Operand} {d c:aV} (ho:o.op=.index t x y) (hx:b9 x d=true) (hy:b9 y c=true) (hu:P.underlying t=some .string)
 (hs:bC E st w) (hf:aJ E N fr a) (hw:(step (.Od d c) fr st).wp (aB P) K) (hc:dJ E st w o a next K):o.wp P a w next Q:=by
 have h1:=aH hx hf
 have h2:=aH hy hf
 simp only [step] at hw
 split at hw
 · rename_i l k n e1 e2
   rw [e1] at h1
   rw [e2] at h2
   have h1:=h1.vJ
   have h2:=h2.int
   obtain ⟨h0,b,hb,hw⟩:=hw
   have h0:0<=n:=by simpa using h0
   refine aG (x:=.int .u8 b.toNat) ?_ (hc.same hs hw (.deep (.i _ _)))
   have:(str l)[n.toNat]? =some b:=by
    have cQ:=(List.getElem?_eq_some_iff.1 hb)
    obtain ⟨cQ,he⟩:=cQ
    have gH:(str l).size=l.length:=by simp [str,ByteArray.size]
    rw [getElem?_pos (str l) n.toNat (by rw [gH];exact cQ)]
    simp only [<-he]
    rfl
   simp [execOp,ho,h1,h2,Instr.index,asIntOf,run_underlying hu,h0,this]
 · exact hw.elim
theorem Jg {t e:TypeId} {x y:Operand} {d c:aV} {len sz:Nat} {n:Option Nat} (ho:o.op=.index t x y) (hx:b9 x d=true) (hy:b9 y c=true)
 (hu:P.underlying t=some (.array len e)) (hz:(P.info? e).map (·.size)=some sz) (hn:m9 P e n=true)
 (hs:bC E st w) (hf:aJ E N fr a) (hw:(step (.IG len sz n d c) fr st).wp (aB P) K) (hc:dJ E st w o a next K):o.wp P a w next Q:=by
 have h1:=aH hx hf
 have h2:=aH hy hf
 cases hq:P.info? e with
 |none=>simp [hq] at hz
 |some i=>
 have hi:i.size=sz:=by simpa [hq] using hz
 simp only [step] at hw
 split at hw
 · rename_i cs k j e1 e2
   rw [e1] at h1
   rw [e2] at h2
   have h2:=h2.int
   generalize hy:a.eval x=y at h1
   cases h1 with
   |deep hd=>cases hd
   |agg _ b hb E3 RN=>
    obtain ⟨lO,hw⟩:=hw
    rw [o4] at lO
    unfold T.opt at hw
    split at hw
    · rename_i v hv
      obtain ⟨z,uJ,wJ⟩:=lN (w:=w) hn ⟨hb,RN⟩ E3 hv
      exact aG (x:=z) (by simp [execOp,ho,hy,h2,Instr.index,asIntOf,run_underlying hu,lO.1,lO.2,sizeOf,typeInfo,hq,hi,uJ]) (hc.same hs hw wJ)
    · exact hw.elim
 · exact hw.elim
theorem Jh {x:Operand} {d:aV} {i:Nat} (ho:o.op=.extract x i) (hx:b9 x d=true)
 (hs:bC E st w) (hf:aJ E N fr a) (hw:(step (.ext d i) fr st).wp (aB P) K) (hc:dJ E st w o a next K):o.wp P a w next Q:=by
 have h1:=aH hx hf
 simp only [step] at hw
 split at hw
 · rename_i vs e1
   rw [e1] at h1
   generalize hy:a.eval x=y at h1
   cases h1 with
   |deep hd=>cases hd
   |bO _ b hb RN=>
    unfold T.opt at hw
    split at hw
    · rename_i v hv
      obtain ⟨z,uJ,wJ⟩:=cP.get ⟨hb,RN⟩ hv
      exact aG (x:=z) (by simp [execOp,ho,hy,Instr.extract,uJ]) (hc.same hs hw wJ)
    · exact hw.elim
 · exact hw.elim
theorem Hk {f:Nat} {first cap:Array Operand} {ds:List aV} (ho:o.op=.makeFunc (.func f) first cap) (h0:first.size=0) (hx:w6 cap.toList ds=true)
 (hs:bC E st w) (hf:aJ E N fr a) (hw:(step (.zL f ds) fr st).wp (aB P) K) (hc:dJ E st w o a next K):o.wp P a w next Q:=by
 have h1:=rQ hf hx
 have h0:first=#[]:=by simpa using h0
 subst h0
 refine aG (x:=.func (.func f) #[] (cap.map a.eval)) (by simp [execOp,ho,Instr.makeFunc]) (hc.same hs hw ?_)
 have e:(cap.toList.map a.eval).toArray=cap.map a.eval:=by
  apply Array.ext'
  simp
 rw [e] at h1
 exact .fn _ _ _ _ _ rfl h1.1 (fun j v x hj=>by simp at hj) h1.2
end
open Go
def dV (E:Env) (w:World) (b o:Nat) (cs:List V):Prop:=
 ∀ j v,cs[j]? =some v->∃ x,aT w b (o+j)=some x/\Rel E v x/\x.oneCell'=true
theorem cV.one {I:rK} {v:V} {x:Value} (h:cV I v x):x.oneCell'=true:=by cases h<;>rfl
theorem dV.mono {E F:Env} (h:E.Le F) {w:World} {b o:Nat} {cs:List V} (hc:dV E w b o cs):dV F w b o cs:=
 fun j v hj=>let ⟨x,a,c,d⟩:=hc j v hj;⟨x,a,c.mono h,d⟩
theorem dV.sub {E:Env} {w:World} {b o:Nat} {cs:List V} (hc:dV E w b o cs) (off n:Nat):dV E w b (o+off) ((cs.drop off).take n):=by
 intro j v hj
 rw [List.getElem?_take] at hj
 split at hj
 · rw [List.getElem?_drop] at hj
   rw [Nat.add_assoc]
   exact hc _ v hj
 · cases hj
theorem eH.l6 {z:Nat} {E:Env} {w:World} {L:Loc} {cs:List V} (h:eH z E w L cs):dV E w L.aW L.base cs:=by
 obtain ⟨cells,t,fz,h1,_,_,_,h5⟩:=h
 intro j v hj
 obtain ⟨x,hx,hr,ho⟩:=h5 j v hj
 exact ⟨x,by simp [aT,h1,hx],hr,ho⟩
theorem bC.Ji {E:Env} {st:St} {w:World} (h:bC E st w) {cs:List V} {b o:Nat} {val:Nat->Value} (hv:∀ j d,cs[j]? =some d->E.I b (o+j)=some (val j))
 (hr:∀ j d,cs[j]? =some d->cV E.I d (val j)):dV E w b o cs:=
 fun j v hj=>⟨val j,h.gJ _ _ _ (hv j v hj),.deep (hr j v hj),(hr j v hj).one⟩
theorem dV.list {E:Env} {w:World} {b:Nat}:∀ {cs:List V} {o:Nat},dV E w b o cs->
 ∃ xs:List Value,xs.length=cs.length/\w.rangeAt b o xs/\cP E cs xs.toArray/\∀ x∈xs,x.oneCell'=true:=by
 intro cs
 induction cs with
 |nil=>exact fun _=>⟨[],rfl,fun j v hj=>by simp at hj,⟨rfl,fun j v x hj=>by simp at hj⟩,fun x hx=>by simp at hx⟩
 |cons v r ih=>
  intro o h
  obtain ⟨x,hx,hr,ho⟩:=h 0 v rfl
  obtain ⟨xs,h1,h2,h3,h4⟩:=ih (o:=o+1) (fun j u hj=>by
   have:=h (j+1) u (by simpa using hj)
   rw [show o+1+j=o+(j+1) by omega];exact this)
  refine ⟨x::xs,by simp [h1],?_,⟨by simp [h1],?_⟩,?_⟩
  · intro j u hj
    cases j with
    |zero=>
     simp at hj
     subst hj
     rw [jV];exact hx
    |succ j=>
     have:=h2 j u (by simpa using hj)
     rw [show o+(j+1)=o+1+j by omega];exact this
  · intro j u y hj hy
    cases j with
    |zero=>
     simp at hj hy
     subst hj;subst hy;exact hr
    |succ j=>exact h3.2 j u y (by simpa using hj) (by simpa using hy)
  · intro y hy
    cases hy with
    |head=>exact ho
    |tail _ hy=>exact h4 y hy
theorem jW {P:Program} {E:Env} {w:World} {t:TypeId} {n:Option Nat} (hn:m9 P t n=true) {b o:Nat} {cs:List V} (h:dV E w b o cs) {off:Nat} {v:V}
 (hv:cG cs off n=some v):∃ x,(loadVar t ⟨b,o+off,none⟩).run P w=.ok x w/\Rel E v x:=by
 unfold m9 at hn
 split at hn
 · rename_i d hd
   obtain ⟨x,hx,hr,_⟩:=h off v hv
   refine ⟨x,?_,hr⟩
   have hf:d.isRow=false:=by simpa using hn
   have hc:w.cell? ⟨b,o+off,none⟩=some x:=by rw [jV];exact hx
   simp [loadVar,s8 hd,hf,load,Sem.run,hc]
 · rename_i k d hd
   simp only [Bool.and_eq_true,beq_iff_eq] at hn
   obtain ⟨hl,rfl⟩:=uI hv
   obtain ⟨xs,h1,h2,h3,h4⟩:=(h.sub off k).list
   have hk:xs.length=k:=by rw [h1];simp;omega
   refine ⟨.agg xs.toArray,run_loadVar_mid w b (o+off) t xs d h2 hd hn.1 (by rw [hn.2,hk]),.agg _ _ h3.1 ?_ h3.2⟩
   intro j x hx
   exact h4 x (List.mem_of_getElem? (i:=j) (by simpa using hx))
 · cases hn
def lP:Array Value->Nat->List Value->Array Value
 |c,_,[]=>c
 |c,o,v::r=>lP (c.setIfInBounds o v) (o+1) r
theorem eZ:∀ (vs:List Value) (c:Array Value) (o:Nat),(lP c o vs).size=c.size
 |[],_,_=>rfl
 |v::r,c,o=>by rw [lP,eZ r];simp
theorem iF:∀ (vs:List Value) (c:Array Value) (o j:Nat),o+vs.length<=c.size->
 (lP c o vs)[j]? =if o<=j/\j<o+vs.length then vs[j - o]? else c[j]?
 |[],c,o,j,_=>by simp [lP];omega
 |v::r,c,o,j,h=>by
  simp only [List.length_cons] at h
  rw [lP,iF r _ _ _ (by simp;omega)]
  by_cases h1:j=o
  · subst h1
    rw [if_neg (by omega),if_pos (by simp)]
    simp [show j<c.size by omega]
  · by_cases h2:o+1<=j/\j<o+1+r.length
    · rw [if_pos h2,if_pos (by simp;omega)]
      rw [show j - o=(j - (o+1))+1 by omega]
      simp
    · rw [if_neg h2,if_neg (by simp;omega)]
      rw [Array.getElem?_setIfInBounds_ne (fun e=>h1 e.symm)]
theorem e7:∀ (vs cs:List V) (o:Nat),(b8 cs o vs).length=cs.length
 |[],_,_=>rfl
 |v::r,c,o=>by rw [b8,e7 r];simp
theorem e8:∀ (vs cs:List V) (o j:Nat),o+vs.length<=cs.length->
 (b8 cs o vs)[j]? =if o<=j/\j<o+vs.length then vs[j - o]? else cs[j]?
 |[],c,o,j,_=>by simp [b8];omega
 |v::r,c,o,j,h=>by
  simp only [List.length_cons] at h
  rw [b8,e8 r _ _ _ (by simp;omega)]
  by_cases h1:j=o
  · subst h1
    rw [if_neg (by omega),if_pos (by simp)]
    simp [show j<c.length by omega]
  · by_cases h2:o+1<=j/\j<o+1+r.length
    · rw [if_pos h2,if_pos (by simp;omega)]
      rw [show j - o=(j - (o+1))+1 by omega]
      simp
    · rw [if_neg h2,if_neg (by simp;omega)]
      rw [List.getElem?_set_ne (fun e=>h1 e.symm)]
theorem fQ (b:Nat):∀ (vs:List Value) (o:Nat) (w:World) {c:Array Value} {t:TypeId} {fz:Nat×Nat},w.heap[b]? =some (.cells c t fz)->
 (w.setCells b o vs).heap[b]? =some (.cells (lP c o vs) t fz)
 |[],_,_,_,_,_,h=>h
 |v::r,o,w,c,t,fz,h=>by
  refine fQ b r (o+1) _ ?_
  simp only [World.setCell,Array.getElem?_modify,h,if_true,Option.map_some]
  rfl
theorem gN (b:Nat) {k:Nat} (hk:k≠b):∀ (vs:List Value) (o:Nat) (w:World),(w.setCells b o vs).heap[k]? =w.heap[k]?
 |[],_,_=>rfl
 |v::r,o,w=>by
  rw [World.setCells,gN b hk r]
  simp only [World.setCell,Array.getElem?_modify]
  rw [if_neg (by omega)]
theorem iO (b:Nat):∀ (vs:List Value) (o:Nat) (w:World),(w.setCells b o vs).heap.size=w.heap.size/\(w.setCells b o vs).os=w.os/\(w.setCells b o vs).output=w.output/\(w.setCells b o vs).tape=w.tape
 |[],_,_=>⟨rfl,rfl,rfl,rfl⟩
 |v::r,o,w=>by
  obtain ⟨h1,h2,h3,h4⟩:=iO b r (o+1) (w.setCell ⟨b,o,none⟩ v)
  exact ⟨h1.trans (by simp [World.setCell]),h2,h3,h4⟩
theorem Fz.free {z:Nat} {w:World} {b:Nat} {c:Array Value} {t:TypeId} {fz:Nat×Nat} (hb:w.heap[b]? =some (.cells c t fz)) (hf:mV z fz c.size) {j:Nat} (hj:j<c.size):w.frozen? ⟨b,j,none⟩=false:=by
 obtain ⟨lo,hi⟩:=fz
 simp only [World.frozen?,hb,Bool.and_eq_false_iff,decide_eq_false_iff_not]
 rcases hf with h|h
 · simp only at h;omega
 · simp only at h;omega
theorem Row.there {z:Nat} {w:World} {b:Nat} {c:Array Value} {t:TypeId} {fz:Nat×Nat} (hb:w.heap[b]? =some (.cells c t fz)) (hf:mV z fz c.size) {o n:Nat} (hn:o+n<=c.size):w.there b o n:=by
 intro j hj
 refine ⟨?_,Fz.free hb hf (by omega)⟩
 rw [jV]
 simp only [aT,hb]
 simp [show o+j<c.size by omega]
theorem bC.write {E:Env} {st:St} {w:World} (h:bC E st w) {k:Key} {o0:Obj} (hk:st.get k=some o0) {cells:Array Value} {t:TypeId} {fz:Nat×Nat}
 (hb:w.heap[(E.μ k).aW]? =some (.cells cells t fz)) (aaY:(E.μ k).fin<=cells.size) {pos:Nat} {xs:List Value} (h1:(E.μ k).base<=pos) (h2:pos+xs.length<=(E.μ k).fin) (o':Obj)
 (Of:Holds (E.at k) (w.setCells (E.μ k).aW pos xs) (E.μ k) o'):
 bC E (st.set k o') (w.setCells (E.μ k).aW pos xs)/\Ext E st w E (st.set k o') (w.setCells (E.μ k).aW pos xs):=by
 obtain ⟨r1,r2,r3,r4⟩:=iO (E.μ k).aW xs pos w
 refine h.set hk o' r1 (fun b cO=>gN _ cO _ _ _) r2 r3 r4 ?_ Of
 intro j x hx
 have hI:=h.gJ _ _ _ hx
 simp only [aT,hb,fQ _ xs pos w hb] at hI ⊢
 rw [iF _ _ _ _ (by omega)]
 by_cases kN:pos<=j/\j<pos+xs.length
 · have:=h.own k ⟨o0,hk⟩ j (by omega) (by omega)
   rw [this] at hx;cases hx
 · rw [if_neg kN];exact hI
theorem eH.written {z:Nat} {E:Env} {w:World} {L:Loc} {cs:List V} {cells:Array Value} {t:TypeId} {fz:Nat×Nat} (hb:w.heap[L.aW]? =some (.cells cells t fz)) (hf:mV z fz cells.size)
 (h1:L.base+cs.length<=L.fin) (h2:L.fin<=cells.size) (h3:∀ j v,cs[j]? =some v->∃ x,cells[L.base+j]? =some x/\Rel E v x/\x.oneCell'=true)
 {off:Nat} {vs:List V} {xs:List Value} (hr:cP E vs xs.toArray) (ho:∀ x∈xs,x.oneCell'=true) (kN:off+vs.length<=cs.length):
 eH z E (w.setCells L.aW (L.base+off) xs) L (b8 cs off vs):=by
 have hl:xs.length=vs.length:=by simpa using hr.1
 refine ⟨_,t,fz,fQ _ xs _ w hb,by rw [eZ];exact hf,by rw [e7];exact h1,by rw [eZ];exact h2,?_⟩
 intro j v hj
 rw [e8 _ _ _ _ kN] at hj
 rw [iF _ _ _ _ (by omega)]
 by_cases hc:off<=j/\j<off+vs.length
 · rw [if_pos hc] at hj
   rw [if_pos (by omega)]
   obtain ⟨x,hx,s6⟩:=hr.get hj
   rw [show L.base+j - (L.base+off)=j - off by omega]
   exact ⟨x,by simpa using hx,s6,ho x (List.mem_of_getElem? (i:=j - off) (by simpa using hx))⟩
 · rw [if_neg hc] at hj
   rw [if_neg (by omega)]
   exact h3 j v hj
section
variable {P:Program} {o:Oper} {a:Act} {E:Env} {N:Nat} {st:St} {w:World} {fr:Fr} {next:Act->World->Prop} {Q:Exit->Act->World->Prop} {K:R->Prop}
theorem bC.cs {k:Key} {c:List V} (hs:bC E st w) (hk:st.get k=some (.cs c)):eH 1 (E.at k) w (E.μ k) c:=(hs.obj k _ hk).2
theorem bC.Bq {k:Key} {c:List V} (hs:bC E st w) (hk:st.get k=some (.cs c)):(E.μ k).base=0:=(hs.obj k _ hk).1
theorem jX {sz:Nat}:∀ {es:List (List V)},(∀ e∈es,e.length=sz)->∀ {ix j:Nat} {e:List V},es[ix]? =some e->j<sz->es.flatten[ix*sz+j]? =e[j]? :=by
 intro es
 induction es with
 |nil=>intro _ ix j e h;simp at h
 |cons d r ih=>
  intro hl ix j e h hj
  have hd:d.length=sz:=hl d (.head _)
  rw [List.flatten_cons]
  cases ix with
  |zero=>
   simp at h
   subst h
   rw [Nat.zero_mul,Nat.zero_add,List.getElem?_append_left (by omega)]
  |succ ix=>
   rw [List.getElem?_append_right (by rw [hd,Nat.succ_mul];omega),hd]
   rw [show (ix+1)*sz+j - sz=ix*sz+j by rw [Nat.succ_mul];omega]
   exact ih (fun e he=>hl e (.tail _ he)) (by simpa using h) hj
theorem bT {sz:Nat}:∀ {es:List (List V)},(∀ e∈es,e.length=sz)->es.flatten.length=es.length*sz:=by
 intro es
 induction es with
 |nil=>intro _;simp
 |cons d r ih=>
  intro hl
  rw [List.flatten_cons,List.length_append,ih (fun e he=>hl e (.tail _ he)),hl d (.head _),List.length_cons,Nat.succ_mul]
  omega
theorem iG {sz:Nat}:∀ {es:List (List V)},(∀ e∈es,e.length=sz)->∀ n,(es.take n).flatten=es.flatten.take (n*sz):=by
 intro es
 induction es with
 |nil=>intro _ n;simp
 |cons d r ih=>
  intro hl n
  have hd:d.length=sz:=hl d (.head _)
  cases n with
  |zero=>simp
  |succ n=>
   rw [List.take_succ_cons,List.flatten_cons,List.flatten_cons,ih (fun e he=>hl e (.tail _ he)),List.take_append,hd,Nat.succ_mul]
   rw [List.take_of_length_le (l:=d) (by omega),show n*sz+sz - sz=n*sz by omega]
theorem iH {sz:Nat}:∀ {es:List (List V)},(∀ e∈es,e.length=sz)->∀ n,(es.drop n).flatten=es.flatten.drop (n*sz):=by
 intro es
 induction es with
 |nil=>intro _ n;simp
 |cons d r ih=>
  intro hl n
  have hd:d.length=sz:=hl d (.head _)
  cases n with
  |zero=>simp
  |succ n=>
   rw [List.drop_succ_cons,List.flatten_cons,ih (fun e he=>hl e (.tail _ he)),List.drop_append,hd,Nat.succ_mul]
   have h0:d.drop (n*sz+sz)=[]:=List.drop_eq_nil_of_le (by omega)
   rw [h0,List.nil_append,show n*sz+sz - sz=n*sz by omega]
theorem elem_at {w:World} {b base sz:Nat} {es:List (List V)} (hl:∀ e∈es,e.length=sz) (h:dV E w b base es.flatten) {ix:Nat} {e:List V} (he:es[ix]? =some e):
 dV E w b (base+ix*sz) e:=by
 intro j v hj
 have E6:j<sz:=by
  have:=(List.getElem?_eq_some_iff.1 hj).1
  rw [hl e (List.mem_of_getElem? he)] at this;exact this
 rw [Nat.add_assoc]
 exact h _ v (by rw [jX hl he E6];exact hj)
theorem Hl {t:TypeId} {x:Operand} {d:aV} {n:Option Nat} (ho:o.op=.load t x) (hx:b9 x d=true) (hn:m9 P t n=true) (hs:bC E st w) (hf:aJ E N fr a)
 (hw:(step (.load n d) fr st).wp (aB P) K) (hc:dJ E st w o a next K):o.wp P a w next Q:=by
 have h1:=aH hx hf
 have fin:∀ {b c:Nat} {cs:List V} {off:Nat} {v:V},a.eval x=.pointer (some ⟨b,c+off,none⟩)->dV E w b c cs->cG cs off n=some v->K (v,st)->o.wp P a w next Q:=by
  intro b c cs off v hp o5 hv hk
  obtain ⟨z,uJ,wJ⟩:=jW (P:=P) hn o5 hv
  exact aG (x:=z) (by simp [execOp,ho,hp,Instr.loadAt,Instr.sureAddr,uJ]) (hc.same hs hk wJ)
 simp only [step] at hw
 split at hw
 · rename_i k off e1
   rw [e1] at h1
   generalize hy:a.eval x=y at h1
   cases h1 with
   |deep hd=>cases hd
   |p _ _ hk=>
    obtain ⟨ob,dC,hw⟩:=hw
    dsimp only at hw
    split at hw
    · rename_i c
      unfold T.opt at hw
      split at hw
      · rename_i v hv
        exact fin hy ((hs.cs dC).l6.mono (E.rL k)) hv hw
      · exact hw.elim
    · exact hw.elim
 · rename_i k sz ix off e1
   rw [e1] at h1
   generalize hy:a.eval x=y at h1
   cases h1 with
   |deep hd=>cases hd
   |pa _ _ _ _ hk=>
    obtain ⟨ob,dC,hw⟩:=hw
    dsimp only at hw
    split at hw
    · rename_i cS es
      split at hw
      · rename_i hz
        subst hz
        obtain ⟨e,he,hw⟩:=hw
        dsimp only at hw
        unfold T.opt at hw
        split at hw
        · rename_i v hv
          have e9:=hs.obj k _ dC
          have:=elem_at e9.1 (e9.2.l6.mono (E.rL k)) he
          exact fin hy this hv hw
        · exact hw.elim
      · exact hw.elim
    · exact hw.elim
 · rename_i cs off e1
   rw [e1] at h1
   generalize hy:a.eval x=y at h1
   cases h1 with
   |deep hd=>cases hd
   |pc _ _ aW c0 val hv hr=>
    unfold T.opt at hw
    split at hw
    · rename_i v RO
      exact fin hy (hs.Ji hv hr) RO hw
    · exact hw.elim
 · exact hw.elim
end
open Go
section
variable {P:Program} {o:Oper} {a:Act} {E:Env} {N:Nat} {st:St} {w:World} {fr:Fr} {next:Act->World->Prop} {Q:Exit->Act->World->Prop} {K:R->Prop}
theorem s9 {v:V} {x:Value} (hs:v.RI=true) (hr:Rel E v x):cP E v.cells x.cells/\∀ y∈x.cells.toList,y.oneCell'=true:=by
 cases hr with
 |agg cs b hb h1 RN=>
  refine ⟨⟨hb,RN⟩,fun y hy=>?_⟩
  obtain ⟨j,hj⟩:=List.getElem?_of_mem hy
  have E6:b.toList[j]? =some y:=hj
  rw [Array.getElem?_toList] at E6
  exact h1 j y E6
 |a8=>cases hs
 |bO=>cases hs
 |pc=>cases hs
 |deep hd=>
  have h1:=hd.one
  have hc:x.cells=#[x]:=by cases x<;>first|rfl|(simp [Value.oneCell'] at h1)
  have hv:v.cells=[v]:=by cases hd<;>rfl
  rw [hc,hv]
  refine ⟨⟨rfl,fun j u y hj hy=>?_⟩,fun y hy=>by simp at hy;subst hy;exact h1⟩
  cases j with
  |zero=>simp at hj hy;subst hj;subst hy;exact .deep hd
  |succ j=>simp at hj
 |dZ=>exact ⟨⟨rfl,fun j u y hj hy=>by cases j<;>simp [V.cells,Value.cells] at hj hy;subst hj;subst hy;exact .dZ⟩,fun y hy=>by simp [Value.cells] at hy;subst hy;rfl⟩
 |p k off hk=>exact ⟨⟨rfl,fun j u y hj hy=>by cases j<;>simp [V.cells,Value.cells] at hj hy;subst hj;subst hy;exact .p _ _ hk⟩,fun y hy=>by simp [Value.cells] at hy;subst hy;rfl⟩
 |pa k sz ix off hk=>exact ⟨⟨rfl,fun j u y hj hy=>by cases j<;>simp [V.cells,Value.cells] at hj hy;subst hj;subst hy;exact .pa _ _ _ _ hk⟩,fun y hy=>by simp [Value.cells] at hy;subst hy;rfl⟩
 |AE k sz es a cap hk hd Og iA=>exact ⟨⟨rfl,fun j u y hj hy=>by cases j<;>simp [V.cells,Value.cells] at hj hy;subst hj;subst hy;exact .AE _ _ _ _ _ hk hd Og iA⟩,fun y hy=>by simp [Value.cells] at hy;subst hy;rfl⟩
 |ms k sz st len a cap hk h1 h2 h4 h3=>exact ⟨⟨rfl,fun j u y hj hy=>by cases j<;>simp [V.cells,Value.cells] at hj hy;subst hj;subst hy;exact .ms _ _ _ _ _ _ hk h1 h2 h4 h3⟩,fun y hy=>by simp [Value.cells] at hy;subst hy;rfl⟩
 |cY=>exact ⟨⟨rfl,fun j u y hj hy=>by cases j<;>simp [V.cells,Value.cells] at hj hy;subst hj;subst hy;exact .cY⟩,fun y hy=>by simp [Value.cells] at hy;subst hy;rfl⟩
 |m k hk=>exact ⟨⟨rfl,fun j u y hj hy=>by cases j<;>simp [V.cells,Value.cells] at hj hy;subst hj;subst hy;exact .m _ hk⟩,fun y hy=>by simp [Value.cells] at hy;subst hy;rfl⟩
 |fn f p q p' q' h1 h2 h3 h4=>exact ⟨⟨rfl,fun j u y hj hy=>by cases j<;>simp [V.cells,Value.cells] at hj hy;subst hj;subst hy;exact .fn _ _ _ _ _ h1 h2 h3 h4⟩,fun y hy=>by simp [Value.cells] at hy;subst hy;rfl⟩
 |eA=>exact ⟨⟨rfl,fun j u y hj hy=>by cases j<;>simp [V.cells,Value.cells] at hj hy;subst hj;subst hy;exact .eA⟩,fun y hy=>by simp [Value.cells] at hy;subst hy;rfl⟩
def Env.CM (E:Env) (g:Bool):Env:=
 match g with
 |true=>E.cut
 |false=>E
theorem nA {g:Bool} {l l':List V} {xs:Array Value} (h:lJ g l=some l') (hr:cP E l xs):cP (E.CM g) l' xs:=by
 cases g with
 |true=>exact wZ h hr
 |false=>simp only [lJ,Option.some.injEq] at h;subst h;exact hr
theorem Env.nC (E:Env) (k:Key):E.at k=E.CM k.lH:=by cases k<;>rfl
theorem vN {t:TypeId} {x:Value} {b c:Nat} (hi:(P.info? t).map (·.size)=some x.cells.size) (ht:w.there b c x.cells.size) (h1:∀ y∈x.cells.toList,y.oneCell'=true):
 (storeVar t ⟨b,c,none⟩ x).run P w=.ok () (w.setCells b c x.cells.toList):=by
 have:=run_storeCells_cells (P:=P) b c x.cells.toList 0 w (fun j hj=>by simpa using (ht j (by simpa using hj)).1) (fun j hj=>by simpa using (ht j (by simpa using hj)).2) h1
 cases hq:P.info? t with
 |none=>simp [hq] at hi
 |some i=>
  have hs:x.cells.size=i.size:=by simp [hq] at hi;omega
  simp only [Nat.add_zero] at this
  simp [storeVar,sizeOf,typeInfo,hq,hs,this]
theorem CZ {sz:Nat}:∀ {es:List (List V)},(∀ e∈es,e.length=sz)->∀ {ix:Nat} {e:List V},es[ix]? =some e->∀ (off:Nat) (vs:List V),off+vs.length<=sz->
 (es.set ix (b8 e off vs)).flatten=b8 es.flatten (ix*sz+off) vs:=by
 intro es hl ix e he off vs kN
 have cQ:ix<es.length:=(List.getElem?_eq_some_iff.1 he).1
 have hle:e.length=sz:=hl e (List.mem_of_getElem? he)
 have qF:∀ d∈es.set ix (b8 e off vs),d.length=sz:=by
  intro d hd
  rcases List.mem_or_eq_of_mem_set hd with h|h
  · exact hl d h
  · rw [h,e7];exact hle
 have hmul:(ix+1)*sz<=es.length*sz:=Nat.mul_le_mul_right _ cQ
 rw [Nat.succ_mul] at hmul
 apply List.ext_getElem?
 intro j
 have Uu:=bT qF
 have QQ:=bT hl
 rw [e8 _ _ _ _ (by rw [QQ];omega)]
 by_cases hj:j<es.length*sz
 · have gH:0<sz:=by
    rcases Nat.eq_zero_or_pos sz with h|h
    · subst h;simp at hj
    · exact h
   have hd:j=j/sz*sz+j%sz:=by rw [Nat.mul_comm];exact (Nat.div_add_mod j sz).symm
   have hm:j%sz<sz:=Nat.mod_lt _ gH
   have hq:j/sz<es.length:=(Nat.div_lt_iff_lt_mul gH).2 hj
   generalize j/sz=q at hd hq
   generalize j%sz=m at hd hm
   subst hd
   obtain ⟨d,WB⟩:∃ d,es[q]? =some d:=⟨es[q],by simp [hq]⟩
   rw [jX hl WB hm]
   by_cases WC:q=ix
   · subst WC
     rw [he] at WB
     cases WB
     rw [jX qF (e:=b8 e off vs) (by simp [hq]) hm,e8 _ _ _ _ (by omega)]
     by_cases hc:off<=m/\m<off+vs.length
     · rw [if_pos hc,if_pos (by omega)]
       congr 1;omega
     · rw [if_neg hc,if_neg (by omega)]
   · rw [jX qF (e:=d) (by rw [List.getElem?_set_ne (fun e=>WC e.symm)];exact WB) hm]
     rw [if_neg]
     rintro ⟨h1,h2⟩
     have:q=ix:=by
      rcases Nat.lt_trichotomy q ix with h|h|h
      · have:(q+1)*sz<=ix*sz:=Nat.mul_le_mul_right _ h
        rw [Nat.succ_mul] at this;omega
      · exact h
      · have:(ix+1)*sz<=q*sz:=Nat.mul_le_mul_right _ h
        rw [Nat.succ_mul] at this;omega
     exact WC this
 · rw [List.getElem?_eq_none (by rw [Uu];simp;omega),if_neg (by omega),List.getElem?_eq_none (by rw [QQ];omega)]
theorem E7 {t:TypeId} {x y:Operand} {d e:aV} {n:Nat} (ho:o.op=.store t x y) (hx:b9 x d=true) (hy:b9 y e=true) (hn:(P.info? t).map (·.size)=some n)
 (hs:bC E st w) (hf:aJ E N fr a) (hw:(step (.store n d e) fr st).wp (aB P) K) (hc:dJ E st w o a next K):o.wp P a w next Q:=by
 have h1:=aH hx hf
 have h2:=aH hy hf
 simp only [step] at hw
 split at hw
 case isFalse=>exact hw.elim
 rename_i wK
 obtain ⟨RP,hlen⟩:=wK
 obtain ⟨l7,gO⟩:=s9 RP h2
 have gH:(a.eval y).cells.size=n:=by rw [l7.1];exact hlen
 have cJ:∀ {b c:Nat},a.eval x=.pointer (some ⟨b,c,none⟩)->w.there b c (a.eval y).cells.size->(execOp a.eval o).run P w=.ok .skip (w.setCells b c (a.eval y).cells.toList):=by
  intro b c hp ht
  have:=vN (P:=P) (t:=t) (x:=a.eval y) (by rw [hn,gH]) ht gO
  simp [execOp,ho,hp,Instr.storeAt,Instr.sureAddr,this]
 have Jj:Rel E (.bO []) undef:=.bO _ _ rfl (fun j v x hj=>by simp at hj)
 split at hw
 · rename_i k off e1
   rw [e1] at h1
   generalize hp:a.eval x=z at h1
   cases h1 with
   |deep hd=>cases hd
   |p _ _ hk=>
    unfold T.opt at hw
    split at hw
    case h_2=>exact hw.elim
    rename_i vs RQ
    obtain ⟨ob,dC,hw⟩:=hw
    dsimp only at hw
    split at hw
    case h_2=>exact hw.elim
    rename_i c
    split at hw
    case h_2=>exact hw.elim
    rename_i vO
    have vO:off+vs.length<=c.length:=by simpa [kY] using vO
    have rT:=nA RQ l7
    rw [<-Env.nC] at rT
    obtain ⟨cells,ty,fz,r1,r2,r3,r4,r5⟩:=hs.cs dC
    have RR:(a.eval y).cells.size=vs.length:=rT.1
    have e9:=eH.written r1 r2 r3 r4 r5 (vs:=vs) (xs:=(a.eval y).cells.toList) rT gO vO
    obtain ⟨s1,s2⟩:=hs.write dC r1 r4 (pos:=(E.μ k).base+off) (xs:=(a.eval y).cells.toList) (by omega) (by simp [RR];omega) (.cs (b8 c off vs)) ⟨hs.Bq dC,e9⟩
    exact w7 (cJ hp (Row.there r1 r2 (by rw [RR];omega))) (hc _ _ _ _ _ hw s1 s2 Jj)
 · rename_i k sz ix off e1
   rw [e1] at h1
   generalize hp:a.eval x=z at h1
   cases h1 with
   |deep hd=>cases hd
   |pa _ _ _ _ hk=>
    unfold T.opt at hw
    split at hw
    case h_2=>exact hw.elim
    rename_i vs RQ
    obtain ⟨ob,dC,hw⟩:=hw
    dsimp only at hw
    split at hw
    case h_2=>exact hw.elim
    rename_i cS es
    split at hw
    case isFalse=>exact hw.elim
    rename_i hz
    subst hz
    obtain ⟨el,Br,hw⟩:=hw
    dsimp only at hw
    split at hw
    case h_2=>exact hw.elim
    rename_i vO
    have vO:off+vs.length<=el.length:=by simpa [kY] using vO
    have rT:=nA RQ l7
    rw [<-Env.nC] at rT
    have Hm:=hs.obj k _ dC
    obtain ⟨hl,Uv⟩:=Hm
    obtain ⟨cells,ty,fz,r1,r2,r3,r4,r5⟩:=Uv
    have RR:(a.eval y).cells.size=vs.length:=rT.1
    have Xl:el.length=cS:=hl el (List.mem_of_getElem? Br)
    have cQ:ix<es.length:=(List.getElem?_eq_some_iff.1 Br).1
    have hmul:(ix+1)*cS<=es.length*cS:=Nat.mul_le_mul_right _ cQ
    rw [Nat.succ_mul] at hmul
    have w8:=bT hl
    have Bs:=CZ hl Br off vs (by omega)
    have e9:=eH.written r1 r2 r3 r4 r5 (off:=ix*cS+off) (vs:=vs) (xs:=(a.eval y).cells.toList) rT gO (by omega)
    rw [<-Bs,<-Nat.add_assoc] at e9
    have qF:∀ d∈es.set ix (b8 el off vs),d.length=cS:=by
     intro d hd
     rcases List.mem_or_eq_of_mem_set hd with h|h
     · exact hl d h
     · rw [h,e7];exact Xl
    obtain ⟨s1,s2⟩:=hs.write dC r1 r4 (pos:=(E.μ k).base+ix*cS+off) (xs:=(a.eval y).cells.toList) (by omega) (by simp [RR];omega) (.arr cS (es.set ix (b8 el off vs))) ⟨qF,e9⟩
    exact w7 (cJ hp (Row.there r1 r2 (by rw [RR];omega))) (hc _ _ _ _ _ hw s1 s2 Jj)
 · exact hw.elim
end
end Go.Eng
