/-
The abstract machine: values, objects, heaps, interaction trees, operations. Plain definitions, no program in sight.
-/
import GoSem.Dispatch
import GoSem.Machine.Frame
set_option linter.unusedVariables false
set_option linter.unusedSimpArgs false
namespace Go.Eng
open Go
inductive Key where
 |g (n:Nat)
 |l (n:Nat)
 deriving DecidableEq,Inhabited
inductive V where
 |b (x:Bool)
 |i (k:IntKind) (n:Int)
 |s (x:List UInt8)
 |lJ
 |p (k:Key) (off:Nat)
 |pa (k:Key) (sz ix off:Nat)
 |pc (cs:List V) (off:Nat)
 |aS
 |sl (tok:Option Key) (sz:Nat) (es:List (List V))
 |ms (k:Key) (sz st len:Nat)
 |gS
 |m (k:Key)
 |fn (f:Nat) (first captured:List V)
 |lK
 |agg (cs:List V)
 |bY (vs:List V)
 |gD
 deriving Inhabited
inductive Obj where
 |cs (c:List V)
 |arr (sz:Nat) (es:List (List V))
 |spare
 |mp (kd:Option IntKind) (es:List (V×V))
 deriving Inhabited
structure aA where
 next:Nat
 tP:List (Nat×Obj)
 deriving Inhabited
def aA.find:List (Nat×Obj)->Nat->Option Obj
 |[],_=>none
 |(k,o)::r,n=>if k=n then some o else aA.find r n
def aA.get (h:aA) (n:Nat):Option Obj:=aA.find h.tP n
def aA.CA:List (Nat×Obj)->Nat->Obj->List (Nat×Obj)
 |[],_,_=>[]
 |(k,o)::r,n,x=>if k=n then (k,x)::r else (k,o)::aA.CA r n x
def aA.set (h:aA) (n:Nat) (o:Obj):aA:=
 match h with
 |⟨x,l⟩=>⟨x,aA.CA l n o⟩
def aA.del:List (Nat×Obj)->Nat->List (Nat×Obj)
 |[],_=>[]
 |(k,o)::r,n=>if k=n then aA.del r n else (k,o)::aA.del r n
def aA.remove (h:aA) (n:Nat):aA:=
 match h with
 |⟨x,l⟩=>⟨x,aA.del l n⟩
def aA.push (h:aA) (o:Obj):aA:=
 match h with
 |⟨x,l⟩=>⟨x+1,(x,o)::l⟩
structure St where
 g:aA
 l:aA
 deriving Inhabited
def St.get (st:St):Key->Option Obj
 |.g n=>st.g.get n
 |.l n=>st.l.get n
def St.set (st:St) (k:Key) (o:Obj):St:=
 match st with
 |⟨a,b⟩=>match k with
  |.g n=>⟨a.set n o,b⟩
  |.l n=>⟨a,b.set n o⟩
def St.remove (st:St) (k:Key):St:=
 match st with
 |⟨a,b⟩=>match k with
  |.g n=>⟨a.remove n,b⟩
  |.l n=>⟨a,b.remove n⟩
def St.aO (st:St) (g:Bool):Key:=
 match st with
 |⟨⟨x,_⟩,⟨y,_⟩⟩=>match g with
  |true=>.g x
  |false=>.l y
def St.push (st:St) (g:Bool) (o:Obj):St:=
 match st with
 |⟨a,b⟩=>match g with
  |true=>⟨a.push o,b⟩
  |false=>⟨a,b.push o⟩
def Key.sC:Key->Bool
 |.g _=>true
 |.l _=>false
inductive T (α:Type):Type where
 |ret (a:α)
 |ite (c:Bool) (t e:T α)
 |elem (o:Option (List V)) (k:List V->T α)
 |byte (o:Option UInt8) (k:UInt8->T α)
 |tQ (o:Option (List (List V))) (k:List (List V)->T α)
 |F2 (o:Option (List UInt8)) (k:List UInt8->T α)
 |obj (o:Option Obj) (k:Obj->T α)
 |mU (o:Option V) (n:T α) (k:V->T α)
 |jL (b:Bool) (k:T α)
 |wrap (kd:IntKind) (n:Int) (k:Int->T α)
 |any (k:Bool->T α)
 |same (v u:V) (k:T α)
 |call (f:Nat) (args:List V) (h:aA) (k:V->aA->T α)
 |fail
def T.bind {α β:Type}:T α->(α->T β)->T β
 |.ret a,f=>f a
 |.ite c t e,f=>.ite c (t.bind f) (e.bind f)
 |.elem o k,f=>.elem o fun x=>(k x).bind f
 |.byte o k,f=>.byte o fun x=>(k x).bind f
 |.tQ o k,f=>.tQ o fun x=>(k x).bind f
 |.F2 o k,f=>.F2 o fun x=>(k x).bind f
 |.obj o k,f=>.obj o fun x=>(k x).bind f
 |.mU o n k,f=>.mU o (n.bind f) fun x=>(k x).bind f
 |.jL b k,f=>.jL b (k.bind f)
 |.wrap kd n k,f=>.wrap kd n fun x=>(k x).bind f
 |.any k,f=>.any fun b=>(k b).bind f
 |.same v u k,f=>.same v u (k.bind f)
 |.call g asV h k,f=>.call g asV h fun r h'=>(k r h').bind f
 |.fail,_=>.fail
def T.opt {α β:Type} (o:Option α) (k:α->T β):T β:=
 match o with
 |some x=>k x
 |none=>.fail
inductive bL where
 |t (n:Nat)
 |c (v:V)
 deriving Inhabited
inductive lQ where
 |im (g:Bool)
 |mu (g:Bool)
 |fz
 deriving DecidableEq,Inhabited
inductive CK where
 |b
 |i
 |s
 deriving DecidableEq,Inhabited
inductive AE where
 |mv (x:bL)
 |Nv (x:bL)
 |pick (c a b:bL)
 |alloc (g:Bool) (zero:List V)
 |box (g:Bool) (x:bL)
 |Ul (zero:List V) (parts:List (Nat×Nat×bL))
 |Um (m:lQ) (sz len:Nat) (zero:List V) (parts:List (Nat×bL))
 |load (n:Option Nat) (a:bL)
 |store (n:Nat) (a x:bL)
 |DX (x:bL)
 |bin (op:BinOp) (x y:bL)
 |UF (row:Bool) (ks:List CK) (neg:Bool) (x y:bL)
 |Zv (neg:Bool) (x y:bL)
 |un (op:UnOp) (x:bL)
 |UG (k:IntKind) (x:bL)
 |UH (x:bL)
 |Uo (m:lQ) (x:bL)
 |UI (x:bL)
 |OO (x:bL)
 |HQ (f:Nat) (captured:List bL)
 |DY (g:Bool) (kd:Option IntKind)
 |LL (m:lQ) (sz bytes:Nat) (zero:List V) (l c:bL)
 |AG (x:bL) (lo hi:Option bL)
 |yQ (sz:Nat) (x:bL) (lo hi mx:Option bL)
 |uW (off:Nat) (x:bL)
 |Qu (off:Nat) (n:Option Nat) (x:bL)
 |Ga (sz:Nat) (x i:bL)
 |HR (len sz:Nat) (x i:bL)
 |UJ (x i:bL)
 |QN (len sz:Nat) (n:Option Nat) (x i:bL)
 |Up (kd:Option IntKind) (zero:V) (m k:bL) (ok:Bool)
 |LM (kd:Option IntKind) (m k v:bL)
 |ext (x:bL) (i:Nat)
 |call (f:Nat) (args:List bL)
 |y8 (f:bL) (args:List bL)
 |HS (x:bL)
 |Gb (x:bL)
 |HT (n:Nat)
 |HU (x:bL)
 |BI (max:Bool) (xs:List bL)
 |append (m:lQ) (sz bytes:Nat) (s x:bL)
 |copy (sz:Nat) (d x:bL)
 |delete (kd:Option IntKind) (m k:bL)
 |clear (sz:Nat) (zero:List V) (x:bL)
 |no
 deriving Inhabited
structure dL where
 dst:Option Nat
 op:AE
 guard:Option (Nat×Bool):=none
 kill:List Nat:=[]
 deriving Inhabited
abbrev Fr:=List (Nat×V)
def Fr.get:Fr->Nat->V
 |[],_=>.gD
 |(k,v)::r,n=>if k=n then v else Fr.get r n
def bL.ev (fr:Fr):bL->V
 |.t n=>fr.get n
 |.c v=>v
def bL.HV (fr:Fr):List bL->List V
 |[]=>[]
 |x::r=>x.ev fr::bL.HV fr r
def bL.Dq (fr:Fr):Option bL->Option V
 |none=>none
 |some x=>some (x.ev fr)
def eE (fr:Fr):List (Nat×Nat×bL)->List (Nat×Nat×V)
 |[]=>[]
 |(a,b,x)::r=>(a,b,x.ev fr)::eE fr r
def gM (fr:Fr):List (Nat×bL)->List (Nat×V)
 |[]=>[]
 |(a,x)::r=>(a,x.ev fr)::gM fr r
def V.cells:V->List V
 |.agg cs=>cs
 |v=>[v]
def dS (cs:List V) (off:Nat):Option Nat->Option V
 |none=>cs[off]?
 |some n=>if off+n<=cs.length then some (.agg ((cs.drop off).take n)) else none
def dT:List V->Nat->List V->List V
 |cs,_,[]=>cs
 |cs,off,v::r=>dT (cs.set off v) (off+1) r
def V.one:V->Bool
 |.agg _=>false
 |.bY _=>false
 |.gD=>false
 |.pc _ _=>false
 |_=>true
def V.V7:V->Bool
 |.agg _=>true
 |v=>v.one
def pV (cs:List V) (off:Nat) (vs:List V):Bool:=decide (off+vs.length<=cs.length)
def V.deep:V->Option V
 |.b x=>some (.b x)
 |.i k n=>some (.i k n)
 |.s x=>some (.s x)
 |.aS=>some .aS
 |.sl _ sz es=>some (.sl none sz es)
 |_=>none
def rF:List V->Option (List V)
 |[]=>some []
 |v::r=>match v.deep,rF r with
  |some x,some y=>some (x::y)
  |_,_=>none
def eC:List (List V)->Option (List (List V))
 |[]=>some []
 |e::r=>match rF e,eC r with
  |some x,some y=>some (x::y)
  |_,_=>none
def V.out:V->Option V
 |.b x=>some (.b x)
 |.i k n=>some (.i k n)
 |.s x=>some (.s x)
 |.lJ=>some .lJ
 |.p (.g n) off=>some (.p (.g n) off)
 |.pa (.g n) sz ix off=>some (.pa (.g n) sz ix off)
 |.aS=>some .aS
 |.sl (some (.g n)) sz es=>some (.sl (some (.g n)) sz es)
 |.sl (some (.l _)) sz es=>some (.sl none sz es)
 |.sl none sz es=>some (.sl none sz es)
 |.ms (.g n) sz st len=>some (.ms (.g n) sz st len)
 |.gS=>some .gS
 |.m (.g n)=>some (.m (.g n))
 |.lK=>some .lK
 |_=>none
def V.outs:List V->Option (List V)
 |[]=>some []
 |v::r=>match v.out,V.outs r with
  |some x,some y=>some (x::y)
  |_,_=>none
def V.pass (v:V):Option V:=
 match v with
 |.agg cs=>match V.outs cs with
  |some x=>some (.agg x)
  |none=>none
 |.fn f a c=>match V.outs a,V.outs c with
  |some x,some y=>some (.fn f x y)
  |_,_=>none
 |v=>v.out
def hZ:List V->Option (List V)
 |[]=>some []
 |v::r=>match v.pass,hZ r with
  |some x,some y=>some (x::y)
  |_,_=>none
def tS (g:Bool) (l:List V):Option (List V):=
 match g with
 |true=>hZ l
 |false=>some l
def iA (g:Bool):List (List V)->Option (List (List V))
 |[]=>some []
 |e::r=>match tS g e,iA g r with
  |some x,some y=>some (x::y)
  |_,_=>none
def UK (g:Bool) (v:V):Option V:=
 match g with
 |true=>v.pass
 |false=>some v
def vK:CK->V->V->Option Bool
 |.b,.b x,.b y=>some (x==y)
 |.i,.i k x,.i k' y=>if k=k' then some (decide (x=y)) else none
 |.s,.s x,.s y=>some (x==y)
 |_,_,_=>none
def eB:List CK->List V->List V->Option Bool
 |[],[],[]=>some true
 |k::ks,x::r,y::q=>match vK k x y,eB ks r q with
  |some a,some c=>some (a&&c)
  |_,_=>none
 |_,_,_=>none
def V.row:Bool->V->Option (List V)
 |true,.agg cs=>some cs
 |true,_=>none
 |false,.agg _=>none
 |false,v=>some [v]
def rG:V->V->Bool
 |.s x,.s y=>x==y
 |.i k x,.i k' y=>decide (k=k')&&decide (x=y)
 |_,_=>false
def V.fR:Option IntKind->V->Bool
 |none,.s _=>true
 |some k,.i k' _=>decide (k=k')
 |_,_=>false
def mX:List (V×V)->V->Option V
 |[],_=>none
 |(k,v)::r,x=>if rG x k then some v else mX r x
def vL:List (V×V)->V->V->List (V×V)
 |[],x,v=>[(x,v)]
 |(k,u)::r,x,v=>if rG x k then (x,v)::r else (k,u)::vL r x v
def Gc:List (V×V)->V->List (V×V)
 |[],_=>[]
 |(k,u)::r,x=>if rG x k then r else (k,u)::Gc r x
def bytesOf:List (List V)->Option (List UInt8)
 |[]=>some []
 |[.i .u8 n]::r=>match bytesOf r with
  |some x=>some (UInt8.ofNat n.toNat::x)
  |none=>none
 |_=>none
def fD (x:List UInt8):List (List V):=x.map fun c=>[V.i .u8 c.toNat]
def lR:List V->List (Nat×Nat×V)->Option (List V)
 |cs,[]=>some cs
 |cs,(off,sz,v)::r=>if v.V7=true/\v.cells.length=sz/\off+sz<=cs.length then lR (dT cs off v.cells) r else none
def pP:List (List V)->Nat->List (Nat×V)->Option (List (List V))
 |es,_,[]=>some es
 |es,sz,(i,v)::r=>if v.V7=true/\v.cells.length=sz/\i<es.length then pP (es.set i v.cells) sz r else none
abbrev R:=V×St
def j5 (sz:Nat) (st:St) (v:V) (k:List (List V)->T R):T R:=
 match v with
 |.aS=>k []
 |.sl _ eD es=>if eD=sz then k es else .fail
 |.ms key eD s n=>if eD=sz then .obj (st.get key) fun o=>match o with
   |.arr eW es=>if eW=sz then .jL (decide (s+n<=es.length)) (k ((es.drop s).take n)) else .fail
   |_=>.fail
  else .fail
 |.s x=>if sz=1 then k (fD x) else .fail
 |_=>.fail
def bT (n bytes:Nat):Bool:=decide (n*bytes<=140737488355328)
def kW (m:lQ) (sz:Nat) (es:List (List V)) (st:St):T R:=
 match m with
 |.im g=>.tQ (eC es) fun ds=>.ret (.sl (some (st.aO g)) sz ds,st.push g .spare)
 |.mu g=>.tQ (iA g es) fun ds=>.ret (.ms (st.aO g) sz 0 ds.length,st.push g (.arr sz ds))
 |.fz=>.tQ (eC es) fun ds=>.ret (.sl none sz ds,st)
def pW (m:lQ) (sz bytes:Nat) (st:St) (s:V) (new:List (List V)):T R:=
 match s with
 |.aS=>match new with
  |[]=>.ret (.aS,st)
  |e::r=>.jL (bT (e::r).length bytes) (kW m sz (e::r) st)
 |.sl tok eD es=>if eD=sz then match new with
   |[]=>.ret (.sl tok sz es,st)
   |e::r=>.jL (bT (es.length+(e::r).length) bytes)<|.tQ (eC (e::r)) fun ds=>match tok with
    |some k=>.obj (st.get k) fun o=>match o with
     |.spare=>.ret (.sl (some ((st.remove k).aO k.sC)) sz (es++ds),(st.remove k).push k.sC .spare)
     |_=>.fail
    |none=>.fail
  else .fail
 |.ms k eD off len=>if eD=sz then match new with
   |[]=>.ret (.ms k sz off len,st)
   |e::r=>.jL (bT (len+(e::r).length) bytes)<|.tQ (iA k.sC (e::r)) fun ds=>.obj (st.get k) fun o=>match o with
    |.arr eW es=>if eW=sz then
      .jL (decide (off+len<=es.length))<|.ite (decide (off+len+ds.length<=es.length))
       (.ret (.ms k sz off (len+ds.length),st.set k (.arr sz (es.take (off+len)++ds++es.drop (off+len+ds.length)))))
       (.ret (.ms ((st.remove k).aO k.sC) sz 0 (len+ds.length),(st.remove k).push k.sC (.arr sz ((es.take (off+len)).drop off++ds))))
     else .fail
    |_=>.fail
  else .fail
 |_=>.fail
def rH (i:Int) (n:Nat):Bool:=decide (0<=i)&&decide (i<(n:Int))
def vM:V->Option Int
 |.i _ n=>some n
 |_=>none
def eS (o:Option V) (n:Int):Option Int:=
 match o with
 |none=>some n
 |some v=>vM v
def iQ (max:Bool):V->List V->Option V
 |v,[]=>some v
 |.i k x,.i _ y::r=>match max with
  |true=>iQ max (.i k (if x<y then y else x)) r
  |false=>iQ max (.i k (if y<x then y else x)) r
 |_,_=>none
def rI (op:BinOp) (x y:V) (st:St):T R:=
 match x,y with
 |.i k a,.i k' c=>match op with
  |.shl=>.jL (decide (0<=c))<|.wrap k (a*2 ^ (min c.toNat k.bits)) fun r=>.ret (.i k r,st)
  |.shr=>.jL (decide (0<=c))<|.ret (.i k (a.fdiv (2 ^ (min c.toNat k.bits))),st)
  |.add=>if k=k' then .wrap k (a+c) fun r=>.ret (.i k r,st) else .fail
  |.sub=>if k=k' then .wrap k (a - c) fun r=>.ret (.i k r,st) else .fail
  |.mul=>if k=k' then .wrap k (a*c) fun r=>.ret (.i k r,st) else .fail
  |.quo=>if k=k' then .jL (!decide (c=0))<|.wrap k (a.tdiv c) fun r=>.ret (.i k r,st) else .fail
  |.rem=>if k=k' then .jL (!decide (c=0))<|.ret (.i k (a.tmod c),st) else .fail
  |.and=>if k=k' then .ret (.i k (k.wrap ((BitVec.ofInt k.bits a&&&BitVec.ofInt k.bits c).toNat)),st) else .fail
  |.or=>if k=k' then .ret (.i k (k.wrap ((BitVec.ofInt k.bits a|||BitVec.ofInt k.bits c).toNat)),st) else .fail
  |.xor=>if k=k' then .ret (.i k (k.wrap ((BitVec.ofInt k.bits a ^^^ BitVec.ofInt k.bits c).toNat)),st) else .fail
  |.andNot=>if k=k' then .ret (.i k (k.wrap ((BitVec.ofInt k.bits a&&&~~~ (BitVec.ofInt k.bits c)).toNat)),st) else .fail
  |.eql=>if k=k' then .ret (.b (decide (a=c)),st) else .fail
  |.neq=>if k=k' then .ret (.b (!decide (a=c)),st) else .fail
  |.lss=>if k=k' then .ret (.b (decide (a<c)),st) else .fail
  |.leq=>if k=k' then .ret (.b (decide (a<=c)),st) else .fail
  |.gtr=>if k=k' then .ret (.b (decide (c<a)),st) else .fail
  |.geq=>if k=k' then .ret (.b (decide (c<=a)),st) else .fail
 |.s a,.s c=>match op with
  |.add=>.jL (decide (((a.length+c.length:Nat):Int)<=9223372036854775807))<|.ret (.s (a++c),st)
  |.eql=>.ret (.b (a==c),st)
  |.neq=>.ret (.b (!(a==c)),st)
  |.lss=>.ret (.b (Op.bytesLess a c),st)
  |.leq=>.ret (.b (Op.bytesLess a c||a==c),st)
  |.gtr=>.ret (.b (!(Op.bytesLess a c||a==c)),st)
  |.geq=>.ret (.b (!Op.bytesLess a c),st)
  |_=>.fail
 |_,_=>.fail
def xS (neg:Bool) (x y:V) (st:St):T R:=
 match y with
 |.lJ=>match x with
  |.lJ=>.ret (.b (!neg),st)
  |.p _ _=>.ret (.b neg,st)
  |.pa _ _ _ _=>.ret (.b neg,st)
  |_=>.fail
 |.aS=>match x with
  |.aS=>.ret (.b (!neg),st)
  |.sl tok _ es=>match tok with
   |some _=>.ret (.b neg,st)
   |none=>.ite es.isEmpty (.any fun r=>.ret (.b r,st)) (.ret (.b neg,st))
  |.ms _ _ _ _=>.ret (.b neg,st)
  |_=>.fail
 |.gS=>match x with
  |.gS=>.ret (.b (!neg),st)
  |.m _=>.ret (.b neg,st)
  |_=>.fail
 |.lK=>match x with
  |.lK=>.ret (.b (!neg),st)
  |.fn _ _ _=>.ret (.b neg,st)
  |_=>.fail
 |_=>.fail
def tT (zero:V) (ok:Bool) (st:St) (o:Option V):T R:=
 match ok with
 |true=>.mU o (.ret (.bY [zero,.b false],st)) fun v=>.ret (.bY [v,.b true],st)
 |false=>.mU o (.ret (zero,st)) fun v=>.ret (v,st)
def step (o:AE) (fr:Fr) (st:St):T R:=
 match o with
 |.mv x=>.ret (x.ev fr,st)
 |.Nv x=>.ret (x.ev fr,st)
 |.pick c a d=>match c.ev fr with
  |.b x=>.ite x (.ret (a.ev fr,st)) (.ret (d.ev fr,st))
  |_=>.fail
 |.alloc g zero=>.ret (.p (st.aO g) 0,st.push g (.cs zero))
 |.box g x=>match (x.ev fr).V7 with
  |true=>T.opt (tS g (x.ev fr).cells) fun c=>.ret (.p (st.aO g) 0,st.push g (.cs c))
  |false=>.fail
 |.Ul zero parts=>T.opt (lR zero (eE fr parts)) fun cs=>.ret (.agg cs,st)
 |.Um m sz len zero parts=>T.opt (pP (List.replicate len zero) sz (gM fr parts)) fun es=>kW m sz es st
 |.load n a=>match a.ev fr with
  |.p k off=>.obj (st.get k) fun o=>match o with
   |.cs c=>T.opt (dS c off n) fun v=>.ret (v,st)
   |_=>.fail
  |.pa k sz ix off=>.obj (st.get k) fun o=>match o with
   |.arr eD es=>if eD=sz then .elem es[ix]? fun e=>T.opt (dS e off n) fun v=>.ret (v,st) else .fail
   |_=>.fail
  |.pc cs off=>T.opt (dS cs off n) fun v=>.ret (v,st)
  |_=>.fail
 |.store n a x=>if (x.ev fr).V7=true/\(x.ev fr).cells.length=n then match a.ev fr with
   |.p k off=>T.opt (tS k.sC (x.ev fr).cells) fun vs=>.obj (st.get k) fun o=>match o with
    |.cs c=>match pV c off vs with
     |true=>.ret (.bY [],st.set k (.cs (dT c off vs)))
     |false=>.fail
    |_=>.fail
   |.pa k sz ix off=>T.opt (tS k.sC (x.ev fr).cells) fun vs=>.obj (st.get k) fun o=>match o with
    |.arr eD es=>if eD=sz then .elem es[ix]? fun e=>match pV e off vs with
      |true=>.ret (.bY [],st.set k (.arr sz (es.set ix (dT e off vs))))
      |false=>.fail
     else .fail
    |_=>.fail
   |_=>.fail
  else .fail
 |.DX x=>match x.ev fr with
  |.p k off=>.ret (.p k off,st)
  |.pa k sz ix off=>.ret (.pa k sz ix off,st)
  |.pc cs off=>.ret (.pc cs off,st)
  |.fn f a c=>.ret (.fn f a c,st)
  |_=>.fail
 |.bin op x y=>rI op (x.ev fr) (y.ev fr) st
 |.UF row ks neg x y=>T.opt ((x.ev fr).row row) fun cs=>T.opt ((y.ev fr).row row) fun ds=>T.opt (eB ks cs ds) fun r=>match neg with
  |true=>.ret (.b (!r),st)
  |false=>.ret (.b r,st)
 |.Zv neg x y=>xS neg (x.ev fr) (y.ev fr) st
 |.un op x=>match op,x.ev fr with
  |.not,.b y=>.ret (.b (!y),st)
  |.neg,.i k n=>.wrap k (0 - n) fun r=>.ret (.i k r,st)
  |_,_=>.fail
 |.UG k x=>match x.ev fr with
  |.i _ n=>.wrap k n fun r=>.ret (.i k r,st)
  |_=>.fail
 |.UH x=>match x.ev fr with
  |.s y=>.ret (.s y,st)
  |_=>.fail
 |.Uo m x=>match x.ev fr with
  |.s y=>kW m 1 (fD y) st
  |_=>.fail
 |.UI x=>match x.ev fr with
  |.sl (some k) sz es=>.obj (st.get k) fun o=>match o with
   |.spare=>.ret (.sl (some k) sz es,st)
   |_=>.fail
  |.ms k sz off len=>.obj (st.get k) fun o=>match o with
   |.arr z _=>if z=1 then .ret (.ms k sz off len,st) else .fail
   |_=>.fail
  |_=>.fail
 |.OO x=>j5 1 st (x.ev fr) fun es=>.F2 (bytesOf es) fun y=>.ret (.s y,st)
 |.HQ f cap=>.ret (.fn f [] (bL.HV fr cap),st)
 |.DY g kd=>.ret (.m (st.aO g),st.push g (.mp kd []))
 |.LL m sz bytes zero l c=>match l.ev fr,c.ev fr with
  |.i _ a,.i _ d=>.jL (decide (0<=a)&&decide (a=d)&&bT d.toNat bytes)<|kW m sz (List.replicate a.toNat zero) st
  |_,_=>.fail
 |.AG x lo hi=>match x.ev fr with
  |.s y=>T.opt (eS (bL.Dq fr hi) y.length) fun h=>T.opt (eS (bL.Dq fr lo) 0) fun l=>
   .jL (decide (0<=l)&&decide (l<=h)&&decide (h<=(y.length:Int)))<|.ret (.s ((y.take h.toNat).drop l.toNat),st)
  |_=>.fail
 |.yQ sz x lo hi mx=>match x.ev fr with
  |.aS=>match mx with
   |none=>T.opt (eS (bL.Dq fr hi) 0) fun h=>T.opt (eS (bL.Dq fr lo) 0) fun l=>
    .jL (decide (l=0)&&decide (h=0))<|.ret (.aS,st)
   |some _=>.fail
  |.sl tok eD es=>if eD=sz then match mx with
    |none=>match bL.Dq fr hi with
     |none=>T.opt (eS (bL.Dq fr lo) 0) fun l=>.jL (decide (0<=l)&&decide (l<=(es.length:Int)))<|.ret (.sl tok sz (es.drop l.toNat),st)
     |some v=>T.opt (vM v) fun h=>T.opt (eS (bL.Dq fr lo) 0) fun l=>
      .jL (decide (0<=l)&&decide (l<=h)&&decide (h<=(es.length:Int)))<|.ret (.sl none sz ((es.take h.toNat).drop l.toNat),st)
    |some _=>.fail
   else .fail
  |.ms k eD off len=>if eD=sz then T.opt (eS (bL.Dq fr hi) len) fun h=>T.opt (eS (bL.Dq fr lo) 0) fun l=>.obj (st.get k) fun o=>match o with
    |.arr eW es=>if eW=sz then match mx with
      |none=>.jL (decide (0<=l)&&decide (l<=h)&&decide ((off:Int)+h<=(es.length:Int)))<|
       .ret (.ms k sz (off+l.toNat) (h.toNat - l.toNat),st)
      |some m=>T.opt (vM (m.ev fr)) fun mx=>.jL (decide (0<=l)&&decide (l<=h)&&decide (h<=mx)&&decide ((off:Int)+mx<=(es.length:Int)))<|
       .ret (.gD,st)
     else .fail
    |_=>.fail
   else .fail
  |_=>.fail
 |.uW off x=>match x.ev fr with
  |.p k o=>.ret (.p k (o+off),st)
  |.pa k sz ix o=>.ret (.pa k sz ix (o+off),st)
  |.pc cs o=>.ret (.pc cs (o+off),st)
  |_=>.fail
 |.Qu off n x=>match x.ev fr with
  |.agg cs=>T.opt (dS cs off n) fun v=>.ret (v,st)
  |_=>.fail
 |.Ga sz x i=>match i.ev fr with
  |.i _ n=>match x.ev fr with
   |.sl _ eD es=>if eD=sz then .jL (rH n es.length)<|.elem es[n.toNat]? fun e=>.ret (.pc e 0,st) else .fail
   |.ms k eD off len=>if eD=sz then .jL (rH n len)<|.ret (.pa k sz (off+n.toNat) 0,st) else .fail
   |_=>.fail
  |_=>.fail
 |.HR len sz x i=>match i.ev fr with
  |.i _ n=>.jL (rH n len)<|match x.ev fr with
   |.p k o=>.ret (.p k (o+n.toNat*sz),st)
   |.pa k eD ix o=>.ret (.pa k eD ix (o+n.toNat*sz),st)
   |.pc cs o=>.ret (.pc cs (o+n.toNat*sz),st)
   |_=>.fail
  |_=>.fail
 |.UJ x i=>match x.ev fr,i.ev fr with
  |.s y,.i _ n=>.jL (decide (0<=n))<|.byte y[n.toNat]? fun c=>.ret (.i .u8 c.toNat,st)
  |_,_=>.fail
 |.QN len sz n x i=>match x.ev fr,i.ev fr with
  |.agg cs,.i _ j=>.jL (rH j len)<|T.opt (dS cs (j.toNat*sz) n) fun v=>.ret (v,st)
  |_,_=>.fail
 |.Up kd zero m k ok=>match (k.ev fr).fR kd with
  |true=>match m.ev fr with
   |.gS=>tT zero ok st none
   |.m key=>.obj (st.get key) fun o=>match o with
    |.mp Jz es=>if Jz=kd then tT zero ok st (mX es (k.ev fr)) else .fail
    |_=>.fail
   |_=>.fail
  |false=>.fail
 |.LM kd m k v=>match (k.ev fr).fR kd with
  |true=>match m.ev fr with
   |.m key=>.obj (st.get key) fun o=>match o with
    |.mp Jz es=>if Jz=kd then T.opt (UK key.sC (v.ev fr)) fun u=>.ret (.bY [],st.set key (.mp kd (vL es (k.ev fr) u))) else .fail
    |_=>.fail
   |_=>.fail
  |false=>.fail
 |.ext x i=>match x.ev fr with
  |.bY vs=>T.opt vs[i]? fun v=>.ret (v,st)
  |_=>.fail
 |.call f args=>T.opt (hZ (bL.HV fr args)) fun vs=>.call f vs st.g fun r h=>.ret (r,⟨h,st.l⟩)
 |.y8 f args=>match f.ev fr with
  |.fn g first cap=>T.opt (hZ (first++bL.HV fr args++cap)) fun vs=>.call g vs st.g fun r h=>.ret (r,⟨h,st.l⟩)
  |_=>.fail
 |.HS x=>match x.ev fr with
  |.s y=>.ret (.i .i64 y.length,st)
  |_=>.fail
 |.Gb x=>match x.ev fr with
  |.aS=>.ret (.i .i64 0,st)
  |.sl _ _ es=>.ret (.i .i64 es.length,st)
  |.ms _ _ _ n=>.ret (.i .i64 n,st)
  |_=>.fail
 |.HT n=>.ret (.i .i64 n,st)
 |.HU x=>match x.ev fr with
  |.gS=>.ret (.i .i64 0,st)
  |.m key=>.obj (st.get key) fun o=>match o with
   |.mp _ es=>.ret (.i .i64 es.length,st)
   |_=>.fail
  |_=>.fail
 |.BI max xs=>match bL.HV fr xs with
  |v::r=>T.opt (iQ max v r) fun v=>.ret (v,st)
  |[]=>.fail
 |.append m sz bytes s x=>j5 sz st (x.ev fr) fun new=>pW m sz bytes st (s.ev fr) new
 |.copy sz d x=>j5 sz st (x.ev fr) fun src=>match d.ev fr with
  |.ms k eD off len=>if eD=sz then .tQ (iA k.sC (src.take len)) fun ds=>.obj (st.get k) fun o=>match o with
    |.arr eW es=>if eW=sz then
      .jL (decide (off+len<=es.length))<|.ret (.i .i64 (ds.length:Nat),st.set k (.arr sz (es.take off++ds++es.drop (off+ds.length))))
     else .fail
    |_=>.fail
   else .fail
  |_=>.fail
 |.delete kd m k=>match (k.ev fr).fR kd with
  |true=>match m.ev fr with
   |.gS=>.ret (.bY [],st)
   |.m key=>.obj (st.get key) fun o=>match o with
    |.mp Jz es=>if Jz=kd then .ret (.bY [],st.set key (.mp kd (Gc es (k.ev fr)))) else .fail
    |_=>.fail
   |_=>.fail
  |false=>.fail
 |.clear sz zero x=>match x.ev fr with
  |.aS=>.ret (.bY [],st)
  |.ms k eD off len=>if eD=sz then .obj (st.get k) fun o=>match o with
    |.arr eW es=>if eW=sz then .jL (decide (off+len<=es.length))<|.ret (.bY [],st.set k (.arr sz (es.take off++List.replicate len zero++es.drop (off+len)))) else .fail
    |_=>.fail
   else .fail
  |_=>.fail
 |.no=>.fail
def cN:Nat->List Nat->Bool
 |_,[]=>false
 |n,k::r=>match Nat.beq n k with
  |true=>true
  |false=>cN n r
def V.force {α:Type} (v:V) (k:V->α):α:=
 match v with
 |.b x=>k (.b x)
 |.i kd n=>k (.i kd n)
 |.s x=>k (.s x)
 |.lJ=>k .lJ
 |.p a o=>k (.p a o)
 |.pa a z ix o=>k (.pa a z ix o)
 |.pc c o=>k (.pc c o)
 |.aS=>k .aS
 |.sl t z e=>k (.sl t z e)
 |.ms a z u l=>k (.ms a z u l)
 |.gS=>k .gS
 |.m a=>k (.m a)
 |.fn f a c=>k (.fn f a c)
 |.lK=>k .lK
 |.agg c=>k (.agg c)
 |.bY c=>k (.bY c)
 |.gD=>k .gD
def Fr.cut {α:Type}:Fr->List Nat->(Fr->α)->α
 |[],_,k=>k []
 |(n,v)::r,ks,k=>match cN n ks with
  |true=>Fr.cut r ks k
  |false=>Fr.cut r ks fun r'=>k ((n,v)::r')
def Fr.after {α:Type} (fr:Fr) (dst:Option Nat) (v:V) (kill:List Nat) (k:Fr->α):α:=
 match dst with
 |some d=>match kill with
  |[]=>v.force fun v=>k ((d,v)::fr)
  |x::ks=>match cN d (x::ks) with
   |true=>fr.cut (d::x::ks) k
   |false=>fr.cut (d::x::ks) fun r=>v.force fun v=>k ((d,v)::r)
 |none=>match kill with
  |[]=>k fr
  |x::ks=>fr.cut (x::ks) k
def eF:List dL->Fr->St->T (Fr×St)
 |[],fr,st=>.ret (fr,st)
 |o::rest,fr,st=>
  match o.guard with
  |none=>(step o.op fr st).bind fun x=>match x with
   |(v,st)=>fr.after o.dst v o.kill fun fr=>eF rest fr st
  |some (t,want)=>match fr.get t with
   |.b x=>match want with
    |true=>.ite x
     (fr.cut [t] fun r=>(step o.op ((t,.b true)::r) st).bind fun x=>match x with
       |(v,st)=>Fr.after ((t,.b true)::r) o.dst v o.kill fun fr=>eF rest fr st)
     (fr.cut [t] fun r=>Fr.after ((t,.b false)::r) o.dst (.bY []) o.kill fun fr=>eF rest fr st)
    |false=>.ite x
     (fr.cut [t] fun r=>Fr.after ((t,.b true)::r) o.dst (.bY []) o.kill fun fr=>eF rest fr st)
     (fr.cut [t] fun r=>(step o.op ((t,.b false)::r) st).bind fun x=>match x with
       |(v,st)=>Fr.after ((t,.b false)::r) o.dst v o.kill fun fr=>eF rest fr st)
   |.bY _=>fr.after o.dst (.bY []) o.kill fun fr=>eF rest fr st
   |_=>.fail
structure bH where
 ix:Nat
 o:dL
 kX:Bool
 re:List Nat
 deriving Inhabited
def vN {α:Type} (g:Option (Nat×Bool)) (fr:Fr) (yes no:Fr->T α):T α:=
 match g with
 |none=>yes fr
 |some (t,want)=>match fr.get t with
  |.b x=>match want with
   |true=>.ite x (fr.cut [t] fun r=>yes ((t,.b true)::r)) (fr.cut [t] fun r=>no ((t,.b false)::r))
   |false=>.ite x (fr.cut [t] fun r=>no ((t,.b true)::r)) (fr.cut [t] fun r=>yes ((t,.b false)::r))
  |.bY _=>no fr
  |_=>.fail
def dM (g:Option (Nat×Bool)) (fr:Fr):Option Bool:=
 match g with
 |none=>some true
 |some (t,want)=>match fr.get t with
  |.b x=>some (x==want)
  |.bY _=>some false
  |_=>none
def recheck {α:Type} (re:List Nat):List bH->Fr->St->T α->T α
 |[],_,_,k=>k
 |p::ps,fr,st,k=>match cN p.ix re with
  |true=>match dM p.o.guard fr with
   |some true=>(step p.o.op fr st).bind fun x=>match p.o.dst with
    |some d=>.same (fr.get d) x.1 (recheck re ps fr st k)
    |none=>recheck re ps fr st k
   |some false=>recheck re ps fr st k
   |none=>.fail
  |false=>recheck re ps fr st k
def pX:List bH->List bH->Fr->St->T (Fr×St)
 |_,[],fr,st=>.ret (fr,st)
 |done,d::rest,fr,st=>vN d.o.guard fr
  (fun fr=>(step d.o.op fr st).bind fun x=>match x with
    |(v,st)=>fr.after d.o.dst v [] fun fr=>recheck d.re done fr st (pX (d::done) rest fr st))
  (fun fr=>fr.after d.o.dst (.bY []) [] fun fr=>pX (d::done) rest fr st)
inductive AC where
 |skip
 |BE (ops:List dL)
 |u0 (ops:List bH) (kill:List Nat)
 |seq (a b:AC)
 |cond (c:bL) (a b:AC)
 |bS (id:Nat) (b:AC)
 |loop (b:AC)
 |exit (id:Nat)
 |ret
 |no
 deriving Inhabited
inductive RV where
 |t (n:Nat)
 |cell (n:Nat) (sz:Option Nat)
 deriving Inhabited
structure aZ where
 nparams:Nat
 body:AC
 results:List RV
 deriving Inhabited
inductive Ex where
 |normal
 |exit (id:Nat)
 |ret
 deriving DecidableEq,Inhabited
def b9:Nat->List V->Fr
 |_,[]=>[]
 |n,v::r=>(n,v)::b9 (n+1) r
def sD (fr:Fr) (st:St):RV->Option V
 |.t n=>(fr.get n).pass
 |.cell n sz=>match fr.get n with
  |.p k off=>match st.get k with
   |some (.cs c)=>match dS c off sz with
    |some v=>v.pass
    |none=>none
   |_=>none
  |_=>none
def nO (fr:Fr) (st:St):List RV->Option (List V)
 |[]=>some []
 |r::rs=>match sD fr st r,nO fr st rs with
  |some v,some vs=>some (v::vs)
  |_,_=>none
def eX (fr:Fr) (st:St) (rs:List RV):Option V:=
 match nO fr st rs with
 |some [v]=>some v
 |some vs=>some (.bY vs)
 |none=>none
mutual
def V.beq:V->V->Bool
 |.b x,.b y=>x==y
 |.i k n,.i k' n'=>decide (k=k')&&decide (n=n')
 |.s x,.s y=>x==y
 |.lJ,.lJ=>true
 |.p k o,.p k' o'=>decide (k=k')&&decide (o=o')
 |.pa k z j o,.pa k' z' j' o'=>decide (k=k')&&decide (z=z')&&decide (j=j')&&decide (o=o')
 |.aS,.aS=>true
 |.sl t z es,.sl t' z' F3=>decide (t=t')&&decide (z=z')&&V.JA es F3
 |.ms k z u l,.ms k' z' u' l'=>decide (k=k')&&decide (z=z')&&decide (u=u')&&decide (l=l')
 |.gS,.gS=>true
 |.m k,.m k'=>decide (k=k')
 |.lK,.lK=>true
 |.agg cs,.agg ds=>V.LN cs ds
 |.bY cs,.bY ds=>V.LN cs ds
 |_,_=>false
def V.LN:List V->List V->Bool
 |[],[]=>true
 |v::r,u::q=>V.beq v u&&V.LN r q
 |_,_=>false
def V.JA:List (List V)->List (List V)->Bool
 |[],[]=>true
 |v::r,u::q=>V.LN v u&&V.JA r q
 |_,_=>false
end
def T.run {α:Type} (rf:Nat->List V->aA->Option (V×aA)):T α->Option α
 |.ret a=>some a
 |.ite c t e=>match c with
  |true=>t.run rf
  |false=>e.run rf
 |.elem o k=>match o with
  |some x=>(k x).run rf
  |none=>none
 |.byte o k=>match o with
  |some x=>(k x).run rf
  |none=>none
 |.tQ o k=>match o with
  |some x=>(k x).run rf
  |none=>none
 |.F2 o k=>match o with
  |some x=>(k x).run rf
  |none=>none
 |.obj o k=>match o with
  |some x=>(k x).run rf
  |none=>none
 |.mU o n k=>match o with
  |some x=>(k x).run rf
  |none=>n.run rf
 |.jL c k=>match c with
  |true=>k.run rf
  |false=>none
 |.wrap kd n k=>(k (kd.wrap n)).run rf
 |.any _=>none
 |.same v u k=>match v.beq u with
  |true=>k.run rf
  |false=>none
 |.call f args h k=>match rf f args h with
  |some (r,h')=>(k r h').run rf
  |none=>none
 |.fail=>none
end Go.Eng
