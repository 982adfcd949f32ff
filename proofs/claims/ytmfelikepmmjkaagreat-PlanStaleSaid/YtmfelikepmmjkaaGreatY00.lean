/-
The abstract machine: values, objects, heaps, interaction trees, operations. Plain definitions, no program in sight.
-/
import GoSem.Dispatch
import GoSem.Machine.Frame
import Derived.Calls
import Derived.Deep.MidRow
set_option linter.unusedVariables false
set_option linter.unusedSimpArgs false
namespace Go.Eng
open Go
inductive Key where
 |g (n:Nat)
 |l (n:Nat)
 deriving DecidableEq,Inhabited
inductive V where
 |b (x:Bool)
 |i (k:IntKind) (n:Int)
 |s (x:List UInt8)
 |kE
 |p (k:Key) (off:Nat)
 |pa (k:Key) (sz ix off:Nat)
 |pc (cs:List V) (off:Nat)
 |aV
 |sl (tok:Option Key) (sz:Nat) (es:List (List V))
 |ms (k:Key) (sz st len:Nat)
 |gC
 |m (k:Key)
 |fn (f:Nat) (first captured:List V)
 |kG
 |agg (cs:List V)
 |bY (vs:List V)
 |fK
 deriving Inhabited
inductive Obj where
 |cs (c:List V)
 |arr (sz:Nat) (es:List (List V))
 |spare
 |mp (kd:Option IntKind) (es:List (V×V))
 deriving Inhabited
structure aA where
 next:Nat
 rY:List (Nat×Obj)
 deriving Inhabited
def aA.find:List (Nat×Obj)->Nat->Option Obj
 |[],_=>none
 |(k,o)::r,n=>if k=n then some o else aA.find r n
def aA.get (h:aA) (n:Nat):Option Obj:=aA.find h.rY n
def aA.Bv:List (Nat×Obj)->Nat->Obj->List (Nat×Obj)
 |[],_,_=>[]
 |(k,o)::r,n,x=>if k=n then (k,x)::r else (k,o)::aA.Bv r n x
def aA.set (h:aA) (n:Nat) (o:Obj):aA:=
 match h with
 |⟨x,l⟩=>⟨x,aA.Bv l n o⟩
def aA.del:List (Nat×Obj)->Nat->List (Nat×Obj)
 |[],_=>[]
 |(k,o)::r,n=>if k=n then aA.del r n else (k,o)::aA.del r n
def aA.remove (h:aA) (n:Nat):aA:=
 match h with
 |⟨x,l⟩=>⟨x,aA.del l n⟩
def aA.push (h:aA) (o:Obj):aA:=
 match h with
 |⟨x,l⟩=>⟨x+1,(x,o)::l⟩
structure St where
 g:aA
 l:aA
 deriving Inhabited
def St.get (st:St):Key->Option Obj
 |.g n=>st.g.get n
 |.l n=>st.l.get n
def St.set (st:St) (k:Key) (o:Obj):St:=
 match st with
 |⟨a,b⟩=>match k with
  |.g n=>⟨a.set n o,b⟩
  |.l n=>⟨a,b.set n o⟩
def St.remove (st:St) (k:Key):St:=
 match st with
 |⟨a,b⟩=>match k with
  |.g n=>⟨a.remove n,b⟩
  |.l n=>⟨a,b.remove n⟩
def St.aL (st:St) (g:Bool):Key:=
 match st with
 |⟨⟨x,_⟩,⟨y,_⟩⟩=>match g with
  |true=>.g x
  |false=>.l y
def St.push (st:St) (g:Bool) (o:Obj):St:=
 match st with
 |⟨a,b⟩=>match g with
  |true=>⟨a.push o,b⟩
  |false=>⟨a,b.push o⟩
def Key.qK:Key->Bool
 |.g _=>true
 |.l _=>false
inductive T (α:Type):Type where
 |ret (a:α)
 |ite (c:Bool) (t e:T α)
 |elem (o:Option (List V)) (k:List V->T α)
 |byte (o:Option UInt8) (k:UInt8->T α)
 |rZ (o:Option (List (List V))) (k:List (List V)->T α)
 |EU (o:Option (List UInt8)) (k:List UInt8->T α)
 |obj (o:Option Obj) (k:Obj->T α)
 |lS (o:Option V) (n:T α) (k:V->T α)
 |iT (b:Bool) (k:T α)
 |wrap (kd:IntKind) (n:Int) (k:Int->T α)
 |any (k:Bool->T α)
 |same (v u:V) (k:T α)
 |call (f:Nat) (args:List V) (h:aA) (k:V->aA->T α)
 |fail
def T.bind {α β:Type}:T α->(α->T β)->T β
 |.ret a,f=>f a
 |.ite c t e,f=>.ite c (t.bind f) (e.bind f)
 |.elem o k,f=>.elem o fun x=>(k x).bind f
 |.byte o k,f=>.byte o fun x=>(k x).bind f
 |.rZ o k,f=>.rZ o fun x=>(k x).bind f
 |.EU o k,f=>.EU o fun x=>(k x).bind f
 |.obj o k,f=>.obj o fun x=>(k x).bind f
 |.lS o n k,f=>.lS o (n.bind f) fun x=>(k x).bind f
 |.iT b k,f=>.iT b (k.bind f)
 |.wrap kd n k,f=>.wrap kd n fun x=>(k x).bind f
 |.any k,f=>.any fun b=>(k b).bind f
 |.same v u k,f=>.same v u (k.bind f)
 |.call g aoP h k,f=>.call g aoP h fun r h'=>(k r h').bind f
 |.fail,_=>.fail
def T.opt {α β:Type} (o:Option α) (k:α->T β):T β:=
 match o with
 |some x=>k x
 |none=>.fail
inductive bH where
 |t (n:Nat)
 |c (v:V)
 deriving Inhabited
inductive kL where
 |im (g:Bool)
 |mu (g:Bool)
 |fz
 deriving DecidableEq,Inhabited
inductive CK where
 |b
 |i
 |s
 deriving DecidableEq,Inhabited
inductive y7 where
 |mv (x:bH)
 |L6 (x:bH)
 |pick (c a b:bH)
 |alloc (g:Bool) (zero:List V)
 |box (g:Bool) (x:bH)
 |Sa (zero:List V) (parts:List (Nat×Nat×bH))
 |Sb (m:kL) (sz len:Nat) (zero:List V) (parts:List (Nat×bH))
 |load (n:Option Nat) (a:bH)
 |store (n:Nat) (a x:bH)
 |CX (x:bH)
 |bin (op:BinOp) (x y:bH)
 |SB (row:Bool) (ks:List CK) (neg:Bool) (x y:bH)
 |XA (neg:Bool) (x y:bH)
 |un (op:UnOp) (x:bH)
 |SC (k:IntKind) (x:bH)
 |SD (x:bH)
 |Sc (m:kL) (x:bH)
 |SE (x:bH)
 |Ng (x:bH)
 |GB (f:Nat) (captured:List bH)
 |CY (g:Bool) (kd:Option IntKind)
 |Km (m:kL) (sz bytes:Nat) (zero:List V) (l c:bH)
 |y8 (x:bH) (lo hi:Option bH)
 |wM (sz:Nat) (x:bH) (lo hi mx:Option bH)
 |s9 (off:Nat) (x:bH)
 |OM (off:Nat) (n:Option Nat) (x:bH)
 |E7 (sz:Nat) (x i:bH)
 |GC (len sz:Nat) (x i:bH)
 |SF (x i:bH)
 |O6 (len sz:Nat) (n:Option Nat) (x i:bH)
 |Sd (kd:Option IntKind) (zero:V) (m k:bH) (ok:Bool)
 |Kn (kd:Option IntKind) (m k v:bH)
 |ext (x:bH) (i:Nat)
 |call (f:Nat) (args:List bH)
 |wY (f:bH) (args:List bH)
 |GD (x:bH)
 |E8 (x:bH)
 |GF (n:Nat)
 |GG (x:bH)
 |AO (max:Bool) (xs:List bH)
 |append (m:kL) (sz bytes:Nat) (s x:bH)
 |copy (sz:Nat) (d x:bH)
 |delete (kd:Option IntKind) (m k:bH)
 |clear (sz:Nat) (zero:List V) (x:bH)
 |no
 deriving Inhabited
structure dC where
 dst:Option Nat
 op:y7
 guard:Option (Nat×Bool):=none
 kill:List Nat:=[]
 deriving Inhabited
abbrev Fr:=List (Nat×V)
def Fr.get:Fr->Nat->V
 |[],_=>.fK
 |(k,v)::r,n=>if k=n then v else Fr.get r n
def bH.ev (fr:Fr):bH->V
 |.t n=>fr.get n
 |.c v=>v
def bH.GH (fr:Fr):List bH->List V
 |[]=>[]
 |x::r=>x.ev fr::bH.GH fr r
def bH.Cq (fr:Fr):Option bH->Option V
 |none=>none
 |some x=>some (x.ev fr)
def dT (fr:Fr):List (Nat×Nat×bH)->List (Nat×Nat×V)
 |[]=>[]
 |(a,b,x)::r=>(a,b,x.ev fr)::dT fr r
def fW (fr:Fr):List (Nat×bH)->List (Nat×V)
 |[]=>[]
 |(a,x)::r=>(a,x.ev fr)::fW fr r
def V.cells:V->List V
 |.agg cs=>cs
 |v=>[v]
def dL (cs:List V) (off:Nat):Option Nat->Option V
 |none=>cs[off]?
 |some n=>if off+n<=cs.length then some (.agg ((cs.drop off).take n)) else none
def dI:List V->Nat->List V->List V
 |cs,_,[]=>cs
 |cs,off,v::r=>dI (cs.set off v) (off+1) r
def V.one:V->Bool
 |.agg _=>false
 |.bY _=>false
 |.fK=>false
 |.pc _ _=>false
 |_=>true
def V.Uj:V->Bool
 |.agg _=>true
 |v=>v.one
def oH (cs:List V) (off:Nat) (vs:List V):Bool:=decide (off+vs.length<=cs.length)
def V.deep:V->Option V
 |.b x=>some (.b x)
 |.i k n=>some (.i k n)
 |.s x=>some (.s x)
 |.aV=>some .aV
 |.sl _ sz es=>some (.sl none sz es)
 |_=>none
def pW:List V->Option (List V)
 |[]=>some []
 |v::r=>match v.deep,pW r with
  |some x,some y=>some (x::y)
  |_,_=>none
def dR:List (List V)->Option (List (List V))
 |[]=>some []
 |e::r=>match pW e,dR r with
  |some x,some y=>some (x::y)
  |_,_=>none
def V.out:V->Option V
 |.b x=>some (.b x)
 |.i k n=>some (.i k n)
 |.s x=>some (.s x)
 |.kE=>some .kE
 |.p (.g n) off=>some (.p (.g n) off)
 |.pa (.g n) sz ix off=>some (.pa (.g n) sz ix off)
 |.aV=>some .aV
 |.sl (some (.g n)) sz es=>some (.sl (some (.g n)) sz es)
 |.sl (some (.l _)) sz es=>some (.sl none sz es)
 |.sl none sz es=>some (.sl none sz es)
 |.ms (.g n) sz st len=>some (.ms (.g n) sz st len)
 |.gC=>some .gC
 |.m (.g n)=>some (.m (.g n))
 |.kG=>some .kG
 |_=>none
def V.outs:List V->Option (List V)
 |[]=>some []
 |v::r=>match v.out,V.outs r with
  |some x,some y=>some (x::y)
  |_,_=>none
def V.pass (v:V):Option V:=
 match v with
 |.agg cs=>match V.outs cs with
  |some x=>some (.agg x)
  |none=>none
 |.fn f a c=>match V.outs a,V.outs c with
  |some x,some y=>some (.fn f x y)
  |_,_=>none
 |v=>v.out
def gK:List V->Option (List V)
 |[]=>some []
 |v::r=>match v.pass,gK r with
  |some x,some y=>some (x::y)
  |_,_=>none
def sA (g:Bool) (l:List V):Option (List V):=
 match g with
 |true=>gK l
 |false=>some l
def gL (g:Bool):List (List V)->Option (List (List V))
 |[]=>some []
 |e::r=>match sA g e,gL g r with
  |some x,some y=>some (x::y)
  |_,_=>none
def SG (g:Bool) (v:V):Option V:=
 match g with
 |true=>v.pass
 |false=>some v
def tN:CK->V->V->Option Bool
 |.b,.b x,.b y=>some (x==y)
 |.i,.i k x,.i k' y=>if k=k' then some (decide (x=y)) else none
 |.s,.s x,.s y=>some (x==y)
 |_,_,_=>none
def dP:List CK->List V->List V->Option Bool
 |[],[],[]=>some true
 |k::ks,x::r,y::q=>match tN k x y,dP ks r q with
  |some a,some c=>some (a&&c)
  |_,_=>none
 |_,_,_=>none
def V.row:Bool->V->Option (List V)
 |true,.agg cs=>some cs
 |true,_=>none
 |false,.agg _=>none
 |false,v=>some [v]
def tO:V->V->Bool
 |.s x,.s y=>x==y
 |.i k x,.i k' y=>decide (k=k')&&decide (x=y)
 |_,_=>false
def V.fE:Option IntKind->V->Bool
 |none,.s _=>true
 |some k,.i k' _=>decide (k=k')
 |_,_=>false
def pX:List (V×V)->V->Option V
 |[],_=>none
 |(k,v)::r,x=>if tO x k then some v else pX r x
def y9:List (V×V)->V->V->List (V×V)
 |[],x,v=>[(x,v)]
 |(k,u)::r,x,v=>if tO x k then (x,v)::r else (k,u)::y9 r x v
def E9:List (V×V)->V->List (V×V)
 |[],_=>[]
 |(k,u)::r,x=>if tO x k then r else (k,u)::E9 r x
def bytesOf:List (List V)->Option (List UInt8)
 |[]=>some []
 |[.i .u8 n]::r=>match bytesOf r with
  |some x=>some (UInt8.ofNat n.toNat::x)
  |none=>none
 |_=>none
def eR (x:List UInt8):List (List V):=x.map fun c=>[V.i .u8 c.toNat]
def kM:List V->List (Nat×Nat×V)->Option (List V)
 |cs,[]=>some cs
 |cs,(off,sz,v)::r=>if v.Uj=true/\v.cells.length=sz/\off+sz<=cs.length then kM (dI cs off v.cells) r else none
def nW:List (List V)->Nat->List (Nat×V)->Option (List (List V))
 |es,_,[]=>some es
 |es,sz,(i,v)::r=>if v.Uj=true/\v.cells.length=sz/\i<es.length then nW (es.set i v.cells) sz r else none
abbrev R:=V×St
def jK (sz:Nat) (st:St) (v:V) (k:List (List V)->T R):T R:=
 match v with
 |.aV=>k []
 |.sl _ dS es=>if dS=sz then k es else .fail
 |.ms key dS s n=>if dS=sz then .obj (st.get key) fun o=>match o with
   |.arr eJ es=>if eJ=sz then .iT (decide (s+n<=es.length)) (k ((es.drop s).take n)) else .fail
   |_=>.fail
  else .fail
 |.s x=>if sz=1 then k (eR x) else .fail
 |_=>.fail
def bR (n bytes:Nat):Bool:=decide (n*bytes<=140737488355328)
def j2 (m:kL) (sz:Nat) (es:List (List V)) (st:St):T R:=
 match m with
 |.im g=>.rZ (dR es) fun ds=>.ret (.sl (some (st.aL g)) sz ds,st.push g .spare)
 |.mu g=>.rZ (gL g es) fun ds=>.ret (.ms (st.aL g) sz 0 ds.length,st.push g (.arr sz ds))
 |.fz=>.rZ (dR es) fun ds=>.ret (.sl none sz ds,st)
def oI (m:kL) (sz bytes:Nat) (st:St) (s:V) (new:List (List V)):T R:=
 match s with
 |.aV=>match new with
  |[]=>.ret (.aV,st)
  |e::r=>.iT (bR (e::r).length bytes) (j2 m sz (e::r) st)
 |.sl tok dS es=>if dS=sz then match new with
   |[]=>.ret (.sl tok sz es,st)
   |e::r=>.iT (bR (es.length+(e::r).length) bytes)<|.rZ (dR (e::r)) fun ds=>match tok with
    |some k=>.obj (st.get k) fun o=>match o with
     |.spare=>.ret (.sl (some ((st.remove k).aL k.qK)) sz (es++ds),(st.remove k).push k.qK .spare)
     |_=>.fail
    |none=>.fail
  else .fail
 |.ms k dS off len=>if dS=sz then match new with
   |[]=>.ret (.ms k sz off len,st)
   |e::r=>.iT (bR (len+(e::r).length) bytes)<|.rZ (gL k.qK (e::r)) fun ds=>.obj (st.get k) fun o=>match o with
    |.arr eJ es=>if eJ=sz then
      .iT (decide (off+len<=es.length))<|.ite (decide (off+len+ds.length<=es.length))
       (.ret (.ms k sz off (len+ds.length),st.set k (.arr sz (es.take (off+len)++ds++es.drop (off+len+ds.length)))))
       (.ret (.ms ((st.remove k).aL k.qK) sz 0 (len+ds.length),(st.remove k).push k.qK (.arr sz ((es.take (off+len)).drop off++ds))))
     else .fail
    |_=>.fail
  else .fail
 |_=>.fail
def pY (i:Int) (n:Nat):Bool:=decide (0<=i)&&decide (i<(n:Int))
def tP:V->Option Int
 |.i _ n=>some n
 |_=>none
def eH (o:Option V) (n:Int):Option Int:=
 match o with
 |none=>some n
 |some v=>tP v
def gY (max:Bool):V->List V->Option V
 |v,[]=>some v
 |.i k x,.i _ y::r=>match max with
  |true=>gY max (.i k (if x<y then y else x)) r
  |false=>gY max (.i k (if y<x then y else x)) r
 |_,_=>none
def pZ (op:BinOp) (x y:V) (st:St):T R:=
 match x,y with
 |.i k a,.i k' c=>match op with
  |.shl=>.iT (decide (0<=c))<|.wrap k (a*2 ^ (min c.toNat k.bits)) fun r=>.ret (.i k r,st)
  |.shr=>.iT (decide (0<=c))<|.ret (.i k (a.fdiv (2 ^ (min c.toNat k.bits))),st)
  |.add=>if k=k' then .wrap k (a+c) fun r=>.ret (.i k r,st) else .fail
  |.sub=>if k=k' then .wrap k (a - c) fun r=>.ret (.i k r,st) else .fail
  |.mul=>if k=k' then .wrap k (a*c) fun r=>.ret (.i k r,st) else .fail
  |.quo=>if k=k' then .iT (!decide (c=0))<|.wrap k (a.tdiv c) fun r=>.ret (.i k r,st) else .fail
  |.rem=>if k=k' then .iT (!decide (c=0))<|.ret (.i k (a.tmod c),st) else .fail
  |.and=>if k=k' then .ret (.i k (k.wrap ((BitVec.ofInt k.bits a&&&BitVec.ofInt k.bits c).toNat)),st) else .fail
  |.or=>if k=k' then .ret (.i k (k.wrap ((BitVec.ofInt k.bits a|||BitVec.ofInt k.bits c).toNat)),st) else .fail
  |.xor=>if k=k' then .ret (.i k (k.wrap ((BitVec.ofInt k.bits a ^^^ BitVec.ofInt k.bits c).toNat)),st) else .fail
  |.andNot=>if k=k' then .ret (.i k (k.wrap ((BitVec.ofInt k.bits a&&&~~~ (BitVec.ofInt k.bits c)).toNat)),st) else .fail
  |.eql=>if k=k' then .ret (.b (decide (a=c)),st) else .fail
  |.neq=>if k=k' then .ret (.b (!decide (a=c)),st) else .fail
  |.lss=>if k=k' then .ret (.b (decide (a<c)),st) else .fail
  |.leq=>if k=k' then .ret (.b (decide (a<=c)),st) else .fail
  |.gtr=>if k=k' then .ret (.b (decide (c<a)),st) else .fail
  |.geq=>if k=k' then .ret (.b (decide (c<=a)),st) else .fail
 |.s a,.s c=>match op with
  |.add=>.iT (decide (((a.length+c.length:Nat):Int)<=9223372036854775807))<|.ret (.s (a++c),st)
  |.eql=>.ret (.b (a==c),st)
  |.neq=>.ret (.b (!(a==c)),st)
  |.lss=>.ret (.b (Op.bytesLess a c),st)
  |.leq=>.ret (.b (Op.bytesLess a c||a==c),st)
  |.gtr=>.ret (.b (!(Op.bytesLess a c||a==c)),st)
  |.geq=>.ret (.b (!Op.bytesLess a c),st)
  |_=>.fail
 |_,_=>.fail
def vJ (neg:Bool) (x y:V) (st:St):T R:=
 match y with
 |.kE=>match x with
  |.kE=>.ret (.b (!neg),st)
  |.p _ _=>.ret (.b neg,st)
  |.pa _ _ _ _=>.ret (.b neg,st)
  |_=>.fail
 |.aV=>match x with
  |.aV=>.ret (.b (!neg),st)
  |.sl tok _ es=>match tok with
   |some _=>.ret (.b neg,st)
   |none=>.ite es.isEmpty (.any fun r=>.ret (.b r,st)) (.ret (.b neg,st))
  |.ms _ _ _ _=>.ret (.b neg,st)
  |_=>.fail
 |.gC=>match x with
  |.gC=>.ret (.b (!neg),st)
  |.m _=>.ret (.b neg,st)
  |_=>.fail
 |.kG=>match x with
  |.kG=>.ret (.b (!neg),st)
  |.fn _ _ _=>.ret (.b neg,st)
  |_=>.fail
 |_=>.fail
def sB (zero:V) (ok:Bool) (st:St) (o:Option V):T R:=
 match ok with
 |true=>.lS o (.ret (.bY [zero,.b false],st)) fun v=>.ret (.bY [v,.b true],st)
 |false=>.lS o (.ret (zero,st)) fun v=>.ret (v,st)
def step (o:y7) (fr:Fr) (st:St):T R:=
 match o with
 |.mv x=>.ret (x.ev fr,st)
 |.L6 x=>.ret (x.ev fr,st)
 |.pick c a d=>match c.ev fr with
  |.b x=>.ite x (.ret (a.ev fr,st)) (.ret (d.ev fr,st))
  |_=>.fail
 |.alloc g zero=>.ret (.p (st.aL g) 0,st.push g (.cs zero))
 |.box g x=>match (x.ev fr).Uj with
  |true=>T.opt (sA g (x.ev fr).cells) fun c=>.ret (.p (st.aL g) 0,st.push g (.cs c))
  |false=>.fail
 |.Sa zero parts=>T.opt (kM zero (dT fr parts)) fun cs=>.ret (.agg cs,st)
 |.Sb m sz len zero parts=>T.opt (nW (List.replicate len zero) sz (fW fr parts)) fun es=>j2 m sz es st
 |.load n a=>match a.ev fr with
  |.p k off=>.obj (st.get k) fun o=>match o with
   |.cs c=>T.opt (dL c off n) fun v=>.ret (v,st)
   |_=>.fail
  |.pa k sz ix off=>.obj (st.get k) fun o=>match o with
   |.arr dS es=>if dS=sz then .elem es[ix]? fun e=>T.opt (dL e off n) fun v=>.ret (v,st) else .fail
   |_=>.fail
  |.pc cs off=>T.opt (dL cs off n) fun v=>.ret (v,st)
  |_=>.fail
 |.store n a x=>if (x.ev fr).Uj=true/\(x.ev fr).cells.length=n then match a.ev fr with
   |.p k off=>T.opt (sA k.qK (x.ev fr).cells) fun vs=>.obj (st.get k) fun o=>match o with
    |.cs c=>match oH c off vs with
     |true=>.ret (.bY [],st.set k (.cs (dI c off vs)))
     |false=>.fail
    |_=>.fail
   |.pa k sz ix off=>T.opt (sA k.qK (x.ev fr).cells) fun vs=>.obj (st.get k) fun o=>match o with
    |.arr dS es=>if dS=sz then .elem es[ix]? fun e=>match oH e off vs with
      |true=>.ret (.bY [],st.set k (.arr sz (es.set ix (dI e off vs))))
      |false=>.fail
     else .fail
    |_=>.fail
   |_=>.fail
  else .fail
 |.CX x=>match x.ev fr with
  |.p k off=>.ret (.p k off,st)
  |.pa k sz ix off=>.ret (.pa k sz ix off,st)
  |.pc cs off=>.ret (.pc cs off,st)
  |.fn f a c=>.ret (.fn f a c,st)
  |_=>.fail
 |.bin op x y=>pZ op (x.ev fr) (y.ev fr) st
 |.SB row ks neg x y=>T.opt ((x.ev fr).row row) fun cs=>T.opt ((y.ev fr).row row) fun ds=>T.opt (dP ks cs ds) fun r=>match neg with
  |true=>.ret (.b (!r),st)
  |false=>.ret (.b r,st)
 |.XA neg x y=>vJ neg (x.ev fr) (y.ev fr) st
 |.un op x=>match op,x.ev fr with
  |.not,.b y=>.ret (.b (!y),st)
  |.neg,.i k n=>.wrap k (0 - n) fun r=>.ret (.i k r,st)
  |_,_=>.fail
 |.SC k x=>match x.ev fr with
  |.i _ n=>.wrap k n fun r=>.ret (.i k r,st)
  |_=>.fail
 |.SD x=>match x.ev fr with
  |.s y=>.ret (.s y,st)
  |_=>.fail
 |.Sc m x=>match x.ev fr with
  |.s y=>j2 m 1 (eR y) st
  |_=>.fail
 |.SE x=>match x.ev fr with
  |.sl (some k) sz es=>.obj (st.get k) fun o=>match o with
   |.spare=>.ret (.sl (some k) sz es,st)
   |_=>.fail
  |.ms k sz off len=>.obj (st.get k) fun o=>match o with
   |.arr z _=>if z=1 then .ret (.ms k sz off len,st) else .fail
   |_=>.fail
  |_=>.fail
 |.Ng x=>jK 1 st (x.ev fr) fun es=>.EU (bytesOf es) fun y=>.ret (.s y,st)
 |.GB f cap=>.ret (.fn f [] (bH.GH fr cap),st)
 |.CY g kd=>.ret (.m (st.aL g),st.push g (.mp kd []))
 |.Km m sz bytes zero l c=>match l.ev fr,c.ev fr with
  |.i _ a,.i _ d=>.iT (decide (0<=a)&&decide (a=d)&&bR d.toNat bytes)<|j2 m sz (List.replicate a.toNat zero) st
  |_,_=>.fail
 |.y8 x lo hi=>match x.ev fr with
  |.s y=>T.opt (eH (bH.Cq fr hi) y.length) fun h=>T.opt (eH (bH.Cq fr lo) 0) fun l=>
   .iT (decide (0<=l)&&decide (l<=h)&&decide (h<=(y.length:Int)))<|.ret (.s ((y.take h.toNat).drop l.toNat),st)
  |_=>.fail
 |.wM sz x lo hi mx=>match x.ev fr with
  |.aV=>match mx with
   |none=>T.opt (eH (bH.Cq fr hi) 0) fun h=>T.opt (eH (bH.Cq fr lo) 0) fun l=>
    .iT (decide (l=0)&&decide (h=0))<|.ret (.aV,st)
   |some _=>.fail
  |.sl tok dS es=>if dS=sz then match mx with
    |none=>match bH.Cq fr hi with
     |none=>T.opt (eH (bH.Cq fr lo) 0) fun l=>.iT (decide (0<=l)&&decide (l<=(es.length:Int)))<|.ret (.sl tok sz (es.drop l.toNat),st)
     |some v=>T.opt (tP v) fun h=>T.opt (eH (bH.Cq fr lo) 0) fun l=>
      .iT (decide (0<=l)&&decide (l<=h)&&decide (h<=(es.length:Int)))<|.ret (.sl none sz ((es.take h.toNat).drop l.toNat),st)
    |some _=>.fail
   else .fail
  |.ms k dS off len=>if dS=sz then T.opt (eH (bH.Cq fr hi) len) fun h=>T.opt (eH (bH.Cq fr lo) 0) fun l=>.obj (st.get k) fun o=>match o with
    |.arr eJ es=>if eJ=sz then match mx with
      |none=>.iT (decide (0<=l)&&decide (l<=h)&&decide ((off:Int)+h<=(es.length:Int)))<|
       .ret (.ms k sz (off+l.toNat) (h.toNat - l.toNat),st)
      |some m=>T.opt (tP (m.ev fr)) fun mx=>.iT (decide (0<=l)&&decide (l<=h)&&decide (h<=mx)&&decide ((off:Int)+mx<=(es.length:Int)))<|
       .ret (.fK,st)
     else .fail
    |_=>.fail
   else .fail
  |_=>.fail
 |.s9 off x=>match x.ev fr with
  |.p k o=>.ret (.p k (o+off),st)
  |.pa k sz ix o=>.ret (.pa k sz ix (o+off),st)
  |.pc cs o=>.ret (.pc cs (o+off),st)
  |_=>.fail
 |.OM off n x=>match x.ev fr with
  |.agg cs=>T.opt (dL cs off n) fun v=>.ret (v,st)
  |_=>.fail
 |.E7 sz x i=>match i.ev fr with
  |.i _ n=>match x.ev fr with
   |.sl _ dS es=>if dS=sz then .iT (pY n es.length)<|.elem es[n.toNat]? fun e=>.ret (.pc e 0,st) else .fail
   |.ms k dS off len=>if dS=sz then .iT (pY n len)<|.ret (.pa k sz (off+n.toNat) 0,st) else .fail
   |_=>.fail
  |_=>.fail
 |.GC len sz x i=>match i.ev fr with
  |.i _ n=>.iT (pY n len)<|match x.ev fr with
   |.p k o=>.ret (.p k (o+n.toNat*sz),st)
   |.pa k dS ix o=>.ret (.pa k dS ix (o+n.toNat*sz),st)
   |.pc cs o=>.ret (.pc cs (o+n.toNat*sz),st)
   |_=>.fail
  |_=>.fail
 |.SF x i=>match x.ev fr,i.ev fr with
  |.s y,.i _ n=>.iT (decide (0<=n))<|.byte y[n.toNat]? fun c=>.ret (.i .u8 c.toNat,st)
  |_,_=>.fail
 |.O6 len sz n x i=>match x.ev fr,i.ev fr with
  |.agg cs,.i _ j=>.iT (pY j len)<|T.opt (dL cs (j.toNat*sz) n) fun v=>.ret (v,st)
  |_,_=>.fail
 |.Sd kd zero m k ok=>match (k.ev fr).fE kd with
  |true=>match m.ev fr with
   |.gC=>sB zero ok st none
   |.m key=>.obj (st.get key) fun o=>match o with
    |.mp H7 es=>if H7=kd then sB zero ok st (pX es (k.ev fr)) else .fail
    |_=>.fail
   |_=>.fail
  |false=>.fail
 |.Kn kd m k v=>match (k.ev fr).fE kd with
  |true=>match m.ev fr with
   |.m key=>.obj (st.get key) fun o=>match o with
    |.mp H7 es=>if H7=kd then T.opt (SG key.qK (v.ev fr)) fun u=>.ret (.bY [],st.set key (.mp kd (y9 es (k.ev fr) u))) else .fail
    |_=>.fail
   |_=>.fail
  |false=>.fail
 |.ext x i=>match x.ev fr with
  |.bY vs=>T.opt vs[i]? fun v=>.ret (v,st)
  |_=>.fail
 |.call f args=>T.opt (gK (bH.GH fr args)) fun vs=>.call f vs st.g fun r h=>.ret (r,⟨h,st.l⟩)
 |.wY f args=>match f.ev fr with
  |.fn g first cap=>T.opt (gK (first++bH.GH fr args++cap)) fun vs=>.call g vs st.g fun r h=>.ret (r,⟨h,st.l⟩)
  |_=>.fail
 |.GD x=>match x.ev fr with
  |.s y=>.ret (.i .i64 y.length,st)
  |_=>.fail
 |.E8 x=>match x.ev fr with
  |.aV=>.ret (.i .i64 0,st)
  |.sl _ _ es=>.ret (.i .i64 es.length,st)
  |.ms _ _ _ n=>.ret (.i .i64 n,st)
  |_=>.fail
 |.GF n=>.ret (.i .i64 n,st)
 |.GG x=>match x.ev fr with
  |.gC=>.ret (.i .i64 0,st)
  |.m key=>.obj (st.get key) fun o=>match o with
   |.mp _ es=>.ret (.i .i64 es.length,st)
   |_=>.fail
  |_=>.fail
 |.AO max xs=>match bH.GH fr xs with
  |v::r=>T.opt (gY max v r) fun v=>.ret (v,st)
  |[]=>.fail
 |.append m sz bytes s x=>jK sz st (x.ev fr) fun new=>oI m sz bytes st (s.ev fr) new
 |.copy sz d x=>jK sz st (x.ev fr) fun src=>match d.ev fr with
  |.ms k dS off len=>if dS=sz then .rZ (gL k.qK (src.take len)) fun ds=>.obj (st.get k) fun o=>match o with
    |.arr eJ es=>if eJ=sz then
      .iT (decide (off+len<=es.length))<|.ret (.i .i64 (ds.length:Nat),st.set k (.arr sz (es.take off++ds++es.drop (off+ds.length))))
     else .fail
    |_=>.fail
   else .fail
  |_=>.fail
 |.delete kd m k=>match (k.ev fr).fE kd with
  |true=>match m.ev fr with
   |.gC=>.ret (.bY [],st)
   |.m key=>.obj (st.get key) fun o=>match o with
    |.mp H7 es=>if H7=kd then .ret (.bY [],st.set key (.mp kd (E9 es (k.ev fr)))) else .fail
    |_=>.fail
   |_=>.fail
  |false=>.fail
 |.clear sz zero x=>match x.ev fr with
  |.aV=>.ret (.bY [],st)
  |.ms k dS off len=>if dS=sz then .obj (st.get k) fun o=>match o with
    |.arr eJ es=>if eJ=sz then .iT (decide (off+len<=es.length))<|.ret (.bY [],st.set k (.arr sz (es.take off++List.replicate len zero++es.drop (off+len)))) else .fail
    |_=>.fail
   else .fail
  |_=>.fail
 |.no=>.fail
def cK:Nat->List Nat->Bool
 |_,[]=>false
 |n,k::r=>match Nat.beq n k with
  |true=>true
  |false=>cK n r
def V.force {α:Type} (v:V) (k:V->α):α:=
 match v with
 |.b x=>k (.b x)
 |.i kd n=>k (.i kd n)
 |.s x=>k (.s x)
 |.kE=>k .kE
 |.p a o=>k (.p a o)
 |.pa a z ix o=>k (.pa a z ix o)
 |.pc c o=>k (.pc c o)
 |.aV=>k .aV
 |.sl t z e=>k (.sl t z e)
 |.ms a z u l=>k (.ms a z u l)
 |.gC=>k .gC
 |.m a=>k (.m a)
 |.fn f a c=>k (.fn f a c)
 |.kG=>k .kG
 |.agg c=>k (.agg c)
 |.bY c=>k (.bY c)
 |.fK=>k .fK
def Fr.cut {α:Type}:Fr->List Nat->(Fr->α)->α
 |[],_,k=>k []
 |(n,v)::r,ks,k=>match cK n ks with
  |true=>Fr.cut r ks k
  |false=>Fr.cut r ks fun r'=>k ((n,v)::r')
def Fr.after {α:Type} (fr:Fr) (dst:Option Nat) (v:V) (kill:List Nat) (k:Fr->α):α:=
 match dst with
 |some d=>match kill with
  |[]=>v.force fun v=>k ((d,v)::fr)
  |x::ks=>match cK d (x::ks) with
   |true=>fr.cut (d::x::ks) k
   |false=>fr.cut (d::x::ks) fun r=>v.force fun v=>k ((d,v)::r)
 |none=>match kill with
  |[]=>k fr
  |x::ks=>fr.cut (x::ks) k
def dU:List dC->Fr->St->T (Fr×St)
 |[],fr,st=>.ret (fr,st)
 |o::rest,fr,st=>
  match o.guard with
  |none=>(step o.op fr st).bind fun x=>match x with
   |(v,st)=>fr.after o.dst v o.kill fun fr=>dU rest fr st
  |some (t,want)=>match fr.get t with
   |.b x=>match want with
    |true=>.ite x
     (fr.cut [t] fun r=>(step o.op ((t,.b true)::r) st).bind fun x=>match x with
       |(v,st)=>Fr.after ((t,.b true)::r) o.dst v o.kill fun fr=>dU rest fr st)
     (fr.cut [t] fun r=>Fr.after ((t,.b false)::r) o.dst (.bY []) o.kill fun fr=>dU rest fr st)
    |false=>.ite x
     (fr.cut [t] fun r=>Fr.after ((t,.b true)::r) o.dst (.bY []) o.kill fun fr=>dU rest fr st)
     (fr.cut [t] fun r=>(step o.op ((t,.b false)::r) st).bind fun x=>match x with
       |(v,st)=>Fr.after ((t,.b false)::r) o.dst v o.kill fun fr=>dU rest fr st)
   |.bY _=>fr.after o.dst (.bY []) o.kill fun fr=>dU rest fr st
   |_=>.fail
structure bB where
 ix:Nat
 o:dC
 j3:Bool
 re:List Nat
 deriving Inhabited
def tQ {α:Type} (g:Option (Nat×Bool)) (fr:Fr) (yes no:Fr->T α):T α:=
 match g with
 |none=>yes fr
 |some (t,want)=>match fr.get t with
  |.b x=>match want with
   |true=>.ite x (fr.cut [t] fun r=>yes ((t,.b true)::r)) (fr.cut [t] fun r=>no ((t,.b false)::r))
   |false=>.ite x (fr.cut [t] fun r=>no ((t,.b true)::r)) (fr.cut [t] fun r=>yes ((t,.b false)::r))
  |.bY _=>no fr
  |_=>.fail
def dD (g:Option (Nat×Bool)) (fr:Fr):Option Bool:=
 match g with
 |none=>some true
 |some (t,want)=>match fr.get t with
  |.b x=>some (x==want)
  |.bY _=>some false
  |_=>none
def recheck {α:Type} (re:List Nat):List bB->Fr->St->T α->T α
 |[],_,_,k=>k
 |p::ps,fr,st,k=>match cK p.ix re with
  |true=>match dD p.o.guard fr with
   |some true=>(step p.o.op fr st).bind fun x=>match p.o.dst with
    |some d=>.same (fr.get d) x.1 (recheck re ps fr st k)
    |none=>recheck re ps fr st k
   |some false=>recheck re ps fr st k
   |none=>.fail
  |false=>recheck re ps fr st k
def oJ:List bB->List bB->Fr->St->T (Fr×St)
 |_,[],fr,st=>.ret (fr,st)
 |done,d::rest,fr,st=>tQ d.o.guard fr
  (fun fr=>(step d.o.op fr st).bind fun x=>match x with
    |(v,st)=>fr.after d.o.dst v [] fun fr=>recheck d.re done fr st (oJ (d::done) rest fr st))
  (fun fr=>fr.after d.o.dst (.bY []) [] fun fr=>oJ (d::done) rest fr st)
inductive AC where
 |skip
 |AK (ops:List dC)
 |tD (ops:List bB) (kill:List Nat)
 |seq (a b:AC)
 |cond (c:bH) (a b:AC)
 |bL (id:Nat) (b:AC)
 |loop (b:AC)
 |exit (id:Nat)
 |ret
 |no
 deriving Inhabited
inductive RV where
 |t (n:Nat)
 |cell (n:Nat) (sz:Option Nat)
 deriving Inhabited
structure aW where
 nparams:Nat
 body:AC
 results:List RV
 deriving Inhabited
inductive Ex where
 |normal
 |exit (id:Nat)
 |ret
 deriving DecidableEq,Inhabited
def bT:Nat->List V->Fr
 |_,[]=>[]
 |n,v::r=>(n,v)::bT (n+1) r
def tS (fr:Fr) (st:St):RV->Option V
 |.t n=>(fr.get n).pass
 |.cell n sz=>match fr.get n with
  |.p k off=>match st.get k with
   |some (.cs c)=>match dL c off sz with
    |some v=>v.pass
    |none=>none
   |_=>none
  |_=>none
def nQ (fr:Fr) (st:St):List RV->Option (List V)
 |[]=>some []
 |r::rs=>match tS fr st r,nQ fr st rs with
  |some v,some vs=>some (v::vs)
  |_,_=>none
def eX (fr:Fr) (st:St) (rs:List RV):Option V:=
 match nQ fr st rs with
 |some [v]=>some v
 |some vs=>some (.bY vs)
 |none=>none
mutual
def V.beq:V->V->Bool
 |.b x,.b y=>x==y
 |.i k n,.i k' n'=>decide (k=k')&&decide (n=n')
 |.s x,.s y=>x==y
 |.kE,.kE=>true
 |.p k o,.p k' o'=>decide (k=k')&&decide (o=o')
 |.pa k z j o,.pa k' z' j' o'=>decide (k=k')&&decide (z=z')&&decide (j=j')&&decide (o=o')
 |.aV,.aV=>true
 |.sl t z es,.sl t' z' EV=>decide (t=t')&&decide (z=z')&&V.H8 es EV
 |.ms k z u l,.ms k' z' u' l'=>decide (k=k')&&decide (z=z')&&decide (u=u')&&decide (l=l')
 |.gC,.gC=>true
 |.m k,.m k'=>decide (k=k')
 |.kG,.kG=>true
 |.agg cs,.agg ds=>V.Ko cs ds
 |.bY cs,.bY ds=>V.Ko cs ds
 |_,_=>false
def V.Ko:List V->List V->Bool
 |[],[]=>true
 |v::r,u::q=>V.beq v u&&V.Ko r q
 |_,_=>false
def V.H8:List (List V)->List (List V)->Bool
 |[],[]=>true
 |v::r,u::q=>V.Ko v u&&V.H8 r q
 |_,_=>false
end
def T.run {α:Type} (rf:Nat->List V->aA->Option (V×aA)):T α->Option α
 |.ret a=>some a
 |.ite c t e=>match c with
  |true=>t.run rf
  |false=>e.run rf
 |.elem o k=>match o with
  |some x=>(k x).run rf
  |none=>none
 |.byte o k=>match o with
  |some x=>(k x).run rf
  |none=>none
 |.rZ o k=>match o with
  |some x=>(k x).run rf
  |none=>none
 |.EU o k=>match o with
  |some x=>(k x).run rf
  |none=>none
 |.obj o k=>match o with
  |some x=>(k x).run rf
  |none=>none
 |.lS o n k=>match o with
  |some x=>(k x).run rf
  |none=>n.run rf
 |.iT c k=>match c with
  |true=>k.run rf
  |false=>none
 |.wrap kd n k=>(k (kd.wrap n)).run rf
 |.any _=>none
 |.same v u k=>match v.beq u with
  |true=>k.run rf
  |false=>none
 |.call f args h k=>match rf f args h with
  |some (r,h')=>(k r h').run rf
  |none=>none
 |.fail=>none
open Go
abbrev zA:=Nat->Nat->Option Value
structure Loc where
 bL:Nat
 base:Nat
 fin:Nat
structure Env where
 I:zA
 μ:Key->Loc
 ng:Nat
 nl:Nat
def Env.has (E:Env):Key->Prop
 |.g n=>n<E.ng
 |.l n=>n<E.nl
structure Env.Le (E F:Env):Prop where
 jL:∀ b o x,E.I b o=some x->F.I b o=some x
 ng:E.ng<=F.ng
 nl:E.nl<=F.nl
 loc:∀ k,E.has k->F.μ k=E.μ k
theorem Env.Le.refl (E:Env):E.Le E:=⟨fun _ _ _ h=>h,Nat.le_refl _,Nat.le_refl _,fun _ _=>rfl⟩
theorem Env.Le.has {E F:Env} (h:E.Le F) {k:Key} (hk:E.has k):F.has k:=by
 cases k with
 |g n=>exact Nat.lt_of_lt_of_le hk h.ng
 |l n=>exact Nat.lt_of_lt_of_le hk h.nl
theorem Env.Le.trans {E F G:Env} (h:E.Le F) (h':F.Le G):E.Le G:=
 ⟨fun b o x hx=>h'.jL b o x (h.jL b o x hx),Nat.le_trans h.ng h'.ng,Nat.le_trans h.nl h'.nl,
  fun k hk=>(h'.loc k (h.has hk)).trans (h.loc k hk)⟩
def str (l:List UInt8):ByteArray:=⟨l.toArray⟩
inductive eT (I:zA):V->Value->Prop where
 |b (x:Bool):eT I (.b x) (.bool x)
 |i (k:IntKind) (n:Int):eT I (.i k n) (.int k n)
 |s (l:List UInt8):eT I (.s l) (.string (str l))
 |aV:eT I .aV (.slice none 0 0)
 |mS (sz:Nat):eT I (.sl none sz []) (.slice none 0 0)
 |Kp (sz:Nat) (a:Addr) (hs:a.spot≠none):eT I (.sl none sz []) (.slice (some a) 0 0)
 |sl (sz:Nat) (es:List (List V)) (bL off cap:Nat) (val:Nat->Value) (hc:es.length<=cap) (hl:∀ e∈es,e.length=sz)
   (hv:∀ j d,es.flatten[j]? =some d->I bL (off+j)=some (val j)) (hr:∀ j d,es.flatten[j]? =some d->eT I d (val j)):
   eT I (.sl none sz es) (.slice (some ⟨bL,off,none⟩) es.length cap)
def Env.cut (E:Env):Env:={ E with nl:=0 }
def Env.at (E:Env):Key->Env
 |.g _=>E.cut
 |.l _=>E
theorem Env.O7 (E:Env):E.cut.Le E:=⟨fun _ _ _ h=>h,Nat.le_refl _,Nat.zero_le _,fun _ _=>rfl⟩
theorem Env.CZ {E F:Env} (h:E.Le F):E.cut.Le F.cut:=
 ⟨h.jL,h.ng,Nat.le_refl _,fun k hk=>h.loc k (E.O7.has hk)⟩
theorem Env.iJ {E F:Env} (h:E.Le F) (k:Key):(E.at k).Le (F.at k):=by
 cases k with
 |g n=>exact Env.CZ h
 |l n=>exact h
theorem Env.C0 (E:Env) (k:Key):(E.at k).Le E:=by
 cases k with
 |g n=>exact E.O7
 |l n=>exact .refl E
inductive Rel (E:Env):V->Value->Prop where
 |deep {v:V} {x:Value} (h:eT E.I v x):Rel E v x
 |kE:Rel E .kE (.pointer none)
 |p (k:Key) (off:Nat) (hk:E.has k):Rel E (.p k off) (.pointer (some ⟨(E.μ k).bL,(E.μ k).base+off,none⟩))
 |pa (k:Key) (sz ix off:Nat) (hk:E.has k):Rel E (.pa k sz ix off) (.pointer (some ⟨(E.μ k).bL,(E.μ k).base+ix*sz+off,none⟩))
 |pc (cs:List V) (off bL o:Nat) (val:Nat->Value) (hv:∀ j d,cs[j]? =some d->E.I bL (o+j)=some (val j))
   (hr:∀ j d,cs[j]? =some d->eT E.I d (val j)):Rel E (.pc cs off) (.pointer (some ⟨bL,o+off,none⟩))
 |EW (k:Key) (sz:Nat) (es:List (List V)) (a:Addr) (cap:Nat) (hk:E.has k) (hd:eT E.I (.sl none sz es) (.slice (some a) es.length cap))
   (hb:a.block=(E.μ k).bL/\a.spot=none) (hs:cap=es.length\/(a.off+es.length*sz=(E.μ k).base/\a.off+cap*sz=(E.μ k).fin)):
   Rel E (.sl (some k) sz es) (.slice (some a) es.length cap)
 |ms (k:Key) (sz st len:Nat) (a:Addr) (cap:Nat) (hk:E.has k) (hc:len<=cap) (hf:(E.μ k).base+(st+cap)*sz=(E.μ k).fin)
   (hb:a.block=(E.μ k).bL) (ha:cap=0\/a=⟨(E.μ k).bL,(E.μ k).base+st*sz,none⟩):Rel E (.ms k sz st len) (.slice (some a) len cap)
 |gC:Rel E .gC (.map none)
 |m (k:Key) (hk:E.has k):Rel E (.m k) (.map (some (E.μ k).bL))
 |fn (f:Nat) (a c:List V) (a' c':Array Value) (ha:a'.size=a.length) (hc:c'.size=c.length)
   (HY:∀ (j:Nat) (v:V) (x:Value),a[j]? =some v->a'[j]? =some x->Rel E v x)
   (O8:∀ (j:Nat) (v:V) (x:Value),c[j]? =some v->c'[j]? =some x->Rel E v x):Rel E (.fn f a c) (.func (.func f) a' c')
 |kG:Rel E .kG .nilFunc
 |agg (cs:List V) (a:Array Value) (ha:a.size=cs.length) (h1:∀ (j:Nat) (x:Value),a[j]? =some x->x.oneCell'=true) (hr:∀ (j:Nat) (v:V) (x:Value),cs[j]? =some v->a[j]? =some x->Rel E v x):Rel E (.agg cs) (.agg a)
 |bY (cs:List V) (a:Array Value) (ha:a.size=cs.length) (hr:∀ (j:Nat) (v:V) (x:Value),cs[j]? =some v->a[j]? =some x->Rel E v x):Rel E (.bY cs) (.tuple a)
 |fK (x:Value):Rel E .fK x
theorem eT.mono {I J:zA} (h:∀ b o x,I b o=some x->J b o=some x) {v:V} {x:Value} (hr:eT I v x):eT J v x:=by
 induction hr with
 |b x=>exact .b x
 |i k n=>exact .i k n
 |s l=>exact .s l
 |aV=>exact .aV
 |mS sz=>exact .mS sz
 |Kp sz a hs=>exact .Kp sz a hs
 |sl sz es bL off cap val hc hl hv _ ih=>exact .sl sz es bL off cap val hc hl (fun j d hj=>h _ _ _ (hv j d hj)) ih
theorem eT.Cr {I:zA} (sz:Nat) (p:Option Addr):eT I (.sl none sz []) (.slice p 0 0):=by
 cases p with
 |none=>exact .mS sz
 |some a=>
  obtain ⟨bL,off,s⟩:=a
  cases s with
  |none=>exact .sl sz [] bL off 0 (fun _=>default) (Nat.le_refl _) (fun e he=>by cases he) (fun j d hj=>by simp at hj) (fun j d hj=>by simp at hj)
  |some x=>exact .Kp sz _ (by simp)
theorem Rel.mono {E F:Env} (h:E.Le F) {v:V} {x:Value} (hr:Rel E v x):Rel F v x:=by
 induction hr with
 |deep hd=>exact .deep (hd.mono h.jL)
 |kE=>exact .kE
 |p k off hk=>rw [<-h.loc k hk];exact .p k off (h.has hk)
 |pa k sz ix off hk=>rw [<-h.loc k hk];exact .pa k sz ix off (h.has hk)
 |pc cs off bL o val hv hr=>exact .pc cs off bL o val (fun j d hj=>h.jL _ _ _ (hv j d hj)) (fun j d hj=>(hr j d hj).mono h.jL)
 |EW k sz es a cap hk hd hb hs=>exact .EW k sz es a cap (h.has hk) (hd.mono h.jL) (by rw [h.loc k hk];exact hb) (by rw [h.loc k hk];exact hs)
 |ms k sz st len a cap hk hc hf hb ha=>exact .ms k sz st len a cap (h.has hk) hc (by rw [h.loc k hk];exact hf) (by rw [h.loc k hk];exact hb) (by rw [h.loc k hk];exact ha)
 |gC=>exact .gC
 |m k hk=>rw [<-h.loc k hk];exact .m k (h.has hk)
 |fn f a c a' c' ha hc _ _ iha ihc=>exact .fn f a c a' c' ha hc iha ihc
 |kG=>exact .kG
 |agg cs a ha h1 _ ih=>exact .agg cs a ha h1 ih
 |bY cs a ha _ ih=>exact .bY cs a ha ih
 |fK x=>exact .fK x
def eI (E:Env) (l:List V) (a:Array Value):Prop:=a.size=l.length/\∀ (j:Nat) (v:V) (x:Value),l[j]? =some v->a[j]? =some x->Rel E v x
theorem eI.get {E:Env} {l:List V} {a:Array Value} (h:eI E l a) {j:Nat} {v:V} (hj:l[j]? =some v):∃ x,a[j]? =some x/\Rel E v x:=by
 have cL:j<l.length:=(List.getElem?_eq_some_iff.1 hj).1
 have:j<a.size:=by rw [h.1];exact cL
 exact ⟨a[j],by simp [this],h.2 j v _ hj (by simp [this])⟩
def sC (z:Nat) (fz:Nat×Nat) (n:Nat):Prop:=fz.1=fz.2\/(n<=fz.1/\z=1)
theorem sC.one {z:Nat} {fz:Nat×Nat} {n:Nat} (h:sC z fz n):sC 1 fz n:=h.elim .inl fun h=>.inr ⟨h.1,rfl⟩
def gR (z:Nat) (E:Env) (w:World) (L:Loc) (cs:List V):Prop:=
 ∃ cells t fz,w.heap[L.bL]? =some (.cells cells t fz)/\sC z fz cells.size/\L.base+cs.length<=L.fin/\L.fin<=cells.size/\
  ∀ j v,cs[j]? =some v->∃ x,cells[L.base+j]? =some x/\Rel E v x/\x.oneCell'=true
def BZ (bO:Array MapEntry) (clock:Nat):Prop:=(∀ x∈bO.toList,x.born<clock)/\(bO.toList.map (·.born)).Nodup
def Holds (E:Env) (w:World) (L:Loc):Obj->Prop
 |.cs c=>L.base=0/\gR 1 E w L c
 |.arr sz es=>(∀ e∈es,e.length=sz)/\gR sz E w L es.flatten
 |.spare=>gR 1 E w L []
 |.mp kd es=>∃ bO clock,w.heap[L.bL]? =some (.map bO clock)/\bO.size=es.length/\
   (∀ (j:Nat) (q:V×V) (e:MapEntry),es[j]? =some q->bO[j]? =some e->eT E.I q.1 e.key/\q.1.fE kd=true/\Rel E q.2 e.val)/\BZ bO clock
def St.live (st:St) (k:Key):Prop:=∃ o,st.get k=some o
def bI (w:World) (b o:Nat):Option Value:=
 match w.heap[b]? with
 |some (.cells c _ _)=>c[o]?
 |_=>none
theorem kW (w:World) (b o:Nat):w.cell? ⟨b,o,none⟩=bI w b o:=by
 simp only [World.cell?,bI]
 split<;>simp_all
structure b9 (E:Env) (st:St) (w:World):Prop where
 ng:st.g.next=E.ng
 nl:st.l.next=E.nl
 jM:∀ k,st.live k->E.has k
 jL:∀ b o x,E.I b o=some x->bI w b o=some x
 obj:∀ k o,st.get k=some o->Holds (E.at k) w (E.μ k) o
 sep:∀ k k',st.live k->st.live k'->k≠k'->(E.μ k).bL≠(E.μ k').bL
 own:∀ k,st.live k->∀ j,(E.μ k).base<=j->j<(E.μ k).fin->E.I (E.μ k).bL j=none
structure Ext (E:Env) (st:St) (w:World) (E':Env) (bU:St) (w':World):Prop where
 le:E.Le E'
 size:w.heap.size<=w'.heap.size
 fF:∀ b o x,E'.I b o=some x->E.I b o=some x\/w.heap.size<=b\/∃ k,st.live k/\(E.μ k).bL=b
 gD:∀ k,bU.live k->E.has k->st.live k
 gM:∀ k,bU.live k->¬E.has k->w.heap.size<=(E'.μ k).bL\/∃ k0,st.live k0/\(E.μ k0).bL=(E'.μ k).bL
 same:∀ b,b<w.heap.size->(∀ k,st.live k->(E.μ k).bL≠b)->w'.heap[b]? =w.heap[b]?
 os:w'.os=w.os
 out:w'.output=w.output
 tape:w'.tape=w.tape
theorem Ext.refl (E:Env) (st:St) (w:World):Ext E st w E st w:=
 ⟨.refl E,Nat.le_refl _,fun _ _ _ h=>.inl h,fun _ h _=>h,fun k h _=>.inr ⟨k,h,rfl⟩,fun _ _ _=>rfl,rfl,rfl,rfl⟩
theorem Ext.trans {E:Env} {st:St} {w:World} {E':Env} {bU:St} {w':World} {E'':Env} {X6:St} {Uk:World}
 (h:Ext E st w E' bU w') (g:Ext E' bU w' E'' X6 Uk):Ext E st w E'' X6 Uk where
 le:=h.le.trans g.le
 size:=Nat.le_trans h.size g.size
 fF b o x hx:=by
  rcases g.fF b o x hx with h1|h1|⟨k,hk,hb⟩
  · exact h.fF b o x h1
  · exact .inr (.inl (Nat.le_trans h.size h1))
  · by_cases he:E.has k
    · exact .inr (.inr ⟨k,h.gD k hk he,by rw [<-hb,h.le.loc k he]⟩)
    · rcases h.gM k hk he with h2|⟨k0,h2,h3⟩
      · exact .inr (.inl (hb▸h2))
      · exact .inr (.inr ⟨k0,h2,h3.trans hb⟩)
 gD k hk he:=h.gD k (g.gD k hk (h.le.has he)) he
 gM k hk he:=by
  by_cases FB:E'.has k
  · have hZ:=g.gD k hk FB
    rw [g.le.loc k FB]
    exact h.gM k hZ he
  · rcases g.gM k hk FB with h1|⟨k0,h1,h2⟩
    · exact .inl (Nat.le_trans h.size h1)
    · rw [<-h2]
      by_cases ON:E.has k0
      · exact .inr ⟨k0,h.gD k0 h1 ON,by rw [h.le.loc k0 ON]⟩
      · exact h.gM k0 h1 ON
 same b hb hn:=by
  rw [<-h.same b hb hn]
  refine g.same b (Nat.lt_of_lt_of_le hb h.size) fun k hk=>?_
  by_cases he:E.has k
  · rw [h.le.loc k he];exact hn k (h.gD k hk he)
  · rcases h.gM k hk he with h2|⟨k0,h2,h3⟩
    · omega
    · rw [<-h3];exact hn k0 h2
 os:=g.os.trans h.os
 out:=g.out.trans h.out
 tape:=g.tape.trans h.tape
theorem Holds.of_heap {E:Env} {w w':World} (h:w'.heap=w.heap) {L:Loc} {o:Obj} (ho:Holds E w L o):Holds E w' L o:=by
 cases o<;>simp only [Holds,gR,h] at*<;>exact ho
theorem b9.of_heap {E:Env} {st:St} {w w':World} (h:w'.heap=w.heap) (hs:b9 E st w):b9 E st w':=
 ⟨hs.ng,hs.nl,hs.jM,fun b o x hx=>by simpa [bI,h] using hs.jL b o x hx,fun k o hk=>(hs.obj k o hk).of_heap h,hs.sep,hs.own⟩
theorem Ext.drawn {E:Env} {st:St} {w:World} (n:Nat):Ext E st w E st { w with drawn:=n }:=
 ⟨.refl E,Nat.le_refl _,fun _ _ _ h=>.inl h,fun _ h _=>h,fun k h _=>.inr ⟨k,h,rfl⟩,fun _ _ _=>rfl,rfl,rfl,rfl⟩
theorem aA.O9 (l:List (Nat×Obj)) (n m:Nat) (x:Obj):aA.find (aA.Bv l n x) m=if m=n then (aA.find l n).map fun _=>x else aA.find l m:=by
 induction l with
 |nil=>simp [aA.Bv,aA.find]
 |cons q r ih=>
  obtain ⟨k,o⟩:=q
  by_cases hk:k=n
  · subst hk
    simp only [aA.Bv,if_true,aA.find]
    by_cases hm:m=k
    · subst hm;simp
    · have:¬k=m:=fun e=>hm e.symm
      simp [hm,this]
  · simp only [aA.Bv,if_neg hk,aA.find,ih]
    by_cases hm:m=n
    · subst hm;simp [hk]
    · simp [hm]
theorem aA.Pa (l:List (Nat×Obj)) (n m:Nat):aA.find (aA.del l n) m=if m=n then none else aA.find l m:=by
 induction l with
 |nil=>simp [aA.del,aA.find]
 |cons q r ih=>
  obtain ⟨k,o⟩:=q
  by_cases hk:k=n
  · subst hk
    simp only [aA.del,if_true,aA.find,ih]
    by_cases hm:m=k
    · simp [hm]
    · have:¬k=m:=fun e=>hm e.symm
      simp [hm,this]
  · simp only [aA.del,if_neg hk,aA.find,ih]
    by_cases hm:m=n
    · subst hm;simp [hk]
    · simp [hm]
theorem aA.vK (h:aA) (n m:Nat) (x:Obj):(h.set n x).get m=if m=n then (h.get n).map fun _=>x else h.get m:=aA.O9 _ _ _ _
theorem aA.iV (h:aA) (n m:Nat):(h.remove n).get m=if m=n then none else h.get m:=aA.Pa _ _ _
theorem aA.j4 (h:aA) (m:Nat) (x:Obj):(h.push x).get m=if m=h.next then some x else h.get m:=by
 simp only [aA.push,aA.get,aA.find]
 by_cases hm:m=h.next
 · simp [hm]
 · have:¬h.next=m:=fun e=>hm e.symm
   simp [hm,this]
theorem St.vK (st:St) (k k':Key) (x:Obj):(st.set k x).get k'=if k'=k then (st.get k).map fun _=>x else st.get k':=by
 cases k<;>cases k'<;>simp [St.set,St.get,aA.vK]
theorem St.iV (st:St) (k k':Key):(st.remove k).get k'=if k'=k then none else st.get k':=by
 cases k<;>cases k'<;>simp [St.remove,St.get,aA.iV]
theorem St.j4 (st:St) (g:Bool) (k':Key) (x:Obj):(st.push g x).get k'=if k'=st.aL g then some x else st.get k':=by
 cases g<;>cases k'<;>simp [St.push,St.aL,St.get,aA.j4]
theorem St.j5 (st:St) (k:Key) (g:Bool):(st.remove k).aL g=st.aL g:=by
 cases k<;>cases g<;>rfl
def Env.push (E:Env) (g:Bool) (L:Loc) (J:zA):Env where
 I b o:=match E.I b o with
  |some x=>some x
  |none=>J b o
 μ k:=match g with
  |true=>if k=.g E.ng then L else E.μ k
  |false=>if k=.l E.nl then L else E.μ k
 ng:=match g with
  |true=>E.ng+1
  |false=>E.ng
 nl:=match g with
  |true=>E.nl
  |false=>E.nl+1
def Env.aL (E:Env):Bool->Key
 |true=>.g E.ng
 |false=>.l E.nl
theorem Env.kX (E:Env) (g:Bool):¬E.has (E.aL g):=by cases g<;>simp [Env.aL,Env.has]
theorem Env.p7 (E:Env) (g:Bool) (L:Loc) (J:zA):E.Le (E.push g L J):=by
 refine ⟨fun b o x hx=>by simp [Env.push,hx],?_,?_,?_⟩
 · cases g<;>simp [Env.push]
 · cases g<;>simp [Env.push]
 · intro k hk
   cases g<;>simp only [Env.push]<;>rw [if_neg]<;>rintro rfl<;>simp [Env.has] at hk
theorem Env.fL (E:Env) (g:Bool) (L:Loc) (J:zA):(E.push g L J).μ (E.aL g)=L:=by cases g<;>simp [Env.push,Env.aL]
theorem Env.Pb (E:Env) (g:Bool) (L:Loc) (J:zA) (k:Key):(E.push g L J).has k↔E.has k\/k=E.aL g:=by
 cases g<;>cases k<;>simp [Env.push,Env.aL,Env.has]<;>omega
theorem Env.eU (E:Env) (g:Bool) (L:Loc) (J:zA):(E.push g L J).has (E.aL g):=(E.Pb g L J _).2 (.inr rfl)
theorem b9.aL {E:Env} {st:St} {w:World} (h:b9 E st w) (g:Bool):st.aL g=E.aL g:=by
 cases g<;>simp [St.aL,Env.aL,h.ng,h.nl]
theorem gR.eK {z:Nat} {E F:Env} (hle:E.Le F) {w w':World} {L:Loc} {cs:List V} (hb:w'.heap[L.bL]? =w.heap[L.bL]?) (h:gR z E w L cs):gR z F w' L cs:=by
 obtain ⟨cells,t,fz,h1,h2,h3,h4,h5⟩:=h
 exact ⟨cells,t,fz,by rw [hb,h1],h2,h3,h4,fun j v hj=>let ⟨x,hx,hr,h1⟩:=h5 j v hj;⟨x,hx,hr.mono hle,h1⟩⟩
theorem Holds.eK {E F:Env} (hle:E.Le F) {w w':World} {L:Loc} {o:Obj} (hb:w'.heap[L.bL]? =w.heap[L.bL]?) (h:Holds E w L o):Holds F w' L o:=by
 cases o with
 |cs c=>exact ⟨h.1,gR.eK hle hb h.2⟩
 |arr sz es=>exact ⟨h.1,gR.eK hle hb h.2⟩
 |spare=>exact gR.eK hle hb h
 |mp kd es=>
  obtain ⟨bO,clock,h1,h2,h3,h4⟩:=h
  exact ⟨bO,clock,by rw [hb,h1],h2,fun j q e hq he=>let ⟨a,b,c⟩:=h3 j q e hq he;⟨a.mono hle.jL,b,c.mono hle⟩,h4⟩
theorem Holds.size {E:Env} {w:World} {L:Loc} {o:Obj} (h:Holds E w L o):L.bL<w.heap.size:=by
 have:∃ x,w.heap[L.bL]? =some x:=by
  cases o with
  |cs c=>obtain ⟨_,cells,t,fz,h1,_⟩:=h;exact ⟨_,h1⟩
  |arr sz es=>obtain ⟨_,cells,t,fz,h1,_⟩:=h;exact ⟨_,h1⟩
  |spare=>obtain ⟨cells,t,fz,h1,_⟩:=h;exact ⟨_,h1⟩
  |mp kd es=>obtain ⟨bO,clock,h1,_⟩:=h;exact ⟨_,h1⟩
 obtain ⟨x,hx⟩:=this
 exact (Array.getElem?_eq_some_iff.1 hx).1
theorem b9.lt {E:Env} {st:St} {w:World} (h:b9 E st w) {k:Key} (hk:st.live k):(E.μ k).bL<w.heap.size:=
 let ⟨o,ho⟩:=hk;(h.obj k o ho).size
theorem b9.fresh {E:Env} {st:St} {w w':World} (h:b9 E st w) (gone:Option Key) (g:Bool) (base fin:Nat) (J:Nat->Option Value) (o:Obj) (ob:Go.Obj)
 (hh:w'.heap=w.heap.push ob) (X7:w'.os=w.os) (Kq:w'.output=w.output) (H9:w'.tape=w.tape)
 (hJ:∀ j x,J j=some x->(∃ c t fz,ob=.cells c t fz/\c[j]? =some x)/\¬(base<=j/\j<fin))
 (ho:Holds ((E.push g ⟨w.heap.size,base,fin⟩ fun b j=>if b=w.heap.size then J j else none).at (E.aL g)) w' ⟨w.heap.size,base,fin⟩ o):
 let bU:=(match gone with|some k=>st.remove k|none=>st).push g o
 let E':=E.push g ⟨w.heap.size,base,fin⟩ fun b j=>if b=w.heap.size then J j else none
 b9 E' bU w'/\Ext E st w E' bU w':=by
 intro bU E'
 have hle:E.Le E':=Env.p7 _ _ _ _
 have Pc:st.aL g=E.aL g:=h.aL g
 have fM:∀ k,bU.get k=if k=E.aL g then some o else (match gone with|some k0=>if k=k0 then none else st.get k|none=>st.get k):=by
  intro k
  simp only [bU]
  cases gone with
  |none=>rw [St.j4,Pc]
  |some k0=>rw [St.j4,St.j5,Pc,St.iV]
 have jX:∀ k,bU.live k->k≠E.aL g->st.live k:=by
  rintro k ⟨x,hx⟩ dM
  rw [fM,if_neg dM] at hx
  cases gone with
  |none=>exact ⟨x,hx⟩
  |some k0=>
   simp only at hx
   split at hx
   · cases hx
   · exact ⟨x,hx⟩
 have hold:∀ b,b<w.heap.size->w'.heap[b]? =w.heap[b]? :=by
  intro b hb
  rw [hh,Array.getElem?_push,if_neg (by omega)]
 have zB:w'.heap[w.heap.size]? =some ob:=by rw [hh];simp
 have kD:w'.heap.size=w.heap.size+1:=by rw [hh];simp
 have Nh:∀ b j x,E.I b j=some x->b<w.heap.size:=by
  intro b j x hx
  have:=h.jL b j x hx
  simp only [bI] at this
  rcases Nat.lt_or_ge b w.heap.size with hl|hl
  · exact hl
  · simp [Array.getElem?_eq_none hl] at this
 have Bw:bU.g.next=E'.ng/\bU.l.next=E'.nl:=by
  have h1:=h.ng
  have h2:=h.nl
  simp only [bU,E']
  cases gone with
  |none=>cases g<;>simp [St.push,aA.push,Env.push,h1,h2]
  |some k=>cases k<;>cases g<;>simp [St.push,aA.push,St.remove,aA.remove,Env.push,h1,h2]
 have acR:∀ k,bU.live k->E'.has k:=by
  intro k hk
  by_cases dM:k=E.aL g
  · subst dM;exact Env.eU _ _ _ _
  · exact hle.has (h.jM k (jX k hk dM))
 have Ka:E'.μ (E.aL g)=⟨w.heap.size,base,fin⟩:=Env.fL _ _ _ _
 refine ⟨⟨Bw.1,Bw.2,acR,?_,?_,?_,?_⟩,⟨hle,by omega,?_,?_,?_,fun b hb _=>hold b hb,X7,Kq,H9⟩⟩
 · intro b j x hx
   simp only [E',Env.push] at hx
   cases hI:E.I b j with
   |some y=>
    rw [hI] at hx
    have hb:=Nh b j y hI
    have:=h.jL b j y hI
    simp only [bI,hold b hb] at*
    simp only [Option.some.injEq] at hx
    rw [this,hx]
   |none=>
    rw [hI] at hx
    simp only at hx
    split at hx
    · rename_i hb
      subst hb
      obtain ⟨⟨c,t,fz,rfl,hc⟩,_⟩:=hJ j x hx
      simp only [bI,zB,hc]
    · cases hx
 · intro k x hk
   by_cases dM:k=E.aL g
   · subst dM
     rw [fM,if_pos rfl] at hk
     simp only [Option.some.injEq] at hk
     subst hk
     rw [Ka];exact ho
   · have hl:=jX k ⟨x,hk⟩ dM
     rw [fM,if_neg dM] at hk
     have hZ:st.get k=some x:=by
      cases gone with
      |none=>exact hk
      |some k0=>
       simp only at hk
       split at hk
       · cases hk
       · exact hk
     rw [hle.loc k (h.jM k hl)]
     exact (h.obj k x hZ).eK (Env.iJ hle k) (hold _ (h.lt hl))
 · intro k k' hk hZ dM
   by_cases h1:k=E.aL g
   · subst h1
     have h2:k'≠E.aL g:=fun e=>dM e.symm
     have hl:=jX k' hZ h2
     rw [Ka,hle.loc k' (h.jM k' hl)]
     have:=h.lt hl
     simp only [ne_eq];omega
   · have hl:=jX k hk h1
     by_cases h2:k'=E.aL g
     · subst h2
       rw [Ka,hle.loc k (h.jM k hl)]
       have:=h.lt hl
       simp only [ne_eq];omega
     · have wZ:=jX k' hZ h2
       rw [hle.loc k (h.jM k hl),hle.loc k' (h.jM k' wZ)]
       exact h.sep k k' hl wZ dM
 · intro k hk j X8 Ul
   by_cases h1:k=E.aL g
   · subst h1
     rw [Ka] at*
     simp only at X8 Ul ⊢
     simp only [E',Env.push]
     cases hI:E.I w.heap.size j with
     |some y=>exact absurd (Nh _ _ _ hI) (by omega)
     |none=>
      simp only [if_true]
      cases hJ':J j with
      |none=>rfl
      |some y=>exact absurd ⟨X8,Ul⟩ (hJ j y hJ').2
   · have hl:=jX k hk h1
     rw [hle.loc k (h.jM k hl)] at*
     have cL:=h.lt hl
     simp only [E',Env.push,h.own k hl j X8 Ul]
     rw [if_neg (by omega)]
 · intro b j x hx
   simp only [E',Env.push] at hx
   cases hI:E.I b j with
   |some y=>rw [hI] at hx;exact .inl hx
   |none=>
    rw [hI] at hx
    simp only at hx
    split at hx
    · rename_i hb;exact .inr (.inl (by omega))
    · cases hx
 · intro k hk he
   exact jX k hk (fun e=>E.kX g (e▸he))
 · intro k hk he
   by_cases h1:k=E.aL g
   · subst h1;rw [Ka];exact .inl (Nat.le_refl _)
   · exact absurd (h.jM k (jX k hk h1)) he
theorem b9.set {E:Env} {st:St} {w w':World} (h:b9 E st w) {k:Key} {o0:Obj} (hk:st.get k=some o0) (o:Obj)
 (kD:w'.heap.size=w.heap.size) (xW:∀ b,b≠(E.μ k).bL->w'.heap[b]? =w.heap[b]?) (X7:w'.os=w.os) (Kq:w'.output=w.output) (H9:w'.tape=w.tape)
 (C1:∀ j x,E.I (E.μ k).bL j=some x->bI w' (E.μ k).bL j=some x) (ho:Holds (E.at k) w' (E.μ k) o):
 b9 E (st.set k o) w'/\Ext E st w E (st.set k o) w':=by
 have fM:∀ k',(st.set k o).get k'=if k'=k then some o else st.get k':=by
  intro k';rw [St.vK,hk];rfl
 have jX:∀ k',(st.set k o).live k'↔st.live k':=by
  intro k'
  simp only [St.live,fM]
  by_cases e:k'=k
  · subst e;simp [hk]
  · simp [e]
 have Bw:(st.set k o).g.next=st.g.next/\(st.set k o).l.next=st.l.next:=by cases k<;>simp [St.set,aA.set]
 have FC:st.live k:=⟨o0,hk⟩
 refine ⟨⟨Bw.1.trans h.ng,Bw.2.trans h.nl,fun k' hZ=>h.jM k' ((jX k').1 hZ),?_,?_,?_,?_⟩,
  ⟨.refl E,by omega,fun _ _ _ hx=>.inl hx,fun k' hZ _=>(jX k').1 hZ,fun k' hZ _=>.inr ⟨k',(jX k').1 hZ,rfl⟩,?_,X7,Kq,H9⟩⟩
 · intro b j x hx
   by_cases e:b=(E.μ k).bL
   · subst e;exact C1 j x hx
   · have:=h.jL b j x hx
     simp only [bI,xW b e] at*
     exact this
 · intro k' x hx
   rw [fM] at hx
   by_cases e:k'=k
   · subst e;rw [if_pos rfl] at hx;simp only [Option.some.injEq] at hx;subst hx;exact ho
   · rw [if_neg e] at hx
     exact (h.obj k' x hx).eK (.refl _) (xW _ (h.sep k' k ⟨x,hx⟩ FC e))
 · intro a b ha hb dM
   exact h.sep a b ((jX a).1 ha) ((jX b).1 hb) dM
 · intro a ha j h1 h2
   exact h.own a ((jX a).1 ha) j h1 h2
 · intro b _ hn
   exact xW b (fun e=>hn k FC e.symm)
theorem b9.move {E:Env} {st:St} {w w':World} (h:b9 E st w) {k:Key} {o0:Obj} (hk:st.get k=some o0) (g:Bool) (L:Loc) (J:Nat->Option Value) (o:Obj)
 (hL:L.bL=(E.μ k).bL) (GI:(E.μ k).base<=L.base) (EX:L.fin<=(E.μ k).fin)
 (kD:w'.heap.size=w.heap.size) (xW:∀ b,b≠(E.μ k).bL->w'.heap[b]? =w.heap[b]?) (X7:w'.os=w.os) (Kq:w'.output=w.output) (H9:w'.tape=w.tape)
 (C1:∀ j x,E.I (E.μ k).bL j=some x->bI w' (E.μ k).bL j=some x)
 (hJ:∀ j x,J j=some x->bI w' (E.μ k).bL j=some x/\¬(L.base<=j/\j<L.fin))
 (ho:Holds ((E.push g L fun b j=>if b=(E.μ k).bL then J j else none).at (E.aL g)) w' L o):
 let bU:=(st.remove k).push g o
 let E':=E.push g L fun b j=>if b=(E.μ k).bL then J j else none
 b9 E' bU w'/\Ext E st w E' bU w':=by
 intro bU E'
 have hle:E.Le E':=Env.p7 _ _ _ _
 have Pc:st.aL g=E.aL g:=h.aL g
 have FC:st.live k:=⟨o0,hk⟩
 have fM:∀ k',bU.get k'=if k'=E.aL g then some o else if k'=k then none else st.get k':=by
  intro k'
  simp only [bU]
  rw [St.j4,St.j5,Pc,St.iV]
 have jX:∀ k',bU.live k'->k'≠E.aL g->st.live k'/\k'≠k:=by
  rintro k' ⟨x,hx⟩ dM
  rw [fM,if_neg dM] at hx
  split at hx
  · cases hx
  · rename_i acT;exact ⟨⟨x,hx⟩,acT⟩
 have Bw:bU.g.next=E'.ng/\bU.l.next=E'.nl:=by
  have h1:=h.ng
  have h2:=h.nl
  simp only [bU,E']
  cases k<;>cases g<;>simp [St.push,aA.push,St.remove,aA.remove,Env.push,h1,h2]
 have Ka:E'.μ (E.aL g)=L:=Env.fL _ _ _ _
 refine ⟨⟨Bw.1,Bw.2,?_,?_,?_,?_,?_⟩,⟨hle,by omega,?_,?_,?_,?_,X7,Kq,H9⟩⟩
 · intro k' hZ
   by_cases dM:k'=E.aL g
   · subst dM;exact Env.eU _ _ _ _
   · exact hle.has (h.jM k' (jX k' hZ dM).1)
 · intro b j x hx
   simp only [E',Env.push] at hx
   cases hI:E.I b j with
   |some y=>
    rw [hI] at hx
    simp only [Option.some.injEq] at hx
    subst hx
    by_cases e:b=(E.μ k).bL
    · subst e;exact C1 j y hI
    · have:=h.jL b j y hI
      simp only [bI,xW b e] at*
      exact this
   |none=>
    rw [hI] at hx
    simp only at hx
    split at hx
    · rename_i hb;subst hb;exact (hJ j x hx).1
    · cases hx
 · intro k' x hx
   rw [fM] at hx
   by_cases e:k'=E.aL g
   · subst e;rw [if_pos rfl] at hx;simp only [Option.some.injEq] at hx;subst hx;rw [Ka];exact ho
   · rw [if_neg e] at hx
     split at hx
     · cases hx
     · rename_i dM
       rw [hle.loc k' (h.jM k' ⟨x,hx⟩)]
       exact (h.obj k' x hx).eK (Env.iJ hle k') (xW _ (h.sep k' k ⟨x,hx⟩ FC dM))
 · intro a b ha hb dM
   by_cases e1:a=E.aL g
   · subst e1
     have e2:b≠E.aL g:=fun e=>dM e.symm
     have hl:=jX b hb e2
     rw [Ka,hle.loc b (h.jM b hl.1),hL]
     exact h.sep k b FC hl.1 (fun e=>hl.2 e.symm)
   · have hl:=jX a ha e1
     by_cases e2:b=E.aL g
     · subst e2
       rw [Ka,hle.loc a (h.jM a hl.1),hL]
       exact h.sep a k hl.1 FC hl.2
     · have wZ:=jX b hb e2
       rw [hle.loc a (h.jM a hl.1),hle.loc b (h.jM b wZ.1)]
       exact h.sep a b hl.1 wZ.1 dM
 · intro a ha j h1 h2
   by_cases e1:a=E.aL g
   · subst e1
     rw [Ka] at*
     simp only [E',Env.push,hL]
     rw [h.own k FC j (by omega) (by omega)]
     simp only [if_true]
     cases hJ':J j with
     |none=>rfl
     |some y=>exact absurd ⟨h1,h2⟩ (hJ j y hJ').2
   · have hl:=jX a ha e1
     rw [hle.loc a (h.jM a hl.1)] at*
     simp only [E',Env.push,h.own a hl.1 j h1 h2]
     rw [if_neg (h.sep a k hl.1 FC hl.2)]
 · intro b j x hx
   simp only [E',Env.push] at hx
   cases hI:E.I b j with
   |some y=>rw [hI] at hx;exact .inl hx
   |none=>
    rw [hI] at hx
    simp only at hx
    split at hx
    · rename_i hb;exact .inr (.inr ⟨k,FC,hb.symm⟩)
    · cases hx
 · intro k' hZ he
   exact (jX k' hZ (fun e=>E.kX g (e▸he))).1
 · intro k' hZ he
   by_cases e:k'=E.aL g
   · subst e;rw [Ka,hL];exact .inr ⟨k,FC,rfl⟩
   · exact absurd (h.jM k' (jX k' hZ e).1) he
 · intro b _ hn
   exact xW b (fun e=>hn k FC e.symm)
end Go.Eng
