/-
The abstract machine: values, objects, heaps, interaction trees, operations. Plain definitions, no program in sight.
-/
import GoSem.Dispatch
import GoSem.Machine.Frame
import Derived.Calls
import Derived.Deep.MidRow
import Derived.ArgAppend
import Derived.MapKept
import Derived.Laws.Entries
import Derived.Laws.MakeOwn
set_option linter.unusedVariables false
set_option linter.unusedSimpArgs false
namespace Go.Eng
open Go
inductive Key where
 |g (n:Nat)
 |l (n:Nat)
 deriving DecidableEq,Inhabited
inductive V where
 |b (x:Bool)
 |i (k:IntKind) (n:Int)
 |s (x:List UInt8)
 |fM
 |p (k:Key) (off:Nat)
 |pa (k:Key) (sz ix off:Nat)
 |pc (cs:List V) (off:Nat)
 |aB
 |sl (tok:Option Key) (sz:Nat) (es:List (List V))
 |ms (k:Key) (sz st len:Nat)
 |eG
 |m (k:Key)
 |fn (f:Nat) (first captured:List V)
 |fN
 |agg (cs:List V)
 |bC (vs:List V)
 |bL
 deriving Inhabited
inductive Obj where
 |cs (c:List V)
 |arr (sz:Nat) (es:List (List V))
 |spare
 |mp (kd:Option IntKind) (es:List (V×V))
 deriving Inhabited
structure aC where
 next:Nat
 Kj:List (Nat×Obj)
 deriving Inhabited
def aC.find:List (Nat×Obj)->Nat->Option Obj
 |[],_=>none
 |(k,o)::r,n=>if k=n then some o else aC.find r n
def aC.get (h:aC) (n:Nat):Option Obj:=aC.find h.Kj n
def aC.zV:List (Nat×Obj)->Nat->Obj->List (Nat×Obj)
 |[],_,_=>[]
 |(k,o)::r,n,x=>if k=n then (k,x)::r else (k,o)::aC.zV r n x
def aC.set (h:aC) (n:Nat) (o:Obj):aC:=
 match h with
 |⟨x,l⟩=>⟨x,aC.zV l n o⟩
def aC.del:List (Nat×Obj)->Nat->List (Nat×Obj)
 |[],_=>[]
 |(k,o)::r,n=>if k=n then aC.del r n else (k,o)::aC.del r n
def aC.remove (h:aC) (n:Nat):aC:=
 match h with
 |⟨x,l⟩=>⟨x,aC.del l n⟩
def aC.push (h:aC) (o:Obj):aC:=
 match h with
 |⟨x,l⟩=>⟨x+1,(x,o)::l⟩
structure St where
 g:aC
 l:aC
 deriving Inhabited
def St.get (st:St):Key->Option Obj
 |.g n=>st.g.get n
 |.l n=>st.l.get n
def St.set (st:St) (k:Key) (o:Obj):St:=
 match st with
 |⟨a,b⟩=>match k with
  |.g n=>⟨a.set n o,b⟩
  |.l n=>⟨a,b.set n o⟩
def St.remove (st:St) (k:Key):St:=
 match st with
 |⟨a,b⟩=>match k with
  |.g n=>⟨a.remove n,b⟩
  |.l n=>⟨a,b.remove n⟩
def St.aK (st:St) (g:Bool):Key:=
 match st with
 |⟨⟨x,_⟩,⟨y,_⟩⟩=>match g with
  |true=>.g x
  |false=>.l y
def St.push (st:St) (g:Bool) (o:Obj):St:=
 match st with
 |⟨a,b⟩=>match g with
  |true=>⟨a.push o,b⟩
  |false=>⟨a,b.push o⟩
def Key.rD:Key->Bool
 |.g _=>true
 |.l _=>false
inductive T (α:Type):Type where
 |ret (a:α)
 |ite (c:Bool) (t e:T α)
 |elem (o:Option (List V)) (k:List V->T α)
 |byte (o:Option UInt8) (k:UInt8->T α)
 |gL (o:Option (List (List V))) (k:List (List V)->T α)
 |Kk (o:Option (List UInt8)) (k:List UInt8->T α)
 |obj (o:Option Obj) (k:Obj->T α)
 |oV (o:Option V) (n:T α) (k:V->T α)
 |mL (b:Bool) (k:T α)
 |wrap (kd:IntKind) (n:Int) (k:Int->T α)
 |any (k:Bool->T α)
 |same (v u:V) (k:T α)
 |call (f:Nat) (args:List V) (h:aC) (k:V->aC->T α)
 |fail
def T.bind {α β:Type}:T α->(α->T β)->T β
 |.ret a,f=>f a
 |.ite c t e,f=>.ite c (t.bind f) (e.bind f)
 |.elem o k,f=>.elem o fun x=>(k x).bind f
 |.byte o k,f=>.byte o fun x=>(k x).bind f
 |.gL o k,f=>.gL o fun x=>(k x).bind f
 |.Kk o k,f=>.Kk o fun x=>(k x).bind f
 |.obj o k,f=>.obj o fun x=>(k x).bind f
 |.oV o n k,f=>.oV o (n.bind f) fun x=>(k x).bind f
 |.mL b k,f=>.mL b (k.bind f)
 |.wrap kd n k,f=>.wrap kd n fun x=>(k x).bind f
 |.any k,f=>.any fun b=>(k b).bind f
 |.same v u k,f=>.same v u (k.bind f)
 |.call g aEo h k,f=>.call g aEo h fun r h'=>(k r h').bind f
 |.fail,_=>.fail
def T.opt {α β:Type} (o:Option α) (k:α->T β):T β:=
 match o with
 |some x=>k x
 |none=>.fail
inductive bH where
 |t (n:Nat)
 |c (v:V)
 deriving Inhabited
inductive jQ where
 |im (g:Bool)
 |mu (g:Bool)
 |fz
 deriving DecidableEq,Inhabited
inductive CK where
 |b
 |i
 |s
 deriving DecidableEq,Inhabited
inductive wT where
 |mv (x:bH)
 |Ue (x:bH)
 |pick (c a b:bH)
 |alloc (g:Bool) (zero:List V)
 |box (g:Bool) (x:bH)
 |Uf (zero:List V) (parts:List (Nat×Nat×bH))
 |Ug (m:jQ) (sz len:Nat) (zero:List V) (parts:List (Nat×bH))
 |load (n:Option Nat) (a:bH)
 |store (n:Nat) (a x:bH)
 |zW (x:bH)
 |bin (op:BinOp) (x y:bH)
 |eqc (row:Bool) (ks:List CK) (neg:Bool) (x y:bH)
 |eqn (neg:Bool) (x y:bH)
 |un (op:UnOp) (x:bH)
 |cvi (k:IntKind) (x:bH)
 |cvs (x:bH)
 |Uh (m:jQ) (x:bH)
 |mkb (x:bH)
 |PN (x:bH)
 |Ew (f:Nat) (captured:List bH)
 |BA (g:Bool) (kd:Option IntKind)
 |Kl (m:jQ) (sz bytes:Nat) (zero:List V) (l c:bH)
 |xQ (x:bH) (lo hi:Option bH)
 |tK (sz:Nat) (x:bH) (lo hi mx:Option bH)
 |oW (off:Nat) (x:bH)
 |QW (off:Nat) (n:Option Nat) (x:bH)
 |Ey (sz:Nat) (x i:bH)
 |Ez (len sz:Nat) (x i:bH)
 |ixs (x i:bH)
 |T0 (len sz:Nat) (n:Option Nat) (x i:bH)
 |Ui (kd:Option IntKind) (zero:V) (m k:bH) (ok:Bool)
 |EA (kd:Option IntKind) (m k v:bH)
 |ext (x:bH) (i:Nat)
 |call (f:Nat) (args:List bH)
 |xS (f:bH) (args:List bH)
 |EB (x:bH)
 |EC (x:bH)
 |ED (n:Nat)
 |EE (x:bH)
 |zX (max:Bool) (xs:List bH)
 |append (m:jQ) (sz bytes:Nat) (s x:bH)
 |copy (sz:Nat) (d x:bH)
 |delete (kd:Option IntKind) (m k:bH)
 |clear (sz:Nat) (zero:List V) (x:bH)
 |no
 deriving Inhabited
structure cG where
 dst:Option Nat
 op:wT
 guard:Option (Nat×Bool):=none
 kill:List Nat:=[]
 deriving Inhabited
abbrev Fr:=List (Nat×V)
def Fr.get:Fr->Nat->V
 |[],_=>.bL
 |(k,v)::r,n=>if k=n then v else Fr.get r n
def bH.ev (fr:Fr):bH->V
 |.t n=>fr.get n
 |.c v=>v
def bH.BB (fr:Fr):List bH->List V
 |[]=>[]
 |x::r=>x.ev fr::bH.BB fr r
def bH.tJ (fr:Fr):Option bH->Option V
 |none=>none
 |some x=>some (x.ev fr)
def dD (fr:Fr):List (Nat×Nat×bH)->List (Nat×Nat×V)
 |[]=>[]
 |(a,b,x)::r=>(a,b,x.ev fr)::dD fr r
def fG (fr:Fr):List (Nat×bH)->List (Nat×V)
 |[]=>[]
 |(a,x)::r=>(a,x.ev fr)::fG fr r
def V.cells:V->List V
 |.agg cs=>cs
 |v=>[v]
def dF (cs:List V) (off:Nat):Option Nat->Option V
 |none=>cs[off]?
 |some n=>if off+n<=cs.length then some (.agg ((cs.drop off).take n)) else none
def cS:List V->Nat->List V->List V
 |cs,_,[]=>cs
 |cs,off,v::r=>cS (cs.set off v) (off+1) r
def V.one:V->Bool
 |.agg _=>false
 |.bC _=>false
 |.bL=>false
 |.pc _ _=>false
 |_=>true
def V.sto:V->Bool
 |.agg _=>true
 |v=>v.one
def qU (cs:List V) (off:Nat) (vs:List V):Bool:=decide (off+vs.length<=cs.length)
def V.deep:V->Option V
 |.b x=>some (.b x)
 |.i k n=>some (.i k n)
 |.s x=>some (.s x)
 |.aB=>some .aB
 |.sl _ sz es=>some (.sl none sz es)
 |_=>none
def k9:List V->Option (List V)
 |[]=>some []
 |v::r=>match v.deep,k9 r with
  |some x,some y=>some (x::y)
  |_,_=>none
def eR:List (List V)->Option (List (List V))
 |[]=>some []
 |e::r=>match k9 e,eR r with
  |some x,some y=>some (x::y)
  |_,_=>none
def V.out:V->Option V
 |.b x=>some (.b x)
 |.i k n=>some (.i k n)
 |.s x=>some (.s x)
 |.fM=>some .fM
 |.p (.g n) off=>some (.p (.g n) off)
 |.pa (.g n) sz ix off=>some (.pa (.g n) sz ix off)
 |.aB=>some .aB
 |.sl (some (.g n)) sz es=>some (.sl (some (.g n)) sz es)
 |.sl (some (.l _)) sz es=>some (.sl none sz es)
 |.sl none sz es=>some (.sl none sz es)
 |.ms (.g n) sz st len=>some (.ms (.g n) sz st len)
 |.eG=>some .eG
 |.m (.g n)=>some (.m (.g n))
 |.fN=>some .fN
 |_=>none
def V.outs:List V->Option (List V)
 |[]=>some []
 |v::r=>match v.out,V.outs r with
  |some x,some y=>some (x::y)
  |_,_=>none
def V.pass (v:V):Option V:=
 match v with
 |.agg cs=>match V.outs cs with
  |some x=>some (.agg x)
  |none=>none
 |.fn f a c=>match V.outs a,V.outs c with
  |some x,some y=>some (.fn f x y)
  |_,_=>none
 |v=>v.out
def eM:List V->Option (List V)
 |[]=>some []
 |v::r=>match v.pass,eM r with
  |some x,some y=>some (x::y)
  |_,_=>none
def rH (g:Bool) (l:List V):Option (List V):=
 match g with
 |true=>eM l
 |false=>some l
def eU (g:Bool):List (List V)->Option (List (List V))
 |[]=>some []
 |e::r=>match rH g e,eU g r with
  |some x,some y=>some (x::y)
  |_,_=>none
def Km (g:Bool) (v:V):Option V:=
 match g with
 |true=>v.pass
 |false=>some v
def oY:CK->V->V->Option Bool
 |.b,.b x,.b y=>some (x==y)
 |.i,.i k x,.i k' y=>if k=k' then some (decide (x=y)) else none
 |.s,.s x,.s y=>some (x==y)
 |_,_,_=>none
def cH:List CK->List V->List V->Option Bool
 |[],[],[]=>some true
 |k::ks,x::r,y::q=>match oY k x y,cH ks r q with
  |some a,some c=>some (a&&c)
  |_,_=>none
 |_,_,_=>none
def V.row:Bool->V->Option (List V)
 |true,.agg cs=>some cs
 |true,_=>none
 |false,.agg _=>none
 |false,v=>some [v]
def rI:V->V->Bool
 |.s x,.s y=>x==y
 |.i k x,.i k' y=>decide (k=k')&&decide (x=y)
 |_,_=>false
def V.dA:Option IntKind->V->Bool
 |none,.s _=>true
 |some k,.i k' _=>decide (k=k')
 |_,_=>false
def zY:List (V×V)->V->Option V
 |[],_=>none
 |(k,v)::r,x=>if rI x k then some v else zY r x
def fH:List (V×V)->V->V->List (V×V)
 |[],x,v=>[(x,v)]
 |(k,u)::r,x,v=>if rI x k then (x,v)::r else (k,u)::fH r x v
def Kn:List (V×V)->V->List (V×V)
 |[],_=>[]
 |(k,u)::r,x=>if rI x k then r else (k,u)::Kn r x
def bytesOf:List (List V)->Option (List UInt8)
 |[]=>some []
 |[.i .u8 n]::r=>match bytesOf r with
  |some x=>some (UInt8.ofNat n.toNat::x)
  |none=>none
 |_=>none
def eE (x:List UInt8):List (List V):=x.map fun c=>[V.i .u8 c.toNat]
def hZ:List V->List (Nat×Nat×V)->Option (List V)
 |cs,[]=>some cs
 |cs,(off,sz,v)::r=>if v.sto=true/\v.cells.length=sz/\off+sz<=cs.length then hZ (cS cs off v.cells) r else none
def lC:List (List V)->Nat->List (Nat×V)->Option (List (List V))
 |es,_,[]=>some es
 |es,sz,(i,v)::r=>if v.sto=true/\v.cells.length=sz/\i<es.length then lC (es.set i v.cells) sz r else none
abbrev R:=V×St
def fP (sz:Nat) (st:St) (v:V) (k:List (List V)->T R):T R:=
 match v with
 |.aB=>k []
 |.sl _ eD es=>if eD=sz then k es else .fail
 |.ms key eD s n=>if eD=sz then .obj (st.get key) fun o=>match o with
   |.arr eP es=>if eP=sz then .mL (decide (s+n<=es.length)) (k ((es.drop s).take n)) else .fail
   |_=>.fail
  else .fail
 |.s x=>if sz=1 then k (eE x) else .fail
 |_=>.fail
def gO (n bytes:Nat):Bool:=decide (n*bytes<=140737488355328)
def oZ (m:jQ) (sz:Nat) (es:List (List V)) (st:St):T R:=
 match m with
 |.im g=>.gL (eR es) fun ds=>.ret (.sl (some (st.aK g)) sz ds,st.push g .spare)
 |.mu g=>.gL (eU g es) fun ds=>.ret (.ms (st.aK g) sz 0 ds.length,st.push g (.arr sz ds))
 |.fz=>.gL (eR es) fun ds=>.ret (.sl none sz ds,st)
def iM (m:jQ) (sz bytes:Nat) (st:St) (s:V) (new:List (List V)):T R:=
 match s with
 |.aB=>match new with
  |[]=>.ret (.aB,st)
  |e::r=>.mL (gO (e::r).length bytes) (oZ m sz (e::r) st)
 |.sl tok eD es=>if eD=sz then match new with
   |[]=>.ret (.sl tok sz es,st)
   |e::r=>.mL (gO (es.length+(e::r).length) bytes)<|.gL (eR (e::r)) fun ds=>match tok with
    |some k=>.obj (st.get k) fun o=>match o with
     |.spare=>.ret (.sl (some ((st.remove k).aK k.rD)) sz (es++ds),(st.remove k).push k.rD .spare)
     |_=>.fail
    |none=>.fail
  else .fail
 |.ms k eD off len=>if eD=sz then match new with
   |[]=>.ret (.ms k sz off len,st)
   |e::r=>.mL (gO (len+(e::r).length) bytes)<|.gL (eU k.rD (e::r)) fun ds=>.obj (st.get k) fun o=>match o with
    |.arr eP es=>if eP=sz then
      .mL (decide (off+len<=es.length))<|.ite (decide (off+len+ds.length<=es.length))
       (.ret (.ms k sz off (len+ds.length),st.set k (.arr sz (es.take (off+len)++ds++es.drop (off+len+ds.length)))))
       (.ret (.ms ((st.remove k).aK k.rD) sz 0 (len+ds.length),(st.remove k).push k.rD (.arr sz ((es.take (off+len)).drop off++ds))))
     else .fail
    |_=>.fail
  else .fail
 |_=>.fail
def qI (i:Int) (n:Nat):Bool:=decide (0<=i)&&decide (i<(n:Int))
def tL:V->Option Int
 |.i _ n=>some n
 |_=>none
def dW (o:Option V) (n:Int):Option Int:=
 match o with
 |none=>some n
 |some v=>tL v
def gC (max:Bool):V->List V->Option V
 |v,[]=>some v
 |.i k x,.i _ y::r=>match max with
  |true=>gC max (.i k (if x<y then y else x)) r
  |false=>gC max (.i k (if y<x then y else x)) r
 |_,_=>none
def dU (op:BinOp) (x y:V) (st:St):T R:=
 match x,y with
 |.i k a,.i k' c=>match op with
  |.shl=>.mL (decide (0<=c))<|.wrap k (a*2 ^ (min c.toNat k.bits)) fun r=>.ret (.i k r,st)
  |.shr=>.mL (decide (0<=c))<|.ret (.i k (a.fdiv (2 ^ (min c.toNat k.bits))),st)
  |.add=>if k=k' then .wrap k (a+c) fun r=>.ret (.i k r,st) else .fail
  |.sub=>if k=k' then .wrap k (a - c) fun r=>.ret (.i k r,st) else .fail
  |.mul=>if k=k' then .wrap k (a*c) fun r=>.ret (.i k r,st) else .fail
  |.quo=>if k=k' then .mL (!decide (c=0))<|.wrap k (a.tdiv c) fun r=>.ret (.i k r,st) else .fail
  |.rem=>if k=k' then .mL (!decide (c=0))<|.ret (.i k (a.tmod c),st) else .fail
  |.and=>if k=k' then .ret (.i k (k.wrap ((BitVec.ofInt k.bits a&&&BitVec.ofInt k.bits c).toNat)),st) else .fail
  |.or=>if k=k' then .ret (.i k (k.wrap ((BitVec.ofInt k.bits a|||BitVec.ofInt k.bits c).toNat)),st) else .fail
  |.xor=>if k=k' then .ret (.i k (k.wrap ((BitVec.ofInt k.bits a ^^^ BitVec.ofInt k.bits c).toNat)),st) else .fail
  |.andNot=>if k=k' then .ret (.i k (k.wrap ((BitVec.ofInt k.bits a&&&~~~ (BitVec.ofInt k.bits c)).toNat)),st) else .fail
  |.eql=>if k=k' then .ret (.b (decide (a=c)),st) else .fail
  |.neq=>if k=k' then .ret (.b (!decide (a=c)),st) else .fail
  |.lss=>if k=k' then .ret (.b (decide (a<c)),st) else .fail
  |.leq=>if k=k' then .ret (.b (decide (a<=c)),st) else .fail
  |.gtr=>if k=k' then .ret (.b (decide (c<a)),st) else .fail
  |.geq=>if k=k' then .ret (.b (decide (c<=a)),st) else .fail
 |.s a,.s c=>match op with
  |.add=>.mL (decide (((a.length+c.length:Nat):Int)<=9223372036854775807))<|.ret (.s (a++c),st)
  |.eql=>.ret (.b (a==c),st)
  |.neq=>.ret (.b (!(a==c)),st)
  |.lss=>.ret (.b (Op.bytesLess a c),st)
  |.leq=>.ret (.b (Op.bytesLess a c||a==c),st)
  |.gtr=>.ret (.b (!(Op.bytesLess a c||a==c)),st)
  |.geq=>.ret (.b (!Op.bytesLess a c),st)
  |_=>.fail
 |_,_=>.fail
def vU (neg:Bool) (x y:V) (st:St):T R:=
 match y with
 |.fM=>match x with
  |.fM=>.ret (.b (!neg),st)
  |.p _ _=>.ret (.b neg,st)
  |.pa _ _ _ _=>.ret (.b neg,st)
  |_=>.fail
 |.aB=>match x with
  |.aB=>.ret (.b (!neg),st)
  |.sl tok _ es=>match tok with
   |some _=>.ret (.b neg,st)
   |none=>.ite es.isEmpty (.any fun r=>.ret (.b r,st)) (.ret (.b neg,st))
  |.ms _ _ _ _=>.ret (.b neg,st)
  |_=>.fail
 |.eG=>match x with
  |.eG=>.ret (.b (!neg),st)
  |.m _=>.ret (.b neg,st)
  |_=>.fail
 |.fN=>match x with
  |.fN=>.ret (.b (!neg),st)
  |.fn _ _ _=>.ret (.b neg,st)
  |_=>.fail
 |_=>.fail
def yE (zero:V) (ok:Bool) (st:St) (o:Option V):T R:=
 match ok with
 |true=>.oV o (.ret (.bC [zero,.b false],st)) fun v=>.ret (.bC [v,.b true],st)
 |false=>.oV o (.ret (zero,st)) fun v=>.ret (v,st)
def step (o:wT) (fr:Fr) (st:St):T R:=
 match o with
 |.mv x=>.ret (x.ev fr,st)
 |.Ue x=>.ret (x.ev fr,st)
 |.pick c a d=>match c.ev fr with
  |.b x=>.ite x (.ret (a.ev fr,st)) (.ret (d.ev fr,st))
  |_=>.fail
 |.alloc g zero=>.ret (.p (st.aK g) 0,st.push g (.cs zero))
 |.box g x=>match (x.ev fr).sto with
  |true=>T.opt (rH g (x.ev fr).cells) fun c=>.ret (.p (st.aK g) 0,st.push g (.cs c))
  |false=>.fail
 |.Uf zero parts=>T.opt (hZ zero (dD fr parts)) fun cs=>.ret (.agg cs,st)
 |.Ug m sz len zero parts=>T.opt (lC (List.replicate len zero) sz (fG fr parts)) fun es=>oZ m sz es st
 |.load n a=>match a.ev fr with
  |.p k off=>.obj (st.get k) fun o=>match o with
   |.cs c=>T.opt (dF c off n) fun v=>.ret (v,st)
   |_=>.fail
  |.pa k sz ix off=>.obj (st.get k) fun o=>match o with
   |.arr eD es=>if eD=sz then .elem es[ix]? fun e=>T.opt (dF e off n) fun v=>.ret (v,st) else .fail
   |_=>.fail
  |.pc cs off=>T.opt (dF cs off n) fun v=>.ret (v,st)
  |_=>.fail
 |.store n a x=>if (x.ev fr).sto=true/\(x.ev fr).cells.length=n then match a.ev fr with
   |.p k off=>T.opt (rH k.rD (x.ev fr).cells) fun vs=>.obj (st.get k) fun o=>match o with
    |.cs c=>match qU c off vs with
     |true=>.ret (.bC [],st.set k (.cs (cS c off vs)))
     |false=>.fail
    |_=>.fail
   |.pa k sz ix off=>T.opt (rH k.rD (x.ev fr).cells) fun vs=>.obj (st.get k) fun o=>match o with
    |.arr eD es=>if eD=sz then .elem es[ix]? fun e=>match qU e off vs with
      |true=>.ret (.bC [],st.set k (.arr sz (es.set ix (cS e off vs))))
      |false=>.fail
     else .fail
    |_=>.fail
   |_=>.fail
  else .fail
 |.zW x=>match x.ev fr with
  |.p k off=>.ret (.p k off,st)
  |.pa k sz ix off=>.ret (.pa k sz ix off,st)
  |.pc cs off=>.ret (.pc cs off,st)
  |.fn f a c=>.ret (.fn f a c,st)
  |_=>.fail
 |.bin op x y=>dU op (x.ev fr) (y.ev fr) st
 |.eqc row ks neg x y=>T.opt ((x.ev fr).row row) fun cs=>T.opt ((y.ev fr).row row) fun ds=>T.opt (cH ks cs ds) fun r=>match neg with
  |true=>.ret (.b (!r),st)
  |false=>.ret (.b r,st)
 |.eqn neg x y=>vU neg (x.ev fr) (y.ev fr) st
 |.un op x=>match op,x.ev fr with
  |.not,.b y=>.ret (.b (!y),st)
  |.neg,.i k n=>.wrap k (0 - n) fun r=>.ret (.i k r,st)
  |_,_=>.fail
 |.cvi k x=>match x.ev fr with
  |.i _ n=>.wrap k n fun r=>.ret (.i k r,st)
  |_=>.fail
 |.cvs x=>match x.ev fr with
  |.s y=>.ret (.s y,st)
  |_=>.fail
 |.Uh m x=>match x.ev fr with
  |.s y=>oZ m 1 (eE y) st
  |_=>.fail
 |.mkb x=>match x.ev fr with
  |.sl (some k) sz es=>.obj (st.get k) fun o=>match o with
   |.spare=>.ret (.sl (some k) sz es,st)
   |_=>.fail
  |.ms k sz off len=>.obj (st.get k) fun o=>match o with
   |.arr z _=>if z=1 then .ret (.ms k sz off len,st) else .fail
   |_=>.fail
  |_=>.fail
 |.PN x=>fP 1 st (x.ev fr) fun es=>.Kk (bytesOf es) fun y=>.ret (.s y,st)
 |.Ew f cap=>.ret (.fn f [] (bH.BB fr cap),st)
 |.BA g kd=>.ret (.m (st.aK g),st.push g (.mp kd []))
 |.Kl m sz bytes zero l c=>match l.ev fr,c.ev fr with
  |.i _ a,.i _ d=>.mL (decide (0<=a)&&decide (a=d)&&gO d.toNat bytes)<|oZ m sz (List.replicate a.toNat zero) st
  |_,_=>.fail
 |.xQ x lo hi=>match x.ev fr with
  |.s y=>T.opt (dW (bH.tJ fr hi) y.length) fun h=>T.opt (dW (bH.tJ fr lo) 0) fun l=>
   .mL (decide (0<=l)&&decide (l<=h)&&decide (h<=(y.length:Int)))<|.ret (.s ((y.take h.toNat).drop l.toNat),st)
  |_=>.fail
 |.tK sz x lo hi mx=>match x.ev fr with
  |.aB=>match mx with
   |none=>T.opt (dW (bH.tJ fr hi) 0) fun h=>T.opt (dW (bH.tJ fr lo) 0) fun l=>
    .mL (decide (l=0)&&decide (h=0))<|.ret (.aB,st)
   |some _=>.fail
  |.sl tok eD es=>if eD=sz then match mx with
    |none=>match bH.tJ fr hi with
     |none=>T.opt (dW (bH.tJ fr lo) 0) fun l=>.mL (decide (0<=l)&&decide (l<=(es.length:Int)))<|.ret (.sl tok sz (es.drop l.toNat),st)
     |some v=>T.opt (tL v) fun h=>T.opt (dW (bH.tJ fr lo) 0) fun l=>
      .mL (decide (0<=l)&&decide (l<=h)&&decide (h<=(es.length:Int)))<|.ret (.sl none sz ((es.take h.toNat).drop l.toNat),st)
    |some _=>.fail
   else .fail
  |.ms k eD off len=>if eD=sz then T.opt (dW (bH.tJ fr hi) len) fun h=>T.opt (dW (bH.tJ fr lo) 0) fun l=>.obj (st.get k) fun o=>match o with
    |.arr eP es=>if eP=sz then match mx with
      |none=>.mL (decide (0<=l)&&decide (l<=h)&&decide ((off:Int)+h<=(es.length:Int)))<|
       .ret (.ms k sz (off+l.toNat) (h.toNat - l.toNat),st)
      |some m=>T.opt (tL (m.ev fr)) fun mx=>.mL (decide (0<=l)&&decide (l<=h)&&decide (h<=mx)&&decide ((off:Int)+mx<=(es.length:Int)))<|
       .ret (.bL,st)
     else .fail
    |_=>.fail
   else .fail
  |_=>.fail
 |.oW off x=>match x.ev fr with
  |.p k o=>.ret (.p k (o+off),st)
  |.pa k sz ix o=>.ret (.pa k sz ix (o+off),st)
  |.pc cs o=>.ret (.pc cs (o+off),st)
  |_=>.fail
 |.QW off n x=>match x.ev fr with
  |.agg cs=>T.opt (dF cs off n) fun v=>.ret (v,st)
  |_=>.fail
 |.Ey sz x i=>match i.ev fr with
  |.i _ n=>match x.ev fr with
   |.sl _ eD es=>if eD=sz then .mL (qI n es.length)<|.elem es[n.toNat]? fun e=>.ret (.pc e 0,st) else .fail
   |.ms k eD off len=>if eD=sz then .mL (qI n len)<|.ret (.pa k sz (off+n.toNat) 0,st) else .fail
   |_=>.fail
  |_=>.fail
 |.Ez len sz x i=>match i.ev fr with
  |.i _ n=>.mL (qI n len)<|match x.ev fr with
   |.p k o=>.ret (.p k (o+n.toNat*sz),st)
   |.pa k eD ix o=>.ret (.pa k eD ix (o+n.toNat*sz),st)
   |.pc cs o=>.ret (.pc cs (o+n.toNat*sz),st)
   |_=>.fail
  |_=>.fail
 |.ixs x i=>match x.ev fr,i.ev fr with
  |.s y,.i _ n=>.mL (decide (0<=n))<|.byte y[n.toNat]? fun c=>.ret (.i .u8 c.toNat,st)
  |_,_=>.fail
 |.T0 len sz n x i=>match x.ev fr,i.ev fr with
  |.agg cs,.i _ j=>.mL (qI j len)<|T.opt (dF cs (j.toNat*sz) n) fun v=>.ret (v,st)
  |_,_=>.fail
 |.Ui kd zero m k ok=>match (k.ev fr).dA kd with
  |true=>match m.ev fr with
   |.eG=>yE zero ok st none
   |.m key=>.obj (st.get key) fun o=>match o with
    |.mp AX es=>if AX=kd then yE zero ok st (zY es (k.ev fr)) else .fail
    |_=>.fail
   |_=>.fail
  |false=>.fail
 |.EA kd m k v=>match (k.ev fr).dA kd with
  |true=>match m.ev fr with
   |.m key=>.obj (st.get key) fun o=>match o with
    |.mp AX es=>if AX=kd then T.opt (Km key.rD (v.ev fr)) fun u=>.ret (.bC [],st.set key (.mp kd (fH es (k.ev fr) u))) else .fail
    |_=>.fail
   |_=>.fail
  |false=>.fail
 |.ext x i=>match x.ev fr with
  |.bC vs=>T.opt vs[i]? fun v=>.ret (v,st)
  |_=>.fail
 |.call f args=>T.opt (eM (bH.BB fr args)) fun vs=>.call f vs st.g fun r h=>.ret (r,⟨h,st.l⟩)
 |.xS f args=>match f.ev fr with
  |.fn g first cap=>T.opt (eM (first++bH.BB fr args++cap)) fun vs=>.call g vs st.g fun r h=>.ret (r,⟨h,st.l⟩)
  |_=>.fail
 |.EB x=>match x.ev fr with
  |.s y=>.ret (.i .i64 y.length,st)
  |_=>.fail
 |.EC x=>match x.ev fr with
  |.aB=>.ret (.i .i64 0,st)
  |.sl _ _ es=>.ret (.i .i64 es.length,st)
  |.ms _ _ _ n=>.ret (.i .i64 n,st)
  |_=>.fail
 |.ED n=>.ret (.i .i64 n,st)
 |.EE x=>match x.ev fr with
  |.eG=>.ret (.i .i64 0,st)
  |.m key=>.obj (st.get key) fun o=>match o with
   |.mp _ es=>.ret (.i .i64 es.length,st)
   |_=>.fail
  |_=>.fail
 |.zX max xs=>match bH.BB fr xs with
  |v::r=>T.opt (gC max v r) fun v=>.ret (v,st)
  |[]=>.fail
 |.append m sz bytes s x=>fP sz st (x.ev fr) fun new=>iM m sz bytes st (s.ev fr) new
 |.copy sz d x=>fP sz st (x.ev fr) fun src=>match d.ev fr with
  |.ms k eD off len=>if eD=sz then .gL (eU k.rD (src.take len)) fun ds=>.obj (st.get k) fun o=>match o with
    |.arr eP es=>if eP=sz then
      .mL (decide (off+len<=es.length))<|.ret (.i .i64 (ds.length:Nat),st.set k (.arr sz (es.take off++ds++es.drop (off+ds.length))))
     else .fail
    |_=>.fail
   else .fail
  |_=>.fail
 |.delete kd m k=>match (k.ev fr).dA kd with
  |true=>match m.ev fr with
   |.eG=>.ret (.bC [],st)
   |.m key=>.obj (st.get key) fun o=>match o with
    |.mp AX es=>if AX=kd then .ret (.bC [],st.set key (.mp kd (Kn es (k.ev fr)))) else .fail
    |_=>.fail
   |_=>.fail
  |false=>.fail
 |.clear sz zero x=>match x.ev fr with
  |.aB=>.ret (.bC [],st)
  |.ms k eD off len=>if eD=sz then .obj (st.get k) fun o=>match o with
    |.arr eP es=>if eP=sz then .mL (decide (off+len<=es.length))<|.ret (.bC [],st.set k (.arr sz (es.take off++List.replicate len zero++es.drop (off+len)))) else .fail
    |_=>.fail
   else .fail
  |_=>.fail
 |.no=>.fail
def bZ:Nat->List Nat->Bool
 |_,[]=>false
 |n,k::r=>match Nat.beq n k with
  |true=>true
  |false=>bZ n r
def V.force {α:Type} (v:V) (k:V->α):α:=
 match v with
 |.b x=>k (.b x)
 |.i kd n=>k (.i kd n)
 |.s x=>k (.s x)
 |.fM=>k .fM
 |.p a o=>k (.p a o)
 |.pa a z ix o=>k (.pa a z ix o)
 |.pc c o=>k (.pc c o)
 |.aB=>k .aB
 |.sl t z e=>k (.sl t z e)
 |.ms a z u l=>k (.ms a z u l)
 |.eG=>k .eG
 |.m a=>k (.m a)
 |.fn f a c=>k (.fn f a c)
 |.fN=>k .fN
 |.agg c=>k (.agg c)
 |.bC c=>k (.bC c)
 |.bL=>k .bL
def Fr.cut {α:Type}:Fr->List Nat->(Fr->α)->α
 |[],_,k=>k []
 |(n,v)::r,ks,k=>match bZ n ks with
  |true=>Fr.cut r ks k
  |false=>Fr.cut r ks fun r'=>k ((n,v)::r')
def Fr.after {α:Type} (fr:Fr) (dst:Option Nat) (v:V) (kill:List Nat) (k:Fr->α):α:=
 match dst with
 |some d=>match kill with
  |[]=>v.force fun v=>k ((d,v)::fr)
  |x::ks=>match bZ d (x::ks) with
   |true=>fr.cut (d::x::ks) k
   |false=>fr.cut (d::x::ks) fun r=>v.force fun v=>k ((d,v)::r)
 |none=>match kill with
  |[]=>k fr
  |x::ks=>fr.cut (x::ks) k
def dM:List cG->Fr->St->T (Fr×St)
 |[],fr,st=>.ret (fr,st)
 |o::rest,fr,st=>
  match o.guard with
  |none=>(step o.op fr st).bind fun x=>match x with
   |(v,st)=>fr.after o.dst v o.kill fun fr=>dM rest fr st
  |some (t,want)=>match fr.get t with
   |.b x=>match want with
    |true=>.ite x
     (fr.cut [t] fun r=>(step o.op ((t,.b true)::r) st).bind fun x=>match x with
       |(v,st)=>Fr.after ((t,.b true)::r) o.dst v o.kill fun fr=>dM rest fr st)
     (fr.cut [t] fun r=>Fr.after ((t,.b false)::r) o.dst (.bC []) o.kill fun fr=>dM rest fr st)
    |false=>.ite x
     (fr.cut [t] fun r=>Fr.after ((t,.b true)::r) o.dst (.bC []) o.kill fun fr=>dM rest fr st)
     (fr.cut [t] fun r=>(step o.op ((t,.b false)::r) st).bind fun x=>match x with
       |(v,st)=>Fr.after ((t,.b false)::r) o.dst v o.kill fun fr=>dM rest fr st)
   |.bC _=>fr.after o.dst (.bC []) o.kill fun fr=>dM rest fr st
   |_=>.fail
structure aO where
 ix:Nat
 o:cG
 iN:Bool
 re:List Nat
 deriving Inhabited
def rJ {α:Type} (g:Option (Nat×Bool)) (fr:Fr) (yes no:Fr->T α):T α:=
 match g with
 |none=>yes fr
 |some (t,want)=>match fr.get t with
  |.b x=>match want with
   |true=>.ite x (fr.cut [t] fun r=>yes ((t,.b true)::r)) (fr.cut [t] fun r=>no ((t,.b false)::r))
   |false=>.ite x (fr.cut [t] fun r=>no ((t,.b true)::r)) (fr.cut [t] fun r=>yes ((t,.b false)::r))
  |.bC _=>no fr
  |_=>.fail
def cI (g:Option (Nat×Bool)) (fr:Fr):Option Bool:=
 match g with
 |none=>some true
 |some (t,want)=>match fr.get t with
  |.b x=>some (x==want)
  |.bC _=>some false
  |_=>none
def recheck {α:Type} (re:List Nat):List aO->Fr->St->T α->T α
 |[],_,_,k=>k
 |p::ps,fr,st,k=>match bZ p.ix re with
  |true=>match cI p.o.guard fr with
   |some true=>(step p.o.op fr st).bind fun x=>match p.o.dst with
    |some d=>.same (fr.get d) x.1 (recheck re ps fr st k)
    |none=>recheck re ps fr st k
   |some false=>recheck re ps fr st k
   |none=>.fail
  |false=>recheck re ps fr st k
def gD:List aO->List aO->Fr->St->T (Fr×St)
 |_,[],fr,st=>.ret (fr,st)
 |done,d::rest,fr,st=>rJ d.o.guard fr
  (fun fr=>(step d.o.op fr st).bind fun x=>match x with
    |(v,st)=>fr.after d.o.dst v [] fun fr=>recheck d.re done fr st (gD (d::done) rest fr st))
  (fun fr=>fr.after d.o.dst (.bC []) [] fun fr=>gD (d::done) rest fr st)
inductive AC where
 |skip
 |EF (ops:List cG)
 |BZ (ops:List aO) (kill:List Nat)
 |seq (a b:AC)
 |cond (c:bH) (a b:AC)
 |bI (id:Nat) (b:AC)
 |loop (b:AC)
 |exit (id:Nat)
 |ret
 |no
 deriving Inhabited
inductive RV where
 |t (n:Nat)
 |cell (n:Nat) (sz:Option Nat)
 deriving Inhabited
structure aF where
 nparams:Nat
 body:AC
 results:List RV
 deriving Inhabited
inductive Ex where
 |normal
 |exit (id:Nat)
 |ret
 deriving DecidableEq,Inhabited
def dN:Nat->List V->Fr
 |_,[]=>[]
 |n,v::r=>(n,v)::dN (n+1) r
def Ie (fr:Fr) (st:St):RV->Option V
 |.t n=>(fr.get n).pass
 |.cell n sz=>match fr.get n with
  |.p k off=>match st.get k with
   |some (.cs c)=>match dF c off sz with
    |some v=>v.pass
    |none=>none
   |_=>none
  |_=>none
def mP (fr:Fr) (st:St):List RV->Option (List V)
 |[]=>some []
 |r::rs=>match Ie fr st r,mP fr st rs with
  |some v,some vs=>some (v::vs)
  |_,_=>none
def xT (fr:Fr) (st:St) (rs:List RV):Option V:=
 match mP fr st rs with
 |some [v]=>some v
 |some vs=>some (.bC vs)
 |none=>none
mutual
def V.beq:V->V->Bool
 |.b x,.b y=>x==y
 |.i k n,.i k' n'=>decide (k=k')&&decide (n=n')
 |.s x,.s y=>x==y
 |.fM,.fM=>true
 |.p k o,.p k' o'=>decide (k=k')&&decide (o=o')
 |.pa k z j o,.pa k' z' j' o'=>decide (k=k')&&decide (z=z')&&decide (j=j')&&decide (o=o')
 |.aB,.aB=>true
 |.sl t z es,.sl t' z' sD=>decide (t=t')&&decide (z=z')&&V.Ko es sD
 |.ms k z u l,.ms k' z' u' l'=>decide (k=k')&&decide (z=z')&&decide (u=u')&&decide (l=l')
 |.eG,.eG=>true
 |.m k,.m k'=>decide (k=k')
 |.fN,.fN=>true
 |.agg cs,.agg ds=>V.Oy cs ds
 |.bC cs,.bC ds=>V.Oy cs ds
 |_,_=>false
def V.Oy:List V->List V->Bool
 |[],[]=>true
 |v::r,u::q=>V.beq v u&&V.Oy r q
 |_,_=>false
def V.Ko:List (List V)->List (List V)->Bool
 |[],[]=>true
 |v::r,u::q=>V.Oy v u&&V.Ko r q
 |_,_=>false
end
open Go
abbrev zZ:=Nat->Nat->Option Value
structure Loc where
 bI:Nat
 base:Nat
 fin:Nat
structure Env where
 I:zZ
 μ:Key->Loc
 ng:Nat
 nl:Nat
def Env.has (E:Env):Key->Prop
 |.g n=>n<E.ng
 |.l n=>n<E.nl
structure Env.Le (E F:Env):Prop where
 jR:∀ b o x,E.I b o=some x->F.I b o=some x
 ng:E.ng<=F.ng
 nl:E.nl<=F.nl
 loc:∀ k,E.has k->F.μ k=E.μ k
theorem Env.Le.refl (E:Env):E.Le E:=⟨fun _ _ _ h=>h,Nat.le_refl _,Nat.le_refl _,fun _ _=>rfl⟩
theorem Env.Le.has {E F:Env} (h:E.Le F) {k:Key} (hk:E.has k):F.has k:=by
 cases k with
 |g n=>exact Nat.lt_of_lt_of_le hk h.ng
 |l n=>exact Nat.lt_of_lt_of_le hk h.nl
theorem Env.Le.trans {E F G:Env} (h:E.Le F) (h':F.Le G):E.Le G:=
 ⟨fun b o x hx=>h'.jR b o x (h.jR b o x hx),Nat.le_trans h.ng h'.ng,Nat.le_trans h.nl h'.nl,
  fun k hk=>(h'.loc k (h.has hk)).trans (h.loc k hk)⟩
def str (l:List UInt8):ByteArray:=⟨l.toArray⟩
inductive eH (I:zZ):V->Value->Prop where
 |b (x:Bool):eH I (.b x) (.bool x)
 |i (k:IntKind) (n:Int):eH I (.i k n) (.int k n)
 |s (l:List UInt8):eH I (.s l) (.string (str l))
 |aB:eH I .aB (.slice none 0 0)
 |mM (sz:Nat):eH I (.sl none sz []) (.slice none 0 0)
 |Oz (sz:Nat) (a:Addr) (hs:a.spot≠none):eH I (.sl none sz []) (.slice (some a) 0 0)
 |sl (sz:Nat) (es:List (List V)) (bI off cap:Nat) (val:Nat->Value) (hc:es.length<=cap) (hl:∀ e∈es,e.length=sz)
   (hv:∀ j d,es.flatten[j]? =some d->I bI (off+j)=some (val j)) (hr:∀ j d,es.flatten[j]? =some d->eH I d (val j)):
   eH I (.sl none sz es) (.slice (some ⟨bI,off,none⟩) es.length cap)
def Env.cut (E:Env):Env:={ E with nl:=0 }
def Env.at (E:Env):Key->Env
 |.g _=>E.cut
 |.l _=>E
theorem Env.Uj (E:Env):E.cut.Le E:=⟨fun _ _ _ h=>h,Nat.le_refl _,Nat.zero_le _,fun _ _=>rfl⟩
theorem Env.CQ {E F:Env} (h:E.Le F):E.cut.Le F.cut:=
 ⟨h.jR,h.ng,Nat.le_refl _,fun k hk=>h.loc k (E.Uj.has hk)⟩
theorem Env.jS {E F:Env} (h:E.Le F) (k:Key):(E.at k).Le (F.at k):=by
 cases k with
 |g n=>exact Env.CQ h
 |l n=>exact h
theorem Env.Aa (E:Env) (k:Key):(E.at k).Le E:=by
 cases k with
 |g n=>exact E.Uj
 |l n=>exact .refl E
inductive Rel (E:Env):V->Value->Prop where
 |deep {v:V} {x:Value} (h:eH E.I v x):Rel E v x
 |fM:Rel E .fM (.pointer none)
 |p (k:Key) (off:Nat) (hk:E.has k):Rel E (.p k off) (.pointer (some ⟨(E.μ k).bI,(E.μ k).base+off,none⟩))
 |pa (k:Key) (sz ix off:Nat) (hk:E.has k):Rel E (.pa k sz ix off) (.pointer (some ⟨(E.μ k).bI,(E.μ k).base+ix*sz+off,none⟩))
 |pc (cs:List V) (off bI o:Nat) (val:Nat->Value) (hv:∀ j d,cs[j]? =some d->E.I bI (o+j)=some (val j))
   (hr:∀ j d,cs[j]? =some d->eH E.I d (val j)):Rel E (.pc cs off) (.pointer (some ⟨bI,o+off,none⟩))
 |FU (k:Key) (sz:Nat) (es:List (List V)) (a:Addr) (cap:Nat) (hk:E.has k) (hd:eH E.I (.sl none sz es) (.slice (some a) es.length cap))
   (hb:a.block=(E.μ k).bI/\a.spot=none) (hs:cap=es.length\/(a.off+es.length*sz=(E.μ k).base/\a.off+cap*sz=(E.μ k).fin)):
   Rel E (.sl (some k) sz es) (.slice (some a) es.length cap)
 |ms (k:Key) (sz st len:Nat) (a:Addr) (cap:Nat) (hk:E.has k) (hc:len<=cap) (hf:(E.μ k).base+(st+cap)*sz=(E.μ k).fin)
   (hb:a.block=(E.μ k).bI) (ha:cap=0\/a=⟨(E.μ k).bI,(E.μ k).base+st*sz,none⟩):Rel E (.ms k sz st len) (.slice (some a) len cap)
 |eG:Rel E .eG (.map none)
 |m (k:Key) (hk:E.has k):Rel E (.m k) (.map (some (E.μ k).bI))
 |fn (f:Nat) (a c:List V) (a' c':Array Value) (ha:a'.size=a.length) (hc:c'.size=c.length)
   (T3:∀ (j:Nat) (v:V) (x:Value),a[j]? =some v->a'[j]? =some x->Rel E v x)
   (hrc:∀ (j:Nat) (v:V) (x:Value),c[j]? =some v->c'[j]? =some x->Rel E v x):Rel E (.fn f a c) (.func (.func f) a' c')
 |fN:Rel E .fN .nilFunc
 |agg (cs:List V) (a:Array Value) (ha:a.size=cs.length) (h1:∀ (j:Nat) (x:Value),a[j]? =some x->x.oneCell'=true) (hr:∀ (j:Nat) (v:V) (x:Value),cs[j]? =some v->a[j]? =some x->Rel E v x):Rel E (.agg cs) (.agg a)
 |bC (cs:List V) (a:Array Value) (ha:a.size=cs.length) (hr:∀ (j:Nat) (v:V) (x:Value),cs[j]? =some v->a[j]? =some x->Rel E v x):Rel E (.bC cs) (.tuple a)
 |bL (x:Value):Rel E .bL x
theorem eH.mono {I J:zZ} (h:∀ b o x,I b o=some x->J b o=some x) {v:V} {x:Value} (hr:eH I v x):eH J v x:=by
 induction hr with
 |b x=>exact .b x
 |i k n=>exact .i k n
 |s l=>exact .s l
 |aB=>exact .aB
 |mM sz=>exact .mM sz
 |Oz sz a hs=>exact .Oz sz a hs
 |sl sz es bI off cap val hc hl hv _ ih=>exact .sl sz es bI off cap val hc hl (fun j d hj=>h _ _ _ (hv j d hj)) ih
theorem eH.Cx {I:zZ} (sz:Nat) (p:Option Addr):eH I (.sl none sz []) (.slice p 0 0):=by
 cases p with
 |none=>exact .mM sz
 |some a=>
  obtain ⟨bI,off,s⟩:=a
  cases s with
  |none=>exact .sl sz [] bI off 0 (fun _=>default) (Nat.le_refl _) (fun e he=>by cases he) (fun j d hj=>by simp at hj) (fun j d hj=>by simp at hj)
  |some x=>exact .Oz sz _ (by simp)
theorem Rel.mono {E F:Env} (h:E.Le F) {v:V} {x:Value} (hr:Rel E v x):Rel F v x:=by
 induction hr with
 |deep hd=>exact .deep (hd.mono h.jR)
 |fM=>exact .fM
 |p k off hk=>rw [<-h.loc k hk];exact .p k off (h.has hk)
 |pa k sz ix off hk=>rw [<-h.loc k hk];exact .pa k sz ix off (h.has hk)
 |pc cs off bI o val hv hr=>exact .pc cs off bI o val (fun j d hj=>h.jR _ _ _ (hv j d hj)) (fun j d hj=>(hr j d hj).mono h.jR)
 |FU k sz es a cap hk hd hb hs=>exact .FU k sz es a cap (h.has hk) (hd.mono h.jR) (by rw [h.loc k hk];exact hb) (by rw [h.loc k hk];exact hs)
 |ms k sz st len a cap hk hc hf hb ha=>exact .ms k sz st len a cap (h.has hk) hc (by rw [h.loc k hk];exact hf) (by rw [h.loc k hk];exact hb) (by rw [h.loc k hk];exact ha)
 |eG=>exact .eG
 |m k hk=>rw [<-h.loc k hk];exact .m k (h.has hk)
 |fn f a c a' c' ha hc _ _ iha ihc=>exact .fn f a c a' c' ha hc iha ihc
 |fN=>exact .fN
 |agg cs a ha h1 _ ih=>exact .agg cs a ha h1 ih
 |bC cs a ha _ ih=>exact .bC cs a ha ih
 |bL x=>exact .bL x
def dY (E:Env) (l:List V) (a:Array Value):Prop:=a.size=l.length/\∀ (j:Nat) (v:V) (x:Value),l[j]? =some v->a[j]? =some x->Rel E v x
theorem dY.get {E:Env} {l:List V} {a:Array Value} (h:dY E l a) {j:Nat} {v:V} (hj:l[j]? =some v):∃ x,a[j]? =some x/\Rel E v x:=by
 have dZ:j<l.length:=(List.getElem?_eq_some_iff.1 hj).1
 have:j<a.size:=by rw [h.1];exact dZ
 exact ⟨a[j],by simp [this],h.2 j v _ hj (by simp [this])⟩
def tB (z:Nat) (fz:Nat×Nat) (n:Nat):Prop:=fz.1=fz.2\/(n<=fz.1/\z=1)
theorem tB.one {z:Nat} {fz:Nat×Nat} {n:Nat} (h:tB z fz n):tB 1 fz n:=h.elim .inl fun h=>.inr ⟨h.1,rfl⟩
def fV (z:Nat) (E:Env) (w:World) (L:Loc) (cs:List V):Prop:=
 ∃ cells t fz,w.heap[L.bI]? =some (.cells cells t fz)/\tB z fz cells.size/\L.base+cs.length<=L.fin/\L.fin<=cells.size/\
  ∀ j v,cs[j]? =some v->∃ x,cells[L.base+j]? =some x/\Rel E v x/\x.oneCell'=true
def B0 (aY:Array MapEntry) (clock:Nat):Prop:=(∀ x∈aY.toList,x.born<clock)/\(aY.toList.map (·.born)).Nodup
def Holds (E:Env) (w:World) (L:Loc):Obj->Prop
 |.cs c=>L.base=0/\fV 1 E w L c
 |.arr sz es=>(∀ e∈es,e.length=sz)/\fV sz E w L es.flatten
 |.spare=>fV 1 E w L []
 |.mp kd es=>∃ aY clock,w.heap[L.bI]? =some (.map aY clock)/\aY.size=es.length/\
   (∀ (j:Nat) (q:V×V) (e:MapEntry),es[j]? =some q->aY[j]? =some e->eH E.I q.1 e.key/\q.1.dA kd=true/\Rel E q.2 e.val)/\B0 aY clock
def St.live (st:St) (k:Key):Prop:=∃ o,st.get k=some o
def bF (w:World) (b o:Nat):Option Value:=
 match w.heap[b]? with
 |some (.cells c _ _)=>c[o]?
 |_=>none
theorem o4 (w:World) (b o:Nat):w.cell? ⟨b,o,none⟩=bF w b o:=by
 simp only [World.cell?,bF]
 split<;>simp_all
structure bQ (E:Env) (st:St) (w:World):Prop where
 ng:st.g.next=E.ng
 nl:st.l.next=E.nl
 j8:∀ k,st.live k->E.has k
 jR:∀ b o x,E.I b o=some x->bF w b o=some x
 obj:∀ k o,st.get k=some o->Holds (E.at k) w (E.μ k) o
 sep:∀ k k',st.live k->st.live k'->k≠k'->(E.μ k).bI≠(E.μ k').bI
 own:∀ k,st.live k->∀ j,(E.μ k).base<=j->j<(E.μ k).fin->E.I (E.μ k).bI j=none
structure Ext (E:Env) (st:St) (w:World) (E':Env) (bA:St) (w':World):Prop where
 le:E.Le E'
 size:w.heap.size<=w'.heap.size
 fX:∀ b o x,E'.I b o=some x->E.I b o=some x\/w.heap.size<=b\/∃ k,st.live k/\(E.μ k).bI=b
 fT:∀ k,bA.live k->E.has k->st.live k
 gG:∀ k,bA.live k->¬E.has k->w.heap.size<=(E'.μ k).bI\/∃ k0,st.live k0/\(E.μ k0).bI=(E'.μ k).bI
 same:∀ b,b<w.heap.size->(∀ k,st.live k->(E.μ k).bI≠b)->w'.heap[b]? =w.heap[b]?
 os:w'.os=w.os
 out:w'.output=w.output
 tape:w'.tape=w.tape
theorem Ext.refl (E:Env) (st:St) (w:World):Ext E st w E st w:=
 ⟨.refl E,Nat.le_refl _,fun _ _ _ h=>.inl h,fun _ h _=>h,fun k h _=>.inr ⟨k,h,rfl⟩,fun _ _ _=>rfl,rfl,rfl,rfl⟩
theorem Ext.trans {E:Env} {st:St} {w:World} {E':Env} {bA:St} {w':World} {E'':Env} {am8:St} {w'':World}
 (h:Ext E st w E' bA w') (g:Ext E' bA w' E'' am8 w''):Ext E st w E'' am8 w'' where
 le:=h.le.trans g.le
 size:=Nat.le_trans h.size g.size
 fX b o x hx:=by
  rcases g.fX b o x hx with h1|h1|⟨k,hk,hb⟩
  · exact h.fX b o x h1
  · exact .inr (.inl (Nat.le_trans h.size h1))
  · by_cases he:E.has k
    · exact .inr (.inr ⟨k,h.fT k hk he,by rw [<-hb,h.le.loc k he]⟩)
    · rcases h.gG k hk he with h2|⟨k0,h2,h3⟩
      · exact .inr (.inl (hb▸h2))
      · exact .inr (.inr ⟨k0,h2,h3.trans hb⟩)
 fT k hk he:=h.fT k (g.fT k hk (h.le.has he)) he
 gG k hk he:=by
  by_cases Kp:E'.has k
  · have l5:=g.fT k hk Kp
    rw [g.le.loc k Kp]
    exact h.gG k l5 he
  · rcases g.gG k hk Kp with h1|⟨k0,h1,h2⟩
    · exact .inl (Nat.le_trans h.size h1)
    · rw [<-h2]
      by_cases he0:E.has k0
      · exact .inr ⟨k0,h.fT k0 h1 he0,by rw [h.le.loc k0 he0]⟩
      · exact h.gG k0 h1 he0
 same b hb hn:=by
  rw [<-h.same b hb hn]
  refine g.same b (Nat.lt_of_lt_of_le hb h.size) fun k hk=>?_
  by_cases he:E.has k
  · rw [h.le.loc k he];exact hn k (h.fT k hk he)
  · rcases h.gG k hk he with h2|⟨k0,h2,h3⟩
    · omega
    · rw [<-h3];exact hn k0 h2
 os:=g.os.trans h.os
 out:=g.out.trans h.out
 tape:=g.tape.trans h.tape
theorem Holds.of_heap {E:Env} {w w':World} (h:w'.heap=w.heap) {L:Loc} {o:Obj} (ho:Holds E w L o):Holds E w' L o:=by
 cases o<;>simp only [Holds,fV,h] at*<;>exact ho
theorem bQ.of_heap {E:Env} {st:St} {w w':World} (h:w'.heap=w.heap) (hs:bQ E st w):bQ E st w':=
 ⟨hs.ng,hs.nl,hs.j8,fun b o x hx=>by simpa [bF,h] using hs.jR b o x hx,fun k o hk=>(hs.obj k o hk).of_heap h,hs.sep,hs.own⟩
theorem Ext.drawn {E:Env} {st:St} {w:World} (n:Nat):Ext E st w E st { w with drawn:=n }:=
 ⟨.refl E,Nat.le_refl _,fun _ _ _ h=>.inl h,fun _ h _=>h,fun k h _=>.inr ⟨k,h,rfl⟩,fun _ _ _=>rfl,rfl,rfl,rfl⟩
theorem aC.Ab (l:List (Nat×Obj)) (n m:Nat) (x:Obj):aC.find (aC.zV l n x) m=if m=n then (aC.find l n).map fun _=>x else aC.find l m:=by
 induction l with
 |nil=>simp [aC.zV,aC.find]
 |cons q r ih=>
  obtain ⟨k,o⟩:=q
  by_cases hk:k=n
  · subst hk
    simp only [aC.zV,if_true,aC.find]
    by_cases hm:m=k
    · subst hm;simp
    · have:¬k=m:=fun e=>hm e.symm
      simp [hm,this]
  · simp only [aC.zV,if_neg hk,aC.find,ih]
    by_cases hm:m=n
    · subst hm;simp [hk]
    · simp [hm]
theorem aC.tM (l:List (Nat×Obj)) (n m:Nat):aC.find (aC.del l n) m=if m=n then none else aC.find l m:=by
 induction l with
 |nil=>simp [aC.del,aC.find]
 |cons q r ih=>
  obtain ⟨k,o⟩:=q
  by_cases hk:k=n
  · subst hk
    simp only [aC.del,if_true,aC.find,ih]
    by_cases hm:m=k
    · simp [hm]
    · have:¬k=m:=fun e=>hm e.symm
      simp [hm,this]
  · simp only [aC.del,if_neg hk,aC.find,ih]
    by_cases hm:m=n
    · subst hm;simp [hk]
    · simp [hm]
theorem aC.Ac (h:aC) (n m:Nat) (x:Obj):(h.set n x).get m=if m=n then (h.get n).map fun _=>x else h.get m:=aC.Ab _ _ _ _
theorem aC.gP (h:aC) (n m:Nat):(h.remove n).get m=if m=n then none else h.get m:=aC.tM _ _ _
theorem aC.jT (h:aC) (m:Nat) (x:Obj):(h.push x).get m=if m=h.next then some x else h.get m:=by
 simp only [aC.push,aC.get,aC.find]
 by_cases hm:m=h.next
 · simp [hm]
 · have:¬h.next=m:=fun e=>hm e.symm
   simp [hm,this]
theorem St.Ac (st:St) (k k':Key) (x:Obj):(st.set k x).get k'=if k'=k then (st.get k).map fun _=>x else st.get k':=by
 cases k<;>cases k'<;>simp [St.set,St.get,aC.Ac]
theorem St.gP (st:St) (k k':Key):(st.remove k).get k'=if k'=k then none else st.get k':=by
 cases k<;>cases k'<;>simp [St.remove,St.get,aC.gP]
theorem St.jT (st:St) (g:Bool) (k':Key) (x:Obj):(st.push g x).get k'=if k'=st.aK g then some x else st.get k':=by
 cases g<;>cases k'<;>simp [St.push,St.aK,St.get,aC.jT]
theorem St.iO (st:St) (k:Key) (g:Bool):(st.remove k).aK g=st.aK g:=by
 cases k<;>cases g<;>rfl
def Env.push (E:Env) (g:Bool) (L:Loc) (J:zZ):Env where
 I b o:=match E.I b o with
  |some x=>some x
  |none=>J b o
 μ k:=match g with
  |true=>if k=.g E.ng then L else E.μ k
  |false=>if k=.l E.nl then L else E.μ k
 ng:=match g with
  |true=>E.ng+1
  |false=>E.ng
 nl:=match g with
  |true=>E.nl
  |false=>E.nl+1
def Env.aK (E:Env):Bool->Key
 |true=>.g E.ng
 |false=>.l E.nl
theorem Env.jU (E:Env) (g:Bool):¬E.has (E.aK g):=by cases g<;>simp [Env.aK,Env.has]
theorem Env.qJ (E:Env) (g:Bool) (L:Loc) (J:zZ):E.Le (E.push g L J):=by
 refine ⟨fun b o x hx=>by simp [Env.push,hx],?_,?_,?_⟩
 · cases g<;>simp [Env.push]
 · cases g<;>simp [Env.push]
 · intro k hk
   cases g<;>simp only [Env.push]<;>rw [if_neg]<;>rintro rfl<;>simp [Env.has] at hk
theorem Env.e9 (E:Env) (g:Bool) (L:Loc) (J:zZ):(E.push g L J).μ (E.aK g)=L:=by cases g<;>simp [Env.push,Env.aK]
theorem Env.Uk (E:Env) (g:Bool) (L:Loc) (J:zZ) (k:Key):(E.push g L J).has k↔E.has k\/k=E.aK g:=by
 cases g<;>cases k<;>simp [Env.push,Env.aK,Env.has]<;>omega
theorem Env.eI (E:Env) (g:Bool) (L:Loc) (J:zZ):(E.push g L J).has (E.aK g):=(E.Uk g L J _).2 (.inr rfl)
theorem bQ.aK {E:Env} {st:St} {w:World} (h:bQ E st w) (g:Bool):st.aK g=E.aK g:=by
 cases g<;>simp [St.aK,Env.aK,h.ng,h.nl]
theorem fV.rK {z:Nat} {E F:Env} (hle:E.Le F) {w w':World} {L:Loc} {cs:List V} (hb:w'.heap[L.bI]? =w.heap[L.bI]?) (h:fV z E w L cs):fV z F w' L cs:=by
 obtain ⟨cells,t,fz,h1,h2,h3,h4,h5⟩:=h
 exact ⟨cells,t,fz,by rw [hb,h1],h2,h3,h4,fun j v hj=>let ⟨x,hx,hr,h1⟩:=h5 j v hj;⟨x,hx,hr.mono hle,h1⟩⟩
theorem Holds.rK {E F:Env} (hle:E.Le F) {w w':World} {L:Loc} {o:Obj} (hb:w'.heap[L.bI]? =w.heap[L.bI]?) (h:Holds E w L o):Holds F w' L o:=by
 cases o with
 |cs c=>exact ⟨h.1,fV.rK hle hb h.2⟩
 |arr sz es=>exact ⟨h.1,fV.rK hle hb h.2⟩
 |spare=>exact fV.rK hle hb h
 |mp kd es=>
  obtain ⟨aY,clock,h1,h2,h3,h4⟩:=h
  exact ⟨aY,clock,by rw [hb,h1],h2,fun j q e hq he=>let ⟨a,b,c⟩:=h3 j q e hq he;⟨a.mono hle.jR,b,c.mono hle⟩,h4⟩
theorem Holds.size {E:Env} {w:World} {L:Loc} {o:Obj} (h:Holds E w L o):L.bI<w.heap.size:=by
 have:∃ x,w.heap[L.bI]? =some x:=by
  cases o with
  |cs c=>obtain ⟨_,cells,t,fz,h1,_⟩:=h;exact ⟨_,h1⟩
  |arr sz es=>obtain ⟨_,cells,t,fz,h1,_⟩:=h;exact ⟨_,h1⟩
  |spare=>obtain ⟨cells,t,fz,h1,_⟩:=h;exact ⟨_,h1⟩
  |mp kd es=>obtain ⟨aY,clock,h1,_⟩:=h;exact ⟨_,h1⟩
 obtain ⟨x,hx⟩:=this
 exact (Array.getElem?_eq_some_iff.1 hx).1
theorem bQ.lt {E:Env} {st:St} {w:World} (h:bQ E st w) {k:Key} (hk:st.live k):(E.μ k).bI<w.heap.size:=
 let ⟨o,ho⟩:=hk;(h.obj k o ho).size
theorem bQ.fresh {E:Env} {st:St} {w w':World} (h:bQ E st w) (gone:Option Key) (g:Bool) (base fin:Nat) (J:Nat->Option Value) (o:Obj) (ob:Go.Obj)
 (hh:w'.heap=w.heap.push ob) (hos:w'.os=w.os) (Ul:w'.output=w.output) (Kq:w'.tape=w.tape)
 (hJ:∀ j x,J j=some x->(∃ c t fz,ob=.cells c t fz/\c[j]? =some x)/\¬(base<=j/\j<fin))
 (ho:Holds ((E.push g ⟨w.heap.size,base,fin⟩ fun b j=>if b=w.heap.size then J j else none).at (E.aK g)) w' ⟨w.heap.size,base,fin⟩ o):
 let bA:=(match gone with|some k=>st.remove k|none=>st).push g o
 let E':=E.push g ⟨w.heap.size,base,fin⟩ fun b j=>if b=w.heap.size then J j else none
 bQ E' bA w'/\Ext E st w E' bA w':=by
 intro bA E'
 have hle:E.Le E':=Env.qJ _ _ _ _
 have Um:st.aK g=E.aK g:=h.aK g
 have fY:∀ k,bA.get k=if k=E.aK g then some o else (match gone with|some k0=>if k=k0 then none else st.get k|none=>st.get k):=by
  intro k
  simp only [bA]
  cases gone with
  |none=>rw [St.jT,Um]
  |some k0=>rw [St.jT,St.iO,Um,St.gP]
 have iD:∀ k,bA.live k->k≠E.aK g->st.live k:=by
  rintro k ⟨x,hx⟩ dX
  rw [fY,if_neg dX] at hx
  cases gone with
  |none=>exact ⟨x,hx⟩
  |some k0=>
   simp only at hx
   split at hx
   · cases hx
   · exact ⟨x,hx⟩
 have hold:∀ b,b<w.heap.size->w'.heap[b]? =w.heap[b]? :=by
  intro b hb
  rw [hh,Array.getElem?_push,if_neg (by omega)]
 have awV:w'.heap[w.heap.size]? =some ob:=by rw [hh];simp
 have jN:w'.heap.size=w.heap.size+1:=by rw [hh];simp
 have aeC:∀ b j x,E.I b j=some x->b<w.heap.size:=by
  intro b j x hx
  have:=h.jR b j x hx
  simp only [bF] at this
  rcases Nat.lt_or_ge b w.heap.size with hl|hl
  · exact hl
  · simp [Array.getElem?_eq_none hl] at this
 have BC:bA.g.next=E'.ng/\bA.l.next=E'.nl:=by
  have h1:=h.ng
  have h2:=h.nl
  simp only [bA,E']
  cases gone with
  |none=>cases g<;>simp [St.push,aC.push,Env.push,h1,h2]
  |some k=>cases k<;>cases g<;>simp [St.push,aC.push,St.remove,aC.remove,Env.push,h1,h2]
 have awW:∀ k,bA.live k->E'.has k:=by
  intro k hk
  by_cases dX:k=E.aK g
  · subst dX;exact Env.eI _ _ _ _
  · exact hle.has (h.j8 k (iD k hk dX))
 have Of:E'.μ (E.aK g)=⟨w.heap.size,base,fin⟩:=Env.e9 _ _ _ _
 refine ⟨⟨BC.1,BC.2,awW,?_,?_,?_,?_⟩,⟨hle,by omega,?_,?_,?_,fun b hb _=>hold b hb,hos,Ul,Kq⟩⟩
 · intro b j x hx
   simp only [E',Env.push] at hx
   cases hI:E.I b j with
   |some y=>
    rw [hI] at hx
    have hb:=aeC b j y hI
    have:=h.jR b j y hI
    simp only [bF,hold b hb] at*
    simp only [Option.some.injEq] at hx
    rw [this,hx]
   |none=>
    rw [hI] at hx
    simp only at hx
    split at hx
    · rename_i hb
      subst hb
      obtain ⟨⟨c,t,fz,rfl,hc⟩,_⟩:=hJ j x hx
      simp only [bF,awV,hc]
    · cases hx
 · intro k x hk
   by_cases dX:k=E.aK g
   · subst dX
     rw [fY,if_pos rfl] at hk
     simp only [Option.some.injEq] at hk
     subst hk
     rw [Of];exact ho
   · have hl:=iD k ⟨x,hk⟩ dX
     rw [fY,if_neg dX] at hk
     have l5:st.get k=some x:=by
      cases gone with
      |none=>exact hk
      |some k0=>
       simp only at hk
       split at hk
       · cases hk
       · exact hk
     rw [hle.loc k (h.j8 k hl)]
     exact (h.obj k x l5).rK (Env.jS hle k) (hold _ (h.lt hl))
 · intro k k' hk l5 dX
   by_cases h1:k=E.aK g
   · subst h1
     have h2:k'≠E.aK g:=fun e=>dX e.symm
     have hl:=iD k' l5 h2
     rw [Of,hle.loc k' (h.j8 k' hl)]
     have:=h.lt hl
     simp only [ne_eq];omega
   · have hl:=iD k hk h1
     by_cases h2:k'=E.aK g
     · subst h2
       rw [Of,hle.loc k (h.j8 k hl)]
       have:=h.lt hl
       simp only [ne_eq];omega
     · have yF:=iD k' l5 h2
       rw [hle.loc k (h.j8 k hl),hle.loc k' (h.j8 k' yF)]
       exact h.sep k k' hl yF dX
 · intro k hk j hj1 hj2
   by_cases h1:k=E.aK g
   · subst h1
     rw [Of] at*
     simp only at hj1 hj2 ⊢
     simp only [E',Env.push]
     cases hI:E.I w.heap.size j with
     |some y=>exact absurd (aeC _ _ _ hI) (by omega)
     |none=>
      simp only [if_true]
      cases hJ':J j with
      |none=>rfl
      |some y=>exact absurd ⟨hj1,hj2⟩ (hJ j y hJ').2
   · have hl:=iD k hk h1
     rw [hle.loc k (h.j8 k hl)] at*
     have dZ:=h.lt hl
     simp only [E',Env.push,h.own k hl j hj1 hj2]
     rw [if_neg (by omega)]
 · intro b j x hx
   simp only [E',Env.push] at hx
   cases hI:E.I b j with
   |some y=>rw [hI] at hx;exact .inl hx
   |none=>
    rw [hI] at hx
    simp only at hx
    split at hx
    · rename_i hb;exact .inr (.inl (by omega))
    · cases hx
 · intro k hk he
   exact iD k hk (fun e=>E.jU g (e▸he))
 · intro k hk he
   by_cases h1:k=E.aK g
   · subst h1;rw [Of];exact .inl (Nat.le_refl _)
   · exact absurd (h.j8 k (iD k hk h1)) he
theorem bQ.set {E:Env} {st:St} {w w':World} (h:bQ E st w) {k:Key} {o0:Obj} (hk:st.get k=some o0) (o:Obj)
 (jN:w'.heap.size=w.heap.size) (B1:∀ b,b≠(E.μ k).bI->w'.heap[b]? =w.heap[b]?) (hos:w'.os=w.os) (Ul:w'.output=w.output) (Kq:w'.tape=w.tape)
 (OA:∀ j x,E.I (E.μ k).bI j=some x->bF w' (E.μ k).bI j=some x) (ho:Holds (E.at k) w' (E.μ k) o):
 bQ E (st.set k o) w'/\Ext E st w E (st.set k o) w':=by
 have fY:∀ k',(st.set k o).get k'=if k'=k then some o else st.get k':=by
  intro k';rw [St.Ac,hk];rfl
 have iD:∀ k',(st.set k o).live k'↔st.live k':=by
  intro k'
  simp only [St.live,fY]
  by_cases e:k'=k
  · subst e;simp [hk]
  · simp [e]
 have BC:(st.set k o).g.next=st.g.next/\(st.set k o).l.next=st.l.next:=by cases k<;>simp [St.set,aC.set]
 have Uo:st.live k:=⟨o0,hk⟩
 refine ⟨⟨BC.1.trans h.ng,BC.2.trans h.nl,fun k' l5=>h.j8 k' ((iD k').1 l5),?_,?_,?_,?_⟩,
  ⟨.refl E,by omega,fun _ _ _ hx=>.inl hx,fun k' l5 _=>(iD k').1 l5,fun k' l5 _=>.inr ⟨k',(iD k').1 l5,rfl⟩,?_,hos,Ul,Kq⟩⟩
 · intro b j x hx
   by_cases e:b=(E.μ k).bI
   · subst e;exact OA j x hx
   · have:=h.jR b j x hx
     simp only [bF,B1 b e] at*
     exact this
 · intro k' x hx
   rw [fY] at hx
   by_cases e:k'=k
   · subst e;rw [if_pos rfl] at hx;simp only [Option.some.injEq] at hx;subst hx;exact ho
   · rw [if_neg e] at hx
     exact (h.obj k' x hx).rK (.refl _) (B1 _ (h.sep k' k ⟨x,hx⟩ Uo e))
 · intro a b ha hb dX
   exact h.sep a b ((iD a).1 ha) ((iD b).1 hb) dX
 · intro a ha j h1 h2
   exact h.own a ((iD a).1 ha) j h1 h2
 · intro b _ hn
   exact B1 b (fun e=>hn k Uo e.symm)
theorem bQ.move {E:Env} {st:St} {w w':World} (h:bQ E st w) {k:Key} {o0:Obj} (hk:st.get k=some o0) (g:Bool) (L:Loc) (J:Nat->Option Value) (o:Obj)
 (hL:L.bI=(E.μ k).bI) (T4:(E.μ k).base<=L.base) (hb2:L.fin<=(E.μ k).fin)
 (jN:w'.heap.size=w.heap.size) (B1:∀ b,b≠(E.μ k).bI->w'.heap[b]? =w.heap[b]?) (hos:w'.os=w.os) (Ul:w'.output=w.output) (Kq:w'.tape=w.tape)
 (OA:∀ j x,E.I (E.μ k).bI j=some x->bF w' (E.μ k).bI j=some x)
 (hJ:∀ j x,J j=some x->bF w' (E.μ k).bI j=some x/\¬(L.base<=j/\j<L.fin))
 (ho:Holds ((E.push g L fun b j=>if b=(E.μ k).bI then J j else none).at (E.aK g)) w' L o):
 let bA:=(st.remove k).push g o
 let E':=E.push g L fun b j=>if b=(E.μ k).bI then J j else none
 bQ E' bA w'/\Ext E st w E' bA w':=by
 intro bA E'
 have hle:E.Le E':=Env.qJ _ _ _ _
 have Um:st.aK g=E.aK g:=h.aK g
 have Uo:st.live k:=⟨o0,hk⟩
 have fY:∀ k',bA.get k'=if k'=E.aK g then some o else if k'=k then none else st.get k':=by
  intro k'
  simp only [bA]
  rw [St.jT,St.iO,Um,St.gP]
 have iD:∀ k',bA.live k'->k'≠E.aK g->st.live k'/\k'≠k:=by
  rintro k' ⟨x,hx⟩ dX
  rw [fY,if_neg dX] at hx
  split at hx
  · cases hx
  · rename_i awY;exact ⟨⟨x,hx⟩,awY⟩
 have BC:bA.g.next=E'.ng/\bA.l.next=E'.nl:=by
  have h1:=h.ng
  have h2:=h.nl
  simp only [bA,E']
  cases k<;>cases g<;>simp [St.push,aC.push,St.remove,aC.remove,Env.push,h1,h2]
 have Of:E'.μ (E.aK g)=L:=Env.e9 _ _ _ _
 refine ⟨⟨BC.1,BC.2,?_,?_,?_,?_,?_⟩,⟨hle,by omega,?_,?_,?_,?_,hos,Ul,Kq⟩⟩
 · intro k' l5
   by_cases dX:k'=E.aK g
   · subst dX;exact Env.eI _ _ _ _
   · exact hle.has (h.j8 k' (iD k' l5 dX).1)
 · intro b j x hx
   simp only [E',Env.push] at hx
   cases hI:E.I b j with
   |some y=>
    rw [hI] at hx
    simp only [Option.some.injEq] at hx
    subst hx
    by_cases e:b=(E.μ k).bI
    · subst e;exact OA j y hI
    · have:=h.jR b j y hI
      simp only [bF,B1 b e] at*
      exact this
   |none=>
    rw [hI] at hx
    simp only at hx
    split at hx
    · rename_i hb;subst hb;exact (hJ j x hx).1
    · cases hx
 · intro k' x hx
   rw [fY] at hx
   by_cases e:k'=E.aK g
   · subst e;rw [if_pos rfl] at hx;simp only [Option.some.injEq] at hx;subst hx;rw [Of];exact ho
   · rw [if_neg e] at hx
     split at hx
     · cases hx
     · rename_i dX
       rw [hle.loc k' (h.j8 k' ⟨x,hx⟩)]
       exact (h.obj k' x hx).rK (Env.jS hle k') (B1 _ (h.sep k' k ⟨x,hx⟩ Uo dX))
 · intro a b ha hb dX
   by_cases e1:a=E.aK g
   · subst e1
     have e2:b≠E.aK g:=fun e=>dX e.symm
     have hl:=iD b hb e2
     rw [Of,hle.loc b (h.j8 b hl.1),hL]
     exact h.sep k b Uo hl.1 (fun e=>hl.2 e.symm)
   · have hl:=iD a ha e1
     by_cases e2:b=E.aK g
     · subst e2
       rw [Of,hle.loc a (h.j8 a hl.1),hL]
       exact h.sep a k hl.1 Uo hl.2
     · have yF:=iD b hb e2
       rw [hle.loc a (h.j8 a hl.1),hle.loc b (h.j8 b yF.1)]
       exact h.sep a b hl.1 yF.1 dX
 · intro a ha j h1 h2
   by_cases e1:a=E.aK g
   · subst e1
     rw [Of] at*
     simp only [E',Env.push,hL]
     rw [h.own k Uo j (by omega) (by omega)]
     simp only [if_true]
     cases hJ':J j with
     |none=>rfl
     |some y=>exact absurd ⟨h1,h2⟩ (hJ j y hJ').2
   · have hl:=iD a ha e1
     rw [hle.loc a (h.j8 a hl.1)] at*
     simp only [E',Env.push,h.own a hl.1 j h1 h2]
     rw [if_neg (h.sep a k hl.1 Uo hl.2)]
 · intro b j x hx
   simp only [E',Env.push] at hx
   cases hI:E.I b j with
   |some y=>rw [hI] at hx;exact .inl hx
   |none=>
    rw [hI] at hx
    simp only at hx
    split at hx
    · rename_i hb;exact .inr (.inr ⟨k,Uo,hb.symm⟩)
    · cases hx
 · intro k' l5 he
   exact (iD k' l5 (fun e=>E.jU g (e▸he))).1
 · intro k' l5 he
   by_cases e:k'=E.aK g
   · subst e;rw [Of,hL];exact .inr ⟨k,Uo,rfl⟩
   · exact absurd (h.j8 k' (iD k' l5 e).1) he
 · intro b _ hn
   exact B1 b (fun e=>hn k Uo e.symm)
open Go
def wIf (c:Bool) (X Y:Prop):Prop:=(c=true->X)/\(c=false->Y)
def wEx {β:Type} (o:Option β) (k:β->Prop):Prop:=∃ x,o=some x/\k x
def aiK {β:Type} (o:Option β) (n:Prop) (k:β->Prop):Prop:=(o=none->n)/\(∀ x,o=some x->k x)
def awZ (c:Bool) (k:Prop):Prop:=c=true/\k
def Up (kd:IntKind) (n:Int) (k:Int->Prop):Prop:=k (kd.wrap n)\/(kd.min<=n/\n<=kd.max/\k n)
theorem BD {c:Bool} {X Y:Prop} (h:c=true) (x:X):wIf c X Y:=⟨fun _=>x,fun h'=>(by rw [h] at h';cases h')⟩
theorem Ad {c:Bool} {X Y:Prop} (h:c=false) (y:Y):wIf c X Y:=⟨fun h'=>(by rw [h] at h';cases h'),fun _=>y⟩
theorem CR {β:Type} {o:Option β} {n:Prop} {k:β->Prop} (h:o=none) (hn:n):aiK o n k:=⟨fun _=>hn,fun x hx=>by rw [h] at hx;cases hx⟩
theorem OB {β:Type} {o:Option β} {n:Prop} {k:β->Prop} {x:β} (h:o=some x) (hk:k x):aiK o n k:=
 ⟨fun hn=>(by rw [h] at hn;cases hn),fun y hy=>by rw [h] at hy;cases hy;exact hk⟩
theorem sF {kd:IntKind} {n:Int} {k:Int->Prop} (hk:k (kd.wrap n)):Up kd n k:=.inl hk
theorem lD {kd:IntKind} {n:Int} (h:kd.min<=n) (h':n<=kd.max):kd.wrap n=n:=by
 cases kd<;>simp [IntKind.wrap,IntKind.min,IntKind.max,IntKind.bits,IntKind.signed] at*<;>(try split)<;>omega
theorem oS {kd:IntKind} {n:Int} {k:Int->Prop}:Up kd n k↔k (kd.wrap n):=by
 constructor
 · rintro (h|⟨h1,h2,h3⟩)
   · exact h
   · rwa [lD h1 h2]
 · exact .inl
abbrev bK:=Nat->List V->aC->(V->aC->Prop)->Prop
def T.wp {α:Type} (A:bK):T α->(α->Prop)->Prop
 |.ret a,K=>K a
 |.ite c t e,K=>wIf c (t.wp A K) (e.wp A K)
 |.elem o k,K=>wEx o fun x=>(k x).wp A K
 |.byte o k,K=>wEx o fun x=>(k x).wp A K
 |.gL o k,K=>wEx o fun x=>(k x).wp A K
 |.Kk o k,K=>wEx o fun x=>(k x).wp A K
 |.obj o k,K=>wEx o fun x=>(k x).wp A K
 |.oV o n k,K=>aiK o (n.wp A K) fun x=>(k x).wp A K
 |.mL c k,K=>awZ c (k.wp A K)
 |.wrap kd n k,K=>Up kd n fun x=>(k x).wp A K
 |.any k,K=>∀ r,(k r).wp A K
 |.same v u k,K=>v=u/\k.wp A K
 |.call f aEo h k,K=>A f aEo h fun r h'=>(k r h').wp A K
 |.fail,_=>False
def bK.AZ (A:bK):Prop:=∀ f aEo h (K K':V->aC->Prop),(∀ r h',K r h'->K' r h')->A f aEo h K->A f aEo h K'
theorem T.wp_mono {α:Type} {A:bK} (hA:A.AZ) {t:T α}:∀ {K K':α->Prop},(∀ a,K a->K' a)->t.wp A K->t.wp A K':=by
 induction t with
 |ret a=>exact fun h hk=>h _ hk
 |ite c t e Uq Ur=>exact fun h hk=>⟨fun hc=>Uq h (hk.1 hc),fun hc=>Ur h (hk.2 hc)⟩
 |elem o k ih=>exact fun h ⟨x,hx,hk⟩=>⟨x,hx,ih x h hk⟩
 |byte o k ih=>exact fun h ⟨x,hx,hk⟩=>⟨x,hx,ih x h hk⟩
 |gL o k ih=>exact fun h ⟨x,hx,hk⟩=>⟨x,hx,ih x h hk⟩
 |Kk o k ih=>exact fun h ⟨x,hx,hk⟩=>⟨x,hx,ih x h hk⟩
 |obj o k ih=>exact fun h ⟨x,hx,hk⟩=>⟨x,hx,ih x h hk⟩
 |oV o n k Kr ih=>exact fun h hk=>⟨fun hn=>Kr h (hk.1 hn),fun x hx=>ih x h (hk.2 x hx)⟩
 |mL c k ih=>exact fun h hk=>⟨hk.1,ih h hk.2⟩
 |wrap kd n k ih=>exact fun h hk=>hk.imp (ih _ h) fun ⟨a,b,c⟩=>⟨a,b,ih _ h c⟩
 |any k ih=>exact fun h hk r=>ih r h (hk r)
 |same v u k ih=>exact fun h hk=>⟨hk.1,ih h hk.2⟩
 |call f aEo hh k ih=>exact fun h hk=>hA _ _ _ _ _ (fun r h' hr=>ih r h' h hr) hk
 |fail=>exact fun _ hk=>hk
theorem T.wp_bind {α β:Type} {A:bK} (t:T α) (f:α->T β) (K:β->Prop):(t.bind f).wp A K=t.wp A fun a=>(f a).wp A K:=by
 induction t with
 |ret a=>rfl
 |ite c t e Uq Ur=>simp only [T.bind,T.wp,Uq,Ur]
 |elem o k ih=>simp only [T.bind,T.wp,ih]
 |byte o k ih=>simp only [T.bind,T.wp,ih]
 |gL o k ih=>simp only [T.bind,T.wp,ih]
 |Kk o k ih=>simp only [T.bind,T.wp,ih]
 |obj o k ih=>simp only [T.bind,T.wp,ih]
 |oV o n k Kr ih=>simp only [T.bind,T.wp,Kr,ih]
 |mL c k ih=>simp only [T.bind,T.wp,ih]
 |wrap kd n k ih=>simp only [T.bind,T.wp,ih]
 |any k ih=>simp only [T.bind,T.wp,ih]
 |same v u k ih=>simp only [T.bind,T.wp,ih]
 |call g aEo h k ih=>simp only [T.bind,T.wp,ih]
 |fail=>rfl
def noL:aC:=⟨0,[]⟩
abbrev gH (h:aC):St:=⟨h,noL⟩
def lF (P:Program) (f:Nat):Bool:=
 match P.funcs[f]? with
 | some fn => fn.body.isSome && !(fn.name == "runtime.NumGoroutine")
 |none=>false
def aE (P:Program):bK:=fun f args h K=>lF P f=true/\
 ∀ (E:Env) (w:World) (vs:Array Value),E.nl=0->bQ E (gH h) w->dY E args vs->
  Calls P f vs w fun e w'=>∃ v x h' E',K v h'/\e=.returned x/\E'.nl=0/\bQ E' (gH h') w'/\Ext E (gH h) w E' (gH h') w'/\Rel E' v x
theorem aE.mono (P:Program):(aE P).AZ:=fun _ _ _ _ _ hK hA=>⟨hA.1,fun E w vs hn hs hv=>
 (hA.2 E w vs hn hs hv).mono fun _ _ ⟨v,x,h',E',h1,h2,h3,h4,h5,h6⟩=>⟨v,x,h',E',hK _ _ h1,h2,h3,h4,h5,h6⟩⟩
theorem aeD (n:Nat):noL.get n=none:=rfl
theorem lT {h:aC} {k:Key} (hk:(gH h).live k):∃ n,k=.g n/\∃ o,h.get n=some o:=by
 obtain ⟨o,ho⟩:=hk
 cases k with
 |g n=>exact ⟨n,rfl,o,ho⟩
 |l n=>simp [St.get,aeD] at ho
theorem PO {E:Env} {v v':V} {x:Value} (h:v.out=some v') (hr:Rel E v x):Rel E.cut v' x:=by
 unfold V.out at h
 split at h<;>simp only [Option.some.injEq,reduceCtorEq] at h<;>subst h
 all_goals (cases hr)
 all_goals (first
  |exact .deep ‹_›
  |exact .fM
  |exact .eG
  |exact .fN
  |exact .p (E:=E.cut) (.g _) _ ‹_›
  |exact .pa (E:=E.cut) (.g _) _ _ _ ‹_›
  |exact .m (E:=E.cut) (.g _) ‹_›
  |exact .FU (E:=E.cut) (.g _) _ _ _ _ ‹_› ‹_› ‹_› ‹_›
  |exact .ms (E:=E.cut) (.g _) _ _ _ _ _ ‹_› ‹_› ‹_› ‹_› ‹_›
  |(exact .deep (by assumption))
  |skip)
 all_goals (rename_i hd;cases hd)
theorem CS {E:Env}:∀ {l l':List V} {a:Array Value},V.outs l=some l'->dY E l a->dY E.cut l' a:=by
 intro l
 induction l with
 |nil=>
  intro l' a h hr
  simp only [V.outs,Option.some.injEq] at h
  subst h
  exact ⟨hr.1,fun j v x hj=>by simp at hj⟩
 |cons v r ih=>
  intro l' a h hr
  simp only [V.outs] at h
  split at h
  · rename_i v' r' hv Us
    simp only [Option.some.injEq] at h
    subst h
    have jN:a.size=r.length+1:=hr.1
    have T5:dY E r (a.extract 1 a.size):=⟨by simp [jN],fun j u x hj hx=>hr.2 (j+1) u x (by simpa using hj) (by
     rw [Array.getElem?_extract] at hx
     split at hx
     · rw [Nat.add_comm];exact hx
     · cases hx)⟩
    have ht:=ih Us T5
    have hl:r'.length=r.length:=by have h1:=ht.1;have h2:=T5.1;omega
    refine ⟨by simp [jN,hl],fun j u x hj hx=>?_⟩
    cases j with
    |zero=>
     simp only [List.getElem?_cons_zero,Option.some.injEq] at hj
     subst hj
     exact PO hv (hr.2 0 v x (by simp) hx)
    |succ j=>
     refine ht.2 j u x (by simpa using hj) ?_
     have dZ:j+1<a.size:=(Array.getElem?_eq_some_iff.1 hx).1
     rw [Array.getElem?_extract,if_pos (by omega),Nat.add_comm]
     exact hx
  · cases h
theorem dY.append {E:Env} {l r:List V} {a b:Array Value} (h:dY E l a) (g:dY E r b):dY E (l++r) (a++b):=by
 refine ⟨by simp [h.1,g.1],fun j v x hj hx=>?_⟩
 rw [Array.getElem?_append] at hx
 rw [List.getElem?_append] at hj
 rw [h.1] at hx
 split at hj
 · rename_i dZ
   rw [if_pos dZ] at hx
   exact h.2 j v x hj hx
 · rename_i dZ
   rw [if_neg dZ] at hx
   exact g.2 _ v x hj hx
theorem Ae {E:Env} {v v':V} {x:Value} (h:v.pass=some v') (hr:Rel E v x):Rel E.cut v' x:=by
 unfold V.pass at h
 split at h
 · split at h
   · rename_i cs _ y hy
     simp only [Option.some.injEq] at h
     subst h
     cases hr with
     |deep hd=>cases hd
     |agg _ a ha h1 T3=>
      have:=CS hy ⟨ha,T3⟩
      exact .agg _ _ this.1 h1 this.2
   · cases h
 · split at h
   · rename_i f a c _ _ y z hy hz
     simp only [Option.some.injEq] at h
     subst h
     cases hr with
     |deep hd=>cases hd
     |fn _ _ _ a' c' ha hc T3 hrc=>
      have h1:=CS hy ⟨ha,T3⟩
      have h2:=CS hz ⟨hc,hrc⟩
      exact .fn _ _ _ _ _ h1.1 h2.1 h1.2 h2.2
   · cases h
 · exact PO h hr
theorem CT {E:Env}:∀ {l l':List V} {a:Array Value},eM l=some l'->dY E l a->dY E.cut l' a:=by
 intro l
 induction l with
 |nil=>
  intro l' a h hr
  simp only [eM,Option.some.injEq] at h
  subst h
  exact ⟨hr.1,fun j v x hj=>by simp at hj⟩
 |cons v r ih=>
  intro l' a h hr
  simp only [eM] at h
  split at h
  · rename_i v' r' hv Us
    simp only [Option.some.injEq] at h
    subst h
    have jN:a.size=r.length+1:=hr.1
    have T5:dY E r (a.extract 1 a.size):=⟨by simp [jN],fun j u x hj hx=>hr.2 (j+1) u x (by simpa using hj) (by
     rw [Array.getElem?_extract] at hx
     split at hx
     · rw [Nat.add_comm];exact hx
     · cases hx)⟩
    have ht:=ih Us T5
    have hl:r'.length=r.length:=by have h1:=ht.1;have h2:=T5.1;omega
    refine ⟨by simp [jN,hl],fun j u x hj hx=>?_⟩
    cases j with
    |zero=>
     simp only [List.getElem?_cons_zero,Option.some.injEq] at hj
     subst hj
     exact Ae hv (hr.2 0 v x (by simp) hx)
    |succ j=>
     refine ht.2 j u x (by simpa using hj) ?_
     have dZ:j+1<a.size:=(Array.getElem?_eq_some_iff.1 hx).1
     rw [Array.getElem?_extract,if_pos (by omega),Nat.add_comm]
     exact hx
  · cases h
theorem bQ.cut {E:Env} {st:St} {w:World} (h:bQ E st w):bQ E.cut (gH st.g) w:=by
 have hl:∀ k,(gH st.g).live k->st.live k:=by
  intro k hk
  obtain ⟨n,rfl,o,ho⟩:=lT hk
  exact ⟨o,ho⟩
 refine ⟨h.ng,rfl,?_,h.jR,?_,fun k k' hk l5 dX=>h.sep k k' (hl k hk) (hl k' l5) dX,fun k hk=>h.own k (hl k hk)⟩
 · intro k hk
   obtain ⟨n,rfl,o,ho⟩:=lT hk
   exact h.j8 (.g n) ⟨o,ho⟩
 · intro k o hk
   obtain ⟨n,rfl,o',ho'⟩:=lT ⟨o,hk⟩
   exact h.obj (.g n) o hk
def Env.join (E E':Env):Env where
 I:=E'.I
 μ k:=match k with
  |.g _=>E'.μ k
  |.l _=>E.μ k
 ng:=E'.ng
 nl:=E.nl
theorem bQ.back {E E':Env} {st:St} {h':aC} {w w':World} (h:bQ E st w) (hn:E'.nl=0) (hs:bQ E' (gH h') w')
 (he:Ext E.cut (gH st.g) w E' (gH h') w'):bQ (E.join E') ⟨h',st.l⟩ w'/\Ext E st w (E.join E') ⟨h',st.l⟩ w'/\E'.Le (E.join E'):=by
 have hle:E.Le (E.join E'):=by
  refine ⟨fun b o x hx=>he.le.jR b o x hx,he.le.ng,Nat.le_refl _,?_⟩
  intro k hk
  cases k with
  |g n=>exact he.le.loc (.g n) hk
  |l n=>rfl
 have aiL:E'.Le (E.join E'):=by
  refine ⟨fun b o x hx=>hx,Nat.le_refl _,by rw [hn];exact Nat.zero_le _,?_⟩
  intro k hk
  cases k with
  |g n=>rfl
  |l n=>simp [Env.has,hn] at hk
 have hlg:∀ n,st.live (.g n)->(gH st.g).live (.g n):=fun n ⟨o,ho⟩=>⟨o,ho⟩
 have aeE:∀ k,(gH st.g).live k->st.live k:=by
  intro k hk
  obtain ⟨n,rfl,o,ho⟩:=lT hk
  exact ⟨o,ho⟩
 -- an object of Og anD own aB7 apart from all aeF Og callee may write
 have Ig:∀ n,st.live (.l n)->∀ k,(gH st.g).live k->(E.cut.μ k).bI≠(E.μ (.l n)).bI:=by
  intro n hl k hk
  obtain ⟨m,rfl,o,ho⟩:=lT hk
  exact h.sep (.g m) (.l n) ⟨o,ho⟩ hl (by simp)
 have lA:∀ k,St.live ⟨h',st.l⟩ k->(∃ n,k=.g n/\(gH h').live (.g n))\/∃ n,k=.l n/\st.live (.l n):=by
  rintro (n|n) ⟨o,ho⟩
  · exact .inl ⟨n,rfl,o,ho⟩
  · exact .inr ⟨n,rfl,o,ho⟩
 have qK:∀ n,st.live (.l n)->w'.heap[(E.μ (.l n)).bI]? =w.heap[(E.μ (.l n)).bI]? :=fun n hl=>
  he.same _ (h.lt hl) (Ig n hl)
 have hgl:∀ n m,(gH h').live (.g n)->st.live (.l m)->(E'.μ (.g n)).bI≠(E.μ (.l m)).bI:=by
  intro n m hg hl
  by_cases ha:E.cut.has (.g n)
  · rw [he.le.loc _ ha]
    exact Ig m hl _ (he.fT _ hg ha)
  · rcases he.gG _ hg ha with h1|⟨k0,h1,h2⟩
    · have:=h.lt hl
      omega
    · rw [<-h2]
      exact Ig m hl _ h1
 refine ⟨⟨hs.ng,h.nl,?_,hs.jR,?_,?_,?_⟩,⟨hle,he.size,?_,?_,?_,?_,he.os,he.out,he.tape⟩,aiL⟩
 · intro k hk
   rcases lA k hk with ⟨n,rfl,hg⟩|⟨n,rfl,hl⟩
   · exact aiL.has (hs.j8 _ hg)
   · exact hle.has (h.j8 _ hl)
 · intro k o hk
   cases k with
   |g n=>
    have:=hs.obj (.g n) o hk
    exact this.rK (Env.CQ aiL) rfl
   |l n=>
    have:=h.obj (.l n) o hk
    exact this.rK hle (qK n ⟨o,hk⟩)
 · intro a b ha hb dX
   rcases lA a ha with ⟨n,rfl,hg⟩|⟨n,rfl,hl⟩<;>rcases lA b hb with ⟨m,rfl,hg'⟩|⟨m,rfl,yF⟩
   · exact hs.sep _ _ hg hg' dX
   · exact hgl n m hg yF
   · exact fun e=>hgl m n hg' hl e.symm
   · exact h.sep _ _ hl yF dX
 · intro k hk j h1 h2
   rcases lA k hk with ⟨n,rfl,hg⟩|⟨n,rfl,hl⟩
   · exact hs.own _ hg j h1 h2
   · show E'.I _ j=none
     cases hx:E'.I (E.μ (.l n)).bI j with
     |none=>exact hx
     |some x=>
      rcases he.fX _ _ _ hx with h3|h3|⟨k0,h3,h4⟩
      · have:=h.own _ hl j h1 h2
        rw [show E.cut.I=E.I from rfl,this] at h3
        cases h3
      · have:=h.lt hl
        omega
      · exact absurd h4 (Ig n hl _ h3)
 · intro b o x hx
   rcases he.fX b o x hx with h1|h1|⟨k,h1,h2⟩
   · exact .inl h1
   · exact .inr (.inl h1)
   · exact .inr (.inr ⟨k,aeE k h1,h2⟩)
 · intro k hk ha
   rcases lA k hk with ⟨n,rfl,hg⟩|⟨n,rfl,hl⟩
   · exact aeE _ (he.fT _ hg ha)
   · exact hl
 · intro k hk ha
   rcases lA k hk with ⟨n,rfl,hg⟩|⟨n,rfl,hl⟩
   · rcases he.gG _ hg ha with h1|⟨k0,h1,h2⟩
     · exact .inl h1
     · exact .inr ⟨k0,aeE k0 h1,h2⟩
   · exact absurd (h.j8 _ hl) ha
 · intro b hb hn
   exact he.same b hb fun k hk=>by
    have:=hn k (aeE k hk)
    obtain ⟨n,rfl,o,ho⟩:=lT hk
    exact this
theorem aE.use {P:Program} {f:Nat} {vs:List V} {E:Env} {st:St} {w:World} (hs:bQ E st w) {args:List V} {a:Array Value} (hp:eM args=some vs)
 (ha:dY E args a) {K:V->aC->Prop} (h:aE P f vs st.g K) {next:Value->World->Prop}
 (hK:∀ v h' E' w' x,K v h'->bQ E' ⟨h',st.l⟩ w'->Ext E st w E' ⟨h',st.l⟩ w'->Rel E' v x->next x w') {Q:Exit->Act->World->Prop} {act:Act}:
 Calls P f a w fun
  |.returned v,w'=>next v w'
  |.panicked chain,w'=>Q (.panic chain) act w'
  |.outgrown,_=>LetsOut Q:=by
 refine (h.2 E.cut w a rfl hs.cut (CT hp ha)).mono ?_
 rintro e w' ⟨v,x,h',E',hk,rfl,hn,lB,he,hr⟩
 obtain ⟨h1,h2,h3⟩:=hs.back hn lB he
 exact hK v h' _ w' x hk h1 h2 (hr.mono h3)
open Go
def qL:Nat->Value->V->Bool
 |0,_,_=>false
 |n+1,x,v=>match x,v with
  |.bool p,.b q=>p==q
  |.int k p,.i k' q=>decide (k=k')&&decide (p=q)
  |.string p,.s q=>decide (p.data.toList=q)
  |.pointer none,.fM=>true
  |.slice none 0 0,.aB=>true
  |.map none,.eG=>true
  |.nilFunc,.fN=>true
  |.agg cs,.agg l=>decide (cs.size=l.length)&&cs.all (·.oneCell')&&(cs.toList.zip l).all fun q=>qL n q.1 q.2
  |.tuple cs,.bC l=>decide (cs.size=l.length)&&(cs.toList.zip l).all fun q=>qL n q.1 q.2
  |_,_=>false
theorem Ih {α β:Type} {p:α×β->Bool} {l:List α} {r:List β} (h:(l.zip r).all p=true) {j:Nat} {x:α} {y:β} (hx:l[j]? =some x) (hy:r[j]? =some y):p (x,y)=true:=by
 rw [List.all_eq_true] at h
 refine h (x,y) (List.mem_of_getElem? (i:=j) ?_)
 rw [List.getElem?_zip_eq_some]
 exact ⟨hx,hy⟩
theorem iZ {n:Nat}:∀ {x:Value} {v:V},qL n x v=true->∀ E,Rel E v x:=by
 induction n with
 |zero=>intro x v h;cases h
 |succ n ih=>
  intro x v h E
  unfold qL at h
  split at h
  · rw [beq_iff_eq] at h;subst h;exact .deep (.b _)
  · simp only [Bool.and_eq_true,decide_eq_true_eq] at h;obtain ⟨rfl,rfl⟩:=h;exact .deep (.i _ _)
  · simp only [decide_eq_true_eq] at h
    subst h
    rename_i p
    have:str p.data.toList=p:=by cases p;rfl
    have h2:=eH.s (I:=E.I) p.data.toList
    rw [this] at h2
    exact .deep h2
  · exact .fM
  · exact .deep .aB
  · exact .eG
  · exact .fN
  · simp only [Bool.and_eq_true,decide_eq_true_eq] at h
    refine .agg _ _ h.1.1 ?_ fun j u y hj hy=>ih (Ih h.2 (by rw [Array.getElem?_toList];exact hy) hj) E
    intro j x hx
    exact (Array.all_eq_true_iff_forall_mem.1 h.1.2) x (Array.mem_of_getElem? hx)
  · simp only [Bool.and_eq_true,decide_eq_true_eq] at h
    exact .bC _ _ h.1 fun j u y hj hy=>ih (Ih h.2 (by rw [Array.getElem?_toList];exact hy) hj) E
  · cases h
def cZ (x:Operand) (d:bH):Bool:=
 match x,d with
 |.tmp t,.t n=>t==n
 |.const x,.c v=>qL 4 x v
 |.func f,.c (.fn g [] [])=>f==g
 |_,_=>false
def CU:List Operand->List bH->Bool
 |[],[]=>true
 |x::r,d::q=>cZ x d&&CU r q
 |_,_=>false
def tN:Option Operand->Option bH->Bool
 |none,none=>true
 |some x,some d=>cZ x d
 |_,_=>false
structure aS (E:Env) (N:Nat) (fr:Fr) (a:Act):Prop where
 size:a.tmps.size=N
 rel:∀ t,Rel E (fr.get t) (a.tmps.getD t undef)
theorem aS.mono {E F:Env} (h:E.Le F) {N:Nat} {fr:Fr} {a:Act} (hf:aS E N fr a):aS F N fr a:=⟨hf.size,fun t=>(hf.rel t).mono h⟩
theorem aQ {x:Operand} {d:bH} (h:cZ x d=true) {E:Env} {N:Nat} {fr:Fr} {a:Act} (hf:aS E N fr a):Rel E (d.ev fr) (a.eval x):=by
 unfold cZ at h
 split at h
 · rw [beq_iff_eq] at h;subst h;exact hf.rel _
 · exact iZ h E
 · rw [beq_iff_eq] at h
   subst h
   exact .fn _ _ _ _ _ rfl rfl (fun j v x hj=>by simp at hj) (fun j v x hj=>by simp at hj)
 · cases h
theorem Af {E:Env} {N:Nat} {fr:Fr} {a:Act} (hf:aS E N fr a):∀ {xs:List Operand} {ds:List bH},CU xs ds=true->dY E (bH.BB fr ds) (xs.map a.eval).toArray:=by
 intro xs
 induction xs with
 |nil=>
  intro ds h
  cases ds with
  |nil=>exact ⟨rfl,fun j v x hj=>by simp [bH.BB] at hj⟩
  |cons d r=>cases h
 |cons x r ih=>
  intro ds h
  cases ds with
  |nil=>cases h
  |cons d q=>
   simp only [CU,Bool.and_eq_true] at h
   have h1:=aQ h.1 hf
   have h2:=ih h.2
   refine ⟨by simp [bH.BB,<-h2.1],fun j v y hj hy=>?_⟩
   cases j with
   |zero=>
    simp [bH.BB] at hj hy
    subst hj;subst hy;exact h1
   |succ j=>exact h2.2 j v y (by simpa [bH.BB] using hj) (by simpa using hy)
theorem Ks {E:Env} {N:Nat} {fr:Fr} {a:Act} (hf:aS E N fr a) {x:Option Operand} {d:Option bH} (h:tN x d=true):
 (x=none/\bH.tJ fr d=none)\/∃ y v,x.map a.eval=some y/\bH.tJ fr d=some v/\Rel E v y:=by
 unfold tN at h
 split at h
 · exact .inl ⟨rfl,rfl⟩
 · exact .inr ⟨_,_,rfl,rfl,aQ h hf⟩
 · cases h
section
variable {P:Program} {o:Oper} {a:Act} {w:World} {next:Act->World->Prop} {Q:Exit->Act->World->Prop}
theorem aP {x:Value} {w':World} (h:(execOp a.eval o).run P w=.ok (.value x) w') (hn:next (a.put o.dst x) w'):o.wp P a w next Q:=by
 unfold Oper.wp;rw [h];exact hn
theorem CV {w':World} (h:(execOp a.eval o).run P w=.ok .skip w') (hn:next (a.put o.dst undef) w'):o.wp P a w next Q:=by
 unfold Oper.wp;rw [h];exact hn
end
def eX (E:Env) (st:St) (w:World) (o:Oper) (a:Act) (next:Act->World->Prop) (K:R->Prop):Prop:=
 ∀ v bA E' w' x,K (v,bA)->bQ E' bA w'->Ext E st w E' bA w'->Rel E' v x->next (a.put o.dst x) w'
section
variable {P:Program} {o:Oper} {a:Act} {E:Env} {N:Nat} {st:St} {w:World} {fr:Fr} {next:Act->World->Prop} {Q:Exit->Act->World->Prop} {K:R->Prop}
theorem eX.same (hc:eX E st w o a next K) (hs:bQ E st w) {v:V} {x:Value} (hk:K (v,st)) (hr:Rel E v x):next (a.put o.dst x) w:=
 hc v st E w x hk hs (.refl E st w) hr
theorem aeG {x:Operand} {d:bH} (ho:o.op=.move x) (hx:cZ x d=true) (hs:bQ E st w) (hf:aS E N fr a)
 (hw:(step (.mv d) fr st).wp (aE P) K) (hc:eX E st w o a next K):o.wp P a w next Q:=
 aP (x:=a.eval x) (by simp [execOp,ho]) (hc.same hs hw (aQ hx hf))
theorem Ut {x:Operand} {d:bH} (ho:o.op=.assign x) (hx:cZ x d=true) (hs:bQ E st w) (hf:aS E N fr a)
 (hw:(step (.Ue d) fr st).wp (aE P) K) (hc:eX E st w o a next K):o.wp P a w next Q:=
 aP (x:=a.eval x) (by simp [execOp,ho]) (hc.same hs hw (aQ hx hf))
theorem Rel.bool {x:Bool} {y:Value} (h:Rel E (.b x) y):y=.bool x:=by cases h with|deep h=>cases h;rfl
theorem Rel.int {k:IntKind} {n:Int} {y:Value} (h:Rel E (.i k n) y):y=.int k n:=by cases h with|deep h=>cases h;rfl
theorem Rel.B3 {l:List UInt8} {y:Value} (h:Rel E (.s l) y):y=.string (str l):=by cases h with|deep h=>cases h;rfl
theorem QX {x y z:Operand} {c d e:bH} (ho:o.op=.pick x y z) (hx:cZ x c=true) (hy:cZ y d=true) (hz:cZ z e=true) (hs:bQ E st w) (hf:aS E N fr a)
 (hw:(step (.pick c d e) fr st).wp (aE P) K) (hc:eX E st w o a next K):o.wp P a w next Q:=by
 have h1:=aQ hx hf
 simp only [step] at hw
 split at hw
 · rename_i b hb
   rw [hb] at h1
   have h1:=h1.bool
   cases b with
   |true=>exact aP (x:=a.eval y) (by simp [execOp,ho,asBool,h1]) (hc.same hs (hw.1 rfl) (aQ hy hf))
   |false=>exact aP (x:=a.eval z) (by simp [execOp,ho,asBool,h1]) (hc.same hs (hw.2 rfl) (aQ hz hf))
 · exact hw.elim
end
open Go
section
variable {P:Program} {o:Oper} {a:Act} {E:Env} {N:Nat} {st:St} {w:World} {fr:Fr} {next:Act->World->Prop} {Q:Exit->Act->World->Prop} {K:R->Prop}
theorem fA {op:BinOp} {t yt:TypeId} {x y:Operand} {v:Value} (ho:o.op=.binOp op t x y yt) (hg:eqGuard op t x y (a.eval x) (a.eval y)=pure ())
 (h:(binOp op t (a.eval x) (a.eval y)).run P w=.ok v w):(execOp a.eval o).run P w=.ok (.value v) w:=by
 simp [execOp,ho,hg,h]
theorem aeH (bs:ByteArray):∀ (n i:Nat) (r:List UInt8),bs.size - i=n->ByteArray.toList.loop bs i r=r.reverse++bs.data.toList.drop i:=by
 intro n
 induction n with
 |zero=>
  intro i r h
  unfold ByteArray.toList.loop
  rw [if_neg (by omega)]
  have:bs.data.toList.drop i=[]:=List.drop_eq_nil_of_le (by simp;have:bs.size=bs.data.size:=rfl;omega)
  rw [this,List.append_nil]
 |succ n ih=>
  intro i r h
  unfold ByteArray.toList.loop
  have dZ:i<bs.size:=by omega
  rw [if_pos dZ,ih (i+1) _ (by omega)]
  have Uu:i<bs.data.toList.length:=by simpa using dZ
  rw [List.drop_eq_getElem_cons Uu]
  have:bs.get! i=bs.data.toList[i]:=by
   have:i<bs.data.size:=dZ
   simp only [ByteArray.get!,Array.getElem_toList]
   exact getElem!_pos bs.data i this
  rw [this]
  simp
theorem QY (bs:ByteArray):bs.toList=bs.data.toList:=by
 unfold ByteArray.toList
 rw [aeH bs _ 0 [] rfl]
 simp
theorem gQ (l:List UInt8):(str l).toList=l:=by rw [QY];rfl
theorem Uv {op:BinOp} {t yt:TypeId} {x y:Operand} {d e:bH} (ho:o.op=.binOp op t x y yt) (hx:cZ x d=true) (hy:cZ y e=true) (hs:bQ E st w) (hf:aS E N fr a)
 (hw:(step (.bin op d e) fr st).wp (aE P) K) (hc:eX E st w o a next K):o.wp P a w next Q:=by
 have h1:=aQ hx hf
 have h2:=aQ hy hf
 simp only [step,dU] at hw
 split at hw
 · rename_i k p k' q e1 e2
   rw [e1] at h1
   rw [e2] at h2
   have h1:=h1.int
   have h2:=h2.int
   have hg:eqGuard op t x y (a.eval x) (a.eval y)=pure ():=by rw [h1];exact eqGuard_at_int _ _ _ _ _ _ _
   cases op
   case shl=>
    obtain ⟨hq,hw⟩:=hw
    have hq:0<=q:=by simpa using hq
    rw [T.wp,oS] at hw
    exact aP (fA ho hg (by rw [h1,h2,binOp_shl];simp [Op.shift,show ¬q<0 by omega])) (hc.same hs hw (.deep (.i _ _)))
   case shr=>
    obtain ⟨hq,hw⟩:=hw
    have hq:0<=q:=by simpa using hq
    exact aP (fA ho hg (by rw [h1,h2,binOp_shr];simp [Op.shift,show ¬q<0 by omega])) (hc.same hs hw (.deep (.i _ _)))
   all_goals
    simp only at hw
    split at hw
    · rename_i hk
      subst hk
      first
       |(rw [T.wp,oS] at hw
         exact aP (fA ho hg (by rw [h1,h2];simp [binOp,Op.intArith])) (hc.same hs hw (.deep (.i _ _))))
       |(obtain ⟨hq,hw⟩:=hw
         have hq:¬q=0:=by simpa using hq
         rw [T.wp,oS] at hw
         exact aP (fA ho hg (by rw [h1,h2];simp [binOp,Op.intDiv,hq])) (hc.same hs hw (.deep (.i _ _))))
       |(obtain ⟨hq,hw⟩:=hw
         have hq:¬q=0:=by simpa using hq
         exact aP (fA ho hg (by rw [h1,h2];simp [binOp,Op.intDiv,hq])) (hc.same hs hw (.deep (.i _ _))))
       |exact aP (fA ho hg (by rw [h1,h2];simp [binOp,Op.intBits])) (hc.same hs hw (.deep (.i _ _)))
       |exact aP (fA ho hg (by rw [h1,h2];simp [binOp,Op.intCmp]<;>rfl)) (hc.same hs hw (.deep (.b _)))
    · exact hw.elim
 · rename_i p q e1 e2
   rw [e1] at h1
   rw [e2] at h2
   have h1:=h1.B3
   have h2:=h2.B3
   have hg:eqGuard op t x y (a.eval x) (a.eval y)=pure ():=by rw [h1];exact eqGuard_at_string _ _ _ _ _ _
   have jN:∀ l,(str l).size=l.length:=fun l=>by simp [str,ByteArray.size]
   cases op
   case add=>
    obtain ⟨hq,hw⟩:=hw
    have hq:((p.length+q.length:Nat):Int)<=9223372036854775807:=by simpa using hq
    refine aP (x:=.string (str (p++q))) (fA ho hg ?_) (hc.same hs hw (.deep (.s _)))
    rw [h1,h2]
    simp only [binOp,Op.stringOp,jN,IntKind.max_i64]
    rw [if_neg (by omega)]
    have:str p++str q=str (p++q):=by
     apply ByteArray.ext
     simp [str]
    rw [this];rfl
   case eql=>exact aP (fA ho hg (by rw [h1,h2];simp [binOp,Op.stringOp,gQ])) (hc.same hs hw (.deep (.b _)))
   case neq=>exact aP (fA ho hg (by rw [h1,h2];simp [binOp,Op.stringOp,gQ])) (hc.same hs hw (.deep (.b _)))
   case lss=>exact aP (fA ho hg (by rw [h1,h2];simp [binOp,Op.stringOp,gQ])) (hc.same hs hw (.deep (.b _)))
   case leq=>exact aP (fA ho hg (by rw [h1,h2];simp [binOp,Op.stringOp,gQ])) (hc.same hs hw (.deep (.b _)))
   case gtr=>exact aP (fA ho hg (by rw [h1,h2];simp [binOp,Op.stringOp,gQ])) (hc.same hs hw (.deep (.b _)))
   case geq=>exact aP (fA ho hg (by rw [h1,h2];simp [binOp,Op.stringOp,gQ])) (hc.same hs hw (.deep (.b _)))
   all_goals exact hw.elim
 · exact hw.elim
theorem aeI {op:UnOp} {t:TypeId} {x:Operand} {d:bH} (ho:o.op=.unOp op t x) (hx:cZ x d=true) (hs:bQ E st w) (hf:aS E N fr a)
 (hw:(step (.un op d) fr st).wp (aE P) K) (hc:eX E st w o a next K):o.wp P a w next Q:=by
 have h1:=aQ hx hf
 simp only [step] at hw
 split at hw
 · rename_i y e1
   rw [e1] at h1
   have h1:=h1.bool
   exact aP (x:=.bool (!y)) (by simp [execOp,ho,h1,Op.unary]) (hc.same hs hw (.deep (.b _)))
 · rename_i k n e1
   rw [e1] at h1
   have h1:=h1.int
   rw [T.wp,oS] at hw
   exact aP (x:=.int k (k.wrap (0 - n))) (by simp [execOp,ho,h1,Op.unary,Op.intArith]) (hc.same hs hw (.deep (.i _ _)))
 · exact hw.elim
theorem Uw {s t:TypeId} {k:IntKind} {x:Operand} {d:bH} (ho:o.op=.convert s t x) (hx:cZ x d=true) (hu:(P.underlying s).isSome=true) (ht:P.underlying t=some (.int k))
 (hs:bQ E st w) (hf:aS E N fr a) (hw:(step (.cvi k d) fr st).wp (aE P) K) (hc:eX E st w o a next K):o.wp P a w next Q:=by
 have h1:=aQ hx hf
 simp only [step] at hw
 split at hw
 · rename_i k' n e1
   rw [e1] at h1
   have h1:=h1.int
   rw [T.wp,oS] at hw
   obtain ⟨du,hdu⟩:=Option.isSome_iff_exists.1 hu
   refine aP (x:=.int k (k.wrap n)) ?_ (hc.same hs hw (.deep (.i _ _)))
   simp [execOp,ho,h1,convert,run_underlying hdu,run_underlying ht,Conv.intToInt]
 · exact hw.elim
theorem Ux {s t:TypeId} {x:Operand} {d:bH} (ho:o.op=.convert s t x) (hx:cZ x d=true) (hu:(P.underlying s).isSome=true) (ht:P.underlying t=some .string)
 (hs:bQ E st w) (hf:aS E N fr a) (hw:(step (.cvs d) fr st).wp (aE P) K) (hc:eX E st w o a next K):o.wp P a w next Q:=by
 have h1:=aQ hx hf
 simp only [step] at hw
 split at hw
 · rename_i y e1
   rw [e1] at h1
   have h1:=h1.B3
   obtain ⟨du,hdu⟩:=Option.isSome_iff_exists.1 hu
   refine aP (x:=.string (str y)) ?_ (hc.same hs hw (.deep (.s _)))
   simp [execOp,ho,h1,convert,run_underlying hdu,run_underlying ht]
 · exact hw.elim
theorem QZ {x:Operand} {d:bH} (ho:o.op=.nilCheck x) (hx:cZ x d=true) (hs:bQ E st w) (hf:aS E N fr a)
 (hw:(step (.zW d) fr st).wp (aE P) K) (hc:eX E st w o a next K):o.wp P a w next Q:=by
 have h1:=aQ hx hf
 simp only [step] at hw
 split at hw
 case h_5=>exact hw.elim
 all_goals
  rename_i e1
  rw [e1] at h1
  refine aP (x:=a.eval x) ?_ (hc.same hs hw h1)
  generalize hy:a.eval x=y at h1
  cases h1<;>first|(rename_i hd;cases hd)|simp [execOp,ho,hy]
theorem OC {t:TypeId} {x:Operand} {f:Nat} {d:bH} {fs:Array Field} {fl:Field} {off:Nat} (ho:o.op=.fieldAddr t x f) (hx:cZ x d=true)
 (hu:P.underlying t=some (.struct fs)) (CW:fs[f]? =some fl) (aiN:fl.offset=off) (hz:∃ i,P.info? fl.type=some i/\i.size≠0)
 (hs:bQ E st w) (hf:aS E N fr a) (hw:(step (.oW off d) fr st).wp (aE P) K) (hc:eX E st w o a next K):o.wp P a w next Q:=by
 have h1:=aQ hx hf
 subst aiN
 obtain ⟨i,hi,hi0⟩:=hz
 have dO:∀ b c,a.eval x=.pointer (some ⟨b,c,none⟩)->(execOp a.eval o).run P w=.ok (.value (.pointer (some ⟨b,c+fl.offset,none⟩))) w:=by
  intro b c hb
  simp [execOp,ho,hb,Instr.fieldAt,run_underlying hu,CW,Instr.sureAddr,fieldPlace,sizeOf,typeInfo,hi,hi0,Addr.add_lit]
 simp only [step] at hw
 split at hw
 · rename_i k c e1
   rw [e1] at h1
   generalize hy:a.eval x=y at h1
   cases h1 with
   |deep hd=>cases hd
   |p _ _ hk=>
    refine aP (dO _ _ hy) (hc.same hs hw ?_)
    rw [Nat.add_assoc];exact .p _ _ hk
 · rename_i k sz ix c e1
   rw [e1] at h1
   generalize hy:a.eval x=y at h1
   cases h1 with
   |deep hd=>cases hd
   |pa _ _ _ _ hk=>
    refine aP (dO _ _ hy) (hc.same hs hw ?_)
    rw [Nat.add_assoc];exact .pa _ _ _ _ hk
 · rename_i cs c e1
   rw [e1] at h1
   generalize hy:a.eval x=y at h1
   cases h1 with
   |deep hd=>cases hd
   |pc _ _ bI c0 val hv hr=>
    refine aP (dO _ _ hy) (hc.same hs hw ?_)
    rw [Nat.add_assoc];exact .pc _ _ _ _ val hv hr
 · exact hw.elim
theorem BE {cs:List V} {off n:Nat} {v:V} (h:dF cs off (some n)=some v):off+n<=cs.length/\v=.agg ((cs.drop off).take n):=by
 simp only [dF] at h
 split at h
 · rename_i hl;exact ⟨hl,(Option.some.inj h).symm⟩
 · cases h
def tO (P:Program) (t:TypeId) (n:Option Nat):Bool:=
 match n,P.underlying t with
 |none,some d=>!d.isRow
 |some k,some d=>d.isRow&&(P.info? t).map (·.size)==some k
 |_,none=>false
theorem A0 {t:TypeId} {d:TypeDesc} (h:P.underlying t=some d) (w:World):(isAgg t).run P w=.ok d.isRow w:=by
 unfold isAgg
 rw [Sem.run_bind,run_underlying h w]
 cases d<;>rfl
theorem rL {t:TypeId} {n:Option Nat} (hn:tO P t n=true) {cs:List V} {xs:Array Value} (hr:dY E cs xs) (h1:∀ (j:Nat) (x:Value),xs[j]? =some x->x.oneCell'=true)
 {off:Nat} {v:V} (hv:dF cs off n=some v):∃ x,(part t xs off).run P w=.ok x w/\Rel E v x:=by
 unfold tO at hn
 split at hn
 · rename_i d hd
   obtain ⟨x,hx,AY⟩:=hr.get hv
   refine ⟨x,?_,AY⟩
   have:d.isRow=false:=by simpa using hn
   simp [part,A0 hd,this,hx]
 · rename_i k d hd
   simp only [Bool.and_eq_true,beq_iff_eq] at hn
   obtain ⟨hl,rfl⟩:=BE hv
   cases hq:P.info? t with
   |none=>simp [hq] at hn
   |some i=>
    have hs:i.size=k:=by simpa [hq] using hn.2
    refine ⟨.agg (xs.extract off (off+k)),?_,?_⟩
    · simp [part,A0 hd,hn.1,sizeOf,typeInfo,hq,hs]
    · have jN:=hr.1
      refine .agg _ _ ?_ ?_ ?_
      · simp only [Array.size_extract,List.length_take,List.length_drop];omega
      · intro j x hx
        rw [Array.getElem?_extract] at hx
        split at hx
        · exact h1 _ _ hx
        · cases hx
      · intro j u x hj hx
        rw [Array.getElem?_extract] at hx
        rw [List.getElem?_take] at hj
        split at hj
        · split at hx
          · rw [List.getElem?_drop] at hj
            exact hr.2 _ u x hj hx
          · cases hx
        · cases hj
 · cases hn
theorem Uy {t:TypeId} {x:Operand} {f:Nat} {d:bH} {fs:Array Field} {fl:Field} {off:Nat} {n:Option Nat} (ho:o.op=.field t x f) (hx:cZ x d=true)
 (hu:P.underlying t=some (.struct fs)) (CW:fs[f]? =some fl) (aiN:fl.offset=off) (hz:tO P fl.type n=true)
 (hs:bQ E st w) (hf:aS E N fr a) (hw:(step (.QW off n d) fr st).wp (aE P) K) (hc:eX E st w o a next K):o.wp P a w next Q:=by
 have h1:=aQ hx hf
 subst aiN
 simp only [step] at hw
 split at hw
 · rename_i cs e1
   rw [e1] at h1
   generalize hy:a.eval x=y at h1
   cases h1 with
   |deep hd=>cases hd
   |agg _ b hb OD hrb=>
    unfold T.opt at hw
    split at hw
    · rename_i v hv
      obtain ⟨z,BF,Cy⟩:=rL (w:=w) hz ⟨hb,hrb⟩ OD hv
      exact aP (x:=z) (by simp [execOp,ho,hy,Instr.field,run_underlying hu,CW,asAgg,BF]) (hc.same hs hw Cy)
    · exact hw.elim
 · exact hw.elim
theorem vV {i:Int} {n:Nat}:qI i n=true↔0<=i/\i<n:=by simp [qI]
theorem Q0 {t e:TypeId} {x y:Operand} {d c:bH} {len sz:Nat} (ho:o.op=.indexAddr t x y) (hx:cZ x d=true) (hy:cZ y c=true)
 (hu:P.underlying t=some (.array len e)) (hz:(P.info? e).map (·.size)=some sz)
 (hs:bQ E st w) (hf:aS E N fr a) (hw:(step (.Ez len sz d c) fr st).wp (aE P) K) (hc:eX E st w o a next K):o.wp P a w next Q:=by
 have h1:=aQ hx hf
 have h2:=aQ hy hf
 cases hq:P.info? e with
 |none=>simp [hq] at hz
 |some i=>
 have hi:i.size=sz:=by simpa [hq] using hz
 simp only [step] at hw
 split at hw
 · rename_i k n e2
   rw [e2] at h2
   have h2:=h2.int
   obtain ⟨rM,hw⟩:=hw
   rw [vV] at rM
   have dO:∀ b c,a.eval x=.pointer (some ⟨b,c,none⟩)->(execOp a.eval o).run P w=.ok (.value (.pointer (some ⟨b,c+n.toNat*sz,none⟩))) w:=by
    intro b c hb
    simp [execOp,ho,hb,h2,Instr.indexAt,asIntOf,run_underlying hu,Instr.sureAddr,sizeOf,typeInfo,hq,hi,rM.1,rM.2,Addr.add_lit]
   split at hw
   · rename_i k c e1
     rw [e1] at h1
     generalize hy:a.eval x=y at h1
     cases h1 with
     |deep hd=>cases hd
     |p _ _ hk=>
      refine aP (dO _ _ hy) (hc.same hs hw ?_)
      rw [Nat.add_assoc];exact .p _ _ hk
   · rename_i k sz ix c e1
     rw [e1] at h1
     generalize hy:a.eval x=y at h1
     cases h1 with
     |deep hd=>cases hd
     |pa _ _ _ _ hk=>
      refine aP (dO _ _ hy) (hc.same hs hw ?_)
      rw [Nat.add_assoc];exact .pa _ _ _ _ hk
   · rename_i cs c e1
     rw [e1] at h1
     generalize hy:a.eval x=y at h1
     cases h1 with
     |deep hd=>cases hd
     |pc _ _ bI c0 val hv hr=>
      refine aP (dO _ _ hy) (hc.same hs hw ?_)
      rw [Nat.add_assoc];exact .pc _ _ _ _ val hv hr
   · exact hw.elim
 · exact hw.elim
theorem Uz {t:TypeId} {x y:Operand} {d c:bH} (ho:o.op=.index t x y) (hx:cZ x d=true) (hy:cZ y c=true) (hu:P.underlying t=some .string)
 (hs:bQ E st w) (hf:aS E N fr a) (hw:(step (.ixs d c) fr st).wp (aE P) K) (hc:eX E st w o a next K):o.wp P a w next Q:=by
 have h1:=aQ hx hf
 have h2:=aQ hy hf
 simp only [step] at hw
 split at hw
 · rename_i l k n e1 e2
   rw [e1] at h1
   rw [e2] at h2
   have h1:=h1.B3
   have h2:=h2.int
   obtain ⟨h0,b,hb,hw⟩:=hw
   have h0:0<=n:=by simpa using h0
   refine aP (x:=.int .u8 b.toNat) ?_ (hc.same hs hw (.deep (.i _ _)))
   have:(str l)[n.toNat]? =some b:=by
    have dZ:=(List.getElem?_eq_some_iff.1 hb)
    obtain ⟨dZ,he⟩:=dZ
    have jN:(str l).size=l.length:=by simp [str,ByteArray.size]
    rw [getElem?_pos (str l) n.toNat (by rw [jN];exact dZ)]
    simp only [<-he]
    rfl
   simp [execOp,ho,h1,h2,Instr.index,asIntOf,run_underlying hu,h0,this]
 · exact hw.elim
theorem UA {t e:TypeId} {x y:Operand} {d c:bH} {len sz:Nat} {n:Option Nat} (ho:o.op=.index t x y) (hx:cZ x d=true) (hy:cZ y c=true)
 (hu:P.underlying t=some (.array len e)) (hz:(P.info? e).map (·.size)=some sz) (hn:tO P e n=true)
 (hs:bQ E st w) (hf:aS E N fr a) (hw:(step (.T0 len sz n d c) fr st).wp (aE P) K) (hc:eX E st w o a next K):o.wp P a w next Q:=by
 have h1:=aQ hx hf
 have h2:=aQ hy hf
 cases hq:P.info? e with
 |none=>simp [hq] at hz
 |some i=>
 have hi:i.size=sz:=by simpa [hq] using hz
 simp only [step] at hw
 split at hw
 · rename_i cs k j e1 e2
   rw [e1] at h1
   rw [e2] at h2
   have h2:=h2.int
   generalize hy:a.eval x=y at h1
   cases h1 with
   |deep hd=>cases hd
   |agg _ b hb OD hrb=>
    obtain ⟨rM,hw⟩:=hw
    rw [vV] at rM
    unfold T.opt at hw
    split at hw
    · rename_i v hv
      obtain ⟨z,BF,Cy⟩:=rL (w:=w) hn ⟨hb,hrb⟩ OD hv
      exact aP (x:=z) (by simp [execOp,ho,hy,h2,Instr.index,asIntOf,run_underlying hu,rM.1,rM.2,sizeOf,typeInfo,hq,hi,BF]) (hc.same hs hw Cy)
    · exact hw.elim
 · exact hw.elim
theorem UB {x:Operand} {d:bH} {i:Nat} (ho:o.op=.extract x i) (hx:cZ x d=true)
 (hs:bQ E st w) (hf:aS E N fr a) (hw:(step (.ext d i) fr st).wp (aE P) K) (hc:eX E st w o a next K):o.wp P a w next Q:=by
 have h1:=aQ hx hf
 simp only [step] at hw
 split at hw
 · rename_i vs e1
   rw [e1] at h1
   generalize hy:a.eval x=y at h1
   cases h1 with
   |deep hd=>cases hd
   |bC _ b hb hrb=>
    unfold T.opt at hw
    split at hw
    · rename_i v hv
      obtain ⟨z,BF,Cy⟩:=dY.get ⟨hb,hrb⟩ hv
      exact aP (x:=z) (by simp [execOp,ho,hy,Instr.extract,BF]) (hc.same hs hw Cy)
    · exact hw.elim
 · exact hw.elim
theorem Q1 {f:Nat} {first cap:Array Operand} {ds:List bH} (ho:o.op=.makeFunc (.func f) first cap) (h0:first.size=0) (hx:CU cap.toList ds=true)
 (hs:bQ E st w) (hf:aS E N fr a) (hw:(step (.Ew f ds) fr st).wp (aE P) K) (hc:eX E st w o a next K):o.wp P a w next Q:=by
 have h1:=Af hf hx
 have h0:first=#[]:=by simpa using h0
 subst h0
 refine aP (x:=.func (.func f) #[] (cap.map a.eval)) (by simp [execOp,ho,Instr.makeFunc]) (hc.same hs hw ?_)
 have e:(cap.toList.map a.eval).toArray=cap.map a.eval:=by
  apply Array.ext'
  simp
 rw [e] at h1
 exact .fn _ _ _ _ _ rfl h1.1 (fun j v x hj=>by simp at hj) h1.2
end
open Go
def fI (E:Env) (w:World) (b o:Nat) (cs:List V):Prop:=
 ∀ j v,cs[j]? =some v->∃ x,bF w b (o+j)=some x/\Rel E v x/\x.oneCell'=true
theorem eH.one {I:zZ} {v:V} {x:Value} (h:eH I v x):x.oneCell'=true:=by cases h<;>rfl
theorem fI.mono {E F:Env} (h:E.Le F) {w:World} {b o:Nat} {cs:List V} (hc:fI E w b o cs):fI F w b o cs:=
 fun j v hj=>let ⟨x,a,c,d⟩:=hc j v hj;⟨x,a,c.mono h,d⟩
theorem fI.sub {E:Env} {w:World} {b o:Nat} {cs:List V} (hc:fI E w b o cs) (off n:Nat):fI E w b (o+off) ((cs.drop off).take n):=by
 intro j v hj
 rw [List.getElem?_take] at hj
 split at hj
 · rw [List.getElem?_drop] at hj
   rw [Nat.add_assoc]
   exact hc _ v hj
 · cases hj
theorem fV.sG {z:Nat} {E:Env} {w:World} {L:Loc} {cs:List V} (h:fV z E w L cs):fI E w L.bI L.base cs:=by
 obtain ⟨cells,t,fz,h1,_,_,_,h5⟩:=h
 intro j v hj
 obtain ⟨x,hx,hr,ho⟩:=h5 j v hj
 exact ⟨x,by simp [bF,h1,hx],hr,ho⟩
theorem bQ.UC {E:Env} {st:St} {w:World} (h:bQ E st w) {cs:List V} {b o:Nat} {val:Nat->Value} (hv:∀ j d,cs[j]? =some d->E.I b (o+j)=some (val j))
 (hr:∀ j d,cs[j]? =some d->eH E.I d (val j)):fI E w b o cs:=
 fun j v hj=>⟨val j,h.jR _ _ _ (hv j v hj),.deep (hr j v hj),(hr j v hj).one⟩
theorem fI.list {E:Env} {w:World} {b:Nat}:∀ {cs:List V} {o:Nat},fI E w b o cs->
 ∃ xs:List Value,xs.length=cs.length/\w.rangeAt b o xs/\dY E cs xs.toArray/\∀ x∈xs,x.oneCell'=true:=by
 intro cs
 induction cs with
 |nil=>exact fun _=>⟨[],rfl,fun j v hj=>by simp at hj,⟨rfl,fun j v x hj=>by simp at hj⟩,fun x hx=>by simp at hx⟩
 |cons v r ih=>
  intro o h
  obtain ⟨x,hx,hr,ho⟩:=h 0 v rfl
  obtain ⟨xs,h1,h2,h3,h4⟩:=ih (o:=o+1) (fun j u hj=>by
   have:=h (j+1) u (by simpa using hj)
   rw [show o+1+j=o+(j+1) by omega];exact this)
  refine ⟨x::xs,by simp [h1],?_,⟨by simp [h1],?_⟩,?_⟩
  · intro j u hj
    cases j with
    |zero=>
     simp at hj
     subst hj
     rw [o4];exact hx
    |succ j=>
     have:=h2 j u (by simpa using hj)
     rw [show o+(j+1)=o+1+j by omega];exact this
  · intro j u y hj hy
    cases j with
    |zero=>
     simp at hj hy
     subst hj;subst hy;exact hr
    |succ j=>exact h3.2 j u y (by simpa using hj) (by simpa using hy)
  · intro y hy
    cases hy with
    |head=>exact ho
    |tail _ hy=>exact h4 y hy
theorem o5 {P:Program} {E:Env} {w:World} {t:TypeId} {n:Option Nat} (hn:tO P t n=true) {b o:Nat} {cs:List V} (h:fI E w b o cs) {off:Nat} {v:V}
 (hv:dF cs off n=some v):∃ x,(loadVar t ⟨b,o+off,none⟩).run P w=.ok x w/\Rel E v x:=by
 unfold tO at hn
 split at hn
 · rename_i d hd
   obtain ⟨x,hx,hr,_⟩:=h off v hv
   refine ⟨x,?_,hr⟩
   have hf:d.isRow=false:=by simpa using hn
   have hc:w.cell? ⟨b,o+off,none⟩=some x:=by rw [o4];exact hx
   simp [loadVar,A0 hd,hf,load,Sem.run,hc]
 · rename_i k d hd
   simp only [Bool.and_eq_true,beq_iff_eq] at hn
   obtain ⟨hl,rfl⟩:=BE hv
   obtain ⟨xs,h1,h2,h3,h4⟩:=(h.sub off k).list
   have hk:xs.length=k:=by rw [h1];simp;omega
   refine ⟨.agg xs.toArray,run_loadVar_mid w b (o+off) t xs d h2 hd hn.1 (by rw [hn.2,hk]),.agg _ _ h3.1 ?_ h3.2⟩
   intro j x hx
   exact h4 x (List.mem_of_getElem? (i:=j) (by simpa using hx))
 · cases hn
def rN:Array Value->Nat->List Value->Array Value
 |c,_,[]=>c
 |c,o,v::r=>rN (c.setIfInBounds o v) (o+1) r
theorem gR:∀ (vs:List Value) (c:Array Value) (o:Nat),(rN c o vs).size=c.size
 |[],_,_=>rfl
 |v::r,c,o=>by rw [rN,gR r];simp
theorem lG:∀ (vs:List Value) (c:Array Value) (o j:Nat),o+vs.length<=c.size->
 (rN c o vs)[j]? =if o<=j/\j<o+vs.length then vs[j - o]? else c[j]?
 |[],c,o,j,_=>by simp [rN];omega
 |v::r,c,o,j,h=>by
  simp only [List.length_cons] at h
  rw [rN,lG r _ _ _ (by simp;omega)]
  by_cases h1:j=o
  · subst h1
    rw [if_neg (by omega),if_pos (by simp)]
    simp [show j<c.size by omega]
  · by_cases h2:o+1<=j/\j<o+1+r.length
    · rw [if_pos h2,if_pos (by simp;omega)]
      rw [show j - o=(j - (o+1))+1 by omega]
      simp
    · rw [if_neg h2,if_neg (by simp;omega)]
      rw [Array.getElem?_setIfInBounds_ne (fun e=>h1 e.symm)]
theorem gS:∀ (vs cs:List V) (o:Nat),(cS cs o vs).length=cs.length
 |[],_,_=>rfl
 |v::r,c,o=>by rw [cS,gS r];simp
theorem gT:∀ (vs cs:List V) (o j:Nat),o+vs.length<=cs.length->
 (cS cs o vs)[j]? =if o<=j/\j<o+vs.length then vs[j - o]? else cs[j]?
 |[],c,o,j,_=>by simp [cS];omega
 |v::r,c,o,j,h=>by
  simp only [List.length_cons] at h
  rw [cS,gT r _ _ _ (by simp;omega)]
  by_cases h1:j=o
  · subst h1
    rw [if_neg (by omega),if_pos (by simp)]
    simp [show j<c.length by omega]
  · by_cases h2:o+1<=j/\j<o+1+r.length
    · rw [if_pos h2,if_pos (by simp;omega)]
      rw [show j - o=(j - (o+1))+1 by omega]
      simp
    · rw [if_neg h2,if_neg (by simp;omega)]
      rw [List.getElem?_set_ne (fun e=>h1 e.symm)]
theorem iP (b:Nat):∀ (vs:List Value) (o:Nat) (w:World) {c:Array Value} {t:TypeId} {fz:Nat×Nat},w.heap[b]? =some (.cells c t fz)->
 (w.setCells b o vs).heap[b]? =some (.cells (rN c o vs) t fz)
 |[],_,_,_,_,_,h=>h
 |v::r,o,w,c,t,fz,h=>by
  refine iP b r (o+1) _ ?_
  simp only [World.setCell,Array.getElem?_modify,h,if_true,Option.map_some]
  rfl
theorem jV (b:Nat) {k:Nat} (hk:k≠b):∀ (vs:List Value) (o:Nat) (w:World),(w.setCells b o vs).heap[k]? =w.heap[k]?
 |[],_,_=>rfl
 |v::r,o,w=>by
  rw [World.setCells,jV b hk r]
  simp only [World.setCell,Array.getElem?_modify]
  rw [if_neg (by omega)]
theorem lO (b:Nat):∀ (vs:List Value) (o:Nat) (w:World),(w.setCells b o vs).heap.size=w.heap.size/\(w.setCells b o vs).os=w.os/\(w.setCells b o vs).output=w.output/\(w.setCells b o vs).tape=w.tape
 |[],_,_=>⟨rfl,rfl,rfl,rfl⟩
 |v::r,o,w=>by
  obtain ⟨h1,h2,h3,h4⟩:=lO b r (o+1) (w.setCell ⟨b,o,none⟩ v)
  exact ⟨h1.trans (by simp [World.setCell]),h2,h3,h4⟩
theorem Fz.free {z:Nat} {w:World} {b:Nat} {c:Array Value} {t:TypeId} {fz:Nat×Nat} (hb:w.heap[b]? =some (.cells c t fz)) (hf:tB z fz c.size) {j:Nat} (hj:j<c.size):w.frozen? ⟨b,j,none⟩=false:=by
 obtain ⟨lo,hi⟩:=fz
 simp only [World.frozen?,hb,Bool.and_eq_false_iff,decide_eq_false_iff_not]
 rcases hf with h|h
 · simp only at h;omega
 · simp only at h;omega
theorem Row.there {z:Nat} {w:World} {b:Nat} {c:Array Value} {t:TypeId} {fz:Nat×Nat} (hb:w.heap[b]? =some (.cells c t fz)) (hf:tB z fz c.size) {o n:Nat} (hn:o+n<=c.size):w.there b o n:=by
 intro j hj
 refine ⟨?_,Fz.free hb hf (by omega)⟩
 rw [o4]
 simp only [bF,hb]
 simp [show o+j<c.size by omega]
theorem bQ.write {E:Env} {st:St} {w:World} (h:bQ E st w) {k:Key} {o0:Obj} (hk:st.get k=some o0) {cells:Array Value} {t:TypeId} {fz:Nat×Nat}
 (hb:w.heap[(E.μ k).bI]? =some (.cells cells t fz)) (aB8:(E.μ k).fin<=cells.size) {pos:Nat} {xs:List Value} (h1:(E.μ k).base<=pos) (h2:pos+xs.length<=(E.μ k).fin) (o':Obj)
 (ho':Holds (E.at k) (w.setCells (E.μ k).bI pos xs) (E.μ k) o'):
 bQ E (st.set k o') (w.setCells (E.μ k).bI pos xs)/\Ext E st w E (st.set k o') (w.setCells (E.μ k).bI pos xs):=by
 obtain ⟨r1,r2,r3,r4⟩:=lO (E.μ k).bI xs pos w
 refine h.set hk o' r1 (fun b dX=>jV _ dX _ _ _) r2 r3 r4 ?_ ho'
 intro j x hx
 have hI:=h.jR _ _ _ hx
 simp only [bF,hb,iP _ xs pos w hb] at hI ⊢
 rw [lG _ _ _ _ (by omega)]
 by_cases qM:pos<=j/\j<pos+xs.length
 · have:=h.own k ⟨o0,hk⟩ j (by omega) (by omega)
   rw [this] at hx;cases hx
 · rw [if_neg qM];exact hI
theorem fV.written {z:Nat} {E:Env} {w:World} {L:Loc} {cs:List V} {cells:Array Value} {t:TypeId} {fz:Nat×Nat} (hb:w.heap[L.bI]? =some (.cells cells t fz)) (hf:tB z fz cells.size)
 (h1:L.base+cs.length<=L.fin) (h2:L.fin<=cells.size) (h3:∀ j v,cs[j]? =some v->∃ x,cells[L.base+j]? =some x/\Rel E v x/\x.oneCell'=true)
 {off:Nat} {vs:List V} {xs:List Value} (hr:dY E vs xs.toArray) (ho:∀ x∈xs,x.oneCell'=true) (qM:off+vs.length<=cs.length):
 fV z E (w.setCells L.bI (L.base+off) xs) L (cS cs off vs):=by
 have hl:xs.length=vs.length:=by simpa using hr.1
 refine ⟨_,t,fz,iP _ xs _ w hb,by rw [gR];exact hf,by rw [gS];exact h1,by rw [gR];exact h2,?_⟩
 intro j v hj
 rw [gT _ _ _ _ qM] at hj
 rw [lG _ _ _ _ (by omega)]
 by_cases hc:off<=j/\j<off+vs.length
 · rw [if_pos hc] at hj
   rw [if_pos (by omega)]
   obtain ⟨x,hx,AY⟩:=hr.get hj
   rw [show L.base+j - (L.base+off)=j - off by omega]
   exact ⟨x,by simpa using hx,AY,ho x (List.mem_of_getElem? (i:=j - off) (by simpa using hx))⟩
 · rw [if_neg hc] at hj
   rw [if_neg (by omega)]
   exact h3 j v hj
section
variable {P:Program} {o:Oper} {a:Act} {E:Env} {N:Nat} {st:St} {w:World} {fr:Fr} {next:Act->World->Prop} {Q:Exit->Act->World->Prop} {K:R->Prop}
theorem bQ.cs {k:Key} {c:List V} (hs:bQ E st w) (hk:st.get k=some (.cs c)):fV 1 (E.at k) w (E.μ k) c:=(hs.obj k _ hk).2
theorem bQ.Ii {k:Key} {c:List V} (hs:bQ E st w) (hk:st.get k=some (.cs c)):(E.μ k).base=0:=(hs.obj k _ hk).1
theorem o6 {sz:Nat}:∀ {es:List (List V)},(∀ e∈es,e.length=sz)->∀ {ix j:Nat} {e:List V},es[ix]? =some e->j<sz->es.flatten[ix*sz+j]? =e[j]? :=by
 intro es
 induction es with
 |nil=>intro _ ix j e h;simp at h
 |cons d r ih=>
  intro hl ix j e h hj
  have hd:d.length=sz:=hl d (.head _)
  rw [List.flatten_cons]
  cases ix with
  |zero=>
   simp at h
   subst h
   rw [Nat.zero_mul,Nat.zero_add,List.getElem?_append_left (by omega)]
  |succ ix=>
   rw [List.getElem?_append_right (by rw [hd,Nat.succ_mul];omega),hd]
   rw [show (ix+1)*sz+j - sz=ix*sz+j by rw [Nat.succ_mul];omega]
   exact ih (fun e he=>hl e (.tail _ he)) (by simpa using h) hj
theorem cF {sz:Nat}:∀ {es:List (List V)},(∀ e∈es,e.length=sz)->es.flatten.length=es.length*sz:=by
 intro es
 induction es with
 |nil=>intro _;simp
 |cons d r ih=>
  intro hl
  rw [List.flatten_cons,List.length_append,ih (fun e he=>hl e (.tail _ he)),hl d (.head _),List.length_cons,Nat.succ_mul]
  omega
theorem lH {sz:Nat}:∀ {es:List (List V)},(∀ e∈es,e.length=sz)->∀ n,(es.take n).flatten=es.flatten.take (n*sz):=by
 intro es
 induction es with
 |nil=>intro _ n;simp
 |cons d r ih=>
  intro hl n
  have hd:d.length=sz:=hl d (.head _)
  cases n with
  |zero=>simp
  |succ n=>
   rw [List.take_succ_cons,List.flatten_cons,List.flatten_cons,ih (fun e he=>hl e (.tail _ he)),List.take_append,hd,Nat.succ_mul]
   rw [List.take_of_length_le (l:=d) (by omega),show n*sz+sz - sz=n*sz by omega]
theorem lI {sz:Nat}:∀ {es:List (List V)},(∀ e∈es,e.length=sz)->∀ n,(es.drop n).flatten=es.flatten.drop (n*sz):=by
 intro es
 induction es with
 |nil=>intro _ n;simp
 |cons d r ih=>
  intro hl n
  have hd:d.length=sz:=hl d (.head _)
  cases n with
  |zero=>simp
  |succ n=>
   rw [List.drop_succ_cons,List.flatten_cons,ih (fun e he=>hl e (.tail _ he)),List.drop_append,hd,Nat.succ_mul]
   have h0:d.drop (n*sz+sz)=[]:=List.drop_eq_nil_of_le (by omega)
   rw [h0,List.nil_append,show n*sz+sz - sz=n*sz by omega]
theorem elem_at {w:World} {b base sz:Nat} {es:List (List V)} (hl:∀ e∈es,e.length=sz) (h:fI E w b base es.flatten) {ix:Nat} {e:List V} (he:es[ix]? =some e):
 fI E w b (base+ix*sz) e:=by
 intro j v hj
 have OE:j<sz:=by
  have:=(List.getElem?_eq_some_iff.1 hj).1
  rw [hl e (List.mem_of_getElem? he)] at this;exact this
 rw [Nat.add_assoc]
 exact h _ v (by rw [o6 hl he OE];exact hj)
theorem Q2 {t:TypeId} {x:Operand} {d:bH} {n:Option Nat} (ho:o.op=.load t x) (hx:cZ x d=true) (hn:tO P t n=true) (hs:bQ E st w) (hf:aS E N fr a)
 (hw:(step (.load n d) fr st).wp (aE P) K) (hc:eX E st w o a next K):o.wp P a w next Q:=by
 have h1:=aQ hx hf
 have fin:∀ {b c:Nat} {cs:List V} {off:Nat} {v:V},a.eval x=.pointer (some ⟨b,c+off,none⟩)->fI E w b c cs->dF cs off n=some v->K (v,st)->o.wp P a w next Q:=by
  intro b c cs off v hp vW hv hk
  obtain ⟨z,BF,Cy⟩:=o5 (P:=P) hn vW hv
  exact aP (x:=z) (by simp [execOp,ho,hp,Instr.loadAt,Instr.sureAddr,BF]) (hc.same hs hk Cy)
 simp only [step] at hw
 split at hw
 · rename_i k off e1
   rw [e1] at h1
   generalize hy:a.eval x=y at h1
   cases h1 with
   |deep hd=>cases hd
   |p _ _ hk=>
    obtain ⟨ob,eQ,hw⟩:=hw
    dsimp only at hw
    split at hw
    · rename_i c
      unfold T.opt at hw
      split at hw
      · rename_i v hv
        exact fin hy ((hs.cs eQ).sG.mono (E.Aa k)) hv hw
      · exact hw.elim
    · exact hw.elim
 · rename_i k sz ix off e1
   rw [e1] at h1
   generalize hy:a.eval x=y at h1
   cases h1 with
   |deep hd=>cases hd
   |pa _ _ _ _ hk=>
    obtain ⟨ob,eQ,hw⟩:=hw
    dsimp only at hw
    split at hw
    · rename_i eD es
      split at hw
      · rename_i hz
        subst hz
        obtain ⟨e,he,hw⟩:=hw
        dsimp only at hw
        unfold T.opt at hw
        split at hw
        · rename_i v hv
          have gU:=hs.obj k _ eQ
          have:=elem_at gU.1 (gU.2.sG.mono (E.Aa k)) he
          exact fin hy this hv hw
        · exact hw.elim
      · exact hw.elim
    · exact hw.elim
 · rename_i cs off e1
   rw [e1] at h1
   generalize hy:a.eval x=y at h1
   cases h1 with
   |deep hd=>cases hd
   |pc _ _ bI c0 val hv hr=>
    unfold T.opt at hw
    split at hw
    · rename_i v hv'
      exact fin hy (hs.UC hv hr) hv' hw
    · exact hw.elim
 · exact hw.elim
end
open Go
section
variable {P:Program} {o:Oper} {a:Act} {E:Env} {N:Nat} {st:St} {w:World} {fr:Fr} {next:Act->World->Prop} {Q:Exit->Act->World->Prop} {K:R->Prop}
theorem A4 {v:V} {x:Value} (hs:v.sto=true) (hr:Rel E v x):dY E v.cells x.cells/\∀ y∈x.cells.toList,y.oneCell'=true:=by
 cases hr with
 |agg cs b hb h1 hrb=>
  refine ⟨⟨hb,hrb⟩,fun y hy=>?_⟩
  obtain ⟨j,hj⟩:=List.getElem?_of_mem hy
  have OE:b.toList[j]? =some y:=hj
  rw [Array.getElem?_toList] at OE
  exact h1 j y OE
 |bL=>cases hs
 |bC=>cases hs
 |pc=>cases hs
 |deep hd=>
  have h1:=hd.one
  have hc:x.cells=#[x]:=by cases x<;>first|rfl|(simp [Value.oneCell'] at h1)
  have hv:v.cells=[v]:=by cases hd<;>rfl
  rw [hc,hv]
  refine ⟨⟨rfl,fun j u y hj hy=>?_⟩,fun y hy=>by simp at hy;subst hy;exact h1⟩
  cases j with
  |zero=>simp at hj hy;subst hj;subst hy;exact .deep hd
  |succ j=>simp at hj
 |fM=>exact ⟨⟨rfl,fun j u y hj hy=>by cases j<;>simp [V.cells,Value.cells] at hj hy;subst hj;subst hy;exact .fM⟩,fun y hy=>by simp [Value.cells] at hy;subst hy;rfl⟩
 |p k off hk=>exact ⟨⟨rfl,fun j u y hj hy=>by cases j<;>simp [V.cells,Value.cells] at hj hy;subst hj;subst hy;exact .p _ _ hk⟩,fun y hy=>by simp [Value.cells] at hy;subst hy;rfl⟩
 |pa k sz ix off hk=>exact ⟨⟨rfl,fun j u y hj hy=>by cases j<;>simp [V.cells,Value.cells] at hj hy;subst hj;subst hy;exact .pa _ _ _ _ hk⟩,fun y hy=>by simp [Value.cells] at hy;subst hy;rfl⟩
 |FU k sz es a cap hk hd hb' lB=>exact ⟨⟨rfl,fun j u y hj hy=>by cases j<;>simp [V.cells,Value.cells] at hj hy;subst hj;subst hy;exact .FU _ _ _ _ _ hk hd hb' lB⟩,fun y hy=>by simp [Value.cells] at hy;subst hy;rfl⟩
 |ms k sz st len a cap hk h1 h2 h4 h3=>exact ⟨⟨rfl,fun j u y hj hy=>by cases j<;>simp [V.cells,Value.cells] at hj hy;subst hj;subst hy;exact .ms _ _ _ _ _ _ hk h1 h2 h4 h3⟩,fun y hy=>by simp [Value.cells] at hy;subst hy;rfl⟩
 |eG=>exact ⟨⟨rfl,fun j u y hj hy=>by cases j<;>simp [V.cells,Value.cells] at hj hy;subst hj;subst hy;exact .eG⟩,fun y hy=>by simp [Value.cells] at hy;subst hy;rfl⟩
 |m k hk=>exact ⟨⟨rfl,fun j u y hj hy=>by cases j<;>simp [V.cells,Value.cells] at hj hy;subst hj;subst hy;exact .m _ hk⟩,fun y hy=>by simp [Value.cells] at hy;subst hy;rfl⟩
 |fn f p q p' q' h1 h2 h3 h4=>exact ⟨⟨rfl,fun j u y hj hy=>by cases j<;>simp [V.cells,Value.cells] at hj hy;subst hj;subst hy;exact .fn _ _ _ _ _ h1 h2 h3 h4⟩,fun y hy=>by simp [Value.cells] at hy;subst hy;rfl⟩
 |fN=>exact ⟨⟨rfl,fun j u y hj hy=>by cases j<;>simp [V.cells,Value.cells] at hj hy;subst hj;subst hy;exact .fN⟩,fun y hy=>by simp [Value.cells] at hy;subst hy;rfl⟩
def Env.Kd (E:Env) (g:Bool):Env:=
 match g with
 |true=>E.cut
 |false=>E
theorem tP {g:Bool} {l l':List V} {xs:Array Value} (h:rH g l=some l') (hr:dY E l xs):dY (E.Kd g) l' xs:=by
 cases g with
 |true=>exact CT h hr
 |false=>simp only [rH,Option.some.injEq] at h;subst h;exact hr
theorem Env.tQ (E:Env) (k:Key):E.at k=E.Kd k.rD:=by cases k<;>rfl
theorem B4 {t:TypeId} {x:Value} {b c:Nat} (hi:(P.info? t).map (·.size)=some x.cells.size) (ht:w.there b c x.cells.size) (h1:∀ y∈x.cells.toList,y.oneCell'=true):
 (storeVar t ⟨b,c,none⟩ x).run P w=.ok () (w.setCells b c x.cells.toList):=by
 have:=run_storeCells_cells (P:=P) b c x.cells.toList 0 w (fun j hj=>by simpa using (ht j (by simpa using hj)).1) (fun j hj=>by simpa using (ht j (by simpa using hj)).2) h1
 cases hq:P.info? t with
 |none=>simp [hq] at hi
 |some i=>
  have hs:x.cells.size=i.size:=by simp [hq] at hi;omega
  simp only [Nat.add_zero] at this
  simp [storeVar,sizeOf,typeInfo,hq,hs,this]
theorem Kt {sz:Nat}:∀ {es:List (List V)},(∀ e∈es,e.length=sz)->∀ {ix:Nat} {e:List V},es[ix]? =some e->∀ (off:Nat) (vs:List V),off+vs.length<=sz->
 (es.set ix (cS e off vs)).flatten=cS es.flatten (ix*sz+off) vs:=by
 intro es hl ix e he off vs qM
 have dZ:ix<es.length:=(List.getElem?_eq_some_iff.1 he).1
 have hle:e.length=sz:=hl e (List.mem_of_getElem? he)
 have yF:∀ d∈es.set ix (cS e off vs),d.length=sz:=by
  intro d hd
  rcases List.mem_or_eq_of_mem_set hd with h|h
  · exact hl d h
  · rw [h,gS];exact hle
 have hmul:(ix+1)*sz<=es.length*sz:=Nat.mul_le_mul_right _ dZ
 rw [Nat.succ_mul] at hmul
 apply List.ext_getElem?
 intro j
 have anE:=cF yF
 have ag7:=cF hl
 rw [gT _ _ _ _ (by rw [ag7];omega)]
 by_cases hj:j<es.length*sz
 · have jN:0<sz:=by
    rcases Nat.eq_zero_or_pos sz with h|h
    · subst h;simp at hj
    · exact h
   have hd:j=j/sz*sz+j%sz:=by rw [Nat.mul_comm];exact (Nat.div_add_mod j sz).symm
   have hm:j%sz<sz:=Nat.mod_lt _ jN
   have hq:j/sz<es.length:=(Nat.div_lt_iff_lt_mul jN).2 hj
   generalize j/sz=q at hd hq
   generalize j%sz=m at hd hm
   subst hd
   obtain ⟨d,hdq⟩:∃ d,es[q]? =some d:=⟨es[q],by simp [hq]⟩
   rw [o6 hl hdq hm]
   by_cases hqi:q=ix
   · subst hqi
     rw [he] at hdq
     cases hdq
     rw [o6 yF (e:=cS e off vs) (by simp [hq]) hm,gT _ _ _ _ (by omega)]
     by_cases hc:off<=m/\m<off+vs.length
     · rw [if_pos hc,if_pos (by omega)]
       congr 1;omega
     · rw [if_neg hc,if_neg (by omega)]
   · rw [o6 yF (e:=d) (by rw [List.getElem?_set_ne (fun e=>hqi e.symm)];exact hdq) hm]
     rw [if_neg]
     rintro ⟨h1,h2⟩
     have:q=ix:=by
      rcases Nat.lt_trichotomy q ix with h|h|h
      · have:(q+1)*sz<=ix*sz:=Nat.mul_le_mul_right _ h
        rw [Nat.succ_mul] at this;omega
      · exact h
      · have:(ix+1)*sz<=q*sz:=Nat.mul_le_mul_right _ h
        rw [Nat.succ_mul] at this;omega
     exact hqi this
 · rw [List.getElem?_eq_none (by rw [anE];simp;omega),if_neg (by omega),List.getElem?_eq_none (by rw [ag7];omega)]
theorem OF {t:TypeId} {x y:Operand} {d e:bH} {n:Nat} (ho:o.op=.store t x y) (hx:cZ x d=true) (hy:cZ y e=true) (hn:(P.info? t).map (·.size)=some n)
 (hs:bQ E st w) (hf:aS E N fr a) (hw:(step (.store n d e) fr st).wp (aE P) K) (hc:eX E st w o a next K):o.wp P a w next Q:=by
 have h1:=aQ hx hf
 have h2:=aQ hy hf
 simp only [step] at hw
 split at hw
 case isFalse=>exact hw.elim
 rename_i CA
 obtain ⟨aiQ,hlen⟩:=CA
 obtain ⟨sH,jW⟩:=A4 aiQ h2
 have jN:(a.eval y).cells.size=n:=by rw [sH.1];exact hlen
 have dO:∀ {b c:Nat},a.eval x=.pointer (some ⟨b,c,none⟩)->w.there b c (a.eval y).cells.size->(execOp a.eval o).run P w=.ok .skip (w.setCells b c (a.eval y).cells.toList):=by
  intro b c hp ht
  have:=B4 (P:=P) (t:=t) (x:=a.eval y) (by rw [hn,jN]) ht jW
  simp [execOp,ho,hp,Instr.storeAt,Instr.sureAddr,this]
 have UD:Rel E (.bC []) undef:=.bC _ _ rfl (fun j v x hj=>by simp at hj)
 split at hw
 · rename_i k off e1
   rw [e1] at h1
   generalize hp:a.eval x=z at h1
   cases h1 with
   |deep hd=>cases hd
   |p _ _ hk=>
    unfold T.opt at hw
    split at hw
    case h_2=>exact hw.elim
    rename_i vs hvs
    obtain ⟨ob,eQ,hw⟩:=hw
    dsimp only at hw
    split at hw
    case h_2=>exact hw.elim
    rename_i c
    split at hw
    case h_2=>exact hw.elim
    rename_i B5
    have B5:off+vs.length<=c.length:=by simpa [qU] using B5
    have Ag:=tP hvs sH
    rw [<-Env.tQ] at Ag
    obtain ⟨cells,ty,fz,r1,r2,r3,r4,r5⟩:=hs.cs eQ
    have hvl:(a.eval y).cells.size=vs.length:=Ag.1
    have gU:=fV.written r1 r2 r3 r4 r5 (vs:=vs) (xs:=(a.eval y).cells.toList) Ag jW B5
    obtain ⟨s1,s2⟩:=hs.write eQ r1 r4 (pos:=(E.μ k).base+off) (xs:=(a.eval y).cells.toList) (by omega) (by simp [hvl];omega) (.cs (cS c off vs)) ⟨hs.Ii eQ,gU⟩
    exact CV (dO hp (Row.there r1 r2 (by rw [hvl];omega))) (hc _ _ _ _ _ hw s1 s2 UD)
 · rename_i k sz ix off e1
   rw [e1] at h1
   generalize hp:a.eval x=z at h1
   cases h1 with
   |deep hd=>cases hd
   |pa _ _ _ _ hk=>
    unfold T.opt at hw
    split at hw
    case h_2=>exact hw.elim
    rename_i vs hvs
    obtain ⟨ob,eQ,hw⟩:=hw
    dsimp only at hw
    split at hw
    case h_2=>exact hw.elim
    rename_i eD es
    split at hw
    case isFalse=>exact hw.elim
    rename_i hz
    subst hz
    obtain ⟨el,Ij,hw⟩:=hw
    dsimp only at hw
    split at hw
    case h_2=>exact hw.elim
    rename_i B5
    have B5:off+vs.length<=el.length:=by simpa [qU] using B5
    have Ag:=tP hvs sH
    rw [<-Env.tQ] at Ag
    have Q3:=hs.obj k _ eQ
    obtain ⟨hl,anF⟩:=Q3
    obtain ⟨cells,ty,fz,r1,r2,r3,r4,r5⟩:=anF
    have hvl:(a.eval y).cells.size=vs.length:=Ag.1
    have aw2:el.length=eD:=hl el (List.mem_of_getElem? Ij)
    have dZ:ix<es.length:=(List.getElem?_eq_some_iff.1 Ij).1
    have hmul:(ix+1)*eD<=es.length*eD:=Nat.mul_le_mul_right _ dZ
    rw [Nat.succ_mul] at hmul
    have CW:=cF hl
    have Ik:=Kt hl Ij off vs (by omega)
    have gU:=fV.written r1 r2 r3 r4 r5 (off:=ix*eD+off) (vs:=vs) (xs:=(a.eval y).cells.toList) Ag jW (by omega)
    rw [<-Ik,<-Nat.add_assoc] at gU
    have yF:∀ d∈es.set ix (cS el off vs),d.length=eD:=by
     intro d hd
     rcases List.mem_or_eq_of_mem_set hd with h|h
     · exact hl d h
     · rw [h,gS];exact aw2
    obtain ⟨s1,s2⟩:=hs.write eQ r1 r4 (pos:=(E.μ k).base+ix*eD+off) (xs:=(a.eval y).cells.toList) (by omega) (by simp [hvl];omega) (.arr eD (es.set ix (cS el off vs))) ⟨yF,gU⟩
    exact CV (dO hp (Row.there r1 r2 (by rw [hvl];omega))) (hc _ _ _ _ _ hw s1 s2 UD)
 · exact hw.elim
end
end Go.Eng
