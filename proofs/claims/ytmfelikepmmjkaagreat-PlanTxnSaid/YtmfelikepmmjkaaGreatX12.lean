/-
The abstract machine, once more, in a form that the kernel carries out with less work; it is the same.
-/
import Derived.Test.YtmfelikepmmjkaaGreatX09
set_option linter.unusedVariables false
set_option linter.unusedSimpArgs false
namespace Go.Eng
open Go
noncomputable def J7 (fr:Fr):Nat->V:=List.rec (motive:=fun _=>Nat->V) (fun _=>.gD) (fun q _ ih n=>match Nat.beq q.1 n with
 |true=>q.2
 |false=>ih n) fr
theorem AZ:∀ (fr:Fr) (n:Nat),J7 fr n=fr.get n
 |[],n=>rfl
 |(k,v)::r,n=>by
  show (match Nat.beq k n with|true=>v|false=>J7 r n)=if k=n then v else Fr.get r n
  rw [AZ r n]
  by_cases h:k=n
  · subst h;simp
  · have:Nat.beq k n=false:=by
     cases hb:Nat.beq k n with
     |true=>exact absurd (Nat.eq_of_beq_eq_true hb) h
     |false=>rfl
    rw [this,if_neg h]
noncomputable def jW (fr:Fr) (x:bL):V:=bL.rec (motive:=fun _=>Fr->V) (fun n fr=>J7 fr n) (fun v _=>v) x fr
theorem Aa (fr:Fr) (x:bL):jW fr x=x.ev fr:=by
 cases x with
 |t n=>exact AZ _ _
 |c v=>rfl
noncomputable def Pk (fr:Fr) (l:List bL):List V:=List.rec (motive:=fun _=>List V) [] (fun x _ ih=>jW fr x::ih) l
theorem Iu (fr:Fr):∀ l:List bL,Pk fr l=bL.HV fr l
 |[]=>rfl
 |x::r=>by
  show jW fr x::Pk fr r=x.ev fr::bL.HV fr r
  rw [Aa,Iu fr r]
noncomputable def EF (fr:Fr) (x:Option bL):Option V:=match x with
 |none=>none
 |some x=>some (jW fr x)
theorem NP (fr:Fr) (x:Option bL):EF fr x=bL.Dq fr x:=by
 cases x with
 |none=>rfl
 |some x=>simp only [EF,bL.Dq,Aa]
noncomputable def XS (fr:Fr) (l:List (Nat×Nat×bL)):List (Nat×Nat×V):=List.rec (motive:=fun _=>List (Nat×Nat×V)) [] (fun q _ ih=>(q.1,q.2.1,jW fr q.2.2)::ih) l
theorem NQ (fr:Fr):∀ l,XS fr l=eE fr l
 |[]=>rfl
 |(a,b,x)::r=>by
  show (a,b,jW fr x)::XS fr r=(a,b,x.ev fr)::eE fr r
  rw [Aa,NQ fr r]
noncomputable def XT (fr:Fr) (l:List (Nat×bL)):List (Nat×V):=List.rec (motive:=fun _=>List (Nat×V)) [] (fun q _ ih=>(q.1,jW fr q.2)::ih) l
theorem NR (fr:Fr):∀ l,XT fr l=gM fr l
 |[]=>rfl
 |(a,x)::r=>by
  show (a,jW fr x)::XT fr r=(a,x.ev fr)::gM fr r
  rw [Aa,NR fr r]
noncomputable def Iv {α:Type} (l:List α):Nat->Option α:=List.rec (motive:=fun _=>Nat->Option α) (fun _=>none) (fun a _ ih n=>Nat.rec (motive:=fun _=>Option α) (some a) (fun m _=>ih m) n) l
theorem A0 {α:Type}:∀ (l:List α) (n:Nat),Iv l n=l[n]?
 |[],n=>by simp;rfl
 |a::r,0=>rfl
 |a::r,n+1=>by
  rw [List.getElem?_cons_succ,<-A0 r n]
  rfl
noncomputable def RX (l:List V):Nat->List V:=List.rec (motive:=fun _=>Nat->List V) (fun _=>[]) (fun a r ih n=>Nat.rec (motive:=fun _=>List V) (a::r) (fun m _=>ih m) n) l
theorem J8:∀ (l:List V) (n:Nat),RX l n=l.drop n
 |[],n=>by simp;rfl
 |a::r,0=>rfl
 |a::r,n+1=>J8 r n
noncomputable def NS (n:Nat):List V->Option (List V):=Nat.rec (motive:=fun _=>List V->Option (List V)) (fun _=>some []) (fun _ ih l=>List.rec (motive:=fun _=>Option (List V)) none (fun a r _=>Option.rec (motive:=fun _=>Option (List V)) none (fun x=>some (a::x)) (ih r)) l) n
theorem J9:∀ (n:Nat) (l:List V),NS n l=if n<=l.length then some (l.take n) else none
 |0,l=>by simp;rfl
 |n+1,[]=>by simp;rfl
 |n+1,a::r=>by
  show Option.rec (motive:=fun _=>Option (List V)) none (fun x=>some (a::x)) (NS n r)=_
  rw [J9 n r]
  by_cases h:n<=r.length
  · rw [if_pos h,if_pos (by simpa using h)];rfl
  · rw [if_neg h,if_neg (by simpa using h)]
noncomputable def ZB (cs:List V) (off:Nat) (n:Option Nat):Option V:=
 Option.rec (motive:=fun _=>Option V) (Iv cs off) (fun n=>Nat.rec (motive:=fun _=>Option V) (dS cs off (some 0)) (fun m _=>Option.rec (motive:=fun _=>Option V) none (fun x=>some (.agg x)) (NS (m+1) (RX cs off))) n) n
theorem RY (cs:List V) (off:Nat) (n:Option Nat):ZB cs off n=dS cs off n:=by
 cases n with
 |none=>exact A0 cs off
 |some n=>
  cases n with
  |zero=>rfl
  |succ m=>
   show Option.rec (motive:=fun _=>Option V) none (fun x=>some (.agg x)) (NS (m+1) (RX cs off))=_
   rw [J9,J8]
   simp only [dS,List.length_drop]
   by_cases h:off+(m+1)<=cs.length
   · rw [if_pos h,if_pos (by omega)]
   · rw [if_neg h,if_neg (by omega)]
noncomputable def Iw (l:List V):Nat->List V->List V:=List.rec (motive:=fun _=>Nat->List V->List V) (fun _ _=>[]) (fun a r ih n vs=>Nat.rec (motive:=fun _=>List V) (List.rec (motive:=fun _=>List V) (a::r) (fun v q _=>v::ih 0 q) vs) (fun m _=>a::ih m vs) n) l
theorem Ka:∀ (l:List V) (n:Nat),Iw l n []=l
 |[],_=>rfl
 |a::r,0=>rfl
 |a::r,n+1=>by
  show a::Iw r n []=a::r
  rw [Ka r n]
theorem GY (v:V) (q:List V):∀ (l:List V) (n:Nat),Iw l n (v::q)=Iw (l.set n v) (n+1) q
 |[],_=>rfl
 |a::r,0=>rfl
 |a::r,n+1=>by
  show a::Iw r n (v::q)=a::Iw (r.set n v) (n+1) q
  rw [GY v q r n]
theorem Ix:∀ (vs l:List V) (n:Nat),Iw l n vs=dT l n vs
 |[],l,n=>Ka l n
 |v::q,l,n=>by rw [GY,Ix q];rfl
noncomputable def RZ (cs:List V) (off:Nat) (vs:List V):Bool:=List.rec (motive:=fun _=>Bool) (pV cs off []) (fun _ q _=>Option.rec (motive:=fun _=>Bool) false (fun _=>true) (Iv cs (off+q.length))) vs
theorem Kb (cs:List V) (off:Nat) (vs:List V):RZ cs off vs=pV cs off vs:=by
 cases vs with
 |nil=>rfl
 |cons v q=>
  show Option.rec (motive:=fun _=>Bool) false (fun _=>true) (Iv cs (off+q.length))=decide (off+(q.length+1)<=cs.length)
  rw [A0]
  by_cases h:off+q.length<cs.length
  · rw [List.getElem?_eq_getElem h,decide_eq_true (by omega)]
  · rw [List.getElem?_eq_none (by omega),decide_eq_false (by omega)]
noncomputable def uB {α:Type} (l:List α):Nat:=List.rec (motive:=fun _=>Nat) 0 (fun _ _ ih=>Nat.succ ih) l
theorem DF {α:Type}:∀ l:List α,uB l=l.length
 |[]=>rfl
 |a::r=>by
  show Nat.succ (uB r)=r.length+1
  rw [DF r]
noncomputable def XU {α:Type} (l m:List α):List α:=List.rec (motive:=fun _=>List α) m (fun a _ ih=>a::ih) l
theorem NT {α:Type} (m:List α):∀ l:List α,XU l m=l++m
 |[]=>rfl
 |a::r=>by
  show a::XU r m=a::(r++m)
  rw [NT m r]
noncomputable def findF (l:List (Nat×Obj)) (n:Nat):Option Obj:=List.rec (motive:=fun _=>Option Obj) none (fun q _ ih=>Bool.rec (motive:=fun _=>Option Obj) ih (some q.2) (Nat.beq q.1 n)) l
theorem R3 {n m:Nat} {α:Type} (x y:α):Bool.rec (motive:=fun _=>α) y x (Nat.beq n m)=if n=m then x else y:=by
 by_cases h:n=m
 · subst h;simp
 · have:Nat.beq n m=false:=by
    cases hb:Nat.beq n m with
    |true=>exact absurd (Nat.eq_of_beq_eq_true hb) h
    |false=>rfl
   rw [this,if_neg h]
theorem EG (n:Nat):∀ l,findF l n=aA.find l n
 |[]=>rfl
 |(k,o)::r=>by
  show Bool.rec (motive:=fun _=>Option Obj) (findF r n) (some o) (Nat.beq k n)=_
  rw [R3,EG n r]
  rfl
noncomputable def U5 (l:List (Nat×Obj)) (n:Nat) (x:Obj):List (Nat×Obj):=List.rec (motive:=fun _=>List (Nat×Obj)) [] (fun q r ih=>Bool.rec (motive:=fun _=>List (Nat×Obj)) (q::ih) ((q.1,x)::r) (Nat.beq q.1 n)) l
theorem Iy (n:Nat) (x:Obj):∀ l,U5 l n x=aA.CA l n x
 |[]=>rfl
 |(k,o)::r=>by
  show Bool.rec (motive:=fun _=>List (Nat×Obj)) ((k,o)::U5 r n x) ((k,x)::r) (Nat.beq k n)=_
  rw [R3,Iy n x r]
  rfl
noncomputable def yW (st:St) (k:Key):Option Obj:=Key.rec (motive:=fun _=>Option Obj) (fun n=>findF st.g.tP n) (fun n=>findF st.l.tP n) k
theorem Iz (st:St) (k:Key):yW st k=st.get k:=by
 cases k with
 |g n=>exact EG _ _
 |l n=>exact EG _ _
noncomputable def Gp (st:St) (k:Key) (o:Obj):St:=Key.rec (motive:=fun _=>St) (fun n=>⟨⟨st.g.next,U5 st.g.tP n o⟩,st.l⟩) (fun n=>⟨st.g,⟨st.l.next,U5 st.l.tP n o⟩⟩) k
theorem IA (st:St) (k:Key) (o:Obj):Gp st k o=st.set k o:=by
 cases k with
 |g n=>simp only [Gp,Iy];rfl
 |l n=>simp only [Gp,Iy];rfl
noncomputable def BZ (m:lQ) (sz bytes:Nat) (st:St) (s:V) (new:List (List V)):T R:=
 match s with
 |.aS=>match new with
  |[]=>.ret (.aS,st)
  |e::r=>.jL (bT (uB (e::r)) bytes) (kW m sz (e::r) st)
 |.sl tok eD es=>if eD=sz then match new with
   |[]=>.ret (.sl tok sz es,st)
   |e::r=>.jL (bT (uB es+(uB (e::r))) bytes)<|.tQ (eC (e::r)) fun ds=>match tok with
    |some k=>.obj (yW st k) fun o=>match o with
     |.spare=>.ret (.sl (some ((st.remove k).aO k.sC)) sz (XU es ds),(st.remove k).push k.sC .spare)
     |_=>.fail
    |none=>.fail
  else .fail
 |.ms k eD off len=>if eD=sz then match new with
   |[]=>.ret (.ms k sz off len,st)
   |e::r=>.jL (bT (len+(uB (e::r))) bytes)<|.tQ (iA k.sC (e::r)) fun ds=>.obj (yW st k) fun o=>match o with
    |.arr eW es=>if eW=sz then
      .jL (decide (off+len<=uB es))<|.ite (decide (off+len+uB ds<=uB es))
       (.ret (.ms k sz off (len+uB ds),Gp st k (.arr sz (es.take (off+len)++ds++es.drop (off+len+uB ds)))))
       (.ret (.ms ((st.remove k).aO k.sC) sz 0 (len+uB ds),(st.remove k).push k.sC (.arr sz ((es.take (off+len)).drop off++ds))))
     else .fail
    |_=>.fail
  else .fail
 |_=>.fail
theorem IB (m:lQ) (sz bytes:Nat) (st:St) (s:V) (new:List (List V)):BZ m sz bytes st s new=pW m sz bytes st s new:=by
 unfold BZ pW
 simp only [IA,Iz,DF,NT]
 rfl
noncomputable def abW (x:bL) (fr:Fr) (st:St):T R:=.ret (jW fr x,st)
noncomputable def Ww (x:bL) (fr:Fr) (st:St):T R:=.ret (jW fr x,st)
noncomputable def Mr (c:bL) (a:bL) (d:bL) (fr:Fr) (st:St):T R:=match jW fr c with
 |.b x=>.ite x (.ret (jW fr a,st)) (.ret (jW fr d,st))
 |_=>.fail
noncomputable def U6 (g:Bool) (zero:List V) (_fr:Fr) (st:St):T R:=.ret (.p (st.aO g) 0,st.push g (.cs zero))
noncomputable def R4 (g:Bool) (x:bL) (fr:Fr) (st:St):T R:=match (jW fr x).V7 with
 |true=>T.opt (tS g (jW fr x).cells) fun c=>.ret (.p (st.aO g) 0,st.push g (.cs c))
 |false=>.fail
noncomputable def Wx (zero:List V) (parts:List (Nat×Nat×bL)) (fr:Fr) (st:St):T R:=T.opt (lR zero (XS fr parts)) fun cs=>.ret (.agg cs,st)
noncomputable def Wy (m:lQ) (sz:Nat) (len:Nat) (zero:List V) (parts:List (Nat×bL)) (fr:Fr) (st:St):T R:=T.opt (pP (List.replicate len zero) sz (XT fr parts)) fun es=>kW m sz es st
noncomputable def Ms (n:Option Nat) (a:bL) (fr:Fr) (st:St):T R:=match jW fr a with
 |.p k off=>.obj (yW st k) fun o=>match o with
  |.cs c=>T.opt (ZB c off n) fun v=>.ret (v,st)
  |_=>.fail
 |.pa k sz ix off=>.obj (yW st k) fun o=>match o with
  |.arr eD es=>if eD=sz then .elem (Iv es ix) fun e=>T.opt (ZB e off n) fun v=>.ret (v,st) else .fail
  |_=>.fail
 |.pc cs off=>T.opt (ZB cs off n) fun v=>.ret (v,st)
 |_=>.fail
noncomputable def IC (n:Nat) (a:bL) (x:bL) (fr:Fr) (st:St):T R:=if (jW fr x).V7=true/\(jW fr x).cells.length=n then match jW fr a with
 |.p k off=>T.opt (tS k.sC (jW fr x).cells) fun vs=>.obj (yW st k) fun o=>match o with
  |.cs c=>match RZ c off vs with
   |true=>.ret (.bY [],Gp st k (.cs (Iw c off vs)))
   |false=>.fail
  |_=>.fail
 |.pa k sz ix off=>T.opt (tS k.sC (jW fr x).cells) fun vs=>.obj (yW st k) fun o=>match o with
  |.arr eD es=>if eD=sz then .elem (Iv es ix) fun e=>match RZ e off vs with
    |true=>.ret (.bY [],Gp st k (.arr sz (es.set ix (Iw e off vs))))
    |false=>.fail
   else .fail
  |_=>.fail
 |_=>.fail
 else .fail
noncomputable def Mt (x:bL) (fr:Fr) (st:St):T R:=match jW fr x with
 |.p k off=>.ret (.p k off,st)
 |.pa k sz ix off=>.ret (.pa k sz ix off,st)
 |.pc cs off=>.ret (.pc cs off,st)
 |.fn f a c=>.ret (.fn f a c,st)
 |_=>.fail
noncomputable def Wz (op:BinOp) (x:bL) (y:bL) (fr:Fr) (st:St):T R:=rI op (jW fr x) (jW fr y) st
noncomputable def R5 (row:Bool) (ks:List CK) (neg:Bool) (x:bL) (y:bL) (fr:Fr) (st:St):T R:=T.opt ((jW fr x).row row) fun cs=>T.opt ((jW fr y).row row) fun ds=>T.opt (eB ks cs ds) fun r=>match neg with
 |true=>.ret (.b (!r),st)
 |false=>.ret (.b r,st)
noncomputable def WA (neg:Bool) (x:bL) (y:bL) (fr:Fr) (st:St):T R:=xS neg (jW fr x) (jW fr y) st
noncomputable def XV (op:UnOp) (x:bL) (fr:Fr) (st:St):T R:=match op,jW fr x with
 |.not,.b y=>.ret (.b (!y),st)
 |.neg,.i k n=>.wrap k (0 - n) fun r=>.ret (.i k r,st)
 |_,_=>.fail
noncomputable def R6 (k:IntKind) (x:bL) (fr:Fr) (st:St):T R:=match jW fr x with
 |.i _ n=>.wrap k n fun r=>.ret (.i k r,st)
 |_=>.fail
noncomputable def R7 (x:bL) (fr:Fr) (st:St):T R:=match jW fr x with
 |.s y=>.ret (.s y,st)
 |_=>.fail
noncomputable def R8 (m:lQ) (x:bL) (fr:Fr) (st:St):T R:=match jW fr x with
 |.s y=>kW m 1 (fD y) st
 |_=>.fail
noncomputable def R9 (x:bL) (fr:Fr) (st:St):T R:=match jW fr x with
 |.sl (some k) sz es=>.obj (yW st k) fun o=>match o with
  |.spare=>.ret (.sl (some k) sz es,st)
  |_=>.fail
 |.ms k sz off len=>.obj (yW st k) fun o=>match o with
  |.arr z _=>if z=1 then .ret (.ms k sz off len,st) else .fail
  |_=>.fail
 |_=>.fail
noncomputable def WB (x:bL) (fr:Fr) (st:St):T R:=j5 1 st (jW fr x) fun es=>.F2 (bytesOf es) fun y=>.ret (.s y,st)
noncomputable def Sa (f:Nat) (cap:List bL) (fr:Fr) (st:St):T R:=.ret (.fn f [] (Pk fr cap),st)
noncomputable def U7 (g:Bool) (kd:Option IntKind) (_fr:Fr) (st:St):T R:=.ret (.m (st.aO g),st.push g (.mp kd []))
noncomputable def Mu (m:lQ) (sz:Nat) (bytes:Nat) (zero:List V) (l:bL) (c:bL) (fr:Fr) (st:St):T R:=match jW fr l,jW fr c with
 |.i _ a,.i _ d=>.jL (decide (0<=a)&&decide (a=d)&&bT d.toNat bytes)<|kW m sz (List.replicate a.toNat zero) st
 |_,_=>.fail
noncomputable def ID (x:bL) (lo:Option bL) (hi:Option bL) (fr:Fr) (st:St):T R:=match jW fr x with
 |.s y=>T.opt (eS (EF fr hi) y.length) fun h=>T.opt (eS (EF fr lo) 0) fun l=>
  .jL (decide (0<=l)&&decide (l<=h)&&decide (h<=(y.length:Int)))<|.ret (.s ((y.take h.toNat).drop l.toNat),st)
 |_=>.fail
noncomputable def Mv (sz:Nat) (x:bL) (lo:Option bL) (hi:Option bL) (mx:Option bL) (fr:Fr) (st:St):T R:=match jW fr x with
 |.aS=>match mx with
  |none=>T.opt (eS (EF fr hi) 0) fun h=>T.opt (eS (EF fr lo) 0) fun l=>
   .jL (decide (l=0)&&decide (h=0))<|.ret (.aS,st)
  |some _=>.fail
 |.sl tok eD es=>if eD=sz then match mx with
   |none=>match EF fr hi with
    |none=>T.opt (eS (EF fr lo) 0) fun l=>.jL (decide (0<=l)&&decide (l<=(uB es:Int)))<|.ret (.sl tok sz (es.drop l.toNat),st)
    |some v=>T.opt (vM v) fun h=>T.opt (eS (EF fr lo) 0) fun l=>
     .jL (decide (0<=l)&&decide (l<=h)&&decide (h<=(uB es:Int)))<|.ret (.sl none sz ((es.take h.toNat).drop l.toNat),st)
   |some _=>.fail
  else .fail
 |.ms k eD off len=>if eD=sz then T.opt (eS (EF fr hi) len) fun h=>T.opt (eS (EF fr lo) 0) fun l=>.obj (yW st k) fun o=>match o with
   |.arr eW es=>if eW=sz then match mx with
     |none=>.jL (decide (0<=l)&&decide (l<=h)&&decide ((off:Int)+h<=(uB es:Int)))<|
      .ret (.ms k sz (off+l.toNat) (h.toNat - l.toNat),st)
     |some m=>T.opt (vM (jW fr m)) fun mx=>.jL (decide (0<=l)&&decide (l<=h)&&decide (h<=mx)&&decide ((off:Int)+mx<=(uB es:Int)))<|
      .ret (.gD,st)
    else .fail
   |_=>.fail
  else .fail
 |_=>.fail
noncomputable def IE (off:Nat) (x:bL) (fr:Fr) (st:St):T R:=match jW fr x with
 |.p k o=>.ret (.p k (o+off),st)
 |.pa k sz ix o=>.ret (.pa k sz ix (o+off),st)
 |.pc cs o=>.ret (.pc cs (o+off),st)
 |_=>.fail
noncomputable def Sb (off:Nat) (n:Option Nat) (x:bL) (fr:Fr) (st:St):T R:=match jW fr x with
 |.agg cs=>T.opt (ZB cs off n) fun v=>.ret (v,st)
 |_=>.fail
noncomputable def Mw (sz:Nat) (x:bL) (i:bL) (fr:Fr) (st:St):T R:=match jW fr i with
 |.i _ n=>match jW fr x with
  |.sl _ eD es=>if eD=sz then .jL (rH n (uB es))<|.elem (Iv es n.toNat) fun e=>.ret (.pc e 0,st) else .fail
  |.ms k eD off len=>if eD=sz then .jL (rH n len)<|.ret (.pa k sz (off+n.toNat) 0,st) else .fail
  |_=>.fail
 |_=>.fail
noncomputable def Mx (len:Nat) (sz:Nat) (x:bL) (i:bL) (fr:Fr) (st:St):T R:=match jW fr i with
 |.i _ n=>.jL (rH n len)<|match jW fr x with
  |.p k o=>.ret (.p k (o+n.toNat*sz),st)
  |.pa k eD ix o=>.ret (.pa k eD ix (o+n.toNat*sz),st)
  |.pc cs o=>.ret (.pc cs (o+n.toNat*sz),st)
  |_=>.fail
 |_=>.fail
noncomputable def Sc (x:bL) (i:bL) (fr:Fr) (st:St):T R:=match jW fr x,jW fr i with
 |.s y,.i _ n=>.jL (decide (0<=n))<|.byte (Iv y n.toNat) fun c=>.ret (.i .u8 c.toNat,st)
 |_,_=>.fail
noncomputable def Sd (len:Nat) (sz:Nat) (n:Option Nat) (x:bL) (i:bL) (fr:Fr) (st:St):T R:=match jW fr x,jW fr i with
 |.agg cs,.i _ j=>.jL (rH j len)<|T.opt (ZB cs (j.toNat*sz) n) fun v=>.ret (v,st)
 |_,_=>.fail
noncomputable def Se (kd:Option IntKind) (zero:V) (m:bL) (k:bL) (ok:Bool) (fr:Fr) (st:St):T R:=match (jW fr k).fR kd with
 |true=>match jW fr m with
  |.gS=>tT zero ok st none
  |.m key=>.obj (yW st key) fun o=>match o with
   |.mp Jz es=>if Jz=kd then tT zero ok st (mX es (jW fr k)) else .fail
   |_=>.fail
  |_=>.fail
 |false=>.fail
noncomputable def My (kd:Option IntKind) (m:bL) (k:bL) (v:bL) (fr:Fr) (st:St):T R:=match (jW fr k).fR kd with
 |true=>match jW fr m with
  |.m key=>.obj (yW st key) fun o=>match o with
   |.mp Jz es=>if Jz=kd then T.opt (UK key.sC (jW fr v)) fun u=>.ret (.bY [],Gp st key (.mp kd (vL es (jW fr k) u))) else .fail
   |_=>.fail
  |_=>.fail
 |false=>.fail
noncomputable def Sf (x:bL) (i:Nat) (fr:Fr) (st:St):T R:=match jW fr x with
 |.bY vs=>T.opt (Iv vs i) fun v=>.ret (v,st)
 |_=>.fail
noncomputable def Sg (f:Nat) (args:List bL) (fr:Fr) (st:St):T R:=T.opt (hZ (Pk fr args)) fun vs=>.call f vs st.g fun r h=>.ret (r,⟨h,st.l⟩)
noncomputable def IF (f:bL) (args:List bL) (fr:Fr) (st:St):T R:=match jW fr f with
 |.fn g first cap=>T.opt (hZ (first++Pk fr args++cap)) fun vs=>.call g vs st.g fun r h=>.ret (r,⟨h,st.l⟩)
 |_=>.fail
noncomputable def Mz (x:bL) (fr:Fr) (st:St):T R:=match jW fr x with
 |.s y=>.ret (.i .i64 y.length,st)
 |_=>.fail
noncomputable def MA (x:bL) (fr:Fr) (st:St):T R:=match jW fr x with
 |.aS=>.ret (.i .i64 0,st)
 |.sl _ _ es=>.ret (.i .i64 (uB es),st)
 |.ms _ _ _ n=>.ret (.i .i64 n,st)
 |_=>.fail
noncomputable def XW (n:Nat) (_fr:Fr) (st:St):T R:=.ret (.i .i64 n,st)
noncomputable def MB (x:bL) (fr:Fr) (st:St):T R:=match jW fr x with
 |.gS=>.ret (.i .i64 0,st)
 |.m key=>.obj (yW st key) fun o=>match o with
  |.mp _ es=>.ret (.i .i64 (uB es),st)
  |_=>.fail
 |_=>.fail
noncomputable def MC (max:Bool) (xs:List bL) (fr:Fr) (st:St):T R:=match Pk fr xs with
 |v::r=>T.opt (iQ max v r) fun v=>.ret (v,st)
 |[]=>.fail
noncomputable def Kc (m:lQ) (sz:Nat) (bytes:Nat) (s:bL) (x:bL) (fr:Fr) (st:St):T R:=j5 sz st (jW fr x) fun new=>BZ m sz bytes st (jW fr s) new
noncomputable def MD (sz:Nat) (d:bL) (x:bL) (fr:Fr) (st:St):T R:=j5 sz st (jW fr x) fun src=>match jW fr d with
 |.ms k eD off len=>if eD=sz then .tQ (iA k.sC (src.take len)) fun ds=>.obj (yW st k) fun o=>match o with
   |.arr eW es=>if eW=sz then
     .jL (decide (off+len<=es.length))<|.ret (.i .i64 (ds.length:Nat),Gp st k (.arr sz (es.take off++ds++es.drop (off+ds.length))))
    else .fail
   |_=>.fail
  else .fail
 |_=>.fail
noncomputable def EH (kd:Option IntKind) (m:bL) (k:bL) (fr:Fr) (st:St):T R:=match (jW fr k).fR kd with
 |true=>match jW fr m with
  |.gS=>.ret (.bY [],st)
  |.m key=>.obj (yW st key) fun o=>match o with
   |.mp Jz es=>if Jz=kd then .ret (.bY [],Gp st key (.mp kd (Gc es (jW fr k)))) else .fail
   |_=>.fail
  |_=>.fail
 |false=>.fail
noncomputable def IG (sz:Nat) (zero:List V) (x:bL) (fr:Fr) (st:St):T R:=match jW fr x with
 |.aS=>.ret (.bY [],st)
 |.ms k eD off len=>if eD=sz then .obj (yW st k) fun o=>match o with
   |.arr eW es=>if eW=sz then .jL (decide (off+len<=es.length))<|.ret (.bY [],Gp st k (.arr sz (es.take off++List.replicate len zero++es.drop (off+len)))) else .fail
   |_=>.fail
  else .fail
 |_=>.fail
noncomputable def ahC  (_fr:Fr) (_st:St):T R:=.fail
noncomputable def EI (o:AE):Fr->St->T R:=AE.rec (motive:=fun _=>Fr->St->T R) abW Ww Mr U6 R4 Wx Wy Ms IC Mt Wz R5 WA XV R6 R7 R8 R9 WB Sa U7 Mu ID Mv IE Sb Mw Mx Sc Sd Se My Sf Sg IF Mz MA XW MB MC Kc MD EH IG ahC o
theorem EJ (o:AE) (fr:Fr) (st:St):EI o fr st=step o fr st:=by
 cases o<;>first
  |rfl
  |(simp only [EI,step,abW,Ww,Mr,R4,Wx,Wy,Ms,IC,Mt,Wz,R5,WA,XV,R6,R7,R8,R9,WB,Sa,Mu,ID,Mv,IE,Sb,Mw,Mx,Sc,Sd,Se,My,Sf,Sg,IF,Mz,MA,MB,MC,Kc,MD,EH,IG,Aa,Iu,NP,NQ,NR,A0,RY,Kb,Ix,Iz,IA,DF,IB];done)
  |(simp only [EI,step,Mr,R4,Ms,IC,Mt,R5,XV,R6,R7,R8,R9,Mu,ID,Mv,IE,Sb,Mw,Mx,Sc,Sd,Se,My,Sf,IF,Mz,MA,MB,MC,MD,EH,IG,Aa,Iu,NP,A0,RY,Kb,Ix,Iz,IA,DF];rfl)
section
variable {α β:Type}
noncomputable def abX (a:α) (k:α->Option β):Option β:=k a
noncomputable def abY (c:Bool) (_ _:T α) (x y:(α->Option β)->Option β) (k:α->Option β):Option β:=Bool.rec (motive:=fun _=>Option β) (y k) (x k) c
noncomputable def Kd {δ:Type} (o:Option δ) (_:δ->T α) (x:δ->(α->Option β)->Option β) (k:α->Option β):Option β:=Option.rec (motive:=fun _=>Option β) none (fun d=>x d k) o
noncomputable def XX (o:Option V) (_:T α) (_:V->T α) (y:(α->Option β)->Option β) (x:V->(α->Option β)->Option β) (k:α->Option β):Option β:=Option.rec (motive:=fun _=>Option β) (y k) (fun d=>x d k) o
noncomputable def abZ (c:Bool) (_:T α) (x:(α->Option β)->Option β) (k:α->Option β):Option β:=Bool.rec (motive:=fun _=>Option β) none (x k) c
noncomputable def XY (kd:IntKind) (n:Int) (_:Int->T α) (x:Int->(α->Option β)->Option β) (k:α->Option β):Option β:=x (kd.wrap n) k
noncomputable def ab0 (_:Bool->T α) (_:Bool->(α->Option β)->Option β) (_:α->Option β):Option β:=none
noncomputable def XZ (v u:V) (_:T α) (x:(α->Option β)->Option β) (k:α->Option β):Option β:=Bool.rec (motive:=fun _=>Option β) none (x k) (v.beq u)
noncomputable def X0 (rf:oD) (f:Nat) (args:List V) (h:aA) (_:V->aA->T α) (x:V->aA->(α->Option β)->Option β) (k:α->Option β):Option β:=
 Option.rec (motive:=fun _=>Option β) none (fun q=>x q.1 q.2 k) (rf f args h)
noncomputable def X1 (_:α->Option β):Option β:=none
noncomputable def runK (rf:oD) (t:T α):(α->Option β)->Option β:=
 T.rec (motive:=fun _=>(α->Option β)->Option β) abX abY Kd Kd Kd Kd Kd XX abZ XY ab0 XZ (X0 rf) X1 t
theorem hY (rf:oD):∀ (t:T α) (k:α->Option β),runK rf t k=(t.run rf).bind k
 |.ret a,k=>rfl
 |.ite c t e,k=>by
  cases c with
  |true=>exact hY rf t k
  |false=>exact hY rf e k
 |.elem o kk,k=>by
  cases o with
  |none=>rfl
  |some x=>exact hY rf (kk x) k
 |.byte o kk,k=>by
  cases o with
  |none=>rfl
  |some x=>exact hY rf (kk x) k
 |.tQ o kk,k=>by
  cases o with
  |none=>rfl
  |some x=>exact hY rf (kk x) k
 |.F2 o kk,k=>by
  cases o with
  |none=>rfl
  |some x=>exact hY rf (kk x) k
 |.obj o kk,k=>by
  cases o with
  |none=>rfl
  |some x=>exact hY rf (kk x) k
 |.mU o n kk,k=>by
  cases o with
  |none=>exact hY rf n k
  |some x=>exact hY rf (kk x) k
 |.jL c kk,k=>by
  cases c with
  |true=>exact hY rf kk k
  |false=>rfl
 |.wrap kd n kk,k=>hY rf (kk (kd.wrap n)) k
 |.any kk,k=>rfl
 |.same v u kk,k=>by
  show Bool.rec (motive:=fun _=>Option β) none (runK rf kk k) (v.beq u)=(T.run rf (.same v u kk)).bind k
  simp only [T.run]
  cases v.beq u with
  |true=>exact hY rf kk k
  |false=>rfl
 |.call f args h kk,k=>by
  show Option.rec (motive:=fun _=>Option β) none (fun q=>runK rf (kk q.1 q.2) k) (rf f args h)=(T.run rf (.call f args h kk)).bind k
  simp only [T.run]
  cases rf f args h with
  |none=>rfl
  |some q=>exact hY rf (kk q.1 q.2) k
 |.fail,k=>rfl
theorem run_bind (rf:oD) (f:α->T β):∀ t:T α,(t.bind f).run rf=(t.run rf).bind fun a=>(f a).run rf
 |.ret a=>rfl
 |.ite c t e=>by
  cases c with
  |true=>exact run_bind rf f t
  |false=>exact run_bind rf f e
 |.elem o kk=>by
  cases o with
  |none=>rfl
  |some x=>exact run_bind rf f (kk x)
 |.byte o kk=>by
  cases o with
  |none=>rfl
  |some x=>exact run_bind rf f (kk x)
 |.tQ o kk=>by
  cases o with
  |none=>rfl
  |some x=>exact run_bind rf f (kk x)
 |.F2 o kk=>by
  cases o with
  |none=>rfl
  |some x=>exact run_bind rf f (kk x)
 |.obj o kk=>by
  cases o with
  |none=>rfl
  |some x=>exact run_bind rf f (kk x)
 |.mU o n kk=>by
  cases o with
  |none=>exact run_bind rf f n
  |some x=>exact run_bind rf f (kk x)
 |.jL c kk=>by
  cases c with
  |true=>exact run_bind rf f kk
  |false=>rfl
 |.wrap kd n kk=>run_bind rf f (kk (kd.wrap n))
 |.any kk=>rfl
 |.same v u kk=>by
  simp only [T.bind,T.run]
  cases v.beq u with
  |true=>exact run_bind rf f kk
  |false=>rfl
 |.call g args h kk=>by
  simp only [T.bind,T.run]
  cases rf g args h with
  |none=>rfl
  |some q=>exact run_bind rf f (kk q.1 q.2)
 |.fail=>rfl
end
noncomputable def Ke (n:Nat) (ks:List Nat):Bool:=List.rec (motive:=fun _=>Bool) false (fun k _ ih=>Bool.rec (motive:=fun _=>Bool) ih true (Nat.beq n k)) ks
theorem DG (n:Nat):∀ ks,Ke n ks=cN n ks
 |[]=>rfl
 |k::r=>by
  show Bool.rec (motive:=fun _=>Bool) (Ke n r) true (Nat.beq n k)=cN n (k::r)
  rw [DG n r]
  simp only [cN]
  cases Nat.beq n k<;>rfl
section
variable {α:Type}
noncomputable def vC (ks:List Nat) (fr:Fr):(Fr->α)->α:=List.rec (motive:=fun _=>(Fr->α)->α) (fun k=>k []) (fun q _ ih k=>Bool.rec (motive:=fun _=>α) (ih fun r=>k (q::r)) (ih k) (Ke q.1 ks)) fr
theorem jF (ks:List Nat):∀ (fr:Fr) (k:Fr->α),vC ks fr k=fr.cut ks k
 |[],k=>rfl
 |(n,v)::r,k=>by
  show Bool.rec (motive:=fun _=>α) (vC ks r fun r'=>k ((n,v)::r')) (vC ks r k) (Ke n ks)=Fr.cut ((n,v)::r) ks k
  rw [jF ks r,jF ks r,DG]
  simp only [Fr.cut]
  cases cN n ks<;>rfl
noncomputable def EK (fr:Fr) (dst:Option Nat) (v:V) (kill:List Nat) (k:Fr->α):α:=
 Option.rec (motive:=fun _=>α) (List.rec (motive:=fun _=>α) (k fr) (fun _ _ _=>vC kill fr k) kill)
  (fun d=>List.rec (motive:=fun _=>α) (v.force fun v=>k ((d,v)::fr)) (fun _ _ _=>Bool.rec (motive:=fun _=>α) (vC (d::kill) fr fun r=>v.force fun v=>k ((d,v)::r)) (vC (d::kill) fr k) (Ke d kill)) kill) dst
theorem yA (fr:Fr) (dst:Option Nat) (v:V) (kill:List Nat) (k:Fr->α):EK fr dst v kill k=fr.after dst v kill k:=by
 cases dst with
 |none=>
  cases kill with
  |nil=>rfl
  |cons x ks=>exact jF _ _ _
 |some d=>
  cases kill with
  |nil=>rfl
  |cons x ks=>
   show Bool.rec (motive:=fun _=>α) (vC (d::x::ks) fr fun r=>v.force fun v=>k ((d,v)::r)) (vC (d::x::ks) fr k) (Ke d (x::ks))=_
   rw [jF,jF,DG]
   simp only [Fr.after]
   cases cN d (x::ks)<;>rfl
end
section
variable {β:Type}
noncomputable def Kf (rf:oD) (o:dL) (ih:Fr->St->(Fr->St->Option β)->Option β) (fr:Fr) (st:St) (k:Fr->St->Option β):Option β:=
 runK rf (EI o.op fr st) fun x=>EK fr o.dst x.1 o.kill fun fr=>ih fr x.2 k
noncomputable def Kg (o:dL) (ih:Fr->St->(Fr->St->Option β)->Option β) (fr:Fr) (st:St) (k:Fr->St->Option β):Option β:=
 EK fr o.dst (.bY []) o.kill fun fr=>ih fr st k
noncomputable def ME (rf:oD) (o:dL) (ih:Fr->St->(Fr->St->Option β)->Option β) (t:Nat) (want:Bool) (fr:Fr) (st:St) (k:Fr->St->Option β):Option β:=
 match J7 fr t with
 |.b x=>Bool.rec (motive:=fun _=>Option β)
  (Bool.rec (motive:=fun _=>Option β) (vC [t] fr fun r=>Kf rf o ih ((t,.b false)::r) st k) (vC [t] fr fun r=>Kg o ih ((t,.b true)::r) st k) x)
  (Bool.rec (motive:=fun _=>Option β) (vC [t] fr fun r=>Kg o ih ((t,.b false)::r) st k) (vC [t] fr fun r=>Kf rf o ih ((t,.b true)::r) st k) x) want
 |.bY _=>Kg o ih fr st k
 |_=>none
noncomputable def X2 (rf:oD) (o:dL) (_:List dL) (ih:Fr->St->(Fr->St->Option β)->Option β) (fr:Fr) (st:St) (k:Fr->St->Option β):Option β:=
 Option.rec (motive:=fun _=>Option β) (Kf rf o ih fr st k) (fun q=>ME rf o ih q.1 q.2 fr st k) o.guard
noncomputable def MF (rf:oD) (ops:List dL):Fr->St->(Fr->St->Option β)->Option β:=
 List.rec (motive:=fun _=>Fr->St->(Fr->St->Option β)->Option β) (fun fr st k=>k fr st) (X2 rf) ops
theorem II (rf:oD):∀ (ops:List dL) (fr:Fr) (st:St) (k:Fr->St->Option β),MF rf ops fr st k=((eF ops fr st).run rf).bind fun x=>k x.1 x.2
 |[],fr,st,k=>rfl
 |o::rest,fr,st,k=>by
  have hd:∀ (fr:Fr) (st:St),Kf rf o (MF rf rest) fr st k=(((step o.op fr st).bind fun x=>match x with
   |(v,st)=>fr.after o.dst v o.kill fun fr=>eF rest fr st).run rf).bind fun x=>k x.1 x.2:=by
   intro fr st
   rw [run_bind,Kf,hY,EJ]
   cases (step o.op fr st).run rf with
   |none=>rfl
   |some q=>
    obtain ⟨v,cB⟩:=q
    simp only [Option.bind_some,yA,Fr.cW]
    exact II rf rest _ _ k
  have hp:∀ (fr:Fr) (st:St),Kg o (MF rf rest) fr st k=((fr.after o.dst (.bY []) o.kill fun fr=>eF rest fr st).run rf).bind fun x=>k x.1 x.2:=by
   intro fr st
   simp only [Kg,yA,Fr.cW]
   exact II rf rest _ _ k
  show X2 rf o rest (MF rf rest) fr st k=_
  unfold X2 eF
  cases o.guard with
  |none=>exact hd fr st
  |some q=>
   obtain ⟨t,want⟩:=q
   show ME rf o (MF rf rest) t want fr st k=_
   unfold ME
   rw [AZ]
   dsimp only
   cases fr.get t
   case b x=>
    cases want with
    |true=>
     cases x with
     |true=>simp only [T.run,jF,hd,Fr.cU]
     |false=>simp only [T.run,jF,hp,Fr.cU]
    |false=>
     cases x with
     |true=>simp only [T.run,jF,hp,Fr.cU]
     |false=>simp only [T.run,jF,hd,Fr.cU]
   case bY vs=>exact hp fr st
   all_goals rfl
end
section
variable {β:Type}
noncomputable def WC (g:Option (Nat×Bool)) (fr:Fr) (yes no:Fr->Option β):Option β:=
 Option.rec (motive:=fun _=>Option β) (yes fr) (fun q=>match J7 fr q.1 with
  |.b x=>Bool.rec (motive:=fun _=>Option β)
   (Bool.rec (motive:=fun _=>Option β) (vC [q.1] fr fun r=>yes ((q.1,.b false)::r)) (vC [q.1] fr fun r=>no ((q.1,.b true)::r)) x)
   (Bool.rec (motive:=fun _=>Option β) (vC [q.1] fr fun r=>no ((q.1,.b false)::r)) (vC [q.1] fr fun r=>yes ((q.1,.b true)::r)) x) q.2
  |.bY _=>no fr
  |_=>none) g
theorem Si {α:Type} (rf:oD) (g:Option (Nat×Bool)) (fr:Fr) (yes no:Fr->T α) (k:α->Option β):
 WC g fr (fun fr=>((yes fr).run rf).bind k) (fun fr=>((no fr).run rf).bind k)=((vN g fr yes no).run rf).bind k:=by
 unfold vN
 cases g with
 |none=>rfl
 |some q=>
  obtain ⟨t,want⟩:=q
  show (match J7 fr t with
   |.b x=>_
   |.bY _=>_
   |_=>none)=_
  rw [AZ]
  dsimp only
  cases fr.get t
  case b x=>
   cases want with
   |true=>
    cases x with
    |true=>simp only [T.run,jF,Fr.cU]
    |false=>simp only [T.run,jF,Fr.cU]
   |false=>
    cases x with
    |true=>simp only [T.run,jF,Fr.cU]
    |false=>simp only [T.run,jF,Fr.cU]
  all_goals rfl
noncomputable def s7 (rf:oD) (re:List Nat) (done:List bH) (fr:Fr) (st:St) (k:Option β):Option β:=
 List.rec (motive:=fun _=>Option β) k (fun p _ ih=>Bool.rec (motive:=fun _=>Option β) ih
  (Option.rec (motive:=fun _=>Option β) none (fun b=>Bool.rec (motive:=fun _=>Option β) ih
    (runK rf (EI p.o.op fr st) fun x=>Option.rec (motive:=fun _=>Option β) ih (fun d=>Bool.rec (motive:=fun _=>Option β) none ih ((J7 fr d).beq x.1)) p.o.dst) b) (dM p.o.guard fr)) (Ke p.ix re)) done
theorem CI {α:Type} (rf:oD) (re:List Nat) (fr:Fr) (st:St) (t:T α) (k:α->Option β):∀ done:List bH,s7 rf re done fr st ((t.run rf).bind k)=((recheck re done fr st t).run rf).bind k
 |[]=>rfl
 |p::ps=>by
  have ih:=CI rf re fr st t k ps
  show Bool.rec (motive:=fun _=>Option β) (s7 rf re ps fr st ((t.run rf).bind k)) (Option.rec (motive:=fun _=>Option β) none (fun b=>Bool.rec (motive:=fun _=>Option β) (s7 rf re ps fr st ((t.run rf).bind k))
   (runK rf (EI p.o.op fr st) fun x=>Option.rec (motive:=fun _=>Option β) (s7 rf re ps fr st ((t.run rf).bind k)) (fun d=>Bool.rec (motive:=fun _=>Option β) none (s7 rf re ps fr st ((t.run rf).bind k)) ((J7 fr d).beq x.1)) p.o.dst) b) (dM p.o.guard fr)) (Ke p.ix re)=_
  rw [ih,DG]
  simp only [recheck]
  cases cN p.ix re with
  |false=>rfl
  |true=>
   cases dM p.o.guard fr with
   |none=>rfl
   |some b=>
    cases b with
    |false=>rfl
    |true=>
     dsimp only
     rw [run_bind,hY,EJ]
     cases (step p.o.op fr st).run rf with
     |none=>rfl
     |some q=>
      simp only [Option.bind_some]
      cases p.o.dst with
      |none=>rfl
      |some d=>
       simp only [T.run,AZ]
       cases ((Fr.get fr d).beq q.1)<;>rfl
noncomputable def WD (rf:oD) (d:bH) (done:List bH) (ih:List bH->Fr->St->(Fr->St->Option β)->Option β) (fr:Fr) (st:St) (k:Fr->St->Option β):Option β:=
 runK rf (EI d.o.op fr st) fun x=>EK fr d.o.dst x.1 [] fun fr=>s7 rf d.re done fr x.2 (ih (d::done) fr x.2 k)
noncomputable def X3 (rf:oD) (d:bH) (_:List bH) (ih:List bH->Fr->St->(Fr->St->Option β)->Option β) (done:List bH) (fr:Fr) (st:St) (k:Fr->St->Option β):Option β:=
 WC d.o.guard fr (fun fr=>WD rf d done ih fr st k) (fun fr=>EK fr d.o.dst (.bY []) [] fun fr=>ih (d::done) fr st k)
noncomputable def NU (rf:oD) (ds:List bH):List bH->Fr->St->(Fr->St->Option β)->Option β:=
 List.rec (motive:=fun _=>List bH->Fr->St->(Fr->St->Option β)->Option β) (fun _ fr st k=>k fr st) (X3 rf) ds
theorem EL (rf:oD):∀ (ds done:List bH) (fr:Fr) (st:St) (k:Fr->St->Option β),NU rf ds done fr st k=((pX done ds fr st).run rf).bind fun x=>k x.1 x.2
 |[],done,fr,st,k=>rfl
 |d::rest,done,fr,st,k=>by
  show X3 rf d rest (NU rf rest) done fr st k=_
  simp only [pX]
  rw [<-Si]
  unfold X3
  congr 1
  · funext fr
    rw [run_bind,WD,hY,EJ]
    cases (step d.o.op fr st).run rf with
    |none=>rfl
    |some q=>
     obtain ⟨v,cB⟩:=q
     simp only [Option.bind_some,yA,Fr.cW]
     rw [EL rf rest,CI]
  · funext fr
    simp only [yA,Fr.cW]
    exact EL rf rest _ _ _ k
end
abbrev yX:=Option (Ex×Fr×St)
noncomputable def Sj (r:yX) (k:Fr->St->yX):yX:=
 Option.rec (motive:=fun _=>yX) none (fun q=>Ex.rec (motive:=fun _=>yX) (k q.2.1 q.2.2) (fun id=>some (.exit id,q.2)) (some (.ret,q.2)) q.1) r
theorem Kh (r:yX) (k:Fr->St->yX):Sj r k=match r with
 |some (.normal,fr,st)=>k fr st
 |r=>r:=by
 cases r with
 |none=>rfl
 |some q=>obtain ⟨e,fr,st⟩:=q;cases e<;>rfl
noncomputable def X4 (id:Nat) (r:yX):yX:=
 Option.rec (motive:=fun _=>yX) none (fun q=>Ex.rec (motive:=fun _=>yX) (some (.normal,q.2)) (fun BG=>Bool.rec (motive:=fun _=>yX) (some (.exit BG,q.2)) (some (.normal,q.2)) (Nat.beq BG id)) (some (.ret,q.2)) q.1) r
theorem U8 (id:Nat) (r:yX):X4 id r=match r with
 |some (.exit BG,fr,st)=>match Nat.beq BG id with
  |true=>some (.normal,fr,st)
  |false=>some (.exit BG,fr,st)
 |r=>r:=by
 cases r with
 |none=>rfl
 |some q=>
  obtain ⟨e,fr,st⟩:=q
  cases e with
  |exit BG=>simp only [X4];cases Nat.beq BG id<;>rfl
  |normal=>rfl
  |ret=>rfl
abbrev s9:=AC->Fr->St->yX
noncomputable def X5 (_:s9) (_:oD) (fr:Fr) (st:St):yX:=some (.normal,fr,st)
noncomputable def ab1 (ops:List dL) (_:s9) (rf:oD) (fr:Fr) (st:St):yX:=MF rf ops fr st fun fr st=>some (.normal,fr,st)
noncomputable def X6 (ds:List bH) (kill:List Nat) (_:s9) (rf:oD) (fr:Fr) (st:St):yX:=NU rf ds [] fr st fun fr st=>vC kill fr fun fr=>some (.normal,fr,st)
noncomputable def ab2 (a b:AC) (_ _:s9->oD->Fr->St->yX) (ih:s9) (_:oD) (fr:Fr) (st:St):yX:=Sj (ih a fr st) (ih b)
noncomputable def X7 (c:bL) (a b:AC) (_ _:s9->oD->Fr->St->yX) (ih:s9) (_:oD) (fr:Fr) (st:St):yX:=
 match jW fr c with
 |.b x=>Bool.rec (motive:=fun _=>yX) (ih b fr st) (ih a fr st) x
 |_=>none
noncomputable def ab3 (id:Nat) (b:AC) (_:s9->oD->Fr->St->yX) (ih:s9) (_:oD) (fr:Fr) (st:St):yX:=X4 id (ih b fr st)
noncomputable def X8 (b:AC) (_:s9->oD->Fr->St->yX) (ih:s9) (_:oD) (fr:Fr) (st:St):yX:=Sj (ih b fr st) (ih (.loop b))
noncomputable def X9 (id:Nat) (_:s9) (_:oD) (fr:Fr) (st:St):yX:=some (.exit id,fr,st)
noncomputable def ab4 (_:s9) (_:oD) (fr:Fr) (st:St):yX:=some (.ret,fr,st)
noncomputable def ahD (_:s9) (_:oD) (_:Fr) (_:St):yX:=none
noncomputable def codeF (c:AC):s9->oD->Fr->St->yX:=
 AC.rec (motive:=fun _=>s9->oD->Fr->St->yX) X5 ab1 X6 ab2 X7 ab3 X8 X9 ab4 ahD c
noncomputable def U9 (fn:aZ) (r:yX):Option (V×aA):=
 Option.rec (motive:=fun _=>Option (V×aA)) none (fun q=>Ex.rec (motive:=fun _=>Option (V×aA))
  (Option.rec (motive:=fun _=>Option (V×aA)) none (fun v=>some (v,q.2.2.g)) (eX q.2.1 q.2.2 fn.results)) (fun _=>none)
  (Option.rec (motive:=fun _=>Option (V×aA)) none (fun v=>some (v,q.2.2.g)) (eX q.2.1 q.2.2 fn.results)) q.1) r
theorem NV (fn:aZ) (r:yX):U9 fn r=match r with
 |some (.normal,fr,st)=>match eX fr st fn.results with
  |some v=>some (v,st.g)
  |none=>none
 |some (.ret,fr,st)=>match eX fr st fn.results with
  |some v=>some (v,st.g)
  |none=>none
 |_=>none:=by
 cases r with
 |none=>rfl
 |some q=>
  obtain ⟨e,fr,st⟩:=q
  cases e with
  |exit id=>rfl
  |normal=>simp only [U9];cases eX fr st fn.results<;>rfl
  |ret=>simp only [U9];cases eX fr st fn.results<;>rfl
noncomputable def EM (fns:Nat->Option aZ) (ih:s9) (f:Nat) (args:List V) (h:aA):Option (V×aA):=
 Option.rec (motive:=fun _=>Option (V×aA)) none (fun fn=>Bool.rec (motive:=fun _=>Option (V×aA)) none (U9 fn (ih fn.body (b9 0 args) ⟨h,GD⟩)) (Nat.beq args.length fn.nparams)) (fns f)
noncomputable def NW (fns:Nat->Option aZ) (once:Nat) (mZ:oD) (ih:s9) (f:Nat) (args:List V) (h:aA):Option (V×aA):=
 Option.rec (motive:=fun _=>Option (V×aA)) (Bool.rec (motive:=fun _=>Option (V×aA)) (EM fns ih f args h) (x9 (EM fns ih) args h) (Nat.beq f once)) some (mZ f args h)
noncomputable def GZ (fns:Nat->Option aZ) (once:Nat) (mZ:oD) (n:Nat):s9:=
 Nat.rec (motive:=fun _=>s9) (fun _ _ _=>none) (fun _ ih c=>codeF c ih (NW fns once mZ ih)) n
theorem Ki (fns:Nat->Option aZ) (once:Nat) (mZ:oD):∀ (n:Nat) (c:AC) (fr:Fr) (st:St),GZ fns once mZ n c fr st=exec fns once mZ n c fr st
 |0,c,fr,st=>by simp only [exec];rfl
 |n+1,c,fr,st=>by
  have ih:GZ fns once mZ n=exec fns once mZ n:=by funext c fr st;exact Ki fns once mZ n c fr st
  show codeF c (GZ fns once mZ n) (NW fns once mZ (GZ fns once mZ n)) fr st=_
  rw [ih]
  have hb:∀ f args h,EM fns (exec fns once mZ n) f args h=match fns f with
   |none=>none
   |some fn=>match Nat.beq args.length fn.nparams with
    |false=>none
    |true=>match exec fns once mZ n fn.body (b9 0 args) ⟨h,GD⟩ with
     |some (.normal,fr,st)=>match eX fr st fn.results with
      |some v=>some (v,st.g)
      |none=>none
     |some (.ret,fr,st)=>match eX fr st fn.results with
      |some v=>some (v,st.g)
      |none=>none
     |_=>none:=by
   intro f args h
   unfold EM
   cases fns f with
   |none=>rfl
   |some fn=>
    dsimp only
    cases Nat.beq args.length fn.nparams with
    |false=>rfl
    |true=>exact NV fn _
  have hc:NW fns once mZ (exec fns once mZ n)=fun f args h=>match mZ f args h with
   |some r=>some r
   |none=>match Nat.beq f once with
    |true=>x9 (fun (f:Nat) (args:List V) (h:aA)=>(match fns f with
     |none=>none
     |some fn=>match Nat.beq args.length fn.nparams with
      |false=>none
      |true=>match exec fns once mZ n fn.body (b9 0 args) ⟨h,GD⟩ with
       |some (.normal,fr,st)=>match eX fr st fn.results with
        |some v=>some (v,st.g)
        |none=>none
       |some (.ret,fr,st)=>match eX fr st fn.results with
        |some v=>some (v,st.g)
        |none=>none
       |_=>none:Option (V×aA))) args h
    |false=>(match fns f with
     |none=>none
     |some fn=>match Nat.beq args.length fn.nparams with
      |false=>none
      |true=>match exec fns once mZ n fn.body (b9 0 args) ⟨h,GD⟩ with
       |some (.normal,fr,st)=>match eX fr st fn.results with
        |some v=>some (v,st.g)
        |none=>none
       |some (.ret,fr,st)=>match eX fr st fn.results with
        |some v=>some (v,st.g)
        |none=>none
       |_=>none:Option (V×aA)):=by
   funext f args h
   unfold NW
   have H0:=funext fun f=>funext fun args=>funext fun h=>hb f args h
   replace H0:EM fns (exec fns once mZ n)=_:=H0
   rw [H0]
   cases mZ f args h with
   |some r=>rfl
   |none=>
    dsimp only
    cases Nat.beq f once<;>rfl
  rw [hc]
  simp only [exec]
  cases c with
  |skip=>rfl
  |BE ops=>
   show MF _ ops fr st (fun fr st=>some (Ex.normal,fr,st))=_
   rw [II]
   dsimp only
   cases (eF ops fr st).run _ with
   |none=>rfl
   |some q=>rfl
  |u0 ds kill=>
   show NU _ ds [] fr st (fun fr st=>vC kill fr fun fr=>some (Ex.normal,fr,st))=_
   rw [EL]
   dsimp only
   cases (pX [] ds fr st).run _ with
   |none=>rfl
   |some q=>exact jF _ _ _
  |seq a b=>exact Kh _ _
  |cond d a b=>
   show (match jW fr d with
    |.b x=>_
    |_=>none)=_
   rw [Aa]
   dsimp only
   cases d.ev fr
   case b x=>cases x<;>rfl
   all_goals rfl
  |bS id b=>exact U8 _ _
  |loop b=>exact Kh _ _
  |exit id=>rfl
  |ret=>rfl
  |no=>rfl
noncomputable def Kj (fns:Nat->Option aZ) (once:Nat) (mZ:oD) (n:Nat) (f:Nat) (args:List V) (h:aA):Option (V×aA):=EM fns (GZ fns once mZ n) f args h
theorem Va (fns:Nat->Option aZ) (once:Nat) (mZ:oD) (n f:Nat) (args:List V) (h:aA):Kj fns once mZ n f args h=NO fns once mZ n f args h:=by
 unfold Kj EM NO
 cases fns f with
 |none=>rfl
 |some fn=>
  dsimp only
  cases Nat.beq args.length fn.nparams with
  |false=>rfl
  |true=>
   have ih:GZ fns once mZ n=exec fns once mZ n:=by funext c fr st;exact Ki fns once mZ n c fr st
   rw [ih]
   exact NV fn _
open Go
def V.flat:V->Bool
 |.b _=>true
 |.i _ _=>true
 |.s _=>true
 |.lJ=>true
 |.aS=>true
 |.gS=>true
 |.lK=>true
 |.sl none _ _=>true
 |_=>false
def V.qI:V->Bool
 |.agg cs=>cs.all V.flat
 |.fn _ a c=>a.all V.flat&&c.all V.flat
 |v=>v.flat
def V.free:V->Bool
 |.bY cs=>cs.all V.qI
 |v=>v.qI
def uZ (I J:AH):Prop:=∀ b o x,I b o=some x->J b o=some x
theorem oH {E F:Env} (h:uZ E.I F.I) {v:V} {x:Value} (hv:v.flat=true) (hr:Rel E v x):Rel F v x:=by
 cases v<;>simp [V.flat] at hv
 case b=>cases hr with|deep hd=>exact .deep (hd.mono h)
 case i=>cases hr with|deep hd=>exact .deep (hd.mono h)
 case s=>cases hr with|deep hd=>exact .deep (hd.mono h)
 case lJ=>cases hr with
  |deep hd=>exact .deep (hd.mono h)
  |lJ=>exact .lJ
 case aS=>cases hr with|deep hd=>exact .deep (hd.mono h)
 case gS=>cases hr with
  |deep hd=>exact .deep (hd.mono h)
  |gS=>exact .gS
 case lK=>cases hr with
  |deep hd=>exact .deep (hd.mono h)
  |lK=>exact .lK
 case sl tok sz es=>
  cases tok with
  |none=>cases hr with|deep hd=>exact .deep (hd.mono h)
  |some k=>simp at hv
theorem G1 {E F:Env} (h:uZ E.I F.I) {v:V} {x:Value} (hv:v.qI=true) (hr:Rel E v x):Rel F v x:=by
 cases v
 case agg cs=>
  simp only [V.qI,List.all_eq_true] at hv
  cases hr with
  |deep hd=>cases hd
  |agg _ a ha h1 Jq=>exact .agg _ _ ha h1 fun j v x hj hx=>oH h (hv v (List.mem_of_getElem? hj)) (Jq j v x hj hx)
 case fn f a c=>
  simp only [V.qI,Bool.and_eq_true,List.all_eq_true] at hv
  cases hr with
  |deep hd=>cases hd
  |fn _ _ _ a' c' ha hc Jq QP=>exact .fn _ _ _ _ _ ha hc (fun j v x hj hx=>oH h (hv.1 v (List.mem_of_getElem? hj)) (Jq j v x hj hx)) (fun j v x hj hx=>oH h (hv.2 v (List.mem_of_getElem? hj)) (QP j v x hj hx))
 all_goals exact oH h hv hr
theorem wD {E F:Env} (h:uZ E.I F.I) {v:V} {x:Value} (hv:v.free=true) (hr:Rel E v x):Rel F v x:=by
 cases v
 case bY cs=>
  simp only [V.free,List.all_eq_true] at hv
  cases hr with
  |deep hd=>cases hd
  |bY _ a ha Jq=>exact .bY _ _ ha fun j v x hj hx=>G1 h (hv v (List.mem_of_getElem? hj)) (Jq j v x hj hx)
 all_goals exact G1 h hv hr
def iJ:aA:=⟨0,[]⟩
theorem cI {k:Key}:¬(dP iJ).live k:=by
 rintro ⟨o,ho⟩
 cases k with
 |g n=>simp [St.get,iJ,aA.get,aA.find] at ho
 |l n=>simp [St.get,GD,aA.get,aA.find] at ho
theorem aC.frame {P:Program} {f:Nat} {args:List V} {K0:V->aA->Prop} (h0:aC P f args iJ K0) (ha:args.all V.free=true) {h:aA} {K:V->aA->Prop}
 (hK:∀ v h',K0 v h'->v.free=true/\K v h):aC P f args h K:=by
 refine ⟨h0.1,fun E w vs tO hs hv=>?_⟩
 simp only [List.all_eq_true] at ha
 let E0:Env:={ I:=E.I,μ:=E.μ,ng:=0,nl:=0 }
 have QE:cH E0 (dP iJ) w:=⟨rfl,rfl,fun k hk=>absurd hk cI,hs.j6,fun k o hk=>absurd ⟨o,hk⟩ cI,fun k k' hk=>absurd hk cI,fun k hk=>absurd hk cI⟩
 have NX:eT E0 args vs:=⟨hv.1,fun j v x hj hx=>wD (E:=E) (F:=E0) (fun b o x h=>h) (ha v (List.mem_of_getElem? hj)) (hv.2 j v x hj hx)⟩
 refine (h0.2 E0 w vs rfl QE NX).mono ?_
 rintro e w' ⟨v,x,h',E',hk,rfl,hn,Ay,he,hr⟩
 obtain ⟨NY,BT⟩:=hK v h' hk
 have D4:uZ E.I E'.I:=he.le.j6
 have lA:∀ k,(dP h).live k->w'.heap[(E.μ k).bS]? =w.heap[(E.μ k).bS]? :=fun k hk=>he.same _ (hs.lt hk) fun k0 Pm=>absurd Pm cI
 have hle:E.Le { E with I:=E'.I }:=⟨D4,Nat.le_refl _,Nat.le_refl _,fun _ _=>rfl⟩
 refine ⟨v,x,h,{ E with I:=E'.I },BT,rfl,tO,⟨hs.ng,hs.nl,fun k hk=>hs.j7 k hk,Ay.j6,fun k o hk=>?_,fun k k' hk iT dJ=>hs.sep k k' hk iT dJ,fun k hk j h1 h2=>?_⟩,
  ⟨hle,he.size,fun b o x hx=>?_,fun k hk _=>hk,fun k hk hn=>absurd (hs.j7 k hk) hn,fun b hb _=>he.same b hb fun k hk=>absurd hk cI,he.os,he.out,he.tape⟩,wD (E:=E') (F:={ E with I:=E'.I }) (fun b o x h=>h) NY hr⟩
 · exact (hs.obj k o hk).dZ (Env.jC hle k) (lA k ⟨o,hk⟩)
 · show E'.I (E.μ k).bS j=none
   cases hx:E'.I (E.μ k).bS j with
   |none=>rfl
   |some y=>
    rcases he.fT _ _ _ hx with h3|h3|⟨k0,h3,_⟩
    · have:=hs.own k hk j h1 h2
      rw [show E0.I=E.I from rfl,this] at h3
      cases h3
    · have:=hs.lt hk
      omega
    · exact absurd h3 cI
 · rcases he.fT b o x hx with h1|h1|⟨k0,h1,_⟩
   · exact .inl h1
   · exact .inr (.inl h1)
   · exact absurd h1 cI
end Go.Eng
