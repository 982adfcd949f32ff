/-
Symbolic runs: the same asks under heads that do not unfold, and a loop rule.
-/
import Derived.Test.YtdjbjnnfmkoceaaGreatY05
set_option linter.unusedVariables false
set_option linter.unusedSimpArgs false
namespace Go.Eng
open Go
structure l6 (c:Bool) (X Y:Prop):Prop where
 t:c=true->X
 f:c=false->Y
structure yA {β:Type} (o:Option β) (k:β->Prop):Prop where
 h:∃ x,o=some x/\k x
structure rA {β:Type} (o:Option β) (n:Prop) (k:β->Prop):Prop where
 n:o=none->n
 s:∀ x,o=some x->k x
structure gJ (c:Bool) (k:Prop):Prop where
 c:c=true
 k:k
structure fL (kd:IntKind) (n:Int) (k:Int->Prop):Prop where
 h:k (kd.wrap n)
structure Rx (k:Bool->Prop):Prop where
 h:∀ r,k r
structure uL (A:bK) (f:Nat) (aEo:List V) (h:aC) (K:V->aC->Prop):Prop where
 h:A f aEo h K
structure BO (v u:V) (k:Prop):Prop where
 e:v=u
 k:k
structure BP (X:(Fr->St->Prop)->Fr->St->Prop) (fr:Fr) (st:St):Prop where
 h:∀ R:Fr->St->Prop,(∀ fr bV st,Fr.le bV fr->X R bV st->R fr st)->R fr st
theorem l6.tt {c:Bool} {X Y:Prop} (h:c=true) (x:X):l6 c X Y:=⟨fun _=>x,fun h'=>(by rw [h] at h';cases h')⟩
theorem l6.ff {c:Bool} {X Y:Prop} (h:c=false) (y:Y):l6 c X Y:=⟨fun h'=>(by rw [h] at h';cases h'),fun _=>y⟩
theorem l6.dt {p:Prop} [Decidable p] {X Y:Prop} (h:p) (x:X):l6 (decide p) X Y:=.tt (decide_eq_true h) x
theorem l6.df {p:Prop} [Decidable p] {X Y:Prop} (h:¬p) (y:Y):l6 (decide p) X Y:=.ff (decide_eq_false h) y
theorem l6.nt {p:Prop} [Decidable p] {X Y:Prop} (h:¬p) (x:X):l6 (!decide p) X Y:=.tt (by rw [decide_eq_false h];rfl) x
theorem l6.nf {p:Prop} [Decidable p] {X Y:Prop} (h:p) (y:Y):l6 (!decide p) X Y:=.ff (by rw [decide_eq_true h];rfl) y
theorem yA.of {β:Type} {o:Option β} {k:β->Prop} {x:β} (h:o=some x) (hk:k x):yA o k:=⟨x,h,hk⟩
theorem rA.no {β:Type} {o:Option β} {n:Prop} {k:β->Prop} (h:o=none) (hn:n):rA o n k:=⟨fun _=>hn,fun x hx=>by rw [h] at hx;cases hx⟩
theorem rA.of {β:Type} {o:Option β} {n:Prop} {k:β->Prop} {x:β} (h:o=some x) (hk:k x):rA o n k:=
 ⟨fun hn=>(by rw [h] at hn;cases hn),fun y hy=>by rw [h] at hy;cases hy;exact hk⟩
theorem gJ.d {p:Prop} [Decidable p] {k:Prop} (h:p) (hk:k):gJ (decide p) k:=⟨decide_eq_true h,hk⟩
theorem gJ.d2 {p q:Prop} [Decidable p] [Decidable q] {k:Prop} (h:p) (h':q) (hk:k):gJ (decide p&&decide q) k:=⟨by rw [decide_eq_true h,decide_eq_true h'];rfl,hk⟩
theorem gJ.d3 {p q r:Prop} [Decidable p] [Decidable q] [Decidable r] {k:Prop} (h:p) (h':q) (h2:r) (hk:k):gJ (decide p&&decide q&&decide r) k:=
 ⟨by rw [decide_eq_true h,decide_eq_true h',decide_eq_true h2];rfl,hk⟩
theorem gJ.ix {i:Int} {n:Nat} {k:Prop} (h:0<=i) (h':i<n) (hk:k):gJ (qI i n) k:=⟨by unfold qI;rw [decide_eq_true h,decide_eq_true h'];rfl,hk⟩
theorem fL.w64 {n:Int} {k:Int->Prop} (h1:-9223372036854775808<=n) (h2:n<=9223372036854775807) (hk:k n):fL .i64 n k:=
 ⟨by rw [lD (by simpa [IntKind.min,IntKind.bits,IntKind.signed] using h1) (by simpa [IntKind.max,IntKind.bits,IntKind.signed] using h2)];exact hk⟩
theorem fL.wu {n:Int} {k:Int->Prop} (h1:0<=n) (h2:n<=18446744073709551615) (hk:k n):fL .u64 n k:=
 ⟨by rw [lD (by simpa [IntKind.min,IntKind.bits,IntKind.signed] using h1) (by simpa [IntKind.max,IntKind.bits,IntKind.signed] using h2)];exact hk⟩
theorem fL.of {kd:IntKind} {n:Int} {k:Int->Prop} (h1:kd.min<=n) (h2:n<=kd.max) (hk:k n):fL kd n k:=⟨by rw [lD h1 h2];exact hk⟩
theorem BP.by {X:(Fr->St->Prop)->Fr->St->Prop} {fr:Fr} {st:St} (I:Nat->Fr->St->Prop) (n:Nat) (h0:I n fr st)
 (hs:∀ n fr st,I n fr st->∃ bV,Fr.le bV fr/\∀ R:Fr->St->Prop,(∀ m fr st,m<n->I m fr st->R fr st)->X R bV st):BP X fr st:=by
 refine ⟨fun R hR=>?_⟩
 have key:∀ n fr st,I n fr st->R fr st:=by
  intro n
  induction n using Nat.strongRecOn with
  |_ n ih=>
   intro fr st hi
   obtain ⟨bV,hle,hx⟩:=hs n fr st hi
   exact hR fr bV st hle (hx R fun m fr st hm hi=>ih m hm fr st hi)
 exact key n fr st h0
def T.sp {α:Type} (A:bK):T α->(α->Prop)->Prop
 |.ret a,K=>K a
 |.ite c t e,K=>l6 c (t.sp A K) (e.sp A K)
 |.elem o k,K=>yA o fun x=>(k x).sp A K
 |.byte o k,K=>yA o fun x=>(k x).sp A K
 |.gL o k,K=>yA o fun x=>(k x).sp A K
 |.Kk o k,K=>yA o fun x=>(k x).sp A K
 |.obj o k,K=>yA o fun x=>(k x).sp A K
 |.oV o n k,K=>rA o (n.sp A K) fun x=>(k x).sp A K
 |.mL c k,K=>gJ c (k.sp A K)
 |.wrap kd n k,K=>fL kd n fun x=>(k x).sp A K
 |.any k,K=>Rx fun r=>(k r).sp A K
 |.same v u k,K=>BO v u (k.sp A K)
 |.call f aEo h k,K=>uL A f aEo h fun r h'=>(k r h').sp A K
 |.fail,_=>False
theorem T.BQ {α:Type} {A:bK} (hA:A.AZ) (t:T α):∀ (K:α->Prop),t.sp A K->t.wp A K:=by
 induction t with
 |ret a=>exact fun K h=>h
 |ite c t e Uq Ur=>exact fun K h=>⟨fun hc=>Uq K (h.t hc),fun hc=>Ur K (h.f hc)⟩
 |elem o k ih=>exact fun K ⟨⟨x,hx,hk⟩⟩=>⟨x,hx,ih x K hk⟩
 |byte o k ih=>exact fun K ⟨⟨x,hx,hk⟩⟩=>⟨x,hx,ih x K hk⟩
 |gL o k ih=>exact fun K ⟨⟨x,hx,hk⟩⟩=>⟨x,hx,ih x K hk⟩
 |Kk o k ih=>exact fun K ⟨⟨x,hx,hk⟩⟩=>⟨x,hx,ih x K hk⟩
 |obj o k ih=>exact fun K ⟨⟨x,hx,hk⟩⟩=>⟨x,hx,ih x K hk⟩
 |oV o n k Kr ih=>exact fun K h=>⟨fun hn=>Kr K (h.n hn),fun x hx=>ih x K (h.s x hx)⟩
 |mL c k ih=>exact fun K h=>⟨h.c,ih K h.k⟩
 |wrap kd n k ih=>exact fun K h=>.inl (ih _ K h.h)
 |any k ih=>exact fun K h r=>ih r K (h.h r)
 |same v u k ih=>exact fun K h=>⟨h.e,ih K h.k⟩
 |call f aEo hh k ih=>exact fun K h=>hA _ _ _ _ _ (fun r h' hr=>ih r h' K hr) h.h
 |fail=>exact fun K h=>h
def uM (sz:Nat) (st:St) (v:V) (k:List (List V)->T R):T R:=
 match v with
 |.ms key eD s n=>if eD=sz then .obj (st.get key) fun o=>match o with
   |.arr eP es=>if eP=sz then .mL (decide (s+n<=es.length)) (.gL (some ((es.drop s).take n)) k) else .fail
   |_=>.fail
  else .fail
 |v=>fP sz st v k
def Bk (m:jQ) (sz bytes:Nat) (st:St) (s:V) (new:List (List V)):T R:=
 match s with
 |.aB=>.ite new.isEmpty (.ret (.aB,st)) (.mL (gO new.length bytes) (oZ m sz new st))
 |.sl tok eD es=>if eD=sz then .ite new.isEmpty (.ret (.sl tok sz es,st))
   (.mL (gO (es.length+new.length) bytes)<|.gL (eR new) fun ds=>match tok with
     |some k=>.obj (st.get k) fun o=>match o with
      |.spare=>.gL (some (es++ds)) fun sD=>.ret (.sl (some ((st.remove k).aK k.rD)) sz sD,(st.remove k).push k.rD .spare)
      |_=>.fail
     |none=>.fail)
  else .fail
 |.ms k eD off len=>if eD=sz then .ite new.isEmpty (.ret (.ms k sz off len,st))
   (.mL (gO (len+new.length) bytes)<|.gL (eU k.rD new) fun ds=>.obj (st.get k) fun o=>match o with
     |.arr eP es=>if eP=sz then
       .mL (decide (off+len<=es.length))<|.ite (decide (off+len+ds.length<=es.length))
        (.gL (some (es.take (off+len)++ds++es.drop (off+len+ds.length))) fun sD=>.ret (.ms k sz off (len+ds.length),st.set k (.arr sz sD)))
        (.gL (some ((es.take (off+len)).drop off++ds)) fun sD=>.ret (.ms ((st.remove k).aK k.rD) sz 0 (len+ds.length),(st.remove k).push k.rD (.arr sz sD)))
      else .fail
     |_=>.fail)
  else .fail
 |_=>.fail
theorem uN {A:bK} {sz:Nat} {st:St} {v:V} {k k':List (List V)->T R} {K:R->Prop} (hk:∀ es,(k es).wp A K->(k' es).wp A K) (h:(uM sz st v k).wp A K):(fP sz st v k').wp A K:=by
 cases v<;>simp only [uM,fP] at h ⊢
 case aB=>exact hk _ h
 case sl tok eD es=>
  split at h
  · rename_i hs;rw [if_pos hs];exact hk _ h
  · exact h.elim
 case ms key eD s n=>
  split at h
  · rename_i hs
    rw [if_pos hs]
    obtain ⟨o,ho,h⟩:=h
    refine ⟨o,ho,?_⟩
    cases o<;>(try exact h.elim)
    dsimp only at h ⊢
    split at h
    · rename_i hz
      rw [if_pos hz]
      obtain ⟨h1,e,he,h2⟩:=h
      cases he
      exact ⟨h1,hk _ h2⟩
    · exact h.elim
  · exact h.elim
 case s x=>
  split at h
  · rename_i hs;rw [if_pos hs];exact hk _ h
  · exact h.elim
 all_goals exact h.elim
theorem IX {A:bK} {m:jQ} {sz bytes:Nat} {st:St} {s:V} {new:List (List V)} {K:R->Prop} (h:(Bk m sz bytes st s new).wp A K):(iM m sz bytes st s new).wp A K:=by
 cases s<;>simp only [Bk] at h<;>(try exact h.elim)
 case aB=>
  cases new with
  |nil=>exact h.1 rfl
  |cons e r=>exact h.2 rfl
 case sl tok eD es=>
  simp only [iM]
  split at h
  case isFalse=>exact h.elim
  rename_i hs
  rw [if_pos hs]
  cases new with
  |nil=>exact h.1 rfl
  |cons e r=>
   obtain ⟨h1,ds,h2,h3⟩:=h.2 rfl
   refine ⟨h1,ds,h2,?_⟩
   cases tok with
   |none=>exact h3
   |some k=>
    obtain ⟨o,ho,h3⟩:=h3
    refine ⟨o,ho,?_⟩
    cases o<;>(try exact h3.elim)
    obtain ⟨e',he,h4⟩:=h3
    cases he
    exact h4
 case ms k eD off len=>
  simp only [iM]
  split at h
  case isFalse=>exact h.elim
  rename_i hs
  rw [if_pos hs]
  cases new with
  |nil=>exact h.1 rfl
  |cons e r=>
   obtain ⟨h1,ds,h2,o,ho,h3⟩:=h.2 rfl
   refine ⟨h1,ds,h2,o,ho,?_⟩
   cases o<;>(try exact h3.elim)
   dsimp only at h3 ⊢
   split at h3
   case isFalse=>exact h3.elim
   rename_i hz
   rw [if_pos hz]
   obtain ⟨h4,h5,h6⟩:=h3
   refine ⟨h4,fun hc=>?_,fun hc=>?_⟩
   · obtain ⟨e',he,h7⟩:=h5 hc
     cases he
     exact h7
   · obtain ⟨e',he,h7⟩:=h6 hc
     cases he
     exact h7
def iB (o:wT) (fr:Fr) (st:St):T R:=
 match o with
 |.load n a=>match a.ev fr with
  |.p k off=>.obj (st.get k) fun o=>match o with
   |.cs c=>.oV (dF c off n) .fail fun v=>.ret (v,st)
   |_=>.fail
  |.pa k sz ix off=>.obj (st.get k) fun o=>match o with
   |.arr eD es=>if eD=sz then .elem es[ix]? fun e=>.oV (dF e off n) .fail fun v=>.ret (v,st) else .fail
   |_=>.fail
  |.pc cs off=>.oV (dF cs off n) .fail fun v=>.ret (v,st)
  |_=>.fail
 |.QW off n x=>match x.ev fr with
  |.agg cs=>.oV (dF cs off n) .fail fun v=>.ret (v,st)
  |_=>.fail
 |.T0 len sz n x i=>match x.ev fr,i.ev fr with
  |.agg cs,.i _ j=>.mL (qI j len)<|.oV (dF cs (j.toNat*sz) n) .fail fun v=>.ret (v,st)
  |_,_=>.fail
 |.append m sz bytes s x=>uM sz st (x.ev fr) fun new=>Bk m sz bytes st (s.ev fr) new
 |.PN x=>uM 1 st (x.ev fr) fun es=>.Kk (bytesOf es) fun y=>.ret (.s y,st)
 |.copy sz d x=>uM sz st (x.ev fr) fun src=>match d.ev fr with
  |.ms k eD off len=>if eD=sz then .gL (eU k.rD (src.take len)) fun ds=>.obj (st.get k) fun o=>match o with
    |.arr eP es=>if eP=sz then
      .mL (decide (off+len<=es.length))<|.gL (some (es.take off++ds++es.drop (off+ds.length))) fun sD=>.ret (.i .i64 (ds.length:Nat),st.set k (.arr sz sD))
     else .fail
    |_=>.fail
   else .fail
  |_=>.fail
 |.zX max xs=>match bH.BB fr xs with
  |v::r=>.oV (gC max v r) .fail fun v=>.ret (v,st)
  |[]=>.fail
 |.tK sz x lo hi mx=>match x.ev fr with
  |.sl tok eD es=>if eD=sz then match mx with
    |none=>match bH.tJ fr hi with
     |none=>T.opt (dW (bH.tJ fr lo) 0) fun l=>.mL (decide (0<=l)&&decide (l<=(es.length:Int)))<|.gL (some (es.drop l.toNat)) fun es=>.ret (.sl tok sz es,st)
     |some v=>T.opt (tL v) fun h=>T.opt (dW (bH.tJ fr lo) 0) fun l=>
      .mL (decide (0<=l)&&decide (l<=h)&&decide (h<=(es.length:Int)))<|.gL (some ((es.take h.toNat).drop l.toNat)) fun es=>.ret (.sl none sz es,st)
    |some _=>.fail
   else .fail
  |_=>step (.tK sz x lo hi mx) fr st
 |.xS f args=>match f.ev fr with
  |.fn g first cap=>.elem (eM (first++bH.BB fr args++cap)) fun vs=>.call g vs st.g fun r h=>.ret (r,⟨h,st.l⟩)
  |_=>.fail
 |.store n a x=>if (x.ev fr).sto=true/\(x.ev fr).cells.length=n then match a.ev fr with
   |.p k off=>T.opt (rH k.rD (x.ev fr).cells) fun vs=>.obj (st.get k) fun o=>match o with
    |.cs c=>.mL (qU c off vs)<|.elem (some (cS c off vs)) fun c'=>.ret (.bC [],st.set k (.cs c'))
    |_=>.fail
   |.pa k sz ix off=>T.opt (rH k.rD (x.ev fr).cells) fun vs=>.obj (st.get k) fun o=>match o with
    |.arr eD es=>if eD=sz then .elem es[ix]? fun e=>.mL (qU e off vs)<|.gL (some (es.set ix (cS e off vs))) fun sD=>.ret (.bC [],st.set k (.arr sz sD)) else .fail
    |_=>.fail
   |_=>.fail
  else .fail
 |o=>step o fr st
theorem wH {β:Type} {A:bK} {o:Option V} {k:V->T β} {K:β->Prop} (h:(T.oV o .fail k).wp A K):(T.opt o k).wp A K:=by
 cases o with
 |none=>exact h.1 rfl
 |some x=>exact h.2 x rfl
theorem AE {A:bK} {o:wT} {fr:Fr} {st:St} {K:R->Prop} (h:(iB o fr st).wp A K):(step o fr st).wp A K:=by
 cases o
 case load n a=>
  simp only [iB] at h
  simp only [step]
  generalize a.ev fr=v at h ⊢
  cases v<;>(try exact h)
  case p k off=>
   obtain ⟨o,ho,h⟩:=h
   refine ⟨o,ho,?_⟩
   cases o<;>first|exact h|exact wH h
  case pa k sz ix off=>
   obtain ⟨o,ho,h⟩:=h
   refine ⟨o,ho,?_⟩
   cases o<;>(try exact h)
   dsimp only at h ⊢
   split at h
   · rename_i hs
     rw [if_pos hs]
     obtain ⟨e,he,h⟩:=h
     exact ⟨e,he,wH h⟩
   · exact h.elim
  case pc cs off=>exact wH h
 case QW off n x=>
  simp only [iB] at h
  simp only [step]
  generalize x.ev fr=v at h ⊢
  cases v<;>(try exact h)
  exact wH h
 case T0 len sz n x i=>
  simp only [iB] at h
  simp only [step]
  generalize x.ev fr=v at h ⊢
  generalize i.ev fr=u at h ⊢
  cases v<;>cases u<;>(try exact h)
  exact ⟨h.1,wH h.2⟩
 case append m sz bytes s x=>
  simp only [iB] at h
  simp only [step]
  exact uN (fun es h=>IX h) h
 case PN x=>
  simp only [iB] at h
  simp only [step]
  exact uN (fun es h=>h) h
 case copy sz d x=>
  simp only [iB] at h
  simp only [step]
  refine uN (fun src h=>?_) h
  generalize d.ev fr=v at h ⊢
  cases v<;>(try exact h.elim)
  dsimp only at h ⊢
  split at h
  case isFalse=>exact h.elim
  rename_i hs
  rw [if_pos hs]
  obtain ⟨ds,h1,o,ho,h⟩:=h
  refine ⟨ds,h1,o,ho,?_⟩
  cases o<;>(try exact h.elim)
  dsimp only at h ⊢
  split at h
  case isFalse=>exact h.elim
  rename_i hz
  rw [if_pos hz]
  obtain ⟨h2,e,he,h3⟩:=h
  cases he
  exact ⟨h2,h3⟩
 case zX max xs=>
  simp only [iB] at h
  simp only [step]
  generalize bH.BB fr xs=vs at h ⊢
  cases vs with
  |nil=>exact h
  |cons v r=>exact wH h
 case tK sz x lo hi mx=>
  simp only [iB] at h
  split at h
  case h_2=>exact h
  rename_i tok eD es hx
  simp only [step,hx]
  split at h
  case isFalse=>exact h.elim
  rename_i hs
  rw [if_pos hs]
  cases mx with
  |some q=>exact h.elim
  |none=>
   dsimp only at h ⊢
   generalize bH.tJ fr hi=w at h ⊢
   cases w with
   |none=>
    dsimp only at h ⊢
    cases hb:dW (bH.tJ fr lo) 0 with
    |none=>rw [hb] at h;exact h.elim
    |some l=>
     rw [hb] at h
     obtain ⟨h1,e,h2,h3⟩:=h
     cases h2
     exact ⟨h1,h3⟩
   |some v=>
    dsimp only at h ⊢
    cases hi:tL v with
    |none=>rw [hi] at h;exact h.elim
    |some u=>
    cases hb:dW (bH.tJ fr lo) 0 with
    |none=>rw [hi,hb] at h;exact h.elim
    |some l=>
     rw [hi,hb] at h
     obtain ⟨h1,e,h2,h3⟩:=h
     cases h2
     exact ⟨h1,h3⟩
 case xS f args=>
  simp only [iB] at h
  simp only [step]
  generalize f.ev fr=v at h ⊢
  cases v<;>(try exact h)
  obtain ⟨vs,h1,h2⟩:=h
  dsimp only
  rw [h1]
  exact h2
 case store n a x=>
  simp only [iB] at h
  simp only [step]
  generalize x.ev fr=u at h ⊢
  generalize a.ev fr=v at h ⊢
  split at h
  case isFalse=>exact h.elim
  rename_i hs
  rw [if_pos hs]
  cases v<;>(try exact h.elim)
  case p k off=>
   dsimp only at h ⊢
   cases hv:rH k.rD u.cells with
   |none=>rw [hv] at h;exact h.elim
   |some vs=>
    rw [hv] at h
    obtain ⟨o,ho,h⟩:=h
    refine ⟨o,ho,?_⟩
    cases o<;>(try exact h.elim)
    obtain ⟨h1,c',h2,h3⟩:=h
    cases h2
    dsimp only
    rw [h1]
    exact h3
  case pa k sz ix off=>
   dsimp only at h ⊢
   cases hv:rH k.rD u.cells with
   |none=>rw [hv] at h;exact h.elim
   |some vs=>
    rw [hv] at h
    obtain ⟨o,ho,h⟩:=h
    refine ⟨o,ho,?_⟩
    cases o<;>(try exact h.elim)
    dsimp only at h ⊢
    split at h
    case isFalse=>exact h.elim
    rename_i hz
    rw [if_pos hz]
    obtain ⟨e,he,h1,c',h2,h3⟩:=h
    cases h2
    refine ⟨e,he,?_⟩
    show T.wp A (match qU e off vs with|true=>_|false=>_) K
    rw [h1]
    exact h3
 all_goals exact h
def j7:List cG->Fr->St->T (Fr×St)
 |[],fr,st=>.ret (fr,st)
 |o::rest,fr,st=>
  match o.guard with
  |none=>(iB o.op fr st).bind fun x=>match x with
   |(v,st)=>fr.after o.dst v o.kill fun fr=>j7 rest fr st
  |some (t,want)=>match fr.get t with
   |.b x=>match want with
    |true=>.ite x
     (fr.cut [t] fun r=>(iB o.op ((t,.b true)::r) st).bind fun x=>match x with
       |(v,st)=>Fr.after ((t,.b true)::r) o.dst v o.kill fun fr=>j7 rest fr st)
     (fr.cut [t] fun r=>Fr.after ((t,.b false)::r) o.dst (.bC []) o.kill fun fr=>j7 rest fr st)
    |false=>.ite x
     (fr.cut [t] fun r=>Fr.after ((t,.b true)::r) o.dst (.bC []) o.kill fun fr=>j7 rest fr st)
     (fr.cut [t] fun r=>(iB o.op ((t,.b false)::r) st).bind fun x=>match x with
       |(v,st)=>Fr.after ((t,.b false)::r) o.dst v o.kill fun fr=>j7 rest fr st)
   |.bC _=>fr.after o.dst (.bC []) o.kill fun fr=>j7 rest fr st
   |_=>.fail
theorem yY {A:bK} (hA:A.AZ):∀ (ops:List cG) (fr:Fr) (st:St) (K:Fr×St->Prop),(j7 ops fr st).wp A K->(dM ops fr st).wp A K
 |[],fr,st,K,h=>h
 |o::rest,fr,st,K,h=>by
  have one:∀ {iW:Fr},((iB o.op iW st).bind fun x=>match x with
   |(v,st)=>iW.after o.dst v o.kill fun fr=>j7 rest fr st).wp A K->((step o.op iW st).bind fun x=>match x with
   |(v,st)=>iW.after o.dst v o.kill fun fr=>dM rest fr st).wp A K:=by
   intro iW h
   rw [T.wp_bind] at h ⊢
   refine AE ?_
   revert h
   refine T.wp_mono hA ?_
   rintro ⟨v,st⟩ h
   dsimp only at h ⊢
   rw [Fr.bW] at h ⊢
   exact yY hA rest _ _ K h
  have two:∀ {iW:Fr},(iW.after o.dst (.bC []) o.kill fun fr=>j7 rest fr st).wp A K->(iW.after o.dst (.bC []) o.kill fun fr=>dM rest fr st).wp A K:=by
   intro iW h
   rw [Fr.bW] at h ⊢
   exact yY hA rest _ _ K h
  obtain ⟨dst,op,g,kill⟩:=o
  cases g with
  |none=>exact one h
  |some q=>
   obtain ⟨t,want⟩:=q
   simp only [j7] at h
   simp only [dM]
   generalize fr.get t=v at h ⊢
   cases v<;>(try exact h)
   case b x=>
    cases want
    · refine ⟨fun hc=>?_,fun hc=>?_⟩
      · have h:=h.1 hc
        rw [Fr.b8] at h ⊢
        exact two h
      · have h:=h.2 hc
        rw [Fr.b8] at h ⊢
        exact one h
    · refine ⟨fun hc=>?_,fun hc=>?_⟩
      · have h:=h.1 hc
        rw [Fr.b8] at h ⊢
        exact one h
      · have h:=h.2 hc
        rw [Fr.b8] at h ⊢
        exact two h
   case bC vs=>exact two h
def Lh:List aO->List aO->Fr->St->T (Fr×St)
 |_,[],fr,st=>.ret (fr,st)
 |done,d::rest,fr,st=>rJ d.o.guard fr
  (fun fr=>(iB d.o.op fr st).bind fun x=>match x with
    |(v,st)=>fr.after d.o.dst v [] fun fr=>recheck d.re done fr st (Lh (d::done) rest fr st))
  (fun fr=>fr.after d.o.dst (.bC []) [] fun fr=>Lh (d::done) rest fr st)
theorem fZ {α:Type} {A:bK} (hA:A.AZ) {re:List Nat} {k k':T α} {K K':α->Prop}:∀ {ds:List aO} {fr:Fr} {st:St},(k.wp A K->k'.wp A K')->(recheck re ds fr st k).wp A K->(recheck re ds fr st k').wp A K'
 |[],fr,st,hk,h=>hk h
 |p::ps,fr,st,hk,h=>by
  simp only [recheck] at h ⊢
  split at h
  · split at h
    · rw [T.wp_bind] at h ⊢
      refine T.wp_mono hA ?_ h
      intro x hx
      split at hx
      · exact ⟨hx.1,fZ hA hk hx.2⟩
      · exact fZ hA hk hx
    · exact fZ hA hk h
    · exact h
  · exact fZ hA hk h
theorem yZ {α:Type} {A:bK} {g:Option (Nat×Bool)} {fr:Fr} {y y' n n':Fr->T α} {K K':α->Prop} (hy:∀ fr,(y fr).wp A K->(y' fr).wp A K') (hn:∀ fr,(n fr).wp A K->(n' fr).wp A K')
 (h:(rJ g fr y n).wp A K):(rJ g fr y' n').wp A K':=by
 unfold rJ at h ⊢
 split at h
 · exact hy _ h
 · split at h
   · split at h
     · refine ⟨fun hc=>?_,fun hc=>?_⟩
       · have h:=h.1 hc
         rw [Fr.b8] at h ⊢
         exact hy _ h
       · have h:=h.2 hc
         rw [Fr.b8] at h ⊢
         exact hn _ h
     · refine ⟨fun hc=>?_,fun hc=>?_⟩
       · have h:=h.1 hc
         rw [Fr.b8] at h ⊢
         exact hn _ h
       · have h:=h.2 hc
         rw [Fr.b8] at h ⊢
         exact hy _ h
   · exact hn _ h
   · exact h
theorem DH {A:bK} (hA:A.AZ):∀ (ds done:List aO) (fr:Fr) (st:St) (K:Fr×St->Prop),(Lh done ds fr st).wp A K->(gD done ds fr st).wp A K
 |[],done,fr,st,K,h=>h
 |d::rest,done,fr,st,K,h=>by
  simp only [Lh] at h
  simp only [gD]
  refine yZ (fun fr h=>?_) (fun fr h=>?_) h
  · rw [T.wp_bind] at h ⊢
    refine AE ?_
    refine T.wp_mono hA ?_ h
    rintro ⟨v,st⟩ h
    dsimp only at h ⊢
    rw [Fr.bW] at h ⊢
    exact fZ hA (fun h=>DH hA rest _ _ _ K h) h
  · rw [Fr.bW] at h ⊢
    exact DH hA rest _ _ _ K h
def spC (A:bK):AC->(Ex->Fr->St->Prop)->Fr->St->Prop
 |.skip,Q,fr,st=>Q .normal fr st
 |.EF ops,Q,fr,st=>(j7 ops fr st).sp A (pE Q)
 |.BZ ds kill,Q,fr,st=>((Lh [] ds fr st).bind (Av kill)).sp A (pE Q)
 |.seq a b,Q,fr,st=>spC A a (rW (spC A b Q) Q) fr st
 |.cond c a b,Q,fr,st=>match c.ev fr with
  |.b x=>l6 x (spC A a Q fr st) (spC A b Q fr st)
  |_=>False
 |.bI id b,Q,fr,st=>spC A b (jD id Q) fr st
 |.loop b,Q,fr,st=>BP (fun R=>spC A b (rW R Q)) fr st
 |.exit id,Q,fr,st=>Q (.exit id) fr st
 |.ret,Q,fr,st=>Q .ret fr st
 |.no,_,_,_=>False
theorem y9 {A:bK} (hA:A.AZ):∀ (c:AC) (Q Q':Ex->Fr->St->Prop) (fr:Fr) (st:St),spC A c Q fr st->(∀ e fr st,Q e fr st->Q' e fr st)->rX A c Q' fr st
 |.skip,Q,Q',fr,st,h,hq=>hq _ _ _ h
 |.EF ops,Q,Q',fr,st,h,hq=>T.wp_mono hA (fun ⟨_,_⟩ h=>hq _ _ _ h) (yY hA ops fr st _ (T.BQ hA _ _ h))
 |.BZ ds kill,Q,Q',fr,st,h,hq=>by
  refine T.wp_mono hA (fun ⟨_,_⟩ h=>hq _ _ _ h) (?_:T.wp A _ (pE Q))
  simp only [spC] at h
  have h:=T.BQ hA _ _ h
  rw [T.wp_bind] at h ⊢
  exact DH hA _ _ _ _ _ h
 |.seq a b,Q,Q',fr,st,h,hq=>by
  refine y9 hA a _ _ fr st h ?_
  intro e fr st h
  cases e with
  |normal=>exact y9 hA b _ _ fr st h hq
  |exit id=>exact hq _ _ _ h
  |ret=>exact hq _ _ _ h
 |.cond c a b,Q,Q',fr,st,h,hq=>by
  simp only [spC] at h
  simp only [rX]
  split at h
  · rename_i x hx
    rw [hx]
    exact ⟨fun hc=>y9 hA a _ _ _ _ (h.t hc) hq,fun hc=>y9 hA b _ _ _ _ (h.f hc) hq⟩
  · exact h.elim
 |.bI id b,Q,Q',fr,st,h,hq=>by
  refine y9 hA b _ _ fr st h ?_
  intro e fr st h
  cases e with
  |normal=>exact hq _ _ _ h
  |exit ER=>
   simp only [jD] at h ⊢
   split
   · rename_i hi;rw [if_pos hi] at h;exact hq _ _ _ h
   · rename_i hi;rw [if_neg hi] at h;exact hq _ _ _ h
  |ret=>exact hq _ _ _ h
 |.loop b,Q,Q',fr,st,h,hq=>by
  intro R hR
  refine h.h R fun fr bV st hl hx=>hR fr bV st hl ?_
  refine y9 hA b _ _ bV st hx ?_
  intro e fr st h
  cases e with
  |normal=>exact h
  |exit id=>exact hq _ _ _ h
  |ret=>exact hq _ _ _ h
 |.exit id,Q,Q',fr,st,h,hq=>hq _ _ _ h
 |.ret,Q,Q',fr,st,h,hq=>hq _ _ _ h
 |.no,_,_,_,_,h,_=>h.elim
theorem Gn {P:Program} {f:Nat} {F:aF} (hk:iY P f F=true) {args:List V} (hn:args.length=F.nparams) {h:aC} {K:V->aC->Prop}
 (hw:spC (aE P) F.body (mT F.results K) (dN 0 args) (gH h)):aE P f args h K:=
 fn_ok hk hn (y9 (aE.mono P) _ _ _ _ _ hw fun _ _ _ h=>h)
end Go.Eng
