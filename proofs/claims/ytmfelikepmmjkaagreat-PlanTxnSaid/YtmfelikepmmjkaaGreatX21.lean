/-
Symbolic runs: the same asks under heads that do not unfold, and a loop rule.
-/
import Derived.Test.YtmfelikepmmjkaaGreatX12
set_option linter.unusedVariables false
set_option linter.unusedSimpArgs false
namespace Go.Eng
open Go
structure aH (c:Bool) (X Y:Prop):Prop where
 t:c=true->X
 f:c=false->Y
structure cK {β:Type} (o:Option β) (k:β->Prop):Prop where
 h:∃ x,o=some x/\k x
structure bC {β:Type} (o:Option β) (n:Prop) (k:β->Prop):Prop where
 n:o=none->n
 s:∀ x,o=some x->k x
structure aM (c:Bool) (k:Prop):Prop where
 c:c=true
 k:k
structure aR (kd:IntKind) (n:Int) (k:Int->Prop):Prop where
 h:k (kd.wrap n)
structure B0 (k:Bool->Prop):Prop where
 h:∀ r,k r
structure dF (A:b7) (f:Nat) (asV:List V) (h:aA) (K:V->aA->Prop):Prop where
 h:A f asV h K
structure aT (v u:V) (k:Prop):Prop where
 e:v=u
 k:k
structure b8 (X:(Fr->St->Prop)->Fr->St->Prop) (fr:Fr) (st:St):Prop where
 h:∀ R:Fr->St->Prop,(∀ fr cF st,Fr.le cF fr->X R cF st->R fr st)->R fr st
theorem aH.tt {c:Bool} {X Y:Prop} (h:c=true) (x:X):aH c X Y:=⟨fun _=>x,fun h'=>(by rw [h] at h';cases h')⟩
theorem aH.ff {c:Bool} {X Y:Prop} (h:c=false) (y:Y):aH c X Y:=⟨fun h'=>(by rw [h] at h';cases h'),fun _=>y⟩
theorem aH.dt {p:Prop} [Decidable p] {X Y:Prop} (h:p) (x:X):aH (decide p) X Y:=.tt (decide_eq_true h) x
theorem aH.df {p:Prop} [Decidable p] {X Y:Prop} (h:¬p) (y:Y):aH (decide p) X Y:=.ff (decide_eq_false h) y
theorem aH.nt {p:Prop} [Decidable p] {X Y:Prop} (h:¬p) (x:X):aH (!decide p) X Y:=.tt (by rw [decide_eq_false h];rfl) x
theorem aH.nf {p:Prop} [Decidable p] {X Y:Prop} (h:p) (y:Y):aH (!decide p) X Y:=.ff (by rw [decide_eq_true h];rfl) y
theorem aH.ds {p:Prop} [Decidable p] {X Y:Prop} (x:p->X) (y:¬p->Y):aH (decide p) X Y:=⟨fun h=>x (of_decide_eq_true h),fun h=>y (of_decide_eq_false h)⟩
theorem aH.ns {p:Prop} [Decidable p] {X Y:Prop} (x:¬p->X) (y:p->Y):aH (!decide p) X Y:=
 ⟨fun h=>x (of_decide_eq_false (by simpa using h)),fun h=>y (of_decide_eq_true (by simpa using h))⟩
theorem cK.of {β:Type} {o:Option β} {k:β->Prop} {x:β} (h:o=some x) (hk:k x):cK o k:=⟨x,h,hk⟩
theorem bC.no {β:Type} {o:Option β} {n:Prop} {k:β->Prop} (h:o=none) (hn:n):bC o n k:=⟨fun _=>hn,fun x hx=>by rw [h] at hx;cases hx⟩
theorem bC.of {β:Type} {o:Option β} {n:Prop} {k:β->Prop} {x:β} (h:o=some x) (hk:k x):bC o n k:=
 ⟨fun hn=>(by rw [h] at hn;cases hn),fun y hy=>by rw [h] at hy;cases hy;exact hk⟩
theorem aM.d {p:Prop} [Decidable p] {k:Prop} (h:p) (hk:k):aM (decide p) k:=⟨decide_eq_true h,hk⟩
theorem aM.d2 {p q:Prop} [Decidable p] [Decidable q] {k:Prop} (h:p) (h':q) (hk:k):aM (decide p&&decide q) k:=⟨by rw [decide_eq_true h,decide_eq_true h'];rfl,hk⟩
theorem aM.d3 {p q r:Prop} [Decidable p] [Decidable q] [Decidable r] {k:Prop} (h:p) (h':q) (h2:r) (hk:k):aM (decide p&&decide q&&decide r) k:=
 ⟨by rw [decide_eq_true h,decide_eq_true h',decide_eq_true h2];rfl,hk⟩
theorem aM.ix {i:Int} {n:Nat} {k:Prop} (h:0<=i) (h':i<n) (hk:k):aM (rH i n) k:=⟨by unfold rH;rw [decide_eq_true h,decide_eq_true h'];rfl,hk⟩
theorem aR.gA {n:Int} {k:Int->Prop} (h1:-9223372036854775808<=n) (h2:n<=9223372036854775807) (hk:k n):aR .i64 n k:=
 ⟨by rw [pY (by simpa [IntKind.min,IntKind.bits,IntKind.signed] using h1) (by simpa [IntKind.max,IntKind.bits,IntKind.signed] using h2)];exact hk⟩
theorem aR.wu {n:Int} {k:Int->Prop} (h1:0<=n) (h2:n<=18446744073709551615) (hk:k n):aR .u64 n k:=
 ⟨by rw [pY (by simpa [IntKind.min,IntKind.bits,IntKind.signed] using h1) (by simpa [IntKind.max,IntKind.bits,IntKind.signed] using h2)];exact hk⟩
theorem aR.of {kd:IntKind} {n:Int} {k:Int->Prop} (h1:kd.min<=n) (h2:n<=kd.max) (hk:k n):aR kd n k:=⟨by rw [pY h1 h2];exact hk⟩
theorem b8.by {X:(Fr->St->Prop)->Fr->St->Prop} {fr:Fr} {st:St} (I:Nat->Fr->St->Prop) (n:Nat) (h0:I n fr st)
 (hs:∀ n fr st,I n fr st->∃ cF,Fr.le cF fr/\∀ R:Fr->St->Prop,(∀ m fr st,m<n->I m fr st->R fr st)->X R cF st):b8 X fr st:=by
 refine ⟨fun R hR=>?_⟩
 have key:∀ n fr st,I n fr st->R fr st:=by
  intro n
  induction n using Nat.strongRecOn with
  |_ n ih=>
   intro fr st hi
   obtain ⟨cF,hle,hx⟩:=hs n fr st hi
   exact hR fr cF st hle (hx R fun m fr st hm hi=>ih m hm fr st hi)
 exact key n fr st h0
def T.sp {α:Type} (A:b7):T α->(α->Prop)->Prop
 |.ret a,K=>K a
 |.ite c t e,K=>aH c (t.sp A K) (e.sp A K)
 |.elem o k,K=>cK o fun x=>(k x).sp A K
 |.byte o k,K=>cK o fun x=>(k x).sp A K
 |.tQ o k,K=>cK o fun x=>(k x).sp A K
 |.F2 o k,K=>cK o fun x=>(k x).sp A K
 |.obj o k,K=>cK o fun x=>(k x).sp A K
 |.mU o n k,K=>bC o (n.sp A K) fun x=>(k x).sp A K
 |.jL c k,K=>aM c (k.sp A K)
 |.wrap kd n k,K=>aR kd n fun x=>(k x).sp A K
 |.any k,K=>B0 fun r=>(k r).sp A K
 |.same v u k,K=>aT v u (k.sp A K)
 |.call f asV h k,K=>dF A f asV h fun r h'=>(k r h').sp A K
 |.fail,_=>False
theorem T.zM {α:Type} {A:b7} (hA:A.tV) (t:T α):∀ (K:α->Prop),t.sp A K->t.wp A K:=by
 induction t with
 |ret a=>exact fun K h=>h
 |ite c t e OQ OR=>exact fun K h=>⟨fun hc=>OQ K (h.t hc),fun hc=>OR K (h.f hc)⟩
 |elem o k ih=>exact fun K ⟨⟨x,hx,hk⟩⟩=>⟨x,hx,ih x K hk⟩
 |byte o k ih=>exact fun K ⟨⟨x,hx,hk⟩⟩=>⟨x,hx,ih x K hk⟩
 |tQ o k ih=>exact fun K ⟨⟨x,hx,hk⟩⟩=>⟨x,hx,ih x K hk⟩
 |F2 o k ih=>exact fun K ⟨⟨x,hx,hk⟩⟩=>⟨x,hx,ih x K hk⟩
 |obj o k ih=>exact fun K ⟨⟨x,hx,hk⟩⟩=>⟨x,hx,ih x K hk⟩
 |mU o n k HW ih=>exact fun K h=>⟨fun hn=>HW K (h.n hn),fun x hx=>ih x K (h.s x hx)⟩
 |jL c k ih=>exact fun K h=>⟨h.c,ih K h.k⟩
 |wrap kd n k ih=>exact fun K h=>.inl (ih _ K h.h)
 |any k ih=>exact fun K h r=>ih r K (h.h r)
 |same v u k ih=>exact fun K h=>⟨h.e,ih K h.k⟩
 |call f asV hh k ih=>exact fun K h=>hA _ _ _ _ _ (fun r h' hr=>ih r h' K hr) h.h
 |fail=>exact fun K h=>h
def wE (sz:Nat) (st:St) (v:V) (k:List (List V)->T R):T R:=
 match v with
 |.ms key eD s n=>if eD=sz then .obj (st.get key) fun o=>match o with
   |.arr eW es=>if eW=sz then .jL (decide (s+n<=es.length)) (.tQ (some ((es.drop s).take n)) k) else .fail
   |_=>.fail
  else .fail
 |v=>j5 sz st v k
def Ca (m:lQ) (sz bytes:Nat) (st:St) (s:V) (new:List (List V)):T R:=
 match s with
 |.aS=>.ite new.isEmpty (.ret (.aS,st)) (.jL (bT new.length bytes) (kW m sz new st))
 |.sl tok eD es=>if eD=sz then .ite new.isEmpty (.ret (.sl tok sz es,st))
   (.jL (bT (es.length+new.length) bytes)<|.tQ (eC new) fun ds=>match tok with
     |some k=>.obj (st.get k) fun o=>match o with
      |.spare=>.tQ (some (es++ds)) fun F3=>.ret (.sl (some ((st.remove k).aO k.sC)) sz F3,(st.remove k).push k.sC .spare)
      |_=>.fail
     |none=>.fail)
  else .fail
 |.ms k eD off len=>if eD=sz then .ite new.isEmpty (.ret (.ms k sz off len,st))
   (.jL (bT (len+new.length) bytes)<|.tQ (iA k.sC new) fun ds=>.obj (st.get k) fun o=>match o with
     |.arr eW es=>if eW=sz then
       .jL (decide (off+len<=es.length))<|.ite (decide (off+len+ds.length<=es.length))
        (.tQ (some (es.take (off+len)++ds++es.drop (off+len+ds.length))) fun F3=>.ret (.ms k sz off (len+ds.length),st.set k (.arr sz F3)))
        (.tQ (some ((es.take (off+len)).drop off++ds)) fun F3=>.ret (.ms ((st.remove k).aO k.sC) sz 0 (len+ds.length),(st.remove k).push k.sC (.arr sz F3)))
      else .fail
     |_=>.fail)
  else .fail
 |_=>.fail
theorem wF {A:b7} {sz:Nat} {st:St} {v:V} {k k':List (List V)->T R} {K:R->Prop} (hk:∀ es,(k es).wp A K->(k' es).wp A K) (h:(wE sz st v k).wp A K):(j5 sz st v k').wp A K:=by
 cases v<;>simp only [wE,j5] at h ⊢
 case aS=>exact hk _ h
 case sl tok eD es=>
  split at h
  · rename_i hs;rw [if_pos hs];exact hk _ h
  · exact h.elim
 case ms key eD s n=>
  split at h
  · rename_i hs
    rw [if_pos hs]
    obtain ⟨o,ho,h⟩:=h
    refine ⟨o,ho,?_⟩
    cases o<;>(try exact h.elim)
    dsimp only at h ⊢
    split at h
    · rename_i hz
      rw [if_pos hz]
      obtain ⟨h1,e,he,h2⟩:=h
      cases he
      exact ⟨h1,hk _ h2⟩
    · exact h.elim
  · exact h.elim
 case s x=>
  split at h
  · rename_i hs;rw [if_pos hs];exact hk _ h
  · exact h.elim
 all_goals exact h.elim
theorem IL {A:b7} {m:lQ} {sz bytes:Nat} {st:St} {s:V} {new:List (List V)} {K:R->Prop} (h:(Ca m sz bytes st s new).wp A K):(pW m sz bytes st s new).wp A K:=by
 cases s<;>simp only [Ca] at h<;>(try exact h.elim)
 case aS=>
  cases new with
  |nil=>exact h.1 rfl
  |cons e r=>exact h.2 rfl
 case sl tok eD es=>
  simp only [pW]
  split at h
  case isFalse=>exact h.elim
  rename_i hs
  rw [if_pos hs]
  cases new with
  |nil=>exact h.1 rfl
  |cons e r=>
   obtain ⟨h1,ds,h2,h3⟩:=h.2 rfl
   refine ⟨h1,ds,h2,?_⟩
   cases tok with
   |none=>exact h3
   |some k=>
    obtain ⟨o,ho,h3⟩:=h3
    refine ⟨o,ho,?_⟩
    cases o<;>(try exact h3.elim)
    obtain ⟨e',he,h4⟩:=h3
    cases he
    exact h4
 case ms k eD off len=>
  simp only [pW]
  split at h
  case isFalse=>exact h.elim
  rename_i hs
  rw [if_pos hs]
  cases new with
  |nil=>exact h.1 rfl
  |cons e r=>
   obtain ⟨h1,ds,h2,o,ho,h3⟩:=h.2 rfl
   refine ⟨h1,ds,h2,o,ho,?_⟩
   cases o<;>(try exact h3.elim)
   dsimp only at h3 ⊢
   split at h3
   case isFalse=>exact h3.elim
   rename_i hz
   rw [if_pos hz]
   obtain ⟨h4,h5,h6⟩:=h3
   refine ⟨h4,fun hc=>?_,fun hc=>?_⟩
   · obtain ⟨e',he,h7⟩:=h5 hc
     cases he
     exact h7
   · obtain ⟨e',he,h7⟩:=h6 hc
     cases he
     exact h7
def kK (o:AE) (fr:Fr) (st:St):T R:=
 match o with
 |.load n a=>match a.ev fr with
  |.p k off=>.obj (st.get k) fun o=>match o with
   |.cs c=>.mU (dS c off n) .fail fun v=>.ret (v,st)
   |_=>.fail
  |.pa k sz ix off=>.obj (st.get k) fun o=>match o with
   |.arr eD es=>if eD=sz then .elem es[ix]? fun e=>.mU (dS e off n) .fail fun v=>.ret (v,st) else .fail
   |_=>.fail
  |.pc cs off=>.mU (dS cs off n) .fail fun v=>.ret (v,st)
  |_=>.fail
 |.Qu off n x=>match x.ev fr with
  |.agg cs=>.mU (dS cs off n) .fail fun v=>.ret (v,st)
  |_=>.fail
 |.QN len sz n x i=>match x.ev fr,i.ev fr with
  |.agg cs,.i _ j=>.jL (rH j len)<|.mU (dS cs (j.toNat*sz) n) .fail fun v=>.ret (v,st)
  |_,_=>.fail
 |.append m sz bytes s x=>wE sz st (x.ev fr) fun new=>Ca m sz bytes st (s.ev fr) new
 |.OO x=>wE 1 st (x.ev fr) fun es=>.F2 (bytesOf es) fun y=>.ret (.s y,st)
 |.copy sz d x=>wE sz st (x.ev fr) fun src=>match d.ev fr with
  |.ms k eD off len=>if eD=sz then .tQ (iA k.sC (src.take len)) fun ds=>.obj (st.get k) fun o=>match o with
    |.arr eW es=>if eW=sz then
      .jL (decide (off+len<=es.length))<|.tQ (some (es.take off++ds++es.drop (off+ds.length))) fun F3=>.ret (.i .i64 (ds.length:Nat),st.set k (.arr sz F3))
     else .fail
    |_=>.fail
   else .fail
  |_=>.fail
 |.BI max xs=>match bL.HV fr xs with
  |v::r=>.mU (iQ max v r) .fail fun v=>.ret (v,st)
  |[]=>.fail
 |.yQ sz x lo hi mx=>match x.ev fr with
  |.sl tok eD es=>if eD=sz then match mx with
    |none=>match bL.Dq fr hi with
     |none=>T.opt (eS (bL.Dq fr lo) 0) fun l=>.jL (decide (0<=l)&&decide (l<=(es.length:Int)))<|.tQ (some (es.drop l.toNat)) fun es=>.ret (.sl tok sz es,st)
     |some v=>T.opt (vM v) fun h=>T.opt (eS (bL.Dq fr lo) 0) fun l=>
      .jL (decide (0<=l)&&decide (l<=h)&&decide (h<=(es.length:Int)))<|.tQ (some ((es.take h.toNat).drop l.toNat)) fun es=>.ret (.sl none sz es,st)
    |some _=>.fail
   else .fail
  |_=>step (.yQ sz x lo hi mx) fr st
 |.y8 f args=>match f.ev fr with
  |.fn g first cap=>.elem (hZ (first++bL.HV fr args++cap)) fun vs=>.call g vs st.g fun r h=>.ret (r,⟨h,st.l⟩)
  |_=>.fail
 |.store n a x=>if (x.ev fr).V7=true/\(x.ev fr).cells.length=n then match a.ev fr with
   |.p k off=>T.opt (tS k.sC (x.ev fr).cells) fun vs=>.obj (st.get k) fun o=>match o with
    |.cs c=>.jL (pV c off vs)<|.elem (some (dT c off vs)) fun c'=>.ret (.bY [],st.set k (.cs c'))
    |_=>.fail
   |.pa k sz ix off=>T.opt (tS k.sC (x.ev fr).cells) fun vs=>.obj (st.get k) fun o=>match o with
    |.arr eD es=>if eD=sz then .elem es[ix]? fun e=>.jL (pV e off vs)<|.tQ (some (es.set ix (dT e off vs))) fun F3=>.ret (.bY [],st.set k (.arr sz F3)) else .fail
    |_=>.fail
   |_=>.fail
  else .fail
 |o=>step o fr st
theorem yC {β:Type} {A:b7} {o:Option V} {k:V->T β} {K:β->Prop} (h:(T.mU o .fail k).wp A K):(T.opt o k).wp A K:=by
 cases o with
 |none=>exact h.1 rfl
 |some x=>exact h.2 x rfl
theorem A2 {A:b7} {o:AE} {fr:Fr} {st:St} {K:R->Prop} (h:(kK o fr st).wp A K):(step o fr st).wp A K:=by
 cases o
 case load n a=>
  simp only [kK] at h
  simp only [step]
  generalize a.ev fr=v at h ⊢
  cases v<;>(try exact h)
  case p k off=>
   obtain ⟨o,ho,h⟩:=h
   refine ⟨o,ho,?_⟩
   cases o<;>first|exact h|exact yC h
  case pa k sz ix off=>
   obtain ⟨o,ho,h⟩:=h
   refine ⟨o,ho,?_⟩
   cases o<;>(try exact h)
   dsimp only at h ⊢
   split at h
   · rename_i hs
     rw [if_pos hs]
     obtain ⟨e,he,h⟩:=h
     exact ⟨e,he,yC h⟩
   · exact h.elim
  case pc cs off=>exact yC h
 case Qu off n x=>
  simp only [kK] at h
  simp only [step]
  generalize x.ev fr=v at h ⊢
  cases v<;>(try exact h)
  exact yC h
 case QN len sz n x i=>
  simp only [kK] at h
  simp only [step]
  generalize x.ev fr=v at h ⊢
  generalize i.ev fr=u at h ⊢
  cases v<;>cases u<;>(try exact h)
  exact ⟨h.1,yC h.2⟩
 case append m sz bytes s x=>
  simp only [kK] at h
  simp only [step]
  exact wF (fun es h=>IL h) h
 case OO x=>
  simp only [kK] at h
  simp only [step]
  exact wF (fun es h=>h) h
 case copy sz d x=>
  simp only [kK] at h
  simp only [step]
  refine wF (fun src h=>?_) h
  generalize d.ev fr=v at h ⊢
  cases v<;>(try exact h.elim)
  dsimp only at h ⊢
  split at h
  case isFalse=>exact h.elim
  rename_i hs
  rw [if_pos hs]
  obtain ⟨ds,h1,o,ho,h⟩:=h
  refine ⟨ds,h1,o,ho,?_⟩
  cases o<;>(try exact h.elim)
  dsimp only at h ⊢
  split at h
  case isFalse=>exact h.elim
  rename_i hz
  rw [if_pos hz]
  obtain ⟨h2,e,he,h3⟩:=h
  cases he
  exact ⟨h2,h3⟩
 case BI max xs=>
  simp only [kK] at h
  simp only [step]
  generalize bL.HV fr xs=vs at h ⊢
  cases vs with
  |nil=>exact h
  |cons v r=>exact yC h
 case yQ sz x lo hi mx=>
  simp only [kK] at h
  split at h
  case h_2=>exact h
  rename_i tok eD es hx
  simp only [step,hx]
  split at h
  case isFalse=>exact h.elim
  rename_i hs
  rw [if_pos hs]
  cases mx with
  |some q=>exact h.elim
  |none=>
   dsimp only at h ⊢
   generalize bL.Dq fr hi=w at h ⊢
   cases w with
   |none=>
    dsimp only at h ⊢
    cases hb:eS (bL.Dq fr lo) 0 with
    |none=>rw [hb] at h;exact h.elim
    |some l=>
     rw [hb] at h
     obtain ⟨h1,e,h2,h3⟩:=h
     cases h2
     exact ⟨h1,h3⟩
   |some v=>
    dsimp only at h ⊢
    cases hi:vM v with
    |none=>rw [hi] at h;exact h.elim
    |some u=>
    cases hb:eS (bL.Dq fr lo) 0 with
    |none=>rw [hi,hb] at h;exact h.elim
    |some l=>
     rw [hi,hb] at h
     obtain ⟨h1,e,h2,h3⟩:=h
     cases h2
     exact ⟨h1,h3⟩
 case y8 f args=>
  simp only [kK] at h
  simp only [step]
  generalize f.ev fr=v at h ⊢
  cases v<;>(try exact h)
  obtain ⟨vs,h1,h2⟩:=h
  dsimp only
  rw [h1]
  exact h2
 case store n a x=>
  simp only [kK] at h
  simp only [step]
  generalize x.ev fr=u at h ⊢
  generalize a.ev fr=v at h ⊢
  split at h
  case isFalse=>exact h.elim
  rename_i hs
  rw [if_pos hs]
  cases v<;>(try exact h.elim)
  case p k off=>
   dsimp only at h ⊢
   cases hv:tS k.sC u.cells with
   |none=>rw [hv] at h;exact h.elim
   |some vs=>
    rw [hv] at h
    obtain ⟨o,ho,h⟩:=h
    refine ⟨o,ho,?_⟩
    cases o<;>(try exact h.elim)
    obtain ⟨h1,c',h2,h3⟩:=h
    cases h2
    dsimp only
    rw [h1]
    exact h3
  case pa k sz ix off=>
   dsimp only at h ⊢
   cases hv:tS k.sC u.cells with
   |none=>rw [hv] at h;exact h.elim
   |some vs=>
    rw [hv] at h
    obtain ⟨o,ho,h⟩:=h
    refine ⟨o,ho,?_⟩
    cases o<;>(try exact h.elim)
    dsimp only at h ⊢
    split at h
    case isFalse=>exact h.elim
    rename_i hz
    rw [if_pos hz]
    obtain ⟨e,he,h1,c',h2,h3⟩:=h
    cases h2
    refine ⟨e,he,?_⟩
    show T.wp A (match pV e off vs with|true=>_|false=>_) K
    rw [h1]
    exact h3
 all_goals exact h
def mF:List dL->Fr->St->T (Fr×St)
 |[],fr,st=>.ret (fr,st)
 |o::rest,fr,st=>
  match o.guard with
  |none=>(kK o.op fr st).bind fun x=>match x with
   |(v,st)=>fr.after o.dst v o.kill fun fr=>mF rest fr st
  |some (t,want)=>match fr.get t with
   |.b x=>match want with
    |true=>.ite x
     (fr.cut [t] fun r=>(kK o.op ((t,.b true)::r) st).bind fun x=>match x with
       |(v,st)=>Fr.after ((t,.b true)::r) o.dst v o.kill fun fr=>mF rest fr st)
     (fr.cut [t] fun r=>Fr.after ((t,.b false)::r) o.dst (.bY []) o.kill fun fr=>mF rest fr st)
    |false=>.ite x
     (fr.cut [t] fun r=>Fr.after ((t,.b true)::r) o.dst (.bY []) o.kill fun fr=>mF rest fr st)
     (fr.cut [t] fun r=>(kK o.op ((t,.b false)::r) st).bind fun x=>match x with
       |(v,st)=>Fr.after ((t,.b false)::r) o.dst v o.kill fun fr=>mF rest fr st)
   |.bY _=>fr.after o.dst (.bY []) o.kill fun fr=>mF rest fr st
   |_=>.fail
theorem Ac {A:b7} (hA:A.tV):∀ (ops:List dL) (fr:Fr) (st:St) (K:Fr×St->Prop),(mF ops fr st).wp A K->(eF ops fr st).wp A K
 |[],fr,st,K,h=>h
 |o::rest,fr,st,K,h=>by
  have one:∀ {sZ:Fr},((kK o.op sZ st).bind fun x=>match x with
   |(v,st)=>sZ.after o.dst v o.kill fun fr=>mF rest fr st).wp A K->((step o.op sZ st).bind fun x=>match x with
   |(v,st)=>sZ.after o.dst v o.kill fun fr=>eF rest fr st).wp A K:=by
   intro sZ h
   rw [T.wp_bind] at h ⊢
   refine A2 ?_
   revert h
   refine T.wp_mono hA ?_
   rintro ⟨v,st⟩ h
   dsimp only at h ⊢
   rw [Fr.cW] at h ⊢
   exact Ac hA rest _ _ K h
  have two:∀ {sZ:Fr},(sZ.after o.dst (.bY []) o.kill fun fr=>mF rest fr st).wp A K->(sZ.after o.dst (.bY []) o.kill fun fr=>eF rest fr st).wp A K:=by
   intro sZ h
   rw [Fr.cW] at h ⊢
   exact Ac hA rest _ _ K h
  obtain ⟨dst,op,g,kill⟩:=o
  cases g with
  |none=>exact one h
  |some q=>
   obtain ⟨t,want⟩:=q
   simp only [mF] at h
   simp only [eF]
   generalize fr.get t=v at h ⊢
   cases v<;>(try exact h)
   case b x=>
    cases want
    · refine ⟨fun hc=>?_,fun hc=>?_⟩
      · have h:=h.1 hc
        rw [Fr.cU] at h ⊢
        exact two h
      · have h:=h.2 hc
        rw [Fr.cU] at h ⊢
        exact one h
    · refine ⟨fun hc=>?_,fun hc=>?_⟩
      · have h:=h.1 hc
        rw [Fr.cU] at h ⊢
        exact one h
      · have h:=h.2 hc
        rw [Fr.cU] at h ⊢
        exact two h
   case bY vs=>exact two h
def Kn:List bH->List bH->Fr->St->T (Fr×St)
 |_,[],fr,st=>.ret (fr,st)
 |done,d::rest,fr,st=>vN d.o.guard fr
  (fun fr=>(kK d.o.op fr st).bind fun x=>match x with
    |(v,st)=>fr.after d.o.dst v [] fun fr=>recheck d.re done fr st (Kn (d::done) rest fr st))
  (fun fr=>fr.after d.o.dst (.bY []) [] fun fr=>Kn (d::done) rest fr st)
theorem iK {α:Type} {A:b7} (hA:A.tV) {re:List Nat} {k k':T α} {K K':α->Prop}:∀ {ds:List bH} {fr:Fr} {st:St},(k.wp A K->k'.wp A K')->(recheck re ds fr st k).wp A K->(recheck re ds fr st k').wp A K'
 |[],fr,st,hk,h=>hk h
 |p::ps,fr,st,hk,h=>by
  simp only [recheck] at h ⊢
  split at h
  · split at h
    · rw [T.wp_bind] at h ⊢
      refine T.wp_mono hA ?_ h
      intro x hx
      split at hx
      · exact ⟨hx.1,iK hA hk hx.2⟩
      · exact iK hA hk hx
    · exact iK hA hk h
    · exact h
  · exact iK hA hk h
theorem Ad {α:Type} {A:b7} {g:Option (Nat×Bool)} {fr:Fr} {y y' n n':Fr->T α} {K K':α->Prop} (hy:∀ fr,(y fr).wp A K->(y' fr).wp A K') (hn:∀ fr,(n fr).wp A K->(n' fr).wp A K')
 (h:(vN g fr y n).wp A K):(vN g fr y' n').wp A K':=by
 unfold vN at h ⊢
 split at h
 · exact hy _ h
 · split at h
   · split at h
     · refine ⟨fun hc=>?_,fun hc=>?_⟩
       · have h:=h.1 hc
         rw [Fr.cU] at h ⊢
         exact hy _ h
       · have h:=h.2 hc
         rw [Fr.cU] at h ⊢
         exact hn _ h
     · refine ⟨fun hc=>?_,fun hc=>?_⟩
       · have h:=h.1 hc
         rw [Fr.cU] at h ⊢
         exact hn _ h
       · have h:=h.2 hc
         rw [Fr.cU] at h ⊢
         exact hy _ h
   · exact hn _ h
   · exact h
theorem ER {A:b7} (hA:A.tV):∀ (ds done:List bH) (fr:Fr) (st:St) (K:Fr×St->Prop),(Kn done ds fr st).wp A K->(pX done ds fr st).wp A K
 |[],done,fr,st,K,h=>h
 |d::rest,done,fr,st,K,h=>by
  simp only [Kn] at h
  simp only [pX]
  refine Ad (fun fr h=>?_) (fun fr h=>?_) h
  · rw [T.wp_bind] at h ⊢
    refine A2 ?_
    refine T.wp_mono hA ?_ h
    rintro ⟨v,st⟩ h
    dsimp only at h ⊢
    rw [Fr.cW] at h ⊢
    exact iK hA (fun h=>ER hA rest _ _ _ K h) h
  · rw [Fr.cW] at h ⊢
    exact ER hA rest _ _ _ K h
def LG (A:b7):AC->(Ex->Fr->St->Prop)->Fr->St->Prop
 |.skip,Q,fr,st=>Q .normal fr st
 |.BE ops,Q,fr,st=>(mF ops fr st).sp A (iY Q)
 |.u0 ds kill,Q,fr,st=>((Kn [] ds fr st).bind (vB kill)).sp A (iY Q)
 |.seq a b,Q,fr,st=>LG A a (qG (LG A b Q) Q) fr st
 |.cond c a b,Q,fr,st=>match c.ev fr with
  |.b x=>aH x (LG A a Q fr st) (LG A b Q fr st)
  |_=>False
 |.bS id b,Q,fr,st=>LG A b (j9 id Q) fr st
 |.loop b,Q,fr,st=>b8 (fun R=>LG A b (qG R Q)) fr st
 |.exit id,Q,fr,st=>Q (.exit id) fr st
 |.ret,Q,fr,st=>Q .ret fr st
 |.no,_,_,_=>False
theorem Ae {A:b7} (hA:A.tV):∀ (c:AC) (Q Q':Ex->Fr->St->Prop) (fr:Fr) (st:St),LG A c Q fr st->(∀ e fr st,Q e fr st->Q' e fr st)->Ip A c Q' fr st
 |.skip,Q,Q',fr,st,h,hq=>hq _ _ _ h
 |.BE ops,Q,Q',fr,st,h,hq=>T.wp_mono hA (fun ⟨_,_⟩ h=>hq _ _ _ h) (Ac hA ops fr st _ (T.zM hA _ _ h))
 |.u0 ds kill,Q,Q',fr,st,h,hq=>by
  refine T.wp_mono hA (fun ⟨_,_⟩ h=>hq _ _ _ h) (?_:T.wp A _ (iY Q))
  simp only [LG] at h
  have h:=T.zM hA _ _ h
  rw [T.wp_bind] at h ⊢
  exact ER hA _ _ _ _ _ h
 |.seq a b,Q,Q',fr,st,h,hq=>by
  refine Ae hA a _ _ fr st h ?_
  intro e fr st h
  cases e with
  |normal=>exact Ae hA b _ _ fr st h hq
  |exit id=>exact hq _ _ _ h
  |ret=>exact hq _ _ _ h
 |.cond c a b,Q,Q',fr,st,h,hq=>by
  simp only [LG] at h
  simp only [Ip]
  split at h
  · rename_i x hx
    rw [hx]
    exact ⟨fun hc=>Ae hA a _ _ _ _ (h.t hc) hq,fun hc=>Ae hA b _ _ _ _ (h.f hc) hq⟩
  · exact h.elim
 |.bS id b,Q,Q',fr,st,h,hq=>by
  refine Ae hA b _ _ fr st h ?_
  intro e fr st h
  cases e with
  |normal=>exact hq _ _ _ h
  |exit BG=>
   simp only [j9] at h ⊢
   split
   · rename_i hi;rw [if_pos hi] at h;exact hq _ _ _ h
   · rename_i hi;rw [if_neg hi] at h;exact hq _ _ _ h
  |ret=>exact hq _ _ _ h
 |.loop b,Q,Q',fr,st,h,hq=>by
  intro R hR
  refine h.h R fun fr cF st hl hx=>hR fr cF st hl ?_
  refine Ae hA b _ _ cF st hx ?_
  intro e fr st h
  cases e with
  |normal=>exact h
  |exit id=>exact hq _ _ _ h
  |ret=>exact hq _ _ _ h
 |.exit id,Q,Q',fr,st,h,hq=>hq _ _ _ h
 |.ret,Q,Q',fr,st,h,hq=>hq _ _ _ h
 |.no,_,_,_,_,h,_=>h.elim
theorem T.rN {α:Type} {A:b7} (hA:A.tV) (t:T α):∀ {K K':α->Prop},(∀ a,K a->K' a)->t.sp A K->t.sp A K':=by
 induction t with
 |ret a=>exact fun h hk=>h _ hk
 |ite c t e OQ OR=>exact fun h hk=>⟨fun hc=>OQ h (hk.t hc),fun hc=>OR h (hk.f hc)⟩
 |elem o k ih=>exact fun h ⟨⟨x,hx,hk⟩⟩=>⟨⟨x,hx,ih x h hk⟩⟩
 |byte o k ih=>exact fun h ⟨⟨x,hx,hk⟩⟩=>⟨⟨x,hx,ih x h hk⟩⟩
 |tQ o k ih=>exact fun h ⟨⟨x,hx,hk⟩⟩=>⟨⟨x,hx,ih x h hk⟩⟩
 |F2 o k ih=>exact fun h ⟨⟨x,hx,hk⟩⟩=>⟨⟨x,hx,ih x h hk⟩⟩
 |obj o k ih=>exact fun h ⟨⟨x,hx,hk⟩⟩=>⟨⟨x,hx,ih x h hk⟩⟩
 |mU o n k HW ih=>exact fun h hk=>⟨fun hn=>HW h (hk.n hn),fun x hx=>ih x h (hk.s x hx)⟩
 |jL c k ih=>exact fun h hk=>⟨hk.c,ih h hk.k⟩
 |wrap kd n k ih=>exact fun h hk=>⟨ih _ h hk.h⟩
 |any k ih=>exact fun h hk=>⟨fun r=>ih r h (hk.h r)⟩
 |same v u k ih=>exact fun h hk=>⟨hk.e,ih h hk.k⟩
 |call f asV hh k ih=>exact fun h hk=>⟨hA _ _ _ _ _ (fun r h' hr=>ih r h' h hr) hk.h⟩
 |fail=>exact fun _ hk=>hk
theorem qJ {A:b7} (hA:A.tV):∀ (c:AC) (Q Q':Ex->Fr->St->Prop) (fr:Fr) (st:St),LG A c Q fr st->(∀ e fr st,Q e fr st->Q' e fr st)->LG A c Q' fr st
 |.skip,Q,Q',fr,st,h,hq=>hq _ _ _ h
 |.BE ops,Q,Q',fr,st,h,hq=>T.rN hA _ (fun ⟨_,_⟩ h=>hq _ _ _ h) h
 |.u0 ds kill,Q,Q',fr,st,h,hq=>T.rN hA _ (fun ⟨_,_⟩ h=>hq _ _ _ h) h
 |.seq a b,Q,Q',fr,st,h,hq=>by
  refine qJ hA a _ _ fr st h ?_
  intro e fr st h
  cases e with
  |normal=>exact qJ hA b _ _ fr st h hq
  |exit id=>exact hq _ _ _ h
  |ret=>exact hq _ _ _ h
 |.cond c a b,Q,Q',fr,st,h,hq=>by
  simp only [LG] at h ⊢
  split at h
  · exact ⟨fun hc=>qJ hA a _ _ _ _ (h.t hc) hq,fun hc=>qJ hA b _ _ _ _ (h.f hc) hq⟩
  · exact h.elim
 |.bS id b,Q,Q',fr,st,h,hq=>by
  refine qJ hA b _ _ fr st h ?_
  intro e fr st h
  cases e with
  |normal=>exact hq _ _ _ h
  |exit BG=>
   simp only [j9] at h ⊢
   split
   · rename_i hi;rw [if_pos hi] at h;exact hq _ _ _ h
   · rename_i hi;rw [if_neg hi] at h;exact hq _ _ _ h
  |ret=>exact hq _ _ _ h
 |.loop b,Q,Q',fr,st,h,hq=>by
  refine ⟨fun R hR=>h.h R fun fr cF st hl hx=>hR fr cF st hl ?_⟩
  refine qJ hA b _ _ cF st hx ?_
  intro e fr st h
  cases e with
  |normal=>exact h
  |exit id=>exact hq _ _ _ h
  |ret=>exact hq _ _ _ h
 |.exit id,Q,Q',fr,st,h,hq=>hq _ _ _ h
 |.ret,Q,Q',fr,st,h,hq=>hq _ _ _ h
 |.no,_,_,_,_,h,_=>h.elim
theorem b8.un {P:Program} {b:AC} {Q:Ex->Fr->St->Prop} {fr:Fr} {st:St} (h:LG (aC P) b (qG (b8 fun R=>LG (aC P) b (qG R Q)) Q) fr st):b8 (fun R=>LG (aC P) b (qG R Q)) fr st:=by
 refine ⟨fun R hR=>hR fr fr st (Fr.le_refl _) (qJ (aC.mono P) b _ _ fr st h ?_)⟩
 intro e fr st hx
 cases e with
 |normal=>exact hx.h R hR
 |exit id=>exact hx
 |ret=>exact hx
theorem aQ {P:Program} {f:Nat} {F:aZ} (hk:gU P f F=true) {args:List V} (hn:args.length=F.nparams) {h:aA} {K:V->aA->Prop}
 (hw:LG (aC P) F.body (wC F.results K) (b9 0 args) (dP h)):aC P f args h K:=
 fn_ok hk hn (Ae (aC.mono P) _ _ _ _ _ hw fun _ _ _ h=>h)
open Go
theorem dF.app {A:b7} {f:Nat} {asV:List V} {h:aA} {K:V->aA->Prop} {X:Prop} (g:X->A f asV h K) (x:X):dF A f asV h K:=⟨g x⟩
def Key.fS {α:Type} (a:Key) (k:Key->α):α:=
 match a with
 |.g n=>k (.g n)
 |.l n=>k (.l n)
def V.f1 {α:Type} (v:V) (k:V->α):α:=
 match v with
 |.b x=>k (.b x)
 |.i kd n=>k (.i kd n)
 |.s x=>k (.s x)
 |.lJ=>k .lJ
 |.p a o=>a.fS fun a=>k (.p a o)
 |.pa a z ix o=>a.fS fun a=>k (.pa a z ix o)
 |.pc c o=>k (.pc c o)
 |.aS=>k .aS
 |.sl t z e=>match t with
  |some a=>a.fS fun a=>k (.sl (some a) z e)
  |none=>k (.sl none z e)
 |.ms a z u l=>a.fS fun a=>k (.ms a z u l)
 |.gS=>k .gS
 |.m a=>a.fS fun a=>k (.m a)
 |.fn f a c=>k (.fn f a c)
 |.lK=>k .lK
 |.agg c=>k (.agg c)
 |.bY c=>k (.bY c)
 |.gD=>k .gD
theorem Key.qK {α:Type} (a:Key) (k:Key->α):a.fS k=k a:=by cases a<;>rfl
theorem V.Sr {α:Type} (v:V) (k:V->α):v.f1 k=k v:=by
 cases v<;>(try rfl)
 case sl t z e=>cases t<;>simp only [V.f1,Key.qK]
 all_goals simp only [V.f1,Key.qK]
def Af {α:Type}:List V->(List V->α)->α
 |[],k=>k []
 |v::r,k=>v.f1 fun v=>Af r fun r=>k (v::r)
theorem Cb {α:Type}:∀ (l:List V) (k:List V->α),Af l k=k l
 |[],_=>rfl
 |v::r,k=>by simp only [Af,V.Sr];rw [Cb r]
def V.f2 {α:Type} (v:V) (k:V->α):α:=
 match v with
 |.agg c=>Af c fun c=>k (.agg c)
 |.fn f a c=>Af a fun a=>Af c fun c=>k (.fn f a c)
 |v=>v.f1 k
theorem V.Ss {α:Type} (v:V) (k:V->α):v.f2 k=k v:=by
 cases v<;>simp only [V.f2,Cb,V.Sr]
def Vd {α:Type}:List V->(List V->α)->α
 |[],k=>k []
 |v::r,k=>v.f2 fun v=>Vd r fun r=>k (v::r)
theorem N5 {α:Type}:∀ (l:List V) (k:List V->α),Vd l k=k l
 |[],_=>rfl
 |v::r,k=>by simp only [Vd,V.Ss];rw [N5 r]
def V.f3 {α:Type} (v:V) (k:V->α):α:=
 match v with
 |.bY c=>Vd c fun c=>k (.bY c)
 |v=>v.f2 k
theorem V.Su {α:Type} (v:V) (k:V->α):v.f3 k=k v:=by
 cases v<;>simp only [V.f3,N5,V.Ss]
def Ye {α:Type}:List (V×V)->(List (V×V)->α)->α
 |[],k=>k []
 |q::r,k=>match q with
  |(a,v)=>a.f1 fun a=>v.f2 fun v=>Ye r fun r=>k ((a,v)::r)
theorem N6 {α:Type}:∀ (l:List (V×V)) (k:List (V×V)->α),Ye l k=k l
 |[],_=>rfl
 |(a,v)::r,k=>by simp only [Ye,V.Sr,V.Ss];rw [N6 r]
def Obj.fS {α:Type} (o:Obj) (k:Obj->α):α:=
 match o with
 |.cs c=>Af c fun c=>k (.cs c)
 |.arr z es=>k (.arr z es)
 |.spare=>k .spare
 |.mp kd es=>k (.mp kd es)
theorem Obj.qK {α:Type} (o:Obj) (k:Obj->α):o.fS k=k o:=by cases o<;>simp only [Obj.fS,Cb,N6]
def Ko {α:Type}:List (Nat×Obj)->(List (Nat×Obj)->α)->α
 |[],k=>k []
 |q::r,k=>match q with
  |(n,o)=>o.fS fun o=>Ko r fun r=>k ((n,o)::r)
theorem Kp {α:Type}:∀ (l:List (Nat×Obj)) (k:List (Nat×Obj)->α),Ko l k=k l
 |[],_=>rfl
 |(n,o)::r,k=>by simp only [Ko,Obj.qK];rw [Kp r]
def St.fS {α:Type} (st:St) (k:St->α):α:=
 match st with
 |⟨⟨x,a⟩,⟨y,b⟩⟩=>Ko a fun a=>Ko b fun b=>k ⟨⟨x,a⟩,⟨y,b⟩⟩
theorem St.qK {α:Type} (st:St) (k:St->α):st.fS k=k st:=by
 obtain ⟨⟨x,a⟩,⟨y,b⟩⟩:=st
 simp only [St.fS,Kp]
def Fr.fS {α:Type}:Fr->(Fr->α)->α
 |[],k=>k []
 |q::r,k=>match q with
  |(n,v)=>v.f3 fun v=>Fr.fS r fun r=>k ((n,v)::r)
theorem Fr.qK {α:Type}:∀ (l:Fr) (k:Fr->α),Fr.fS l k=k l
 |[],_=>rfl
 |(n,o)::r,k=>by simp only [Fr.fS,V.Su];rw [Fr.qK r]
def AE.kX:AE->Bool
 |.alloc _ _=>true
 |.box _ _=>true
 |.Um _ _ _ _ _=>true
 |.store _ _ _=>true
 |.Uo _ _=>true
 |.DY _ _=>true
 |.LL _ _ _ _ _ _=>true
 |.LM _ _ _ _=>true
 |.call _ _=>true
 |.y8 _ _=>true
 |.append _ _ _ _ _=>true
 |.copy _ _ _=>true
 |.delete _ _ _=>true
 |.clear _ _ _=>true
 |_=>false
def ES {α:Type} (o:AE) (x:R) (k:V->St->α):α:=
 match x with
 |(v,st)=>match o.kX with
  |true=>st.fS fun st=>v.f3 fun v=>k v st
  |false=>v.f3 fun v=>k v st
theorem Kq {α:Type} (o:AE) (v:V) (st:St) (k:V->St->α):ES o (v,st) k=k v st:=by
 unfold ES
 cases o.kX<;>simp only [V.Su,St.qK]
def Cc (o:AE) (fr:Fr) (st:St):T R:=
 match o with
 |.BI max xs=>kK (.BI max xs) fr st
 |.append m sz bytes s x=>kK (.append m sz bytes s x) fr st
 |.yQ sz x lo hi mx=>kK (.yQ sz x lo hi mx) fr st
 |.copy sz d x=>kK (.copy sz d x) fr st
 |.OO x=>kK (.OO x) fr st
 |o=>step o fr st
theorem Kr {A:b7} {o:AE} {fr:Fr} {st:St} {K:R->Prop} (h:(Cc o fr st).wp A K):(step o fr st).wp A K:=by
 cases o<;>first|exact h|exact A2 h
noncomputable def T.sq {α:Type} (A:b7) (t:T α):(α->Prop)->Prop:=
 T.rec (motive:=fun _=>(α->Prop)->Prop) (fun a K=>K a) (fun c _ _ it ie K=>aH c (it K) (ie K)) (fun o _ ih K=>cK o fun x=>ih x K) (fun o _ ih K=>cK o fun x=>ih x K) (fun o _ ih K=>cK o fun x=>ih x K)
  (fun o _ ih K=>cK o fun x=>ih x K) (fun o _ ih K=>cK o fun x=>ih x K) (fun o _ _ HW ih K=>bC o (HW K) fun x=>ih x K) (fun c _ ih K=>aM c (ih K)) (fun kd n _ ih K=>aR kd n fun x=>ih x K) (fun _ ih K=>B0 fun r=>ih r K)
  (fun v u _ ih K=>aT v u (ih K)) (fun f asV h _ ih K=>dF A f asV h fun r h'=>ih r h' K) (fun _=>False) t
theorem T.CM {α:Type} (A:b7) (t:T α):∀ K,t.sq A K=t.sp A K:=by
 induction t with
 |ret a=>exact fun K=>rfl
 |ite c t e OQ OR=>intro K;show aH c (t.sq A K) (e.sq A K)=_;rw [OQ,OR];rfl
 |elem o k ih=>intro K;show (cK o fun x=>(k x).sq A K)=_;simp only [ih];rfl
 |byte o k ih=>intro K;show (cK o fun x=>(k x).sq A K)=_;simp only [ih];rfl
 |tQ o k ih=>intro K;show (cK o fun x=>(k x).sq A K)=_;simp only [ih];rfl
 |F2 o k ih=>intro K;show (cK o fun x=>(k x).sq A K)=_;simp only [ih];rfl
 |obj o k ih=>intro K;show (cK o fun x=>(k x).sq A K)=_;simp only [ih];rfl
 |mU o n k HW ih=>intro K;show (bC o (n.sq A K) fun x=>(k x).sq A K)=_;simp only [HW,ih];rfl
 |jL c k ih=>intro K;show aM c (k.sq A K)=_;rw [ih];rfl
 |wrap kd n k ih=>intro K;show (aR kd n fun x=>(k x).sq A K)=_;simp only [ih];rfl
 |any k ih=>intro K;show (B0 fun x=>(k x).sq A K)=_;simp only [ih];rfl
 |same v u k ih=>intro K;show aT v u (k.sq A K)=_;rw [ih];rfl
 |call f asV h k ih=>intro K;show (dF A f asV h fun r h'=>(k r h').sq A K)=_;simp only [ih];rfl
 |fail=>exact fun K=>rfl
noncomputable def T.bq {α β:Type} (t:T α) (f:α->T β):T β:=
 T.rec (motive:=fun _=>T β) (fun a=>f a) (fun c _ _ it ie=>.ite c it ie) (fun o _ ih=>.elem o ih) (fun o _ ih=>.byte o ih) (fun o _ ih=>.tQ o ih) (fun o _ ih=>.F2 o ih) (fun o _ ih=>.obj o ih) (fun o _ _ HW ih=>.mU o HW ih)
  (fun c _ ih=>.jL c ih) (fun kd n _ ih=>.wrap kd n ih) (fun _ ih=>.any ih) (fun v u _ ih=>.same v u ih) (fun g asV h _ ih=>.call g asV h ih) .fail t
theorem T.ET {α β:Type} (t:T α) (f:α->T β):t.bq f=t.bind f:=by
 induction t with
 |ret a=>rfl
 |ite c t e OQ OR=>show T.ite c (t.bq f) (e.bq f)=_;rw [OQ,OR];rfl
 |elem o k ih=>show (T.elem o fun x=>(k x).bq f)=_;simp only [ih];rfl
 |byte o k ih=>show (T.byte o fun x=>(k x).bq f)=_;simp only [ih];rfl
 |tQ o k ih=>show (T.tQ o fun x=>(k x).bq f)=_;simp only [ih];rfl
 |F2 o k ih=>show (T.F2 o fun x=>(k x).bq f)=_;simp only [ih];rfl
 |obj o k ih=>show (T.obj o fun x=>(k x).bq f)=_;simp only [ih];rfl
 |mU o n k HW ih=>show (T.mU o (n.bq f) fun x=>(k x).bq f)=_;simp only [HW,ih];rfl
 |jL c k ih=>show T.jL c (k.bq f)=_;rw [ih];rfl
 |wrap kd n k ih=>show (T.wrap kd n fun x=>(k x).bq f)=_;simp only [ih];rfl
 |any k ih=>show (T.any fun x=>(k x).bq f)=_;simp only [ih];rfl
 |same v u k ih=>show T.same v u (k.bq f)=_;rw [ih];rfl
 |call g asV h k ih=>show (T.call g asV h fun r h'=>(k r h').bq f)=_;simp only [ih];rfl
 |fail=>rfl
abbrev Ve:=Fr->St->T (Fr×St)
noncomputable def opF (o:dL) (ih:Ve):Ve:=fun fr st=>
 match o.guard with
 |none=>(Cc o.op fr st).bq fun x=>ES o.op x fun v st=>fr.after o.dst v o.kill fun fr=>ih fr st
 |some (t,want)=>match fr.get t with
  |.b x=>match want with
   |true=>.ite x
    (fr.cut [t] fun r=>(Cc o.op ((t,.b true)::r) st).bq fun x=>ES o.op x fun v st=>Fr.after ((t,.b true)::r) o.dst v o.kill fun fr=>ih fr st)
    (fr.cut [t] fun r=>Fr.after ((t,.b false)::r) o.dst (.bY []) o.kill fun fr=>ih fr st)
   |false=>.ite x
    (fr.cut [t] fun r=>Fr.after ((t,.b true)::r) o.dst (.bY []) o.kill fun fr=>ih fr st)
    (fr.cut [t] fun r=>(Cc o.op ((t,.b false)::r) st).bq fun x=>ES o.op x fun v st=>Fr.after ((t,.b false)::r) o.dst v o.kill fun fr=>ih fr st)
  |.bY _=>fr.after o.dst (.bY []) o.kill fun fr=>ih fr st
  |_=>.fail
noncomputable def kB (l:List dL):Ve:=
 List.rec (motive:=fun _=>Ve) (fun fr st=>.ret (fr,st)) (fun o _ ih=>opF o ih) l
theorem IM (o:dL) (l:List dL):kB (o::l)=opF o (kB l):=rfl
theorem uD {A:b7} (hA:A.tV):∀ (ops:List dL) (fr:Fr) (st:St) (K:Fr×St->Prop),(kB ops fr st).wp A K->(eF ops fr st).wp A K
 |[],fr,st,K,h=>h
 |o::rest,fr,st,K,h=>by
  have one:∀ {sZ:Fr},((Cc o.op sZ st).bq fun x=>ES o.op x fun v st=>sZ.after o.dst v o.kill fun fr=>kB rest fr st).wp A K->((step o.op sZ st).bind fun x=>match x with
   |(v,st)=>sZ.after o.dst v o.kill fun fr=>eF rest fr st).wp A K:=by
   intro sZ h
   rw [T.ET,T.wp_bind] at h
   rw [T.wp_bind]
   refine Kr ?_
   revert h
   refine T.wp_mono hA ?_
   rintro ⟨v,st⟩ h
   dsimp only at h ⊢
   rw [Kq,Fr.cW] at h
   rw [Fr.cW]
   exact uD hA rest _ _ K h
  have two:∀ {sZ:Fr},(sZ.after o.dst (.bY []) o.kill fun fr=>kB rest fr st).wp A K->(sZ.after o.dst (.bY []) o.kill fun fr=>eF rest fr st).wp A K:=by
   intro sZ h
   rw [Fr.cW] at h ⊢
   exact uD hA rest _ _ K h
  rw [IM] at h
  obtain ⟨dst,op,g,kill⟩:=o
  cases g with
  |none=>exact one h
  |some q=>
   obtain ⟨t,want⟩:=q
   simp only [opF] at h
   simp only [eF]
   generalize fr.get t=v at h ⊢
   cases v<;>(try exact h)
   case b x=>
    cases want
    · refine ⟨fun hc=>?_,fun hc=>?_⟩
      · have h:=h.1 hc
        rw [Fr.cU] at h ⊢
        exact two h
      · have h:=h.2 hc
        rw [Fr.cU] at h ⊢
        exact one h
    · refine ⟨fun hc=>?_,fun hc=>?_⟩
      · have h:=h.1 hc
        rw [Fr.cU] at h ⊢
        exact one h
      · have h:=h.2 hc
        rw [Fr.cU] at h ⊢
        exact two h
   case bY vs=>exact two h
abbrev Vf:=List bH->Fr->St->T (Fr×St)
noncomputable def Yf (d:bH) (ih:Vf):Vf:=fun done fr st=>vN d.o.guard fr
 (fun fr=>(Cc d.o.op fr st).bq fun x=>ES d.o.op x fun v st=>fr.after d.o.dst v [] fun fr=>recheck d.re done fr st (ih (d::done) fr st))
 (fun fr=>fr.after d.o.dst (.bY []) [] fun fr=>ih (d::done) fr st)
noncomputable def wG (l:List bH):Vf:=
 List.rec (motive:=fun _=>Vf) (fun _ fr st=>.ret (fr,st)) (fun d _ ih=>Yf d ih) l
theorem MH (o:bH) (l:List bH):wG (o::l)=Yf o (wG l):=rfl
theorem A3 {A:b7} (hA:A.tV):∀ (ds done:List bH) (fr:Fr) (st:St) (K:Fr×St->Prop),(wG ds done fr st).wp A K->(pX done ds fr st).wp A K
 |[],done,fr,st,K,h=>h
 |d::rest,done,fr,st,K,h=>by
  rw [MH] at h
  simp only [Yf] at h
  simp only [pX]
  refine Ad (fun fr h=>?_) (fun fr h=>?_) h
  · rw [T.ET,T.wp_bind] at h
    rw [T.wp_bind]
    refine Kr ?_
    refine T.wp_mono hA ?_ h
    rintro ⟨v,st⟩ h
    dsimp only at h ⊢
    rw [Kq,Fr.cW] at h
    rw [Fr.cW]
    exact iK hA (fun h=>A3 hA rest _ _ _ K h) h
  · rw [Fr.cW] at h ⊢
    exact A3 hA rest _ _ _ K h
abbrev A4:=(Ex->Fr->St->Prop)->Fr->St->Prop
structure sI (A:b7) (b:AC) (ib:A4) (Q:Ex->Fr->St->Prop) (fr:Fr) (st:St):Prop where
 h:b8 (fun R=>ib (qG R Q)) fr st
noncomputable def WI (A:b7) (c:AC):A4:=
 AC.rec (motive:=fun _=>A4) (fun Q fr st=>Q .normal fr st) (fun ops Q fr st=>(kB ops fr st).sq A (iY Q)) (fun ds kill Q fr st=>((wG ds [] fr st).bq (vB kill)).sq A (iY Q))
  (fun _ _ ia ib Q fr st=>ia (qG (ib Q) Q) fr st)
  (fun c _ _ ia ib Q fr st=>match c.ev fr with
    |.b x=>aH x (ia Q fr st) (ib Q fr st)
    |_=>False)
  (fun id _ ib Q fr st=>ib (j9 id Q) fr st) (fun b ib Q fr st=>sI A b ib Q fr st) (fun id Q fr st=>Q (.exit id) fr st) (fun Q fr st=>Q .ret fr st) (fun _ _ _=>False) c
theorem Ks (A:b7) (c:bL) (a b:AC) (Q:Ex->Fr->St->Prop) (fr:Fr) (st:St):WI A (.cond c a b) Q fr st=match c.ev fr with
 |.b x=>aH x (WI A a Q fr st) (WI A b Q fr st)
 |_=>False:=rfl
theorem qL {A:b7} (hA:A.tV):∀ (c:AC) (Q Q':Ex->Fr->St->Prop) (fr:Fr) (st:St),WI A c Q fr st->(∀ e fr st,Q e fr st->Q' e fr st)->WI A c Q' fr st
 |.skip,Q,Q',fr,st,h,hq=>hq _ _ _ h
 |.BE ops,Q,Q',fr,st,h,hq=>by
  have h:(kB ops fr st).sq A (iY Q):=h
  show (kB ops fr st).sq A (iY Q')
  rw [T.CM] at h ⊢
  exact T.rN hA _ (fun ⟨_,_⟩ h=>hq _ _ _ h) h
 |.u0 ds kill,Q,Q',fr,st,h,hq=>by
  have h:((wG ds [] fr st).bq (vB kill)).sq A (iY Q):=h
  show ((wG ds [] fr st).bq (vB kill)).sq A (iY Q')
  rw [T.CM] at h ⊢
  exact T.rN hA _ (fun ⟨_,_⟩ h=>hq _ _ _ h) h
 |.seq a b,Q,Q',fr,st,h,hq=>by
  refine qL hA a _ _ fr st h ?_
  intro e fr st h
  cases e with
  |normal=>exact qL hA b _ _ fr st h hq
  |exit id=>exact hq _ _ _ h
  |ret=>exact hq _ _ _ h
 |.cond c a b,Q,Q',fr,st,h,hq=>by
  rw [Ks] at h ⊢
  split at h
  · exact ⟨fun hc=>qL hA a _ _ _ _ (h.t hc) hq,fun hc=>qL hA b _ _ _ _ (h.f hc) hq⟩
  · exact h.elim
 |.bS id b,Q,Q',fr,st,h,hq=>by
  refine qL hA b _ _ fr st h ?_
  intro e fr st h
  cases e with
  |normal=>exact hq _ _ _ h
  |exit BG=>
   simp only [j9] at h ⊢
   split
   · rename_i hi;rw [if_pos hi] at h;exact hq _ _ _ h
   · rename_i hi;rw [if_neg hi] at h;exact hq _ _ _ h
  |ret=>exact hq _ _ _ h
 |.loop b,Q,Q',fr,st,h,hq=>by
  refine sI.mk ⟨fun R hR=>h.h.h R fun fr cF st hl hx=>hR fr cF st hl ?_⟩
  refine qL hA b _ _ cF st hx ?_
  intro e fr st h
  cases e with
  |normal=>exact h
  |exit id=>exact hq _ _ _ h
  |ret=>exact hq _ _ _ h
 |.exit id,Q,Q',fr,st,h,hq=>hq _ _ _ h
 |.ret,Q,Q',fr,st,h,hq=>hq _ _ _ h
 |.no,_,_,_,_,h,_=>h.elim
theorem Ag {A:b7} (hA:A.tV):∀ (c:AC) (Q Q':Ex->Fr->St->Prop) (fr:Fr) (st:St),WI A c Q fr st->(∀ e fr st,Q e fr st->Q' e fr st)->Ip A c Q' fr st
 |.skip,Q,Q',fr,st,h,hq=>hq _ _ _ h
 |.BE ops,Q,Q',fr,st,h,hq=>by
  have h:(kB ops fr st).sq A (iY Q):=h
  rw [T.CM] at h
  exact T.wp_mono hA (fun ⟨_,_⟩ h=>hq _ _ _ h) (uD hA ops fr st _ (T.zM hA _ _ h))
 |.u0 ds kill,Q,Q',fr,st,h,hq=>by
  refine T.wp_mono hA (fun ⟨_,_⟩ h=>hq _ _ _ h) (?_:T.wp A _ (iY Q))
  have h:((wG ds [] fr st).bq (vB kill)).sq A (iY Q):=h
  rw [T.CM,T.ET] at h
  have h:=T.zM hA _ _ h
  rw [T.wp_bind] at h ⊢
  exact A3 hA _ _ _ _ _ h
 |.seq a b,Q,Q',fr,st,h,hq=>by
  refine Ag hA a _ _ fr st h ?_
  intro e fr st h
  cases e with
  |normal=>exact Ag hA b _ _ fr st h hq
  |exit id=>exact hq _ _ _ h
  |ret=>exact hq _ _ _ h
 |.cond c a b,Q,Q',fr,st,h,hq=>by
  rw [Ks] at h
  simp only [Ip]
  split at h
  · rename_i x hx
    rw [hx]
    exact ⟨fun hc=>Ag hA a _ _ _ _ (h.t hc) hq,fun hc=>Ag hA b _ _ _ _ (h.f hc) hq⟩
  · exact h.elim
 |.bS id b,Q,Q',fr,st,h,hq=>by
  refine Ag hA b _ _ fr st h ?_
  intro e fr st h
  cases e with
  |normal=>exact hq _ _ _ h
  |exit BG=>
   simp only [j9] at h ⊢
   split
   · rename_i hi;rw [if_pos hi] at h;exact hq _ _ _ h
   · rename_i hi;rw [if_neg hi] at h;exact hq _ _ _ h
  |ret=>exact hq _ _ _ h
 |.loop b,Q,Q',fr,st,h,hq=>by
  intro R hR
  refine h.h.h R fun fr cF st hl hx=>hR fr cF st hl ?_
  refine Ag hA b _ _ cF st hx ?_
  intro e fr st h
  cases e with
  |normal=>exact h
  |exit id=>exact hq _ _ _ h
  |ret=>exact hq _ _ _ h
 |.exit id,Q,Q',fr,st,h,hq=>hq _ _ _ h
 |.ret,Q,Q',fr,st,h,hq=>hq _ _ _ h
 |.no,_,_,_,_,h,_=>h.elim
theorem sI.un {P:Program} {b:AC} {ib:A4} {Q:Ex->Fr->St->Prop} {fr:Fr} {st:St} (e:WI (aC P) b=ib) (h:ib (qG (sI (aC P) b ib Q) Q) fr st):sI (aC P) b ib Q fr st:=by
 subst e
 refine ⟨⟨fun R hR=>hR fr fr st (Fr.le_refl _) (qL (aC.mono P) b _ _ fr st h ?_)⟩⟩
 intro e fr st hx
 cases e with
 |normal=>exact hx.h.h R hR
 |exit id=>exact hx
 |ret=>exact hx
theorem jX {P:Program} {f:Nat} {F:aZ} (hk:gU P f F=true) {args:List V} (hn:args.length=F.nparams) {h:aA} {K:V->aA->Prop}
 (hw:(dP h).fS fun st=>(b9 0 args).fS fun fr=>WI (aC P) F.body (wC F.results K) fr st):aC P f args h K:=by
 rw [St.qK,Fr.qK] at hw
 exact fn_ok hk hn (Ag (aC.mono P) _ _ _ _ _ hw fun _ _ _ h=>h)
open Go
structure Ren where
 g:Nat->Nat
 l:Nat->Nat
def Ren.key (ρ:Ren):Key->Key
 |.g n=>.g (ρ.g n)
 |.l n=>.l (ρ.l n)
def V.gV (ρ:Ren):V->V
 |.p k off=>.p (ρ.key k) off
 |.pa k sz ix off=>.pa (ρ.key k) sz ix off
 |.sl (some k) sz es=>.sl (some (ρ.key k)) sz es
 |.ms k sz st len=>.ms (ρ.key k) sz st len
 |.m k=>.m (ρ.key k)
 |v=>v
structure qM where
 g:Nat
 l:Nat
def qM.has (b:qM):Key->Prop
 |.g n=>n<b.g
 |.l n=>n<b.l
def V.bd0 (b:qM):V->Prop
 |.p k _=>b.has k
 |.pa k _ _ _=>b.has k
 |.sl (some k) _ _=>b.has k
 |.ms k _ _ _=>b.has k
 |.m k=>b.has k
 |.agg _=>False
 |.bY _=>False
 |.fn _ _ _=>False
 |_=>True
def Env.Cd (E:Env) (ρ:Ren) (b:qM):Env:=⟨E.I,fun k=>E.μ (ρ.key k),b.g,b.l⟩
theorem Env.A5 {E:Env} {ρ:Ren} {b:qM} {k:Key} (h:b.has k):(E.Cd ρ b).has k:=by cases k<;>exact h
theorem Sv {E:Env} {ρ:Ren} {b:qM} {v:V} {x:Value} (hb:v.bd0 b) (h:Rel E (v.gV ρ) x):Rel (E.Cd ρ b) v x:=by
 cases v
 case b=>cases h with|deep hd=>exact .deep hd
 case i=>cases h with|deep hd=>exact .deep hd
 case s=>cases h with|deep hd=>exact .deep hd
 case lJ=>cases h with
  |deep hd=>exact .deep hd
  |lJ=>exact .lJ
 case p k off=>cases h with
  |deep hd=>cases hd
  |p _ _ hk=>exact .p (E:=E.Cd ρ b) k off (Env.A5 hb)
 case pa k sz ix off=>cases h with
  |deep hd=>cases hd
  |pa _ _ _ _ hk=>exact .pa (E:=E.Cd ρ b) k sz ix off (Env.A5 hb)
 case pc cs off=>cases h with
  |deep hd=>cases hd
  |pc _ _ bS o val hv hr=>exact .pc cs off bS o val hv hr
 case aS=>cases h with|deep hd=>exact .deep hd
 case sl tok sz es=>
  cases tok with
  |none=>cases h with|deep hd=>exact .deep hd
  |some k=>cases h with
   |deep hd=>cases hd
   |F4 _ _ _ a cap hk hd H0 hs=>exact .F4 (E:=E.Cd ρ b) k sz es a cap (Env.A5 hb) hd H0 hs
 case ms k sz st len=>cases h with
  |deep hd=>cases hd
  |ms _ _ _ _ a cap hk hc hf H0 ha=>exact .ms (E:=E.Cd ρ b) k sz st len a cap (Env.A5 hb) hc hf H0 ha
 case gS=>cases h with
  |deep hd=>exact .deep hd
  |gS=>exact .gS
 case m k=>cases h with
  |deep hd=>cases hd
  |m _ hk=>exact .m (E:=E.Cd ρ b) k (Env.A5 hb)
 case fn=>exact hb.elim
 case lK=>cases h with
  |deep hd=>exact .deep hd
  |lK=>exact .lK
 case agg=>exact hb.elim
 case bY=>exact hb.elim
 case gD=>exact .gD x
def St.lim (st:St):qM:=⟨st.g.next,st.l.next⟩
def Key.lim (b:qM):Key->qM
 |.g _=>⟨b.g,0⟩
 |.l _=>b
end Go.Eng
