/-
Symbolic runs: the same asks under heads that do not unfold, and a loop rule.
-/
import Derived.Test.YtmfelikepmmjkaaGreatY08
set_option linter.unusedVariables false
set_option linter.unusedSimpArgs false
namespace Go.Eng
open Go
structure aH (c:Bool) (X Y:Prop):Prop where
 t:c=true->X
 f:c=false->Y
structure cD {β:Type} (o:Option β) (k:β->Prop):Prop where
 h:∃ x,o=some x/\k x
structure aZ {β:Type} (o:Option β) (n:Prop) (k:β->Prop):Prop where
 n:o=none->n
 s:∀ x,o=some x->k x
structure aK (c:Bool) (k:Prop):Prop where
 c:c=true
 k:k
structure aQ (kd:IntKind) (n:Int) (k:Int->Prop):Prop where
 h:k (kd.wrap n)
structure A2 (k:Bool->Prop):Prop where
 h:∀ r,k r
structure cY (A:bS) (f:Nat) (aoP:List V) (h:aA) (K:V->aA->Prop):Prop where
 h:A f aoP h K
structure aP (v u:V) (k:Prop):Prop where
 e:v=u
 k:k
structure bV (X:(Fr->St->Prop)->Fr->St->Prop) (fr:Fr) (st:St):Prop where
 h:∀ R:Fr->St->Prop,(∀ fr bZ st,Fr.le bZ fr->X R bZ st->R fr st)->R fr st
theorem aH.tt {c:Bool} {X Y:Prop} (h:c=true) (x:X):aH c X Y:=⟨fun _=>x,fun h'=>(by rw [h] at h';cases h')⟩
theorem aH.ff {c:Bool} {X Y:Prop} (h:c=false) (y:Y):aH c X Y:=⟨fun h'=>(by rw [h] at h';cases h'),fun _=>y⟩
theorem aH.dt {p:Prop} [Decidable p] {X Y:Prop} (h:p) (x:X):aH (decide p) X Y:=.tt (decide_eq_true h) x
theorem aH.df {p:Prop} [Decidable p] {X Y:Prop} (h:¬p) (y:Y):aH (decide p) X Y:=.ff (decide_eq_false h) y
theorem aH.nt {p:Prop} [Decidable p] {X Y:Prop} (h:¬p) (x:X):aH (!decide p) X Y:=.tt (by rw [decide_eq_false h];rfl) x
theorem aH.nf {p:Prop} [Decidable p] {X Y:Prop} (h:p) (y:Y):aH (!decide p) X Y:=.ff (by rw [decide_eq_true h];rfl) y
theorem aH.ds {p:Prop} [Decidable p] {X Y:Prop} (x:p->X) (y:¬p->Y):aH (decide p) X Y:=⟨fun h=>x (of_decide_eq_true h),fun h=>y (of_decide_eq_false h)⟩
theorem aH.ns {p:Prop} [Decidable p] {X Y:Prop} (x:¬p->X) (y:p->Y):aH (!decide p) X Y:=
 ⟨fun h=>x (of_decide_eq_false (by simpa using h)),fun h=>y (of_decide_eq_true (by simpa using h))⟩
theorem cD.of {β:Type} {o:Option β} {k:β->Prop} {x:β} (h:o=some x) (hk:k x):cD o k:=⟨x,h,hk⟩
theorem aZ.no {β:Type} {o:Option β} {n:Prop} {k:β->Prop} (h:o=none) (hn:n):aZ o n k:=⟨fun _=>hn,fun x hx=>by rw [h] at hx;cases hx⟩
theorem aZ.of {β:Type} {o:Option β} {n:Prop} {k:β->Prop} {x:β} (h:o=some x) (hk:k x):aZ o n k:=
 ⟨fun hn=>(by rw [h] at hn;cases hn),fun y hy=>by rw [h] at hy;cases hy;exact hk⟩
theorem aK.d {p:Prop} [Decidable p] {k:Prop} (h:p) (hk:k):aK (decide p) k:=⟨decide_eq_true h,hk⟩
theorem aK.d2 {p q:Prop} [Decidable p] [Decidable q] {k:Prop} (h:p) (h':q) (hk:k):aK (decide p&&decide q) k:=⟨by rw [decide_eq_true h,decide_eq_true h'];rfl,hk⟩
theorem aK.d3 {p q r:Prop} [Decidable p] [Decidable q] [Decidable r] {k:Prop} (h:p) (h':q) (h2:r) (hk:k):aK (decide p&&decide q&&decide r) k:=
 ⟨by rw [decide_eq_true h,decide_eq_true h',decide_eq_true h2];rfl,hk⟩
theorem aK.ix {i:Int} {n:Nat} {k:Prop} (h:0<=i) (h':i<n) (hk:k):aK (pY i n) k:=⟨by unfold pY;rw [decide_eq_true h,decide_eq_true h'];rfl,hk⟩
theorem aQ.gS {n:Int} {k:Int->Prop} (h1:-9223372036854775808<=n) (h2:n<=9223372036854775807) (hk:k n):aQ .i64 n k:=
 ⟨by rw [oS (by simpa [IntKind.min,IntKind.bits,IntKind.signed] using h1) (by simpa [IntKind.max,IntKind.bits,IntKind.signed] using h2)];exact hk⟩
theorem aQ.wu {n:Int} {k:Int->Prop} (h1:0<=n) (h2:n<=18446744073709551615) (hk:k n):aQ .u64 n k:=
 ⟨by rw [oS (by simpa [IntKind.min,IntKind.bits,IntKind.signed] using h1) (by simpa [IntKind.max,IntKind.bits,IntKind.signed] using h2)];exact hk⟩
theorem aQ.of {kd:IntKind} {n:Int} {k:Int->Prop} (h1:kd.min<=n) (h2:n<=kd.max) (hk:k n):aQ kd n k:=⟨by rw [oS h1 h2];exact hk⟩
theorem bV.by {X:(Fr->St->Prop)->Fr->St->Prop} {fr:Fr} {st:St} (I:Nat->Fr->St->Prop) (n:Nat) (h0:I n fr st)
 (hs:∀ n fr st,I n fr st->∃ bZ,Fr.le bZ fr/\∀ R:Fr->St->Prop,(∀ m fr st,m<n->I m fr st->R fr st)->X R bZ st):bV X fr st:=by
 refine ⟨fun R hR=>?_⟩
 have key:∀ n fr st,I n fr st->R fr st:=by
  intro n
  induction n using Nat.strongRecOn with
  |_ n ih=>
   intro fr st hi
   obtain ⟨bZ,hle,hx⟩:=hs n fr st hi
   exact hR fr bZ st hle (hx R fun m fr st hm hi=>ih m hm fr st hi)
 exact key n fr st h0
def T.sp {α:Type} (A:bS):T α->(α->Prop)->Prop
 |.ret a,K=>K a
 |.ite c t e,K=>aH c (t.sp A K) (e.sp A K)
 |.elem o k,K=>cD o fun x=>(k x).sp A K
 |.byte o k,K=>cD o fun x=>(k x).sp A K
 |.rZ o k,K=>cD o fun x=>(k x).sp A K
 |.EU o k,K=>cD o fun x=>(k x).sp A K
 |.obj o k,K=>cD o fun x=>(k x).sp A K
 |.lS o n k,K=>aZ o (n.sp A K) fun x=>(k x).sp A K
 |.iT c k,K=>aK c (k.sp A K)
 |.wrap kd n k,K=>aQ kd n fun x=>(k x).sp A K
 |.any k,K=>A2 fun r=>(k r).sp A K
 |.same v u k,K=>aP v u (k.sp A K)
 |.call f aoP h k,K=>cY A f aoP h fun r h'=>(k r h').sp A K
 |.fail,_=>False
theorem T.xO {α:Type} {A:bS} (hA:A.sD) (t:T α):∀ (K:α->Prop),t.sp A K->t.wp A K:=by
 induction t with
 |ret a=>exact fun K h=>h
 |ite c t e Ni Nj=>exact fun K h=>⟨fun hc=>Ni K (h.t hc),fun hc=>Nj K (h.f hc)⟩
 |elem o k ih=>exact fun K ⟨⟨x,hx,hk⟩⟩=>⟨x,hx,ih x K hk⟩
 |byte o k ih=>exact fun K ⟨⟨x,hx,hk⟩⟩=>⟨x,hx,ih x K hk⟩
 |rZ o k ih=>exact fun K ⟨⟨x,hx,hk⟩⟩=>⟨x,hx,ih x K hk⟩
 |EU o k ih=>exact fun K ⟨⟨x,hx,hk⟩⟩=>⟨x,hx,ih x K hk⟩
 |obj o k ih=>exact fun K ⟨⟨x,hx,hk⟩⟩=>⟨x,hx,ih x K hk⟩
 |lS o n k GJ ih=>exact fun K h=>⟨fun hn=>GJ K (h.n hn),fun x hx=>ih x K (h.s x hx)⟩
 |iT c k ih=>exact fun K h=>⟨h.c,ih K h.k⟩
 |wrap kd n k ih=>exact fun K h=>.inl (ih _ K h.h)
 |any k ih=>exact fun K h r=>ih r K (h.h r)
 |same v u k ih=>exact fun K h=>⟨h.e,ih K h.k⟩
 |call f aoP hh k ih=>exact fun K h=>hA _ _ _ _ _ (fun r h' hr=>ih r h' K hr) h.h
 |fail=>exact fun K h=>h
def uI (sz:Nat) (st:St) (v:V) (k:List (List V)->T R):T R:=
 match v with
 |.ms key dS s n=>if dS=sz then .obj (st.get key) fun o=>match o with
   |.arr eJ es=>if eJ=sz then .iT (decide (s+n<=es.length)) (.rZ (some ((es.drop s).take n)) k) else .fail
   |_=>.fail
  else .fail
 |v=>jK sz st v k
def A3 (m:kL) (sz bytes:Nat) (st:St) (s:V) (new:List (List V)):T R:=
 match s with
 |.aV=>.ite new.isEmpty (.ret (.aV,st)) (.iT (bR new.length bytes) (j2 m sz new st))
 |.sl tok dS es=>if dS=sz then .ite new.isEmpty (.ret (.sl tok sz es,st))
   (.iT (bR (es.length+new.length) bytes)<|.rZ (dR new) fun ds=>match tok with
     |some k=>.obj (st.get k) fun o=>match o with
      |.spare=>.rZ (some (es++ds)) fun EV=>.ret (.sl (some ((st.remove k).aL k.qK)) sz EV,(st.remove k).push k.qK .spare)
      |_=>.fail
     |none=>.fail)
  else .fail
 |.ms k dS off len=>if dS=sz then .ite new.isEmpty (.ret (.ms k sz off len,st))
   (.iT (bR (len+new.length) bytes)<|.rZ (gL k.qK new) fun ds=>.obj (st.get k) fun o=>match o with
     |.arr eJ es=>if eJ=sz then
       .iT (decide (off+len<=es.length))<|.ite (decide (off+len+ds.length<=es.length))
        (.rZ (some (es.take (off+len)++ds++es.drop (off+len+ds.length))) fun EV=>.ret (.ms k sz off (len+ds.length),st.set k (.arr sz EV)))
        (.rZ (some ((es.take (off+len)).drop off++ds)) fun EV=>.ret (.ms ((st.remove k).aL k.qK) sz 0 (len+ds.length),(st.remove k).push k.qK (.arr sz EV)))
      else .fail
     |_=>.fail)
  else .fail
 |_=>.fail
theorem uJ {A:bS} {sz:Nat} {st:St} {v:V} {k k':List (List V)->T R} {K:R->Prop} (hk:∀ es,(k es).wp A K->(k' es).wp A K) (h:(uI sz st v k).wp A K):(jK sz st v k').wp A K:=by
 cases v<;>simp only [uI,jK] at h ⊢
 case aV=>exact hk _ h
 case sl tok dS es=>
  split at h
  · rename_i hs;rw [if_pos hs];exact hk _ h
  · exact h.elim
 case ms key dS s n=>
  split at h
  · rename_i hs
    rw [if_pos hs]
    obtain ⟨o,ho,h⟩:=h
    refine ⟨o,ho,?_⟩
    cases o<;>(try exact h.elim)
    dsimp only at h ⊢
    split at h
    · rename_i hz
      rw [if_pos hz]
      obtain ⟨h1,e,he,h2⟩:=h
      cases he
      exact ⟨h1,hk _ h2⟩
    · exact h.elim
  · exact h.elim
 case s x=>
  split at h
  · rename_i hs;rw [if_pos hs];exact hk _ h
  · exact h.elim
 all_goals exact h.elim
theorem Ht {A:bS} {m:kL} {sz bytes:Nat} {st:St} {s:V} {new:List (List V)} {K:R->Prop} (h:(A3 m sz bytes st s new).wp A K):(oI m sz bytes st s new).wp A K:=by
 cases s<;>simp only [A3] at h<;>(try exact h.elim)
 case aV=>
  cases new with
  |nil=>exact h.1 rfl
  |cons e r=>exact h.2 rfl
 case sl tok dS es=>
  simp only [oI]
  split at h
  case isFalse=>exact h.elim
  rename_i hs
  rw [if_pos hs]
  cases new with
  |nil=>exact h.1 rfl
  |cons e r=>
   obtain ⟨h1,ds,h2,h3⟩:=h.2 rfl
   refine ⟨h1,ds,h2,?_⟩
   cases tok with
   |none=>exact h3
   |some k=>
    obtain ⟨o,ho,h3⟩:=h3
    refine ⟨o,ho,?_⟩
    cases o<;>(try exact h3.elim)
    obtain ⟨e',he,h4⟩:=h3
    cases he
    exact h4
 case ms k dS off len=>
  simp only [oI]
  split at h
  case isFalse=>exact h.elim
  rename_i hs
  rw [if_pos hs]
  cases new with
  |nil=>exact h.1 rfl
  |cons e r=>
   obtain ⟨h1,ds,h2,o,ho,h3⟩:=h.2 rfl
   refine ⟨h1,ds,h2,o,ho,?_⟩
   cases o<;>(try exact h3.elim)
   dsimp only at h3 ⊢
   split at h3
   case isFalse=>exact h3.elim
   rename_i hz
   rw [if_pos hz]
   obtain ⟨h4,h5,h6⟩:=h3
   refine ⟨h4,fun hc=>?_,fun hc=>?_⟩
   · obtain ⟨e',he,h7⟩:=h5 hc
     cases he
     exact h7
   · obtain ⟨e',he,h7⟩:=h6 hc
     cases he
     exact h7
def jT (o:y7) (fr:Fr) (st:St):T R:=
 match o with
 |.load n a=>match a.ev fr with
  |.p k off=>.obj (st.get k) fun o=>match o with
   |.cs c=>.lS (dL c off n) .fail fun v=>.ret (v,st)
   |_=>.fail
  |.pa k sz ix off=>.obj (st.get k) fun o=>match o with
   |.arr dS es=>if dS=sz then .elem es[ix]? fun e=>.lS (dL e off n) .fail fun v=>.ret (v,st) else .fail
   |_=>.fail
  |.pc cs off=>.lS (dL cs off n) .fail fun v=>.ret (v,st)
  |_=>.fail
 |.OM off n x=>match x.ev fr with
  |.agg cs=>.lS (dL cs off n) .fail fun v=>.ret (v,st)
  |_=>.fail
 |.O6 len sz n x i=>match x.ev fr,i.ev fr with
  |.agg cs,.i _ j=>.iT (pY j len)<|.lS (dL cs (j.toNat*sz) n) .fail fun v=>.ret (v,st)
  |_,_=>.fail
 |.append m sz bytes s x=>uI sz st (x.ev fr) fun new=>A3 m sz bytes st (s.ev fr) new
 |.Ng x=>uI 1 st (x.ev fr) fun es=>.EU (bytesOf es) fun y=>.ret (.s y,st)
 |.copy sz d x=>uI sz st (x.ev fr) fun src=>match d.ev fr with
  |.ms k dS off len=>if dS=sz then .rZ (gL k.qK (src.take len)) fun ds=>.obj (st.get k) fun o=>match o with
    |.arr eJ es=>if eJ=sz then
      .iT (decide (off+len<=es.length))<|.rZ (some (es.take off++ds++es.drop (off+ds.length))) fun EV=>.ret (.i .i64 (ds.length:Nat),st.set k (.arr sz EV))
     else .fail
    |_=>.fail
   else .fail
  |_=>.fail
 |.AO max xs=>match bH.GH fr xs with
  |v::r=>.lS (gY max v r) .fail fun v=>.ret (v,st)
  |[]=>.fail
 |.wM sz x lo hi mx=>match x.ev fr with
  |.sl tok dS es=>if dS=sz then match mx with
    |none=>match bH.Cq fr hi with
     |none=>T.opt (eH (bH.Cq fr lo) 0) fun l=>.iT (decide (0<=l)&&decide (l<=(es.length:Int)))<|.rZ (some (es.drop l.toNat)) fun es=>.ret (.sl tok sz es,st)
     |some v=>T.opt (tP v) fun h=>T.opt (eH (bH.Cq fr lo) 0) fun l=>
      .iT (decide (0<=l)&&decide (l<=h)&&decide (h<=(es.length:Int)))<|.rZ (some ((es.take h.toNat).drop l.toNat)) fun es=>.ret (.sl none sz es,st)
    |some _=>.fail
   else .fail
  |_=>step (.wM sz x lo hi mx) fr st
 |.wY f args=>match f.ev fr with
  |.fn g first cap=>.elem (gK (first++bH.GH fr args++cap)) fun vs=>.call g vs st.g fun r h=>.ret (r,⟨h,st.l⟩)
  |_=>.fail
 |.store n a x=>if (x.ev fr).Uj=true/\(x.ev fr).cells.length=n then match a.ev fr with
   |.p k off=>T.opt (sA k.qK (x.ev fr).cells) fun vs=>.obj (st.get k) fun o=>match o with
    |.cs c=>.iT (oH c off vs)<|.elem (some (dI c off vs)) fun c'=>.ret (.bY [],st.set k (.cs c'))
    |_=>.fail
   |.pa k sz ix off=>T.opt (sA k.qK (x.ev fr).cells) fun vs=>.obj (st.get k) fun o=>match o with
    |.arr dS es=>if dS=sz then .elem es[ix]? fun e=>.iT (oH e off vs)<|.rZ (some (es.set ix (dI e off vs))) fun EV=>.ret (.bY [],st.set k (.arr sz EV)) else .fail
    |_=>.fail
   |_=>.fail
  else .fail
 |o=>step o fr st
theorem vY {β:Type} {A:bS} {o:Option V} {k:V->T β} {K:β->Prop} (h:(T.lS o .fail k).wp A K):(T.opt o k).wp A K:=by
 cases o with
 |none=>exact h.1 rfl
 |some x=>exact h.2 x rfl
theorem zX {A:bS} {o:y7} {fr:Fr} {st:St} {K:R->Prop} (h:(jT o fr st).wp A K):(step o fr st).wp A K:=by
 cases o
 case load n a=>
  simp only [jT] at h
  simp only [step]
  generalize a.ev fr=v at h ⊢
  cases v<;>(try exact h)
  case p k off=>
   obtain ⟨o,ho,h⟩:=h
   refine ⟨o,ho,?_⟩
   cases o<;>first|exact h|exact vY h
  case pa k sz ix off=>
   obtain ⟨o,ho,h⟩:=h
   refine ⟨o,ho,?_⟩
   cases o<;>(try exact h)
   dsimp only at h ⊢
   split at h
   · rename_i hs
     rw [if_pos hs]
     obtain ⟨e,he,h⟩:=h
     exact ⟨e,he,vY h⟩
   · exact h.elim
  case pc cs off=>exact vY h
 case OM off n x=>
  simp only [jT] at h
  simp only [step]
  generalize x.ev fr=v at h ⊢
  cases v<;>(try exact h)
  exact vY h
 case O6 len sz n x i=>
  simp only [jT] at h
  simp only [step]
  generalize x.ev fr=v at h ⊢
  generalize i.ev fr=u at h ⊢
  cases v<;>cases u<;>(try exact h)
  exact ⟨h.1,vY h.2⟩
 case append m sz bytes s x=>
  simp only [jT] at h
  simp only [step]
  exact uJ (fun es h=>Ht h) h
 case Ng x=>
  simp only [jT] at h
  simp only [step]
  exact uJ (fun es h=>h) h
 case copy sz d x=>
  simp only [jT] at h
  simp only [step]
  refine uJ (fun src h=>?_) h
  generalize d.ev fr=v at h ⊢
  cases v<;>(try exact h.elim)
  dsimp only at h ⊢
  split at h
  case isFalse=>exact h.elim
  rename_i hs
  rw [if_pos hs]
  obtain ⟨ds,h1,o,ho,h⟩:=h
  refine ⟨ds,h1,o,ho,?_⟩
  cases o<;>(try exact h.elim)
  dsimp only at h ⊢
  split at h
  case isFalse=>exact h.elim
  rename_i hz
  rw [if_pos hz]
  obtain ⟨h2,e,he,h3⟩:=h
  cases he
  exact ⟨h2,h3⟩
 case AO max xs=>
  simp only [jT] at h
  simp only [step]
  generalize bH.GH fr xs=vs at h ⊢
  cases vs with
  |nil=>exact h
  |cons v r=>exact vY h
 case wM sz x lo hi mx=>
  simp only [jT] at h
  split at h
  case h_2=>exact h
  rename_i tok dS es hx
  simp only [step,hx]
  split at h
  case isFalse=>exact h.elim
  rename_i hs
  rw [if_pos hs]
  cases mx with
  |some q=>exact h.elim
  |none=>
   dsimp only at h ⊢
   generalize bH.Cq fr hi=w at h ⊢
   cases w with
   |none=>
    dsimp only at h ⊢
    cases hb:eH (bH.Cq fr lo) 0 with
    |none=>rw [hb] at h;exact h.elim
    |some l=>
     rw [hb] at h
     obtain ⟨h1,e,h2,h3⟩:=h
     cases h2
     exact ⟨h1,h3⟩
   |some v=>
    dsimp only at h ⊢
    cases hi:tP v with
    |none=>rw [hi] at h;exact h.elim
    |some u=>
    cases hb:eH (bH.Cq fr lo) 0 with
    |none=>rw [hi,hb] at h;exact h.elim
    |some l=>
     rw [hi,hb] at h
     obtain ⟨h1,e,h2,h3⟩:=h
     cases h2
     exact ⟨h1,h3⟩
 case wY f args=>
  simp only [jT] at h
  simp only [step]
  generalize f.ev fr=v at h ⊢
  cases v<;>(try exact h)
  obtain ⟨vs,h1,h2⟩:=h
  dsimp only
  rw [h1]
  exact h2
 case store n a x=>
  simp only [jT] at h
  simp only [step]
  generalize x.ev fr=u at h ⊢
  generalize a.ev fr=v at h ⊢
  split at h
  case isFalse=>exact h.elim
  rename_i hs
  rw [if_pos hs]
  cases v<;>(try exact h.elim)
  case p k off=>
   dsimp only at h ⊢
   cases hv:sA k.qK u.cells with
   |none=>rw [hv] at h;exact h.elim
   |some vs=>
    rw [hv] at h
    obtain ⟨o,ho,h⟩:=h
    refine ⟨o,ho,?_⟩
    cases o<;>(try exact h.elim)
    obtain ⟨h1,c',h2,h3⟩:=h
    cases h2
    dsimp only
    rw [h1]
    exact h3
  case pa k sz ix off=>
   dsimp only at h ⊢
   cases hv:sA k.qK u.cells with
   |none=>rw [hv] at h;exact h.elim
   |some vs=>
    rw [hv] at h
    obtain ⟨o,ho,h⟩:=h
    refine ⟨o,ho,?_⟩
    cases o<;>(try exact h.elim)
    dsimp only at h ⊢
    split at h
    case isFalse=>exact h.elim
    rename_i hz
    rw [if_pos hz]
    obtain ⟨e,he,h1,c',h2,h3⟩:=h
    cases h2
    refine ⟨e,he,?_⟩
    show T.wp A (match oH e off vs with|true=>_|false=>_) K
    rw [h1]
    exact h3
 all_goals exact h
def lC:List dC->Fr->St->T (Fr×St)
 |[],fr,st=>.ret (fr,st)
 |o::rest,fr,st=>
  match o.guard with
  |none=>(jT o.op fr st).bind fun x=>match x with
   |(v,st)=>fr.after o.dst v o.kill fun fr=>lC rest fr st
  |some (t,want)=>match fr.get t with
   |.b x=>match want with
    |true=>.ite x
     (fr.cut [t] fun r=>(jT o.op ((t,.b true)::r) st).bind fun x=>match x with
       |(v,st)=>Fr.after ((t,.b true)::r) o.dst v o.kill fun fr=>lC rest fr st)
     (fr.cut [t] fun r=>Fr.after ((t,.b false)::r) o.dst (.bY []) o.kill fun fr=>lC rest fr st)
    |false=>.ite x
     (fr.cut [t] fun r=>Fr.after ((t,.b true)::r) o.dst (.bY []) o.kill fun fr=>lC rest fr st)
     (fr.cut [t] fun r=>(jT o.op ((t,.b false)::r) st).bind fun x=>match x with
       |(v,st)=>Fr.after ((t,.b false)::r) o.dst v o.kill fun fr=>lC rest fr st)
   |.bY _=>fr.after o.dst (.bY []) o.kill fun fr=>lC rest fr st
   |_=>.fail
theorem yF {A:bS} (hA:A.sD):∀ (ops:List dC) (fr:Fr) (st:St) (K:Fr×St->Prop),(lC ops fr st).wp A K->(dU ops fr st).wp A K
 |[],fr,st,K,h=>h
 |o::rest,fr,st,K,h=>by
  have one:∀ {rB:Fr},((jT o.op rB st).bind fun x=>match x with
   |(v,st)=>rB.after o.dst v o.kill fun fr=>lC rest fr st).wp A K->((step o.op rB st).bind fun x=>match x with
   |(v,st)=>rB.after o.dst v o.kill fun fr=>dU rest fr st).wp A K:=by
   intro rB h
   rw [T.wp_bind] at h ⊢
   refine zX ?_
   revert h
   refine T.wp_mono hA ?_
   rintro ⟨v,st⟩ h
   dsimp only at h ⊢
   rw [Fr.cR] at h ⊢
   exact yF hA rest _ _ K h
  have two:∀ {rB:Fr},(rB.after o.dst (.bY []) o.kill fun fr=>lC rest fr st).wp A K->(rB.after o.dst (.bY []) o.kill fun fr=>dU rest fr st).wp A K:=by
   intro rB h
   rw [Fr.cR] at h ⊢
   exact yF hA rest _ _ K h
  obtain ⟨dst,op,g,kill⟩:=o
  cases g with
  |none=>exact one h
  |some q=>
   obtain ⟨t,want⟩:=q
   simp only [lC] at h
   simp only [dU]
   generalize fr.get t=v at h ⊢
   cases v<;>(try exact h)
   case b x=>
    cases want
    · refine ⟨fun hc=>?_,fun hc=>?_⟩
      · have h:=h.1 hc
        rw [Fr.cN] at h ⊢
        exact two h
      · have h:=h.2 hc
        rw [Fr.cN] at h ⊢
        exact one h
    · refine ⟨fun hc=>?_,fun hc=>?_⟩
      · have h:=h.1 hc
        rw [Fr.cN] at h ⊢
        exact one h
      · have h:=h.2 hc
        rw [Fr.cN] at h ⊢
        exact two h
   case bY vs=>exact two h
def I9:List bB->List bB->Fr->St->T (Fr×St)
 |_,[],fr,st=>.ret (fr,st)
 |done,d::rest,fr,st=>tQ d.o.guard fr
  (fun fr=>(jT d.o.op fr st).bind fun x=>match x with
    |(v,st)=>fr.after d.o.dst v [] fun fr=>recheck d.re done fr st (I9 (d::done) rest fr st))
  (fun fr=>fr.after d.o.dst (.bY []) [] fun fr=>I9 (d::done) rest fr st)
theorem gU {α:Type} {A:bS} (hA:A.sD) {re:List Nat} {k k':T α} {K K':α->Prop}:∀ {ds:List bB} {fr:Fr} {st:St},(k.wp A K->k'.wp A K')->(recheck re ds fr st k).wp A K->(recheck re ds fr st k').wp A K'
 |[],fr,st,hk,h=>hk h
 |p::ps,fr,st,hk,h=>by
  simp only [recheck] at h ⊢
  split at h
  · split at h
    · rw [T.wp_bind] at h ⊢
      refine T.wp_mono hA ?_ h
      intro x hx
      split at hx
      · exact ⟨hx.1,gU hA hk hx.2⟩
      · exact gU hA hk hx
    · exact gU hA hk h
    · exact h
  · exact gU hA hk h
theorem yG {α:Type} {A:bS} {g:Option (Nat×Bool)} {fr:Fr} {y y' n n':Fr->T α} {K K':α->Prop} (hy:∀ fr,(y fr).wp A K->(y' fr).wp A K') (hn:∀ fr,(n fr).wp A K->(n' fr).wp A K')
 (h:(tQ g fr y n).wp A K):(tQ g fr y' n').wp A K':=by
 unfold tQ at h ⊢
 split at h
 · exact hy _ h
 · split at h
   · split at h
     · refine ⟨fun hc=>?_,fun hc=>?_⟩
       · have h:=h.1 hc
         rw [Fr.cN] at h ⊢
         exact hy _ h
       · have h:=h.2 hc
         rw [Fr.cN] at h ⊢
         exact hn _ h
     · refine ⟨fun hc=>?_,fun hc=>?_⟩
       · have h:=h.1 hc
         rw [Fr.cN] at h ⊢
         exact hn _ h
       · have h:=h.2 hc
         rw [Fr.cN] at h ⊢
         exact hy _ h
   · exact hn _ h
   · exact h
theorem DM {A:bS} (hA:A.sD):∀ (ds done:List bB) (fr:Fr) (st:St) (K:Fr×St->Prop),(I9 done ds fr st).wp A K->(oJ done ds fr st).wp A K
 |[],done,fr,st,K,h=>h
 |d::rest,done,fr,st,K,h=>by
  simp only [I9] at h
  simp only [oJ]
  refine yG (fun fr h=>?_) (fun fr h=>?_) h
  · rw [T.wp_bind] at h ⊢
    refine zX ?_
    refine T.wp_mono hA ?_ h
    rintro ⟨v,st⟩ h
    dsimp only at h ⊢
    rw [Fr.cR] at h ⊢
    exact gU hA (fun h=>DM hA rest _ _ _ K h) h
  · rw [Fr.cR] at h ⊢
    exact DM hA rest _ _ _ K h
def Kj (A:bS):AC->(Ex->Fr->St->Prop)->Fr->St->Prop
 |.skip,Q,fr,st=>Q .normal fr st
 |.AK ops,Q,fr,st=>(lC ops fr st).sp A (iE Q)
 |.tD ds kill,Q,fr,st=>((I9 [] ds fr st).bind (tF kill)).sp A (iE Q)
 |.seq a b,Q,fr,st=>Kj A a (o9 (Kj A b Q) Q) fr st
 |.cond c a b,Q,fr,st=>match c.ev fr with
  |.b x=>aH x (Kj A a Q fr st) (Kj A b Q fr st)
  |_=>False
 |.bL id b,Q,fr,st=>Kj A b (jO id Q) fr st
 |.loop b,Q,fr,st=>bV (fun R=>Kj A b (o9 R Q)) fr st
 |.exit id,Q,fr,st=>Q (.exit id) fr st
 |.ret,Q,fr,st=>Q .ret fr st
 |.no,_,_,_=>False
theorem yH {A:bS} (hA:A.sD):∀ (c:AC) (Q Q':Ex->Fr->St->Prop) (fr:Fr) (st:St),Kj A c Q fr st->(∀ e fr st,Q e fr st->Q' e fr st)->G9 A c Q' fr st
 |.skip,Q,Q',fr,st,h,hq=>hq _ _ _ h
 |.AK ops,Q,Q',fr,st,h,hq=>T.wp_mono hA (fun ⟨_,_⟩ h=>hq _ _ _ h) (yF hA ops fr st _ (T.xO hA _ _ h))
 |.tD ds kill,Q,Q',fr,st,h,hq=>by
  refine T.wp_mono hA (fun ⟨_,_⟩ h=>hq _ _ _ h) (?_:T.wp A _ (iE Q))
  simp only [Kj] at h
  have h:=T.xO hA _ _ h
  rw [T.wp_bind] at h ⊢
  exact DM hA _ _ _ _ _ h
 |.seq a b,Q,Q',fr,st,h,hq=>by
  refine yH hA a _ _ fr st h ?_
  intro e fr st h
  cases e with
  |normal=>exact yH hA b _ _ fr st h hq
  |exit id=>exact hq _ _ _ h
  |ret=>exact hq _ _ _ h
 |.cond c a b,Q,Q',fr,st,h,hq=>by
  simp only [Kj] at h
  simp only [G9]
  split at h
  · rename_i x hx
    rw [hx]
    exact ⟨fun hc=>yH hA a _ _ _ _ (h.t hc) hq,fun hc=>yH hA b _ _ _ _ (h.f hc) hq⟩
  · exact h.elim
 |.bL id b,Q,Q',fr,st,h,hq=>by
  refine yH hA b _ _ fr st h ?_
  intro e fr st h
  cases e with
  |normal=>exact hq _ _ _ h
  |exit AN=>
   simp only [jO] at h ⊢
   split
   · rename_i hi;rw [if_pos hi] at h;exact hq _ _ _ h
   · rename_i hi;rw [if_neg hi] at h;exact hq _ _ _ h
  |ret=>exact hq _ _ _ h
 |.loop b,Q,Q',fr,st,h,hq=>by
  intro R hR
  refine h.h R fun fr bZ st hl hx=>hR fr bZ st hl ?_
  refine yH hA b _ _ bZ st hx ?_
  intro e fr st h
  cases e with
  |normal=>exact h
  |exit id=>exact hq _ _ _ h
  |ret=>exact hq _ _ _ h
 |.exit id,Q,Q',fr,st,h,hq=>hq _ _ _ h
 |.ret,Q,Q',fr,st,h,hq=>hq _ _ _ h
 |.no,_,_,_,_,h,_=>h.elim
theorem T.qB {α:Type} {A:bS} (hA:A.sD) (t:T α):∀ {K K':α->Prop},(∀ a,K a->K' a)->t.sp A K->t.sp A K':=by
 induction t with
 |ret a=>exact fun h hk=>h _ hk
 |ite c t e Ni Nj=>exact fun h hk=>⟨fun hc=>Ni h (hk.t hc),fun hc=>Nj h (hk.f hc)⟩
 |elem o k ih=>exact fun h ⟨⟨x,hx,hk⟩⟩=>⟨⟨x,hx,ih x h hk⟩⟩
 |byte o k ih=>exact fun h ⟨⟨x,hx,hk⟩⟩=>⟨⟨x,hx,ih x h hk⟩⟩
 |rZ o k ih=>exact fun h ⟨⟨x,hx,hk⟩⟩=>⟨⟨x,hx,ih x h hk⟩⟩
 |EU o k ih=>exact fun h ⟨⟨x,hx,hk⟩⟩=>⟨⟨x,hx,ih x h hk⟩⟩
 |obj o k ih=>exact fun h ⟨⟨x,hx,hk⟩⟩=>⟨⟨x,hx,ih x h hk⟩⟩
 |lS o n k GJ ih=>exact fun h hk=>⟨fun hn=>GJ h (hk.n hn),fun x hx=>ih x h (hk.s x hx)⟩
 |iT c k ih=>exact fun h hk=>⟨hk.c,ih h hk.k⟩
 |wrap kd n k ih=>exact fun h hk=>⟨ih _ h hk.h⟩
 |any k ih=>exact fun h hk=>⟨fun r=>ih r h (hk.h r)⟩
 |same v u k ih=>exact fun h hk=>⟨hk.e,ih h hk.k⟩
 |call f aoP hh k ih=>exact fun h hk=>⟨hA _ _ _ _ _ (fun r h' hr=>ih r h' h hr) hk.h⟩
 |fail=>exact fun _ hk=>hk
theorem pC {A:bS} (hA:A.sD):∀ (c:AC) (Q Q':Ex->Fr->St->Prop) (fr:Fr) (st:St),Kj A c Q fr st->(∀ e fr st,Q e fr st->Q' e fr st)->Kj A c Q' fr st
 |.skip,Q,Q',fr,st,h,hq=>hq _ _ _ h
 |.AK ops,Q,Q',fr,st,h,hq=>T.qB hA _ (fun ⟨_,_⟩ h=>hq _ _ _ h) h
 |.tD ds kill,Q,Q',fr,st,h,hq=>T.qB hA _ (fun ⟨_,_⟩ h=>hq _ _ _ h) h
 |.seq a b,Q,Q',fr,st,h,hq=>by
  refine pC hA a _ _ fr st h ?_
  intro e fr st h
  cases e with
  |normal=>exact pC hA b _ _ fr st h hq
  |exit id=>exact hq _ _ _ h
  |ret=>exact hq _ _ _ h
 |.cond c a b,Q,Q',fr,st,h,hq=>by
  simp only [Kj] at h ⊢
  split at h
  · exact ⟨fun hc=>pC hA a _ _ _ _ (h.t hc) hq,fun hc=>pC hA b _ _ _ _ (h.f hc) hq⟩
  · exact h.elim
 |.bL id b,Q,Q',fr,st,h,hq=>by
  refine pC hA b _ _ fr st h ?_
  intro e fr st h
  cases e with
  |normal=>exact hq _ _ _ h
  |exit AN=>
   simp only [jO] at h ⊢
   split
   · rename_i hi;rw [if_pos hi] at h;exact hq _ _ _ h
   · rename_i hi;rw [if_neg hi] at h;exact hq _ _ _ h
  |ret=>exact hq _ _ _ h
 |.loop b,Q,Q',fr,st,h,hq=>by
  refine ⟨fun R hR=>h.h R fun fr bZ st hl hx=>hR fr bZ st hl ?_⟩
  refine pC hA b _ _ bZ st hx ?_
  intro e fr st h
  cases e with
  |normal=>exact h
  |exit id=>exact hq _ _ _ h
  |ret=>exact hq _ _ _ h
 |.exit id,Q,Q',fr,st,h,hq=>hq _ _ _ h
 |.ret,Q,Q',fr,st,h,hq=>hq _ _ _ h
 |.no,_,_,_,_,h,_=>h.elim
theorem bV.un {P:Program} {b:AC} {Q:Ex->Fr->St->Prop} {fr:Fr} {st:St} (h:Kj (aB P) b (o9 (bV fun R=>Kj (aB P) b (o9 R Q)) Q) fr st):bV (fun R=>Kj (aB P) b (o9 R Q)) fr st:=by
 refine ⟨fun R hR=>hR fr fr st (Fr.le_refl _) (pC (aB.mono P) b _ _ fr st h ?_)⟩
 intro e fr st hx
 cases e with
 |normal=>exact hx.h R hR
 |exit id=>exact hx
 |ret=>exact hx
theorem aN {P:Program} {f:Nat} {F:aW} (hk:gE P f F=true) {args:List V} (hn:args.length=F.nparams) {h:aA} {K:V->aA->Prop}
 (hw:Kj (aB P) F.body (wR F.results K) (bT 0 args) (dG h)):aB P f args h K:=
 fn_ok hk hn (yH (aB.mono P) _ _ _ _ _ hw fun _ _ _ h=>h)
open Go
theorem cY.app {A:bS} {f:Nat} {aoP:List V} {h:aA} {K:V->aA->Prop} {X:Prop} (g:X->A f aoP h K) (x:X):cY A f aoP h K:=⟨g x⟩
def Key.fS {α:Type} (a:Key) (k:Key->α):α:=
 match a with
 |.g n=>k (.g n)
 |.l n=>k (.l n)
def V.f1 {α:Type} (v:V) (k:V->α):α:=
 match v with
 |.b x=>k (.b x)
 |.i kd n=>k (.i kd n)
 |.s x=>k (.s x)
 |.kE=>k .kE
 |.p a o=>a.fS fun a=>k (.p a o)
 |.pa a z ix o=>a.fS fun a=>k (.pa a z ix o)
 |.pc c o=>k (.pc c o)
 |.aV=>k .aV
 |.sl t z e=>match t with
  |some a=>a.fS fun a=>k (.sl (some a) z e)
  |none=>k (.sl none z e)
 |.ms a z u l=>a.fS fun a=>k (.ms a z u l)
 |.gC=>k .gC
 |.m a=>a.fS fun a=>k (.m a)
 |.fn f a c=>k (.fn f a c)
 |.kG=>k .kG
 |.agg c=>k (.agg c)
 |.bY c=>k (.bY c)
 |.fK=>k .fK
theorem Key.pD {α:Type} (a:Key) (k:Key->α):a.fS k=k a:=by cases a<;>rfl
theorem V.QE {α:Type} (v:V) (k:V->α):v.f1 k=k v:=by
 cases v<;>(try rfl)
 case sl t z e=>cases t<;>simp only [V.f1,Key.pD]
 all_goals simp only [V.f1,Key.pD]
def yI {α:Type}:List V->(List V->α)->α
 |[],k=>k []
 |v::r,k=>v.f1 fun v=>yI r fun r=>k (v::r)
theorem A4 {α:Type}:∀ (l:List V) (k:List V->α),yI l k=k l
 |[],_=>rfl
 |v::r,k=>by simp only [yI,V.QE];rw [A4 r]
def V.f2 {α:Type} (v:V) (k:V->α):α:=
 match v with
 |.agg c=>yI c fun c=>k (.agg c)
 |.fn f a c=>yI a fun a=>yI c fun c=>k (.fn f a c)
 |v=>v.f1 k
theorem V.QF {α:Type} (v:V) (k:V->α):v.f2 k=k v:=by
 cases v<;>simp only [V.f2,A4,V.QE]
def Tm {α:Type}:List V->(List V->α)->α
 |[],k=>k []
 |v::r,k=>v.f2 fun v=>Tm r fun r=>k (v::r)
theorem MC {α:Type}:∀ (l:List V) (k:List V->α),Tm l k=k l
 |[],_=>rfl
 |v::r,k=>by simp only [Tm,V.QF];rw [MC r]
def V.f3 {α:Type} (v:V) (k:V->α):α:=
 match v with
 |.bY c=>Tm c fun c=>k (.bY c)
 |v=>v.f2 k
theorem V.QG {α:Type} (v:V) (k:V->α):v.f3 k=k v:=by
 cases v<;>simp only [V.f3,MC,V.QF]
def Wc {α:Type}:List (V×V)->(List (V×V)->α)->α
 |[],k=>k []
 |q::r,k=>match q with
  |(a,v)=>a.f1 fun a=>v.f2 fun v=>Wc r fun r=>k ((a,v)::r)
theorem MD {α:Type}:∀ (l:List (V×V)) (k:List (V×V)->α),Wc l k=k l
 |[],_=>rfl
 |(a,v)::r,k=>by simp only [Wc,V.QE,V.QF];rw [MD r]
def Obj.fS {α:Type} (o:Obj) (k:Obj->α):α:=
 match o with
 |.cs c=>yI c fun c=>k (.cs c)
 |.arr z es=>k (.arr z es)
 |.spare=>k .spare
 |.mp kd es=>k (.mp kd es)
theorem Obj.pD {α:Type} (o:Obj) (k:Obj->α):o.fS k=k o:=by cases o<;>simp only [Obj.fS,A4,MD]
def Ja {α:Type}:List (Nat×Obj)->(List (Nat×Obj)->α)->α
 |[],k=>k []
 |q::r,k=>match q with
  |(n,o)=>o.fS fun o=>Ja r fun r=>k ((n,o)::r)
theorem Jb {α:Type}:∀ (l:List (Nat×Obj)) (k:List (Nat×Obj)->α),Ja l k=k l
 |[],_=>rfl
 |(n,o)::r,k=>by simp only [Ja,Obj.pD];rw [Jb r]
def St.fS {α:Type} (st:St) (k:St->α):α:=
 match st with
 |⟨⟨x,a⟩,⟨y,b⟩⟩=>Ja a fun a=>Ja b fun b=>k ⟨⟨x,a⟩,⟨y,b⟩⟩
theorem St.pD {α:Type} (st:St) (k:St->α):st.fS k=k st:=by
 obtain ⟨⟨x,a⟩,⟨y,b⟩⟩:=st
 simp only [St.fS,Jb]
def Fr.fS {α:Type}:Fr->(Fr->α)->α
 |[],k=>k []
 |q::r,k=>match q with
  |(n,v)=>v.f3 fun v=>Fr.fS r fun r=>k ((n,v)::r)
theorem Fr.pD {α:Type}:∀ (l:Fr) (k:Fr->α),Fr.fS l k=k l
 |[],_=>rfl
 |(n,o)::r,k=>by simp only [Fr.fS,V.QG];rw [Fr.pD r]
def y7.j3:y7->Bool
 |.alloc _ _=>true
 |.box _ _=>true
 |.Sb _ _ _ _ _=>true
 |.store _ _ _=>true
 |.Sc _ _=>true
 |.CY _ _=>true
 |.Km _ _ _ _ _ _=>true
 |.Kn _ _ _ _=>true
 |.call _ _=>true
 |.wY _ _=>true
 |.append _ _ _ _ _=>true
 |.copy _ _ _=>true
 |.delete _ _ _=>true
 |.clear _ _ _=>true
 |_=>false
def DN {α:Type} (o:y7) (x:R) (k:V->St->α):α:=
 match x with
 |(v,st)=>match o.j3 with
  |true=>st.fS fun st=>v.f3 fun v=>k v st
  |false=>v.f3 fun v=>k v st
theorem Jc {α:Type} (o:y7) (v:V) (st:St) (k:V->St->α):DN o (v,st) k=k v st:=by
 unfold DN
 cases o.j3<;>simp only [V.QG,St.pD]
def A5 (o:y7) (fr:Fr) (st:St):T R:=
 match o with
 |.AO max xs=>jT (.AO max xs) fr st
 |.append m sz bytes s x=>jT (.append m sz bytes s x) fr st
 |.wM sz x lo hi mx=>jT (.wM sz x lo hi mx) fr st
 |.copy sz d x=>jT (.copy sz d x) fr st
 |.Ng x=>jT (.Ng x) fr st
 |o=>step o fr st
theorem Jd {A:bS} {o:y7} {fr:Fr} {st:St} {K:R->Prop} (h:(A5 o fr st).wp A K):(step o fr st).wp A K:=by
 cases o<;>first|exact h|exact zX h
noncomputable def T.sq {α:Type} (A:bS) (t:T α):(α->Prop)->Prop:=
 T.rec (motive:=fun _=>(α->Prop)->Prop) (fun a K=>K a) (fun c _ _ it ie K=>aH c (it K) (ie K)) (fun o _ ih K=>cD o fun x=>ih x K) (fun o _ ih K=>cD o fun x=>ih x K) (fun o _ ih K=>cD o fun x=>ih x K)
  (fun o _ ih K=>cD o fun x=>ih x K) (fun o _ ih K=>cD o fun x=>ih x K) (fun o _ _ GJ ih K=>aZ o (GJ K) fun x=>ih x K) (fun c _ ih K=>aK c (ih K)) (fun kd n _ ih K=>aQ kd n fun x=>ih x K) (fun _ ih K=>A2 fun r=>ih r K)
  (fun v u _ ih K=>aP v u (ih K)) (fun f aoP h _ ih K=>cY A f aoP h fun r h'=>ih r h' K) (fun _=>False) t
theorem T.BI {α:Type} (A:bS) (t:T α):∀ K,t.sq A K=t.sp A K:=by
 induction t with
 |ret a=>exact fun K=>rfl
 |ite c t e Ni Nj=>intro K;show aH c (t.sq A K) (e.sq A K)=_;rw [Ni,Nj];rfl
 |elem o k ih=>intro K;show (cD o fun x=>(k x).sq A K)=_;simp only [ih];rfl
 |byte o k ih=>intro K;show (cD o fun x=>(k x).sq A K)=_;simp only [ih];rfl
 |rZ o k ih=>intro K;show (cD o fun x=>(k x).sq A K)=_;simp only [ih];rfl
 |EU o k ih=>intro K;show (cD o fun x=>(k x).sq A K)=_;simp only [ih];rfl
 |obj o k ih=>intro K;show (cD o fun x=>(k x).sq A K)=_;simp only [ih];rfl
 |lS o n k GJ ih=>intro K;show (aZ o (n.sq A K) fun x=>(k x).sq A K)=_;simp only [GJ,ih];rfl
 |iT c k ih=>intro K;show aK c (k.sq A K)=_;rw [ih];rfl
 |wrap kd n k ih=>intro K;show (aQ kd n fun x=>(k x).sq A K)=_;simp only [ih];rfl
 |any k ih=>intro K;show (A2 fun x=>(k x).sq A K)=_;simp only [ih];rfl
 |same v u k ih=>intro K;show aP v u (k.sq A K)=_;rw [ih];rfl
 |call f aoP h k ih=>intro K;show (cY A f aoP h fun r h'=>(k r h').sq A K)=_;simp only [ih];rfl
 |fail=>exact fun K=>rfl
noncomputable def T.bq {α β:Type} (t:T α) (f:α->T β):T β:=
 T.rec (motive:=fun _=>T β) (fun a=>f a) (fun c _ _ it ie=>.ite c it ie) (fun o _ ih=>.elem o ih) (fun o _ ih=>.byte o ih) (fun o _ ih=>.rZ o ih) (fun o _ ih=>.EU o ih) (fun o _ ih=>.obj o ih) (fun o _ _ GJ ih=>.lS o GJ ih)
  (fun c _ ih=>.iT c ih) (fun kd n _ ih=>.wrap kd n ih) (fun _ ih=>.any ih) (fun v u _ ih=>.same v u ih) (fun g aoP h _ ih=>.call g aoP h ih) .fail t
theorem T.DO {α β:Type} (t:T α) (f:α->T β):t.bq f=t.bind f:=by
 induction t with
 |ret a=>rfl
 |ite c t e Ni Nj=>show T.ite c (t.bq f) (e.bq f)=_;rw [Ni,Nj];rfl
 |elem o k ih=>show (T.elem o fun x=>(k x).bq f)=_;simp only [ih];rfl
 |byte o k ih=>show (T.byte o fun x=>(k x).bq f)=_;simp only [ih];rfl
 |rZ o k ih=>show (T.rZ o fun x=>(k x).bq f)=_;simp only [ih];rfl
 |EU o k ih=>show (T.EU o fun x=>(k x).bq f)=_;simp only [ih];rfl
 |obj o k ih=>show (T.obj o fun x=>(k x).bq f)=_;simp only [ih];rfl
 |lS o n k GJ ih=>show (T.lS o (n.bq f) fun x=>(k x).bq f)=_;simp only [GJ,ih];rfl
 |iT c k ih=>show T.iT c (k.bq f)=_;rw [ih];rfl
 |wrap kd n k ih=>show (T.wrap kd n fun x=>(k x).bq f)=_;simp only [ih];rfl
 |any k ih=>show (T.any fun x=>(k x).bq f)=_;simp only [ih];rfl
 |same v u k ih=>show T.same v u (k.bq f)=_;rw [ih];rfl
 |call g aoP h k ih=>show (T.call g aoP h fun r h'=>(k r h').bq f)=_;simp only [ih];rfl
 |fail=>rfl
abbrev Tn:=Fr->St->T (Fr×St)
noncomputable def opF (o:dC) (ih:Tn):Tn:=fun fr st=>
 match o.guard with
 |none=>(A5 o.op fr st).bq fun x=>DN o.op x fun v st=>fr.after o.dst v o.kill fun fr=>ih fr st
 |some (t,want)=>match fr.get t with
  |.b x=>match want with
   |true=>.ite x
    (fr.cut [t] fun r=>(A5 o.op ((t,.b true)::r) st).bq fun x=>DN o.op x fun v st=>Fr.after ((t,.b true)::r) o.dst v o.kill fun fr=>ih fr st)
    (fr.cut [t] fun r=>Fr.after ((t,.b false)::r) o.dst (.bY []) o.kill fun fr=>ih fr st)
   |false=>.ite x
    (fr.cut [t] fun r=>Fr.after ((t,.b true)::r) o.dst (.bY []) o.kill fun fr=>ih fr st)
    (fr.cut [t] fun r=>(A5 o.op ((t,.b false)::r) st).bq fun x=>DN o.op x fun v st=>Fr.after ((t,.b false)::r) o.dst v o.kill fun fr=>ih fr st)
  |.bY _=>fr.after o.dst (.bY []) o.kill fun fr=>ih fr st
  |_=>.fail
noncomputable def jP (l:List dC):Tn:=
 List.rec (motive:=fun _=>Tn) (fun fr st=>.ret (fr,st)) (fun o _ ih=>opF o ih) l
theorem Hu (o:dC) (l:List dC):jP (o::l)=opF o (jP l):=rfl
theorem sK {A:bS} (hA:A.sD):∀ (ops:List dC) (fr:Fr) (st:St) (K:Fr×St->Prop),(jP ops fr st).wp A K->(dU ops fr st).wp A K
 |[],fr,st,K,h=>h
 |o::rest,fr,st,K,h=>by
  have one:∀ {rB:Fr},((A5 o.op rB st).bq fun x=>DN o.op x fun v st=>rB.after o.dst v o.kill fun fr=>jP rest fr st).wp A K->((step o.op rB st).bind fun x=>match x with
   |(v,st)=>rB.after o.dst v o.kill fun fr=>dU rest fr st).wp A K:=by
   intro rB h
   rw [T.DO,T.wp_bind] at h
   rw [T.wp_bind]
   refine Jd ?_
   revert h
   refine T.wp_mono hA ?_
   rintro ⟨v,st⟩ h
   dsimp only at h ⊢
   rw [Jc,Fr.cR] at h
   rw [Fr.cR]
   exact sK hA rest _ _ K h
  have two:∀ {rB:Fr},(rB.after o.dst (.bY []) o.kill fun fr=>jP rest fr st).wp A K->(rB.after o.dst (.bY []) o.kill fun fr=>dU rest fr st).wp A K:=by
   intro rB h
   rw [Fr.cR] at h ⊢
   exact sK hA rest _ _ K h
  rw [Hu] at h
  obtain ⟨dst,op,g,kill⟩:=o
  cases g with
  |none=>exact one h
  |some q=>
   obtain ⟨t,want⟩:=q
   simp only [opF] at h
   simp only [dU]
   generalize fr.get t=v at h ⊢
   cases v<;>(try exact h)
   case b x=>
    cases want
    · refine ⟨fun hc=>?_,fun hc=>?_⟩
      · have h:=h.1 hc
        rw [Fr.cN] at h ⊢
        exact two h
      · have h:=h.2 hc
        rw [Fr.cN] at h ⊢
        exact one h
    · refine ⟨fun hc=>?_,fun hc=>?_⟩
      · have h:=h.1 hc
        rw [Fr.cN] at h ⊢
        exact one h
      · have h:=h.2 hc
        rw [Fr.cN] at h ⊢
        exact two h
   case bY vs=>exact two h
abbrev To:=List bB->Fr->St->T (Fr×St)
noncomputable def Wd (d:bB) (ih:To):To:=fun done fr st=>tQ d.o.guard fr
 (fun fr=>(A5 d.o.op fr st).bq fun x=>DN d.o.op x fun v st=>fr.after d.o.dst v [] fun fr=>recheck d.re done fr st (ih (d::done) fr st))
 (fun fr=>fr.after d.o.dst (.bY []) [] fun fr=>ih (d::done) fr st)
noncomputable def uK (l:List bB):To:=
 List.rec (motive:=fun _=>To) (fun _ fr st=>.ret (fr,st)) (fun d _ ih=>Wd d ih) l
theorem Lj (o:bB) (l:List bB):uK (o::l)=Wd o (uK l):=rfl
theorem zY {A:bS} (hA:A.sD):∀ (ds done:List bB) (fr:Fr) (st:St) (K:Fr×St->Prop),(uK ds done fr st).wp A K->(oJ done ds fr st).wp A K
 |[],done,fr,st,K,h=>h
 |d::rest,done,fr,st,K,h=>by
  rw [Lj] at h
  simp only [Wd] at h
  simp only [oJ]
  refine yG (fun fr h=>?_) (fun fr h=>?_) h
  · rw [T.DO,T.wp_bind] at h
    rw [T.wp_bind]
    refine Jd ?_
    refine T.wp_mono hA ?_ h
    rintro ⟨v,st⟩ h
    dsimp only at h ⊢
    rw [Jc,Fr.cR] at h
    rw [Fr.cR]
    exact gU hA (fun h=>zY hA rest _ _ _ K h) h
  · rw [Fr.cR] at h ⊢
    exact zY hA rest _ _ _ K h
abbrev zZ:=(Ex->Fr->St->Prop)->Fr->St->Prop
structure sL (A:bS) (b:AC) (ib:zZ) (Q:Ex->Fr->St->Prop) (fr:Fr) (st:St):Prop where
 h:bV (fun R=>ib (o9 R Q)) fr st
noncomputable def UT (A:bS) (c:AC):zZ:=
 AC.rec (motive:=fun _=>zZ) (fun Q fr st=>Q .normal fr st) (fun ops Q fr st=>(jP ops fr st).sq A (iE Q)) (fun ds kill Q fr st=>((uK ds [] fr st).bq (tF kill)).sq A (iE Q))
  (fun _ _ ia ib Q fr st=>ia (o9 (ib Q) Q) fr st)
  (fun c _ _ ia ib Q fr st=>match c.ev fr with
    |.b x=>aH x (ia Q fr st) (ib Q fr st)
    |_=>False)
  (fun id _ ib Q fr st=>ib (jO id Q) fr st) (fun b ib Q fr st=>sL A b ib Q fr st) (fun id Q fr st=>Q (.exit id) fr st) (fun Q fr st=>Q .ret fr st) (fun _ _ _=>False) c
theorem Je (A:bS) (c:bH) (a b:AC) (Q:Ex->Fr->St->Prop) (fr:Fr) (st:St):UT A (.cond c a b) Q fr st=match c.ev fr with
 |.b x=>aH x (UT A a Q fr st) (UT A b Q fr st)
 |_=>False:=rfl
theorem pE {A:bS} (hA:A.sD):∀ (c:AC) (Q Q':Ex->Fr->St->Prop) (fr:Fr) (st:St),UT A c Q fr st->(∀ e fr st,Q e fr st->Q' e fr st)->UT A c Q' fr st
 |.skip,Q,Q',fr,st,h,hq=>hq _ _ _ h
 |.AK ops,Q,Q',fr,st,h,hq=>by
  have h:(jP ops fr st).sq A (iE Q):=h
  show (jP ops fr st).sq A (iE Q')
  rw [T.BI] at h ⊢
  exact T.qB hA _ (fun ⟨_,_⟩ h=>hq _ _ _ h) h
 |.tD ds kill,Q,Q',fr,st,h,hq=>by
  have h:((uK ds [] fr st).bq (tF kill)).sq A (iE Q):=h
  show ((uK ds [] fr st).bq (tF kill)).sq A (iE Q')
  rw [T.BI] at h ⊢
  exact T.qB hA _ (fun ⟨_,_⟩ h=>hq _ _ _ h) h
 |.seq a b,Q,Q',fr,st,h,hq=>by
  refine pE hA a _ _ fr st h ?_
  intro e fr st h
  cases e with
  |normal=>exact pE hA b _ _ fr st h hq
  |exit id=>exact hq _ _ _ h
  |ret=>exact hq _ _ _ h
 |.cond c a b,Q,Q',fr,st,h,hq=>by
  rw [Je] at h ⊢
  split at h
  · exact ⟨fun hc=>pE hA a _ _ _ _ (h.t hc) hq,fun hc=>pE hA b _ _ _ _ (h.f hc) hq⟩
  · exact h.elim
 |.bL id b,Q,Q',fr,st,h,hq=>by
  refine pE hA b _ _ fr st h ?_
  intro e fr st h
  cases e with
  |normal=>exact hq _ _ _ h
  |exit AN=>
   simp only [jO] at h ⊢
   split
   · rename_i hi;rw [if_pos hi] at h;exact hq _ _ _ h
   · rename_i hi;rw [if_neg hi] at h;exact hq _ _ _ h
  |ret=>exact hq _ _ _ h
 |.loop b,Q,Q',fr,st,h,hq=>by
  refine sL.mk ⟨fun R hR=>h.h.h R fun fr bZ st hl hx=>hR fr bZ st hl ?_⟩
  refine pE hA b _ _ bZ st hx ?_
  intro e fr st h
  cases e with
  |normal=>exact h
  |exit id=>exact hq _ _ _ h
  |ret=>exact hq _ _ _ h
 |.exit id,Q,Q',fr,st,h,hq=>hq _ _ _ h
 |.ret,Q,Q',fr,st,h,hq=>hq _ _ _ h
 |.no,_,_,_,_,h,_=>h.elim
theorem yJ {A:bS} (hA:A.sD):∀ (c:AC) (Q Q':Ex->Fr->St->Prop) (fr:Fr) (st:St),UT A c Q fr st->(∀ e fr st,Q e fr st->Q' e fr st)->G9 A c Q' fr st
 |.skip,Q,Q',fr,st,h,hq=>hq _ _ _ h
 |.AK ops,Q,Q',fr,st,h,hq=>by
  have h:(jP ops fr st).sq A (iE Q):=h
  rw [T.BI] at h
  exact T.wp_mono hA (fun ⟨_,_⟩ h=>hq _ _ _ h) (sK hA ops fr st _ (T.xO hA _ _ h))
 |.tD ds kill,Q,Q',fr,st,h,hq=>by
  refine T.wp_mono hA (fun ⟨_,_⟩ h=>hq _ _ _ h) (?_:T.wp A _ (iE Q))
  have h:((uK ds [] fr st).bq (tF kill)).sq A (iE Q):=h
  rw [T.BI,T.DO] at h
  have h:=T.xO hA _ _ h
  rw [T.wp_bind] at h ⊢
  exact zY hA _ _ _ _ _ h
 |.seq a b,Q,Q',fr,st,h,hq=>by
  refine yJ hA a _ _ fr st h ?_
  intro e fr st h
  cases e with
  |normal=>exact yJ hA b _ _ fr st h hq
  |exit id=>exact hq _ _ _ h
  |ret=>exact hq _ _ _ h
 |.cond c a b,Q,Q',fr,st,h,hq=>by
  rw [Je] at h
  simp only [G9]
  split at h
  · rename_i x hx
    rw [hx]
    exact ⟨fun hc=>yJ hA a _ _ _ _ (h.t hc) hq,fun hc=>yJ hA b _ _ _ _ (h.f hc) hq⟩
  · exact h.elim
 |.bL id b,Q,Q',fr,st,h,hq=>by
  refine yJ hA b _ _ fr st h ?_
  intro e fr st h
  cases e with
  |normal=>exact hq _ _ _ h
  |exit AN=>
   simp only [jO] at h ⊢
   split
   · rename_i hi;rw [if_pos hi] at h;exact hq _ _ _ h
   · rename_i hi;rw [if_neg hi] at h;exact hq _ _ _ h
  |ret=>exact hq _ _ _ h
 |.loop b,Q,Q',fr,st,h,hq=>by
  intro R hR
  refine h.h.h R fun fr bZ st hl hx=>hR fr bZ st hl ?_
  refine yJ hA b _ _ bZ st hx ?_
  intro e fr st h
  cases e with
  |normal=>exact h
  |exit id=>exact hq _ _ _ h
  |ret=>exact hq _ _ _ h
 |.exit id,Q,Q',fr,st,h,hq=>hq _ _ _ h
 |.ret,Q,Q',fr,st,h,hq=>hq _ _ _ h
 |.no,_,_,_,_,h,_=>h.elim
theorem sL.un {P:Program} {b:AC} {ib:zZ} {Q:Ex->Fr->St->Prop} {fr:Fr} {st:St} (e:UT (aB P) b=ib) (h:ib (o9 (sL (aB P) b ib Q) Q) fr st):sL (aB P) b ib Q fr st:=by
 subst e
 refine ⟨⟨fun R hR=>hR fr fr st (Fr.le_refl _) (pE (aB.mono P) b _ _ fr st h ?_)⟩⟩
 intro e fr st hx
 cases e with
 |normal=>exact hx.h.h R hR
 |exit id=>exact hx
 |ret=>exact hx
theorem jU {P:Program} {f:Nat} {F:aW} (hk:gE P f F=true) {args:List V} (hn:args.length=F.nparams) {h:aA} {K:V->aA->Prop}
 (hw:(dG h).fS fun st=>(bT 0 args).fS fun fr=>UT (aB P) F.body (wR F.results K) fr st):aB P f args h K:=by
 rw [St.pD,Fr.pD] at hw
 exact fn_ok hk hn (yJ (aB.mono P) _ _ _ _ _ hw fun _ _ _ h=>h)
theorem aA.BK {n m:Nat} (h:m≠n) (x:Obj):∀ l:List (Nat×Obj),aA.find (aA.Bv l n x) m=aA.find l m
 |[]=>rfl
 |(k,o)::r=>by
  simp only [aA.Bv]
  by_cases hk:k=n
  · rw [if_pos hk]
    simp only [aA.find]
    rw [if_neg (by rw [hk];exact fun e=>h e.symm),if_neg (by rw [hk];exact fun e=>h e.symm)]
  · rw [if_neg hk]
    simp only [aA.find]
    rw [aA.BK h x r]
theorem aA.xP {n:Nat} (x:Obj):∀ {l:List (Nat×Obj)} {o:Obj},aA.find l n=some o->aA.find (aA.Bv l n x) n=some x
 |[],o,h=>by simp [aA.find] at h
 |(k,o')::r,o,h=>by
  simp only [aA.Bv]
  by_cases hk:k=n
  · rw [if_pos hk];simp [aA.find,hk]
  · rw [if_neg hk]
    simp only [aA.find,if_neg hk] at h ⊢
    exact aA.xP x h
theorem aA.uP {n m:Nat} (h:m≠n):∀ l:List (Nat×Obj),aA.find (aA.del l n) m=aA.find l m
 |[]=>rfl
 |(k,o)::r=>by
  simp only [aA.del]
  by_cases hk:k=n
  · rw [if_pos hk,aA.uP h r]
    simp only [aA.find]
    rw [if_neg (by rw [hk];exact fun e=>h e.symm)]
  · rw [if_neg hk]
    simp only [aA.find]
    rw [aA.uP h r]
theorem aA.aC (h:aA) (o:Obj):(h.push o).get h.next=some o:=by simp [aA.push,aA.get,aA.find]
theorem aA.uQ {h:aA} {o:Obj} {n:Nat} (hn:n≠h.next):(h.push o).get n=h.get n:=by
 simp only [aA.push,aA.get,aA.find]
 rw [if_neg fun e=>hn e.symm]
theorem aA.aD {h:aA} {o o':Obj} {n:Nat} (hn:h.get n=some o'):(h.set n o).get n=some o:=aA.xP o hn
theorem aA.pI {h:aA} {o:Obj} {n m:Nat} (hn:m≠n):(h.set n o).get m=h.get m:=aA.BK hn o _
theorem aA.xQ {h:aA} {n m:Nat} (hn:m≠n):(h.remove n).get m=h.get m:=aA.uP hn _
theorem aA.gp {h:aA} {o:Obj} {n:Nat} {x:Obj} (hn:n≠h.next) (hx:h.get n=some x):(h.push o).get n=some x:=by rw [aA.uQ hn];exact hx
theorem aA.gs {h:aA} {o:Obj} {n m:Nat} {x:Obj} (hn:m≠n) (hx:h.get m=some x):(h.set n o).get m=some x:=by rw [aA.pI hn];exact hx
theorem aA.gr {h:aA} {n m:Nat} {x:Obj} (hn:m≠n) (hx:h.get m=some x):(h.remove n).get m=some x:=by rw [aA.xQ hn];exact hx
structure aA.aI (but:Nat->Prop) (h h':aA):Prop where
 next:h.next<=h'.next
 same:∀ n,n<h.next->¬but n->h'.get n=h.get n
theorem aA.aI.refl (b:Nat->Prop) (h:aA):aA.aI b h h:=⟨Nat.le_refl _,fun _ _ _=>rfl⟩
theorem aA.aI.trans {b:Nat->Prop} {h1 h2 h3:aA} (a:aA.aI b h1 h2) (c:aA.aI b h2 h3):aA.aI b h1 h3:=
 ⟨Nat.le_trans a.next c.next,fun n hn hb=>(c.same n (Nat.lt_of_lt_of_le hn a.next) hb).trans (a.same n hn hb)⟩
theorem aA.aI.push {b:Nat->Prop} {h h':aA} (a:aA.aI b h h') (o:Obj):aA.aI b h (h'.push o):=
 ⟨Nat.le_succ_of_le a.next,fun n hn hb=>(aA.uQ (by have:=a.next;omega)).trans (a.same n hn hb)⟩
theorem aA.aI.set {b:Nat->Prop} {h h':aA} (a:aA.aI b h h') {k:Nat} (hk:b k\/h.next<=k) (o:Obj):aA.aI b h (h'.set k o):=
 ⟨a.next,fun n hn hb=>(aA.pI (by rintro rfl;rcases hk with hk|hk;exact hb hk;omega)).trans (a.same n hn hb)⟩
theorem aA.aI.remove {b:Nat->Prop} {h h':aA} (a:aA.aI b h h') {k:Nat} (hk:b k\/h.next<=k):aA.aI b h (h'.remove k):=
 ⟨a.next,fun n hn hb=>(aA.xQ (by rintro rfl;rcases hk with hk|hk;exact hb hk;omega)).trans (a.same n hn hb)⟩
theorem aA.aI.mono {b b':Nat->Prop} {h h':aA} (a:aA.aI b h h') (hb:∀ n,n<h.next->b n->b' n):aA.aI b' h h':=
 ⟨a.next,fun n hn NL=>a.same n hn fun h=>NL (hb n hn h)⟩
open Go
def mZ (x y:Int):Int:=if y<x then y else x
def lU (x y:Int):Int:=if x<y then y else x
theorem UY {x y z:Int} (h:(if y<x then y else x)=z):gY false (.i .i64 x) [.i .i64 y]=some (.i .i64 z):=by simp [gY,h]
theorem Tt {x y z:Int} (h:(if x<y then y else x)=z):gY true (.i .i64 x) [.i .i64 y]=some (.i .i64 z):=by simp [gY,h]
open Go
def Ed {α:Type} (x:R) (k:V->St->α):α:=
 match x with
 |(v,st)=>v.f3 fun v=>k v st
theorem Jz {α:Type} (v:V) (st:St) (k:V->St->α):Ed (v,st) k=k v st:=by
 simp only [Ed,V.QG]
abbrev Bh (o:y7) (fr:Fr) (st:St):T R:=jT o fr st
theorem JA {A:bS} {o:y7} {fr:Fr} {st:St} {K:R->Prop} (h:(Bh o fr st).wp A K):(step o fr st).wp A K:=zX h
noncomputable def T.sv {α:Type} (A:bS) (t:T α):(α->Prop)->Prop:=
 T.rec (motive:=fun _=>(α->Prop)->Prop) (fun a K=>K a) (fun c _ _ it ie K=>aH c (it K) (ie K)) (fun o _ ih K=>cD o fun x=>ih x K) (fun o _ ih K=>cD o fun x=>ih x K) (fun o _ ih K=>cD o fun x=>ih x K)
  (fun o _ ih K=>cD o fun x=>ih x K) (fun o _ ih K=>cD o fun x=>Obj.fS x fun x=>ih x K) (fun o _ _ GJ ih K=>aZ o (GJ K) fun x=>ih x K) (fun c _ ih K=>aK c (ih K)) (fun kd n _ ih K=>aQ kd n fun x=>ih x K) (fun _ ih K=>A2 fun r=>ih r K)
  (fun v u _ ih K=>aP v u (ih K)) (fun f aoP h _ ih K=>cY A f aoP h fun r h'=>ih r h' K) (fun _=>False) t
theorem T.F9 {α:Type} (A:bS) (t:T α):∀ K,t.sv A K=t.sp A K:=by
 induction t with
 |ret a=>exact fun K=>rfl
 |ite c t e Ni Nj=>intro K;show aH c (t.sv A K) (e.sv A K)=_;rw [Ni,Nj];rfl
 |elem o k ih=>intro K;show (cD o fun x=>(k x).sv A K)=_;simp only [ih];rfl
 |byte o k ih=>intro K;show (cD o fun x=>(k x).sv A K)=_;simp only [ih];rfl
 |rZ o k ih=>intro K;show (cD o fun x=>(k x).sv A K)=_;simp only [ih];rfl
 |EU o k ih=>intro K;show (cD o fun x=>(k x).sv A K)=_;simp only [ih];rfl
 |obj o k ih=>intro K;show (cD o fun x=>Obj.fS x fun x=>(k x).sv A K)=_;simp only [Obj.pD,ih];rfl
 |lS o n k GJ ih=>intro K;show (aZ o (n.sv A K) fun x=>(k x).sv A K)=_;simp only [GJ,ih];rfl
 |iT c k ih=>intro K;show aK c (k.sv A K)=_;rw [ih];rfl
 |wrap kd n k ih=>intro K;show (aQ kd n fun x=>(k x).sv A K)=_;simp only [ih];rfl
 |any k ih=>intro K;show (A2 fun x=>(k x).sv A K)=_;simp only [ih];rfl
 |same v u k ih=>intro K;show aP v u (k.sv A K)=_;rw [ih];rfl
 |call f aoP h k ih=>intro K;show (cY A f aoP h fun r h'=>(k r h').sv A K)=_;simp only [ih];rfl
 |fail=>exact fun K=>rfl
abbrev TG:=Fr->St->T (Fr×St)
noncomputable def opV (o:dC) (ih:TG):TG:=fun fr st=>
 match o.guard with
 |none=>(Bh o.op fr st).bq fun x=>Ed x fun v st=>fr.after o.dst v o.kill fun fr=>ih fr st
 |some (t,want)=>match fr.get t with
  |.b x=>match want with
   |true=>.ite x
    (fr.cut [t] fun r=>(Bh o.op ((t,.b true)::r) st).bq fun x=>Ed x fun v st=>Fr.after ((t,.b true)::r) o.dst v o.kill fun fr=>ih fr st)
    (fr.cut [t] fun r=>Fr.after ((t,.b false)::r) o.dst (.bY []) o.kill fun fr=>ih fr st)
   |false=>.ite x
    (fr.cut [t] fun r=>Fr.after ((t,.b true)::r) o.dst (.bY []) o.kill fun fr=>ih fr st)
    (fr.cut [t] fun r=>(Bh o.op ((t,.b false)::r) st).bq fun x=>Ed x fun v st=>Fr.after ((t,.b false)::r) o.dst v o.kill fun fr=>ih fr st)
  |.bY _=>fr.after o.dst (.bY []) o.kill fun fr=>ih fr st
  |_=>.fail
noncomputable def lJ (l:List dC):TG:=
 List.rec (motive:=fun _=>TG) (fun fr st=>.ret (fr,st)) (fun o _ ih=>opV o ih) l
theorem HI (o:dC) (l:List dC):lJ (o::l)=opV o (lJ l):=rfl
theorem pK {A:bS} (hA:A.sD):∀ (ops:List dC) (fr:Fr) (st:St) (K:Fr×St->Prop),(lJ ops fr st).wp A K->(dU ops fr st).wp A K
 |[],fr,st,K,h=>h
 |o::rest,fr,st,K,h=>by
  have one:∀ {rB:Fr},((Bh o.op rB st).bq fun x=>Ed x fun v st=>rB.after o.dst v o.kill fun fr=>lJ rest fr st).wp A K->((step o.op rB st).bind fun x=>match x with
   |(v,st)=>rB.after o.dst v o.kill fun fr=>dU rest fr st).wp A K:=by
   intro rB h
   rw [T.DO,T.wp_bind] at h
   rw [T.wp_bind]
   refine JA ?_
   revert h
   refine T.wp_mono hA ?_
   rintro ⟨v,st⟩ h
   dsimp only at h ⊢
   rw [Jz,Fr.cR] at h
   rw [Fr.cR]
   exact pK hA rest _ _ K h
  have two:∀ {rB:Fr},(rB.after o.dst (.bY []) o.kill fun fr=>lJ rest fr st).wp A K->(rB.after o.dst (.bY []) o.kill fun fr=>dU rest fr st).wp A K:=by
   intro rB h
   rw [Fr.cR] at h ⊢
   exact pK hA rest _ _ K h
  rw [HI] at h
  obtain ⟨dst,op,g,kill⟩:=o
  cases g with
  |none=>exact one h
  |some q=>
   obtain ⟨t,want⟩:=q
   simp only [opV] at h
   simp only [dU]
   generalize fr.get t=v at h ⊢
   cases v<;>(try exact h)
   case b x=>
    cases want
    · refine ⟨fun hc=>?_,fun hc=>?_⟩
      · have h:=h.1 hc
        rw [Fr.cN] at h ⊢
        exact two h
      · have h:=h.2 hc
        rw [Fr.cN] at h ⊢
        exact one h
    · refine ⟨fun hc=>?_,fun hc=>?_⟩
      · have h:=h.1 hc
        rw [Fr.cN] at h ⊢
        exact one h
      · have h:=h.2 hc
        rw [Fr.cN] at h ⊢
        exact two h
   case bY vs=>exact two h
abbrev MM:=List bB->Fr->St->T (Fr×St)
noncomputable def WB (d:bB) (ih:MM):MM:=fun done fr st=>tQ d.o.guard fr
 (fun fr=>(Bh d.o.op fr st).bq fun x=>Ed x fun v st=>fr.after d.o.dst v [] fun fr=>recheck d.re done fr st (ih (d::done) fr st))
 (fun fr=>fr.after d.o.dst (.bY []) [] fun fr=>ih (d::done) fr st)
noncomputable def Ee (l:List bB):MM:=
 List.rec (motive:=fun _=>MM) (fun _ fr st=>.ret (fr,st)) (fun d _ ih=>WB d ih) l
theorem LB (o:bB) (l:List bB):Ee (o::l)=WB o (Ee l):=rfl
theorem Ef {A:bS} (hA:A.sD):∀ (ds done:List bB) (fr:Fr) (st:St) (K:Fr×St->Prop),(Ee ds done fr st).wp A K->(oJ done ds fr st).wp A K
 |[],done,fr,st,K,h=>h
 |d::rest,done,fr,st,K,h=>by
  rw [LB] at h
  simp only [WB] at h
  simp only [oJ]
  refine yG (fun fr h=>?_) (fun fr h=>?_) h
  · rw [T.DO,T.wp_bind] at h
    rw [T.wp_bind]
    refine JA ?_
    refine T.wp_mono hA ?_ h
    rintro ⟨v,st⟩ h
    dsimp only at h ⊢
    rw [Jz,Fr.cR] at h
    rw [Fr.cR]
    exact gU hA (fun h=>Ef hA rest _ _ _ K h) h
  · rw [Fr.cR] at h ⊢
    exact Ef hA rest _ _ _ K h
abbrev JB:=(Ex->Fr->St->Prop)->Fr->St->Prop
structure fQ (A:bS) (b:AC) (ib:JB) (Q:Ex->Fr->St->Prop) (fr:Fr) (st:St):Prop where
 h:bV (fun R=>ib (o9 R Q)) fr st
noncomputable def O1 (A:bS) (c:AC):JB:=
 AC.rec (motive:=fun _=>JB) (fun Q fr st=>Q .normal fr st) (fun ops Q fr st=>(lJ ops fr st).sv A (iE Q)) (fun ds kill Q fr st=>((Ee ds [] fr st).bq (tF kill)).sv A (iE Q))
  (fun _ _ ia ib Q fr st=>ia (o9 (ib Q) Q) fr st)
  (fun c _ _ ia ib Q fr st=>match c.ev fr with
    |.b x=>aH x (ia Q fr st) (ib Q fr st)
    |_=>False)
  (fun id _ ib Q fr st=>ib (jO id Q) fr st) (fun b ib Q fr st=>fQ A b ib Q fr st) (fun id Q fr st=>Q (.exit id) fr st) (fun Q fr st=>Q .ret fr st) (fun _ _ _=>False) c
theorem JC (A:bS) (c:bH) (a b:AC) (Q:Ex->Fr->St->Prop) (fr:Fr) (st:St):O1 A (.cond c a b) Q fr st=match c.ev fr with
 |.b x=>aH x (O1 A a Q fr st) (O1 A b Q fr st)
 |_=>False:=rfl
theorem pL {A:bS} (hA:A.sD):∀ (c:AC) (Q Q':Ex->Fr->St->Prop) (fr:Fr) (st:St),O1 A c Q fr st->(∀ e fr st,Q e fr st->Q' e fr st)->O1 A c Q' fr st
 |.skip,Q,Q',fr,st,h,hq=>hq _ _ _ h
 |.AK ops,Q,Q',fr,st,h,hq=>by
  have h:(lJ ops fr st).sv A (iE Q):=h
  show (lJ ops fr st).sv A (iE Q')
  rw [T.F9] at h ⊢
  exact T.qB hA _ (fun ⟨_,_⟩ h=>hq _ _ _ h) h
 |.tD ds kill,Q,Q',fr,st,h,hq=>by
  have h:((Ee ds [] fr st).bq (tF kill)).sv A (iE Q):=h
  show ((Ee ds [] fr st).bq (tF kill)).sv A (iE Q')
  rw [T.F9] at h ⊢
  exact T.qB hA _ (fun ⟨_,_⟩ h=>hq _ _ _ h) h
 |.seq a b,Q,Q',fr,st,h,hq=>by
  refine pL hA a _ _ fr st h ?_
  intro e fr st h
  cases e with
  |normal=>exact pL hA b _ _ fr st h hq
  |exit id=>exact hq _ _ _ h
  |ret=>exact hq _ _ _ h
 |.cond c a b,Q,Q',fr,st,h,hq=>by
  rw [JC] at h ⊢
  split at h
  · exact ⟨fun hc=>pL hA a _ _ _ _ (h.t hc) hq,fun hc=>pL hA b _ _ _ _ (h.f hc) hq⟩
  · exact h.elim
 |.bL id b,Q,Q',fr,st,h,hq=>by
  refine pL hA b _ _ fr st h ?_
  intro e fr st h
  cases e with
  |normal=>exact hq _ _ _ h
  |exit AN=>
   simp only [jO] at h ⊢
   split
   · rename_i hi;rw [if_pos hi] at h;exact hq _ _ _ h
   · rename_i hi;rw [if_neg hi] at h;exact hq _ _ _ h
  |ret=>exact hq _ _ _ h
 |.loop b,Q,Q',fr,st,h,hq=>by
  refine fQ.mk ⟨fun R hR=>h.h.h R fun fr bZ st hl hx=>hR fr bZ st hl ?_⟩
  refine pL hA b _ _ bZ st hx ?_
  intro e fr st h
  cases e with
  |normal=>exact h
  |exit id=>exact hq _ _ _ h
  |ret=>exact hq _ _ _ h
 |.exit id,Q,Q',fr,st,h,hq=>hq _ _ _ h
 |.ret,Q,Q',fr,st,h,hq=>hq _ _ _ h
 |.no,_,_,_,_,h,_=>h.elim
theorem sP {A:bS} (hA:A.sD):∀ (c:AC) (Q Q':Ex->Fr->St->Prop) (fr:Fr) (st:St),O1 A c Q fr st->(∀ e fr st,Q e fr st->Q' e fr st)->G9 A c Q' fr st
 |.skip,Q,Q',fr,st,h,hq=>hq _ _ _ h
 |.AK ops,Q,Q',fr,st,h,hq=>by
  have h:(lJ ops fr st).sv A (iE Q):=h
  rw [T.F9] at h
  exact T.wp_mono hA (fun ⟨_,_⟩ h=>hq _ _ _ h) (pK hA ops fr st _ (T.xO hA _ _ h))
 |.tD ds kill,Q,Q',fr,st,h,hq=>by
  refine T.wp_mono hA (fun ⟨_,_⟩ h=>hq _ _ _ h) (?_:T.wp A _ (iE Q))
  have h:((Ee ds [] fr st).bq (tF kill)).sv A (iE Q):=h
  rw [T.F9,T.DO] at h
  have h:=T.xO hA _ _ h
  rw [T.wp_bind] at h ⊢
  exact Ef hA _ _ _ _ _ h
 |.seq a b,Q,Q',fr,st,h,hq=>by
  refine sP hA a _ _ fr st h ?_
  intro e fr st h
  cases e with
  |normal=>exact sP hA b _ _ fr st h hq
  |exit id=>exact hq _ _ _ h
  |ret=>exact hq _ _ _ h
 |.cond c a b,Q,Q',fr,st,h,hq=>by
  rw [JC] at h
  simp only [G9]
  split at h
  · rename_i x hx
    rw [hx]
    exact ⟨fun hc=>sP hA a _ _ _ _ (h.t hc) hq,fun hc=>sP hA b _ _ _ _ (h.f hc) hq⟩
  · exact h.elim
 |.bL id b,Q,Q',fr,st,h,hq=>by
  refine sP hA b _ _ fr st h ?_
  intro e fr st h
  cases e with
  |normal=>exact hq _ _ _ h
  |exit AN=>
   simp only [jO] at h ⊢
   split
   · rename_i hi;rw [if_pos hi] at h;exact hq _ _ _ h
   · rename_i hi;rw [if_neg hi] at h;exact hq _ _ _ h
  |ret=>exact hq _ _ _ h
 |.loop b,Q,Q',fr,st,h,hq=>by
  intro R hR
  refine h.h.h R fun fr bZ st hl hx=>hR fr bZ st hl ?_
  refine sP hA b _ _ bZ st hx ?_
  intro e fr st h
  cases e with
  |normal=>exact h
  |exit id=>exact hq _ _ _ h
  |ret=>exact hq _ _ _ h
 |.exit id,Q,Q',fr,st,h,hq=>hq _ _ _ h
 |.ret,Q,Q',fr,st,h,hq=>hq _ _ _ h
 |.no,_,_,_,_,h,_=>h.elim
theorem fQ.un {P:Program} {b:AC} {ib:JB} {Q:Ex->Fr->St->Prop} {fr:Fr} {st:St} (e:O1 (aB P) b=ib) (h:ib (o9 (fQ (aB P) b ib Q) Q) fr st):fQ (aB P) b ib Q fr st:=by
 subst e
 refine ⟨⟨fun R hR=>hR fr fr st (Fr.le_refl _) (pL (aB.mono P) b _ _ fr st h ?_)⟩⟩
 intro e fr st hx
 cases e with
 |normal=>exact hx.h.h R hR
 |exit id=>exact hx
 |ret=>exact hx
theorem fQ.by {P:Program} {b:AC} {ib:JB} {Q:Ex->Fr->St->Prop} {fr:Fr} {st:St} (I:Nat->Fr->St->Prop) (n:Nat) (h0:I n fr st)
 (hs:∀ n fr st,I n fr st->∃ bZ,Fr.le bZ fr/\∀ R:Fr->St->Prop,(∀ m fr st,m<n->I m fr st->R fr st)->ib (o9 R Q) bZ st):fQ (aB P) b ib Q fr st:=⟨bV.by I n h0 hs⟩
theorem jG {P:Program} {f:Nat} {F:aW} (hk:gE P f F=true) {args:List V} (hn:args.length=F.nparams) {h:aA} {K:V->aA->Prop}
 (hw:(bT 0 args).fS fun fr=>O1 (aB P) F.body (wR F.results K) fr (dG h)):aB P f args h K:=by
 rw [Fr.pD] at hw
 exact fn_ok hk hn (sP (aB.mono P) _ _ _ _ _ hw fun _ _ _ h=>h)
end Go.Eng
