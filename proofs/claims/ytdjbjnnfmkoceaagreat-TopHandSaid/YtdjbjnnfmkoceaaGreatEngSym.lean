/-
Symbolic runs: the same asks under heads that do not unfold, and a loop rule.
-/
import Derived.Test.YtdjbjnnfmkoceaaGreatX05
set_option linter.unusedVariables false
set_option linter.unusedSimpArgs false
namespace Go.Eng
open Go
structure jC (c:Bool) (X Y:Prop):Prop where
 t:c=true->X
 f:c=false->Y
structure p9 {β:Type} (o:Option β) (k:β->Prop):Prop where
 h:∃ x,o=some x/\k x
structure mL {β:Type} (o:Option β) (n:Prop) (k:β->Prop):Prop where
 n:o=none->n
 s:∀ x,o=some x->k x
structure eT (c:Bool) (k:Prop):Prop where
 c:c=true
 k:k
structure dY (kd:IntKind) (n:Int) (k:Int->Prop):Prop where
 h:k (kd.wrap n)
structure HM (k:Bool->Prop):Prop where
 h:∀ r,k r
structure nT (A:aX) (f:Nat) (aeN:List V) (h:aA) (K:V->aA->Prop):Prop where
 h:A f aeN h K
structure uQ (v u:V) (k:Prop):Prop where
 e:v=u
 k:k
structure uR (X:(Fr->St->Prop)->Fr->St->Prop) (fr:Fr) (st:St):Prop where
 h:∀ R:Fr->St->Prop,(∀ fr bH st,Fr.le bH fr->X R bH st->R fr st)->R fr st
theorem jC.tt {c:Bool} {X Y:Prop} (h:c=true) (x:X):jC c X Y:=⟨fun _=>x,fun h'=>(by rw [h] at h';cases h')⟩
theorem jC.ff {c:Bool} {X Y:Prop} (h:c=false) (y:Y):jC c X Y:=⟨fun h'=>(by rw [h] at h';cases h'),fun _=>y⟩
theorem jC.dt {p:Prop} [Decidable p] {X Y:Prop} (h:p) (x:X):jC (decide p) X Y:=.tt (decide_eq_true h) x
theorem jC.df {p:Prop} [Decidable p] {X Y:Prop} (h:¬p) (y:Y):jC (decide p) X Y:=.ff (decide_eq_false h) y
theorem jC.nt {p:Prop} [Decidable p] {X Y:Prop} (h:¬p) (x:X):jC (!decide p) X Y:=.tt (by rw [decide_eq_false h];rfl) x
theorem jC.nf {p:Prop} [Decidable p] {X Y:Prop} (h:p) (y:Y):jC (!decide p) X Y:=.ff (by rw [decide_eq_true h];rfl) y
theorem p9.of {β:Type} {o:Option β} {k:β->Prop} {x:β} (h:o=some x) (hk:k x):p9 o k:=⟨x,h,hk⟩
theorem mL.no {β:Type} {o:Option β} {n:Prop} {k:β->Prop} (h:o=none) (hn:n):mL o n k:=⟨fun _=>hn,fun x hx=>by rw [h] at hx;cases hx⟩
theorem mL.of {β:Type} {o:Option β} {n:Prop} {k:β->Prop} {x:β} (h:o=some x) (hk:k x):mL o n k:=
 ⟨fun hn=>(by rw [h] at hn;cases hn),fun y hy=>by rw [h] at hy;cases hy;exact hk⟩
theorem eT.d {p:Prop} [Decidable p] {k:Prop} (h:p) (hk:k):eT (decide p) k:=⟨decide_eq_true h,hk⟩
theorem eT.d2 {p q:Prop} [Decidable p] [Decidable q] {k:Prop} (h:p) (h':q) (hk:k):eT (decide p&&decide q) k:=⟨by rw [decide_eq_true h,decide_eq_true h'];rfl,hk⟩
theorem eT.d3 {p q r:Prop} [Decidable p] [Decidable q] [Decidable r] {k:Prop} (h:p) (h':q) (h2:r) (hk:k):eT (decide p&&decide q&&decide r) k:=
 ⟨by rw [decide_eq_true h,decide_eq_true h',decide_eq_true h2];rfl,hk⟩
theorem eT.ix {i:Int} {n:Nat} {k:Prop} (h:0<=i) (h':i<n) (hk:k):eT (kJ i n) k:=⟨by unfold kJ;rw [decide_eq_true h,decide_eq_true h'];rfl,hk⟩
theorem dY.Sm {n:Int} {k:Int->Prop} (h1:-9223372036854775808<=n) (h2:n<=9223372036854775807) (hk:k n):dY .i64 n k:=
 ⟨by rw [iD (by simpa [IntKind.min,IntKind.bits,IntKind.signed] using h1) (by simpa [IntKind.max,IntKind.bits,IntKind.signed] using h2)];exact hk⟩
theorem dY.wu {n:Int} {k:Int->Prop} (h1:0<=n) (h2:n<=18446744073709551615) (hk:k n):dY .u64 n k:=
 ⟨by rw [iD (by simpa [IntKind.min,IntKind.bits,IntKind.signed] using h1) (by simpa [IntKind.max,IntKind.bits,IntKind.signed] using h2)];exact hk⟩
theorem dY.of {kd:IntKind} {n:Int} {k:Int->Prop} (h1:kd.min<=n) (h2:n<=kd.max) (hk:k n):dY kd n k:=⟨by rw [iD h1 h2];exact hk⟩
theorem uR.by {X:(Fr->St->Prop)->Fr->St->Prop} {fr:Fr} {st:St} (I:Nat->Fr->St->Prop) (n:Nat) (h0:I n fr st)
 (hs:∀ n fr st,I n fr st->∃ bH,Fr.le bH fr/\∀ R:Fr->St->Prop,(∀ m fr st,m<n->I m fr st->R fr st)->X R bH st):uR X fr st:=by
 refine ⟨fun R hR=>?_⟩
 have key:∀ n fr st,I n fr st->R fr st:=by
  intro n
  induction n using Nat.strongRecOn with
  |_ n ih=>
   intro fr st hi
   obtain ⟨bH,hle,hx⟩:=hs n fr st hi
   exact hR fr bH st hle (hx R fun m fr st hm hi=>ih m hm fr st hi)
 exact key n fr st h0
def T.sp {α:Type} (A:aX):T α->(α->Prop)->Prop
 |.ret a,K=>K a
 |.ite c t e,K=>jC c (t.sp A K) (e.sp A K)
 |.elem o k,K=>p9 o fun x=>(k x).sp A K
 |.byte o k,K=>p9 o fun x=>(k x).sp A K
 |.eU o k,K=>p9 o fun x=>(k x).sp A K
 |.CQ o k,K=>p9 o fun x=>(k x).sp A K
 |.obj o k,K=>p9 o fun x=>(k x).sp A K
 |.jR o n k,K=>mL o (n.sp A K) fun x=>(k x).sp A K
 |.jE c k,K=>eT c (k.sp A K)
 |.wrap kd n k,K=>dY kd n fun x=>(k x).sp A K
 |.any k,K=>HM fun r=>(k r).sp A K
 |.same v u k,K=>uQ v u (k.sp A K)
 |.call f aeN h k,K=>nT A f aeN h fun r h'=>(k r h').sp A K
 |.fail,_=>False
theorem T.uS {α:Type} {A:aX} (hA:A.s7) (t:T α):∀ (K:α->Prop),t.sp A K->t.wp A K:=by
 induction t with
 |ret a=>exact fun K h=>h
 |ite c t e I6 I7=>exact fun K h=>⟨fun hc=>I6 K (h.t hc),fun hc=>I7 K (h.f hc)⟩
 |elem o k ih=>exact fun K ⟨⟨x,hx,hk⟩⟩=>⟨x,hx,ih x K hk⟩
 |byte o k ih=>exact fun K ⟨⟨x,hx,hk⟩⟩=>⟨x,hx,ih x K hk⟩
 |eU o k ih=>exact fun K ⟨⟨x,hx,hk⟩⟩=>⟨x,hx,ih x K hk⟩
 |CQ o k ih=>exact fun K ⟨⟨x,hx,hk⟩⟩=>⟨x,hx,ih x K hk⟩
 |obj o k ih=>exact fun K ⟨⟨x,hx,hk⟩⟩=>⟨x,hx,ih x K hk⟩
 |jR o n k CX ih=>exact fun K h=>⟨fun hn=>CX K (h.n hn),fun x hx=>ih x K (h.s x hx)⟩
 |jE c k ih=>exact fun K h=>⟨h.c,ih K h.k⟩
 |wrap kd n k ih=>exact fun K h=>.inl (ih _ K h.h)
 |any k ih=>exact fun K h r=>ih r K (h.h r)
 |same v u k ih=>exact fun K h=>⟨h.e,ih K h.k⟩
 |call f aeN hh k ih=>exact fun K h=>hA _ _ _ _ _ (fun r h' hr=>ih r h' K hr) h.h
 |fail=>exact fun K h=>h
def nU (sz:Nat) (st:St) (v:V) (k:List (List V)->T R):T R:=
 match v with
 |.ms key cS s n=>if cS=sz then .obj (st.get key) fun o=>match o with
   |.arr dB es=>if dB=sz then .jE (decide (s+n<=es.length)) (.eU (some ((es.drop s).take n)) k) else .fail
   |_=>.fail
  else .fail
 |v=>eD sz st v k
def tJ (m:gI) (sz bytes:Nat) (st:St) (s:V) (new:List (List V)):T R:=
 match s with
 |.bU=>.ite new.isEmpty (.ret (.bU,st)) (.jE (eW new.length bytes) (jU m sz new st))
 |.sl tok cS es=>if cS=sz then .ite new.isEmpty (.ret (.sl tok sz es,st))
   (.jE (eW (es.length+new.length) bytes)<|.eU (dD new) fun ds=>match tok with
     |some k=>.obj (st.get k) fun o=>match o with
      |.spare=>.eU (some (es++ds)) fun l4=>.ret (.sl (some ((st.remove k).aE k.lH)) sz l4,(st.remove k).push k.lH .spare)
      |_=>.fail
     |none=>.fail)
  else .fail
 |.ms k cS off len=>if cS=sz then .ite new.isEmpty (.ret (.ms k sz off len,st))
   (.jE (eW (len+new.length) bytes)<|.eU (dF k.lH new) fun ds=>.obj (st.get k) fun o=>match o with
     |.arr dB es=>if dB=sz then
       .jE (decide (off+len<=es.length))<|.ite (decide (off+len+ds.length<=es.length))
        (.eU (some (es.take (off+len)++ds++es.drop (off+len+ds.length))) fun l4=>.ret (.ms k sz off (len+ds.length),st.set k (.arr sz l4)))
        (.eU (some ((es.take (off+len)).drop off++ds)) fun l4=>.ret (.ms ((st.remove k).aE k.lH) sz 0 (len+ds.length),(st.remove k).push k.lH (.arr sz l4)))
      else .fail
     |_=>.fail)
  else .fail
 |_=>.fail
theorem nV {A:aX} {sz:Nat} {st:St} {v:V} {k k':List (List V)->T R} {K:R->Prop} (hk:∀ es,(k es).wp A K->(k' es).wp A K) (h:(nU sz st v k).wp A K):(eD sz st v k').wp A K:=by
 cases v<;>simp only [nU,eD] at h ⊢
 case bU=>exact hk _ h
 case sl tok cS es=>
  split at h
  · rename_i hs;rw [if_pos hs];exact hk _ h
  · exact h.elim
 case ms key cS s n=>
  split at h
  · rename_i hs
    rw [if_pos hs]
    obtain ⟨o,ho,h⟩:=h
    refine ⟨o,ho,?_⟩
    cases o<;>(try exact h.elim)
    dsimp only at h ⊢
    split at h
    · rename_i hz
      rw [if_pos hz]
      obtain ⟨h1,e,he,h2⟩:=h
      cases he
      exact ⟨h1,hk _ h2⟩
    · exact h.elim
  · exact h.elim
 case s x=>
  split at h
  · rename_i hs;rw [if_pos hs];exact hk _ h
  · exact h.elim
 all_goals exact h.elim
theorem BM {A:aX} {m:gI} {sz bytes:Nat} {st:St} {s:V} {new:List (List V)} {K:R->Prop} (h:(tJ m sz bytes st s new).wp A K):(fN m sz bytes st s new).wp A K:=by
 cases s<;>simp only [tJ] at h<;>(try exact h.elim)
 case bU=>
  cases new with
  |nil=>exact h.1 rfl
  |cons e r=>exact h.2 rfl
 case sl tok cS es=>
  simp only [fN]
  split at h
  case isFalse=>exact h.elim
  rename_i hs
  rw [if_pos hs]
  cases new with
  |nil=>exact h.1 rfl
  |cons e r=>
   obtain ⟨h1,ds,h2,h3⟩:=h.2 rfl
   refine ⟨h1,ds,h2,?_⟩
   cases tok with
   |none=>exact h3
   |some k=>
    obtain ⟨o,ho,h3⟩:=h3
    refine ⟨o,ho,?_⟩
    cases o<;>(try exact h3.elim)
    obtain ⟨e',he,h4⟩:=h3
    cases he
    exact h4
 case ms k cS off len=>
  simp only [fN]
  split at h
  case isFalse=>exact h.elim
  rename_i hs
  rw [if_pos hs]
  cases new with
  |nil=>exact h.1 rfl
  |cons e r=>
   obtain ⟨h1,ds,h2,o,ho,h3⟩:=h.2 rfl
   refine ⟨h1,ds,h2,o,ho,?_⟩
   cases o<;>(try exact h3.elim)
   dsimp only at h3 ⊢
   split at h3
   case isFalse=>exact h3.elim
   rename_i hz
   rw [if_pos hz]
   obtain ⟨h4,h5,h6⟩:=h3
   refine ⟨h4,fun hc=>?_,fun hc=>?_⟩
   · obtain ⟨e',he,h7⟩:=h5 hc
     cases he
     exact h7
   · obtain ⟨e',he,h7⟩:=h6 hc
     cases he
     exact h7
def fK (o:pQ) (fr:Fr) (st:St):T R:=
 match o with
 |.load n a=>match a.ev fr with
  |.p k off=>.obj (st.get k) fun o=>match o with
   |.cs c=>.jR (cG c off n) .fail fun v=>.ret (v,st)
   |_=>.fail
  |.pa k sz ix off=>.obj (st.get k) fun o=>match o with
   |.arr cS es=>if cS=sz then .elem es[ix]? fun e=>.jR (cG e off n) .fail fun v=>.ret (v,st) else .fail
   |_=>.fail
  |.pc cs off=>.jR (cG cs off n) .fail fun v=>.ret (v,st)
  |_=>.fail
 |.Hf off n x=>match x.ev fr with
  |.agg cs=>.jR (cG cs off n) .fail fun v=>.ret (v,st)
  |_=>.fail
 |.IG len sz n x i=>match x.ev fr,i.ev fr with
  |.agg cs,.i _ j=>.jE (kJ j len)<|.jR (cG cs (j.toNat*sz) n) .fail fun v=>.ret (v,st)
  |_,_=>.fail
 |.append m sz bytes s x=>nU sz st (x.ev fr) fun new=>tJ m sz bytes st (s.ev fr) new
 |.Ga x=>nU 1 st (x.ev fr) fun es=>.CQ (bytesOf es) fun y=>.ret (.s y,st)
 |.copy sz d x=>nU sz st (x.ev fr) fun src=>match d.ev fr with
  |.ms k cS off len=>if cS=sz then .eU (dF k.lH (src.take len)) fun ds=>.obj (st.get k) fun o=>match o with
    |.arr dB es=>if dB=sz then
      .jE (decide (off+len<=es.length))<|.eU (some (es.take off++ds++es.drop (off+ds.length))) fun l4=>.ret (.i .i64 (ds.length:Nat),st.set k (.arr sz l4))
     else .fail
    |_=>.fail
   else .fail
  |_=>.fail
 |.rH max xs=>match aV.wH fr xs with
  |v::r=>.jR (eM max v r) .fail fun v=>.ret (v,st)
  |[]=>.fail
 |.mY sz x lo hi mx=>match x.ev fr with
  |.sl tok cS es=>if cS=sz then match mx with
    |none=>match aV.mZ fr hi with
     |none=>T.opt (cL (aV.mZ fr lo) 0) fun l=>.jE (decide (0<=l)&&decide (l<=(es.length:Int)))<|.eU (some (es.drop l.toNat)) fun es=>.ret (.sl tok sz es,st)
     |some v=>T.opt (m6 v) fun h=>T.opt (cL (aV.mZ fr lo) 0) fun l=>
      .jE (decide (0<=l)&&decide (l<=h)&&decide (h<=(es.length:Int)))<|.eU (some ((es.take h.toNat).drop l.toNat)) fun es=>.ret (.sl none sz es,st)
    |some _=>.fail
   else .fail
  |_=>step (.mY sz x lo hi mx) fr st
 |.pX f args=>match f.ev fr with
  |.fn g first cap=>.elem (dI (first++aV.wH fr args++cap)) fun vs=>.call g vs st.g fun r h=>.ret (r,⟨h,st.l⟩)
  |_=>.fail
 |.store n a x=>if (x.ev fr).RI=true/\(x.ev fr).cells.length=n then match a.ev fr with
   |.p k off=>T.opt (lJ k.lH (x.ev fr).cells) fun vs=>.obj (st.get k) fun o=>match o with
    |.cs c=>.jE (kY c off vs)<|.elem (some (b8 c off vs)) fun c'=>.ret (.bO [],st.set k (.cs c'))
    |_=>.fail
   |.pa k sz ix off=>T.opt (lJ k.lH (x.ev fr).cells) fun vs=>.obj (st.get k) fun o=>match o with
    |.arr cS es=>if cS=sz then .elem es[ix]? fun e=>.jE (kY e off vs)<|.eU (some (es.set ix (b8 e off vs))) fun l4=>.ret (.bO [],st.set k (.arr sz l4)) else .fail
    |_=>.fail
   |_=>.fail
  else .fail
 |o=>step o fr st
theorem pC {β:Type} {A:aX} {o:Option V} {k:V->T β} {K:β->Prop} (h:(T.jR o .fail k).wp A K):(T.opt o k).wp A K:=by
 cases o with
 |none=>exact h.1 rfl
 |some x=>exact h.2 x rfl
theorem sG {A:aX} {o:pQ} {fr:Fr} {st:St} {K:R->Prop} (h:(fK o fr st).wp A K):(step o fr st).wp A K:=by
 cases o
 case load n a=>
  simp only [fK] at h
  simp only [step]
  generalize a.ev fr=v at h ⊢
  cases v<;>(try exact h)
  case p k off=>
   obtain ⟨o,ho,h⟩:=h
   refine ⟨o,ho,?_⟩
   cases o<;>first|exact h|exact pC h
  case pa k sz ix off=>
   obtain ⟨o,ho,h⟩:=h
   refine ⟨o,ho,?_⟩
   cases o<;>(try exact h)
   dsimp only at h ⊢
   split at h
   · rename_i hs
     rw [if_pos hs]
     obtain ⟨e,he,h⟩:=h
     exact ⟨e,he,pC h⟩
   · exact h.elim
  case pc cs off=>exact pC h
 case Hf off n x=>
  simp only [fK] at h
  simp only [step]
  generalize x.ev fr=v at h ⊢
  cases v<;>(try exact h)
  exact pC h
 case IG len sz n x i=>
  simp only [fK] at h
  simp only [step]
  generalize x.ev fr=v at h ⊢
  generalize i.ev fr=u at h ⊢
  cases v<;>cases u<;>(try exact h)
  exact ⟨h.1,pC h.2⟩
 case append m sz bytes s x=>
  simp only [fK] at h
  simp only [step]
  exact nV (fun es h=>BM h) h
 case Ga x=>
  simp only [fK] at h
  simp only [step]
  exact nV (fun es h=>h) h
 case copy sz d x=>
  simp only [fK] at h
  simp only [step]
  refine nV (fun src h=>?_) h
  generalize d.ev fr=v at h ⊢
  cases v<;>(try exact h.elim)
  dsimp only at h ⊢
  split at h
  case isFalse=>exact h.elim
  rename_i hs
  rw [if_pos hs]
  obtain ⟨ds,h1,o,ho,h⟩:=h
  refine ⟨ds,h1,o,ho,?_⟩
  cases o<;>(try exact h.elim)
  dsimp only at h ⊢
  split at h
  case isFalse=>exact h.elim
  rename_i hz
  rw [if_pos hz]
  obtain ⟨h2,e,he,h3⟩:=h
  cases he
  exact ⟨h2,h3⟩
 case rH max xs=>
  simp only [fK] at h
  simp only [step]
  generalize aV.wH fr xs=vs at h ⊢
  cases vs with
  |nil=>exact h
  |cons v r=>exact pC h
 case mY sz x lo hi mx=>
  simp only [fK] at h
  split at h
  case h_2=>exact h
  rename_i tok cS es hx
  simp only [step,hx]
  split at h
  case isFalse=>exact h.elim
  rename_i hs
  rw [if_pos hs]
  cases mx with
  |some q=>exact h.elim
  |none=>
   dsimp only at h ⊢
   generalize aV.mZ fr hi=w at h ⊢
   cases w with
   |none=>
    dsimp only at h ⊢
    cases hb:cL (aV.mZ fr lo) 0 with
    |none=>rw [hb] at h;exact h.elim
    |some l=>
     rw [hb] at h
     obtain ⟨h1,e,h2,h3⟩:=h
     cases h2
     exact ⟨h1,h3⟩
   |some v=>
    dsimp only at h ⊢
    cases hi:m6 v with
    |none=>rw [hi] at h;exact h.elim
    |some u=>
    cases hb:cL (aV.mZ fr lo) 0 with
    |none=>rw [hi,hb] at h;exact h.elim
    |some l=>
     rw [hi,hb] at h
     obtain ⟨h1,e,h2,h3⟩:=h
     cases h2
     exact ⟨h1,h3⟩
 case pX f args=>
  simp only [fK] at h
  simp only [step]
  generalize f.ev fr=v at h ⊢
  cases v<;>(try exact h)
  obtain ⟨vs,h1,h2⟩:=h
  dsimp only
  rw [h1]
  exact h2
 case store n a x=>
  simp only [fK] at h
  simp only [step]
  generalize x.ev fr=u at h ⊢
  generalize a.ev fr=v at h ⊢
  split at h
  case isFalse=>exact h.elim
  rename_i hs
  rw [if_pos hs]
  cases v<;>(try exact h.elim)
  case p k off=>
   dsimp only at h ⊢
   cases hv:lJ k.lH u.cells with
   |none=>rw [hv] at h;exact h.elim
   |some vs=>
    rw [hv] at h
    obtain ⟨o,ho,h⟩:=h
    refine ⟨o,ho,?_⟩
    cases o<;>(try exact h.elim)
    obtain ⟨h1,c',h2,h3⟩:=h
    cases h2
    dsimp only
    rw [h1]
    exact h3
  case pa k sz ix off=>
   dsimp only at h ⊢
   cases hv:lJ k.lH u.cells with
   |none=>rw [hv] at h;exact h.elim
   |some vs=>
    rw [hv] at h
    obtain ⟨o,ho,h⟩:=h
    refine ⟨o,ho,?_⟩
    cases o<;>(try exact h.elim)
    dsimp only at h ⊢
    split at h
    case isFalse=>exact h.elim
    rename_i hz
    rw [if_pos hz]
    obtain ⟨e,he,h1,c',h2,h3⟩:=h
    cases h2
    refine ⟨e,he,?_⟩
    show T.wp A (match kY e off vs with|true=>_|false=>_) K
    rw [h1]
    exact h3
 all_goals exact h
def gU:List cD->Fr->St->T (Fr×St)
 |[],fr,st=>.ret (fr,st)
 |o::rest,fr,st=>
  match o.guard with
  |none=>(fK o.op fr st).bind fun x=>match x with
   |(v,st)=>fr.after o.dst v o.kill fun fr=>gU rest fr st
  |some (t,want)=>match fr.get t with
   |.b x=>match want with
    |true=>.ite x
     (fr.cut [t] fun r=>(fK o.op ((t,.b true)::r) st).bind fun x=>match x with
       |(v,st)=>Fr.after ((t,.b true)::r) o.dst v o.kill fun fr=>gU rest fr st)
     (fr.cut [t] fun r=>Fr.after ((t,.b false)::r) o.dst (.bO []) o.kill fun fr=>gU rest fr st)
    |false=>.ite x
     (fr.cut [t] fun r=>Fr.after ((t,.b true)::r) o.dst (.bO []) o.kill fun fr=>gU rest fr st)
     (fr.cut [t] fun r=>(fK o.op ((t,.b false)::r) st).bind fun x=>match x with
       |(v,st)=>Fr.after ((t,.b false)::r) o.dst v o.kill fun fr=>gU rest fr st)
   |.bO _=>fr.after o.dst (.bO []) o.kill fun fr=>gU rest fr st
   |_=>.fail
theorem qV {A:aX} (hA:A.s7):∀ (ops:List cD) (fr:Fr) (st:St) (K:Fr×St->Prop),(gU ops fr st).wp A K->(cM ops fr st).wp A K
 |[],fr,st,K,h=>h
 |o::rest,fr,st,K,h=>by
  have one:∀ {fY:Fr},((fK o.op fY st).bind fun x=>match x with
   |(v,st)=>fY.after o.dst v o.kill fun fr=>gU rest fr st).wp A K->((step o.op fY st).bind fun x=>match x with
   |(v,st)=>fY.after o.dst v o.kill fun fr=>cM rest fr st).wp A K:=by
   intro fY h
   rw [T.wp_bind] at h ⊢
   refine sG ?_
   revert h
   refine T.wp_mono hA ?_
   rintro ⟨v,st⟩ h
   dsimp only at h ⊢
   rw [Fr.bJ] at h ⊢
   exact qV hA rest _ _ K h
  have two:∀ {fY:Fr},(fY.after o.dst (.bO []) o.kill fun fr=>gU rest fr st).wp A K->(fY.after o.dst (.bO []) o.kill fun fr=>cM rest fr st).wp A K:=by
   intro fY h
   rw [Fr.bJ] at h ⊢
   exact qV hA rest _ _ K h
  obtain ⟨dst,op,g,kill⟩:=o
  cases g with
  |none=>exact one h
  |some q=>
   obtain ⟨t,want⟩:=q
   simp only [gU] at h
   simp only [cM]
   generalize fr.get t=v at h ⊢
   cases v<;>(try exact h)
   case b x=>
    cases want
    · refine ⟨fun hc=>?_,fun hc=>?_⟩
      · have h:=h.1 hc
        rw [Fr.bL] at h ⊢
        exact two h
      · have h:=h.2 hc
        rw [Fr.bL] at h ⊢
        exact one h
    · refine ⟨fun hc=>?_,fun hc=>?_⟩
      · have h:=h.1 hc
        rw [Fr.bL] at h ⊢
        exact one h
      · have h:=h.2 hc
        rw [Fr.bL] at h ⊢
        exact two h
   case bO vs=>exact two h
def DD:List aF->List aF->Fr->St->T (Fr×St)
 |_,[],fr,st=>.ret (fr,st)
 |done,d::rest,fr,st=>lL d.o.guard fr
  (fun fr=>(fK d.o.op fr st).bind fun x=>match x with
    |(v,st)=>fr.after d.o.dst v [] fun fr=>recheck d.re done fr st (DD (d::done) rest fr st))
  (fun fr=>fr.after d.o.dst (.bO []) [] fun fr=>DD (d::done) rest fr st)
theorem eL {α:Type} {A:aX} (hA:A.s7) {re:List Nat} {k k':T α} {K K':α->Prop}:∀ {ds:List aF} {fr:Fr} {st:St},(k.wp A K->k'.wp A K')->(recheck re ds fr st k).wp A K->(recheck re ds fr st k').wp A K'
 |[],fr,st,hk,h=>hk h
 |p::ps,fr,st,hk,h=>by
  simp only [recheck] at h ⊢
  split at h
  · split at h
    · rw [T.wp_bind] at h ⊢
      refine T.wp_mono hA ?_ h
      intro x hx
      split at hx
      · exact ⟨hx.1,eL hA hk hx.2⟩
      · exact eL hA hk hx
    · exact eL hA hk h
    · exact h
  · exact eL hA hk h
theorem qW {α:Type} {A:aX} {g:Option (Nat×Bool)} {fr:Fr} {y y' n n':Fr->T α} {K K':α->Prop} (hy:∀ fr,(y fr).wp A K->(y' fr).wp A K') (hn:∀ fr,(n fr).wp A K->(n' fr).wp A K')
 (h:(lL g fr y n).wp A K):(lL g fr y' n').wp A K':=by
 unfold lL at h ⊢
 split at h
 · exact hy _ h
 · split at h
   · split at h
     · refine ⟨fun hc=>?_,fun hc=>?_⟩
       · have h:=h.1 hc
         rw [Fr.bL] at h ⊢
         exact hy _ h
       · have h:=h.2 hc
         rw [Fr.bL] at h ⊢
         exact hn _ h
     · refine ⟨fun hc=>?_,fun hc=>?_⟩
       · have h:=h.1 hc
         rw [Fr.bL] at h ⊢
         exact hn _ h
       · have h:=h.2 hc
         rw [Fr.bL] at h ⊢
         exact hy _ h
   · exact hn _ h
   · exact h
theorem yH {A:aX} (hA:A.s7):∀ (ds done:List aF) (fr:Fr) (st:St) (K:Fr×St->Prop),(DD done ds fr st).wp A K->(eN done ds fr st).wp A K
 |[],done,fr,st,K,h=>h
 |d::rest,done,fr,st,K,h=>by
  simp only [DD] at h
  simp only [eN]
  refine qW (fun fr h=>?_) (fun fr h=>?_) h
  · rw [T.wp_bind] at h ⊢
    refine sG ?_
    refine T.wp_mono hA ?_ h
    rintro ⟨v,st⟩ h
    dsimp only at h ⊢
    rw [Fr.bJ] at h ⊢
    exact eL hA (fun h=>yH hA rest _ _ _ K h) h
  · rw [Fr.bJ] at h ⊢
    exact yH hA rest _ _ _ K h
def Ow (A:aX):AC->(Ex->Fr->St->Prop)->Fr->St->Prop
 |.skip,Q,fr,st=>Q .normal fr st
 |.Gb ops,Q,fr,st=>(gU ops fr st).sp A (jN Q)
 |.vD ds kill,Q,fr,st=>((DD [] ds fr st).bind (qS kill)).sp A (jN Q)
 |.seq a b,Q,fr,st=>Ow A a (mJ (Ow A b Q) Q) fr st
 |.cond c a b,Q,fr,st=>match c.ev fr with
  |.b x=>jC x (Ow A a Q fr st) (Ow A b Q fr st)
  |_=>False
 |.aW id b,Q,fr,st=>Ow A b (gA id Q) fr st
 |.loop b,Q,fr,st=>uR (fun R=>Ow A b (mJ R Q)) fr st
 |.exit id,Q,fr,st=>Q (.exit id) fr st
 |.ret,Q,fr,st=>Q .ret fr st
 |.no,_,_,_=>False
theorem qX {A:aX} (hA:A.s7):∀ (c:AC) (Q Q':Ex->Fr->St->Prop) (fr:Fr) (st:St),Ow A c Q fr st->(∀ e fr st,Q e fr st->Q' e fr st)->pT A c Q' fr st
 |.skip,Q,Q',fr,st,h,hq=>hq _ _ _ h
 |.Gb ops,Q,Q',fr,st,h,hq=>T.wp_mono hA (fun ⟨_,_⟩ h=>hq _ _ _ h) (qV hA ops fr st _ (T.uS hA _ _ h))
 |.vD ds kill,Q,Q',fr,st,h,hq=>by
  refine T.wp_mono hA (fun ⟨_,_⟩ h=>hq _ _ _ h) (?_:T.wp A _ (jN Q))
  simp only [Ow] at h
  have h:=T.uS hA _ _ h
  rw [T.wp_bind] at h ⊢
  exact yH hA _ _ _ _ _ h
 |.seq a b,Q,Q',fr,st,h,hq=>by
  refine qX hA a _ _ fr st h ?_
  intro e fr st h
  cases e with
  |normal=>exact qX hA b _ _ fr st h hq
  |exit id=>exact hq _ _ _ h
  |ret=>exact hq _ _ _ h
 |.cond c a b,Q,Q',fr,st,h,hq=>by
  simp only [Ow] at h
  simp only [pT]
  split at h
  · rename_i x hx
    rw [hx]
    exact ⟨fun hc=>qX hA a _ _ _ _ (h.t hc) hq,fun hc=>qX hA b _ _ _ _ (h.f hc) hq⟩
  · exact h.elim
 |.aW id b,Q,Q',fr,st,h,hq=>by
  refine qX hA b _ _ fr st h ?_
  intro e fr st h
  cases e with
  |normal=>exact hq _ _ _ h
  |exit Ad=>
   simp only [gA] at h ⊢
   split
   · rename_i hi;rw [if_pos hi] at h;exact hq _ _ _ h
   · rename_i hi;rw [if_neg hi] at h;exact hq _ _ _ h
  |ret=>exact hq _ _ _ h
 |.loop b,Q,Q',fr,st,h,hq=>by
  intro R hR
  refine h.h R fun fr bH st hl hx=>hR fr bH st hl ?_
  refine qX hA b _ _ bH st hx ?_
  intro e fr st h
  cases e with
  |normal=>exact h
  |exit id=>exact hq _ _ _ h
  |ret=>exact hq _ _ _ h
 |.exit id,Q,Q',fr,st,h,hq=>hq _ _ _ h
 |.ret,Q,Q',fr,st,h,hq=>hq _ _ _ h
 |.no,_,_,_,_,h,_=>h.elim
theorem A6 {P:Program} {f:Nat} {F:aC} (hk:gB P f F=true) {args:List V} (hn:args.length=F.nparams) {h:aA} {K:V->aA->Prop}
 (hw:Ow (aB P) F.body (mK F.results K) (cI 0 args) (eR h)):aB P f args h K:=
 fn_ok hk hn (qX (aB.mono P) _ _ _ _ _ hw fun _ _ _ h=>h)
end Go.Eng
