/-
What a tree of asks needs ('T.wp'), what a call promises ('ACall').
-/
import Derived.Test.YtmfelikepmmjkaaGreatY00
import Derived.ArgAppend
import Derived.MapKept
import Derived.Laws.Entries
import Derived.Laws.MakeOwn
set_option linter.unusedVariables false
set_option linter.unusedSimpArgs false
namespace Go.Eng
open Go
def X9 (c:Bool) (X Y:Prop):Prop:=(c=true->X)/\(c=false->Y)
def Ya {β:Type} (o:Option β) (k:β->Prop):Prop:=∃ x,o=some x/\k x
def Vn {β:Type} (o:Option β) (n:Prop) (k:β->Prop):Prop:=(o=none->n)/\(∀ x,o=some x->k x)
def acU (c:Bool) (k:Prop):Prop:=c=true/\k
def Um (kd:IntKind) (n:Int) (k:Int->Prop):Prop:=k (kd.wrap n)\/(kd.min<=n/\n<=kd.max/\k n)
theorem Pd {c:Bool} {X Y:Prop} (h:c=true) (x:X):X9 c X Y:=⟨fun _=>x,fun h'=>(by rw [h] at h';cases h')⟩
theorem Pe {c:Bool} {X Y:Prop} (h:c=false) (y:Y):X9 c X Y:=⟨fun h'=>(by rw [h] at h';cases h'),fun _=>y⟩
theorem Pf {β:Type} {o:Option β} {n:Prop} {k:β->Prop} (h:o=none) (hn:n):Vn o n k:=⟨fun _=>hn,fun x hx=>by rw [h] at hx;cases hx⟩
theorem Pg {β:Type} {o:Option β} {n:Prop} {k:β->Prop} {x:β} (h:o=some x) (hk:k x):Vn o n k:=
 ⟨fun hn=>(by rw [h] at hn;cases hn),fun y hy=>by rw [h] at hy;cases hy;exact hk⟩
theorem oS {kd:IntKind} {n:Int} (h:kd.min<=n) (h':n<=kd.max):kd.wrap n=n:=by
 cases kd<;>simp [IntKind.wrap,IntKind.min,IntKind.max,IntKind.bits,IntKind.signed] at*<;>(try split)<;>omega
theorem nX {kd:IntKind} {n:Int} {k:Int->Prop}:Um kd n k↔k (kd.wrap n):=by
 constructor
 · rintro (h|⟨h1,h2,h3⟩)
   · exact h
   · rwa [oS h1 h2]
 · exact .inl
abbrev bS:=Nat->List V->aA->(V->aA->Prop)->Prop
def T.wp {α:Type} (A:bS):T α->(α->Prop)->Prop
 |.ret a,K=>K a
 |.ite c t e,K=>X9 c (t.wp A K) (e.wp A K)
 |.elem o k,K=>Ya o fun x=>(k x).wp A K
 |.byte o k,K=>Ya o fun x=>(k x).wp A K
 |.rZ o k,K=>Ya o fun x=>(k x).wp A K
 |.EU o k,K=>Ya o fun x=>(k x).wp A K
 |.obj o k,K=>Ya o fun x=>(k x).wp A K
 |.lS o n k,K=>Vn o (n.wp A K) fun x=>(k x).wp A K
 |.iT c k,K=>acU c (k.wp A K)
 |.wrap kd n k,K=>Um kd n fun x=>(k x).wp A K
 |.any k,K=>∀ r,(k r).wp A K
 |.same v u k,K=>v=u/\k.wp A K
 |.call f aoP h k,K=>A f aoP h fun r h'=>(k r h').wp A K
 |.fail,_=>False
def bS.sD (A:bS):Prop:=∀ f aoP h (K K':V->aA->Prop),(∀ r h',K r h'->K' r h')->A f aoP h K->A f aoP h K'
theorem T.wp_mono {α:Type} {A:bS} (hA:A.sD) {t:T α}:∀ {K K':α->Prop},(∀ a,K a->K' a)->t.wp A K->t.wp A K':=by
 induction t with
 |ret a=>exact fun h hk=>h _ hk
 |ite c t e Ni Nj=>exact fun h hk=>⟨fun hc=>Ni h (hk.1 hc),fun hc=>Nj h (hk.2 hc)⟩
 |elem o k ih=>exact fun h ⟨x,hx,hk⟩=>⟨x,hx,ih x h hk⟩
 |byte o k ih=>exact fun h ⟨x,hx,hk⟩=>⟨x,hx,ih x h hk⟩
 |rZ o k ih=>exact fun h ⟨x,hx,hk⟩=>⟨x,hx,ih x h hk⟩
 |EU o k ih=>exact fun h ⟨x,hx,hk⟩=>⟨x,hx,ih x h hk⟩
 |obj o k ih=>exact fun h ⟨x,hx,hk⟩=>⟨x,hx,ih x h hk⟩
 |lS o n k GJ ih=>exact fun h hk=>⟨fun hn=>GJ h (hk.1 hn),fun x hx=>ih x h (hk.2 x hx)⟩
 |iT c k ih=>exact fun h hk=>⟨hk.1,ih h hk.2⟩
 |wrap kd n k ih=>exact fun h hk=>hk.imp (ih _ h) fun ⟨a,b,c⟩=>⟨a,b,ih _ h c⟩
 |any k ih=>exact fun h hk r=>ih r h (hk r)
 |same v u k ih=>exact fun h hk=>⟨hk.1,ih h hk.2⟩
 |call f aoP hh k ih=>exact fun h hk=>hA _ _ _ _ _ (fun r h' hr=>ih r h' h hr) hk
 |fail=>exact fun _ hk=>hk
theorem T.wp_bind {α β:Type} {A:bS} (t:T α) (f:α->T β) (K:β->Prop):(t.bind f).wp A K=t.wp A fun a=>(f a).wp A K:=by
 induction t with
 |ret a=>rfl
 |ite c t e Ni Nj=>simp only [T.bind,T.wp,Ni,Nj]
 |elem o k ih=>simp only [T.bind,T.wp,ih]
 |byte o k ih=>simp only [T.bind,T.wp,ih]
 |rZ o k ih=>simp only [T.bind,T.wp,ih]
 |EU o k ih=>simp only [T.bind,T.wp,ih]
 |obj o k ih=>simp only [T.bind,T.wp,ih]
 |lS o n k GJ ih=>simp only [T.bind,T.wp,GJ,ih]
 |iT c k ih=>simp only [T.bind,T.wp,ih]
 |wrap kd n k ih=>simp only [T.bind,T.wp,ih]
 |any k ih=>simp only [T.bind,T.wp,ih]
 |same v u k ih=>simp only [T.bind,T.wp,ih]
 |call g aoP h k ih=>simp only [T.bind,T.wp,ih]
 |fail=>rfl
def Ia:aA:=⟨0,[]⟩
abbrev dG (h:aA):St:=⟨h,Ia⟩
def qL (P:Program) (f:Nat):Bool:=
 match P.funcs[f]? with
 | some fn => fn.body.isSome && !(fn.name == "runtime.NumGoroutine")
 |none=>false
def aB (P:Program):bS:=fun f args h K=>qL P f=true/\
 ∀ (E:Env) (w:World) (vs:Array Value),E.nl=0->b9 E (dG h) w->eI E args vs->
  Calls P f vs w fun e w'=>∃ v x h' E',K v h'/\e=.returned x/\E'.nl=0/\b9 E' (dG h') w'/\Ext E (dG h) w E' (dG h') w'/\Rel E' v x
theorem aB.mono (P:Program):(aB P).sD:=fun _ _ _ _ _ hK hA=>⟨hA.1,fun E w vs hn hs hv=>
 (hA.2 E w vs hn hs hv).mono fun _ _ ⟨v,x,h',E',h1,h2,h3,h4,h5,h6⟩=>⟨v,x,h',E',hK _ _ h1,h2,h3,h4,h5,h6⟩⟩
theorem SH (n:Nat):Ia.get n=none:=rfl
theorem mT {h:aA} {k:Key} (hk:(dG h).live k):∃ n,k=.g n/\∃ o,h.get n=some o:=by
 obtain ⟨o,ho⟩:=hk
 cases k with
 |g n=>exact ⟨n,rfl,o,ho⟩
 |l n=>simp [St.get,SH] at ho
theorem L7 {E:Env} {v v':V} {x:Value} (h:v.out=some v') (hr:Rel E v x):Rel E.cut v' x:=by
 unfold V.out at h
 split at h<;>simp only [Option.some.injEq,reduceCtorEq] at h<;>subst h
 all_goals (cases hr)
 all_goals (first
  |exact .deep ‹_›
  |exact .kE
  |exact .gC
  |exact .kG
  |exact .p (E:=E.cut) (.g _) _ ‹_›
  |exact .pa (E:=E.cut) (.g _) _ _ _ ‹_›
  |exact .m (E:=E.cut) (.g _) ‹_›
  |exact .EW (E:=E.cut) (.g _) _ _ _ _ ‹_› ‹_› ‹_› ‹_›
  |exact .ms (E:=E.cut) (.g _) _ _ _ _ _ ‹_› ‹_› ‹_› ‹_› ‹_›
  |(exact .deep (by assumption))
  |skip)
 all_goals (rename_i hd;cases hd)
theorem C2 {E:Env}:∀ {l l':List V} {a:Array Value},V.outs l=some l'->eI E l a->eI E.cut l' a:=by
 intro l
 induction l with
 |nil=>
  intro l' a h hr
  simp only [V.outs,Option.some.injEq] at h
  subst h
  exact ⟨hr.1,fun j v x hj=>by simp at hj⟩
 |cons v r ih=>
  intro l' a h hr
  simp only [V.outs] at h
  split at h
  · rename_i v' r' hv Ph
    simp only [Option.some.injEq] at h
    subst h
    have kD:a.size=r.length+1:=hr.1
    have B0:eI E r (a.extract 1 a.size):=⟨by simp [kD],fun j u x hj hx=>hr.2 (j+1) u x (by simpa using hj) (by
     rw [Array.getElem?_extract] at hx
     split at hx
     · rw [Nat.add_comm];exact hx
     · cases hx)⟩
    have ht:=ih Ph B0
    have hl:r'.length=r.length:=by have h1:=ht.1;have h2:=B0.1;omega
    refine ⟨by simp [kD,hl],fun j u x hj hx=>?_⟩
    cases j with
    |zero=>
     simp only [List.getElem?_cons_zero,Option.some.injEq] at hj
     subst hj
     exact L7 hv (hr.2 0 v x (by simp) hx)
    |succ j=>
     refine ht.2 j u x (by simpa using hj) ?_
     have cL:j+1<a.size:=(Array.getElem?_eq_some_iff.1 hx).1
     rw [Array.getElem?_extract,if_pos (by omega),Nat.add_comm]
     exact hx
  · cases h
theorem eI.append {E:Env} {l r:List V} {a b:Array Value} (h:eI E l a) (g:eI E r b):eI E (l++r) (a++b):=by
 refine ⟨by simp [h.1,g.1],fun j v x hj hx=>?_⟩
 rw [Array.getElem?_append] at hx
 rw [List.getElem?_append] at hj
 rw [h.1] at hx
 split at hj
 · rename_i cL
   rw [if_pos cL] at hx
   exact h.2 j v x hj hx
 · rename_i cL
   rw [if_neg cL] at hx
   exact g.2 _ v x hj hx
theorem zC {E:Env} {v v':V} {x:Value} (h:v.pass=some v') (hr:Rel E v x):Rel E.cut v' x:=by
 unfold V.pass at h
 split at h
 · split at h
   · rename_i cs _ y hy
     simp only [Option.some.injEq] at h
     subst h
     cases hr with
     |deep hd=>cases hd
     |agg _ a ha h1 HY=>
      have:=C2 hy ⟨ha,HY⟩
      exact .agg _ _ this.1 h1 this.2
   · cases h
 · split at h
   · rename_i f a c _ _ y z hy hz
     simp only [Option.some.injEq] at h
     subst h
     cases hr with
     |deep hd=>cases hd
     |fn _ _ _ a' c' ha hc HY O8=>
      have h1:=C2 hy ⟨ha,HY⟩
      have h2:=C2 hz ⟨hc,O8⟩
      exact .fn _ _ _ _ _ h1.1 h2.1 h1.2 h2.2
   · cases h
 · exact L7 h hr
theorem C3 {E:Env}:∀ {l l':List V} {a:Array Value},gK l=some l'->eI E l a->eI E.cut l' a:=by
 intro l
 induction l with
 |nil=>
  intro l' a h hr
  simp only [gK,Option.some.injEq] at h
  subst h
  exact ⟨hr.1,fun j v x hj=>by simp at hj⟩
 |cons v r ih=>
  intro l' a h hr
  simp only [gK] at h
  split at h
  · rename_i v' r' hv Ph
    simp only [Option.some.injEq] at h
    subst h
    have kD:a.size=r.length+1:=hr.1
    have B0:eI E r (a.extract 1 a.size):=⟨by simp [kD],fun j u x hj hx=>hr.2 (j+1) u x (by simpa using hj) (by
     rw [Array.getElem?_extract] at hx
     split at hx
     · rw [Nat.add_comm];exact hx
     · cases hx)⟩
    have ht:=ih Ph B0
    have hl:r'.length=r.length:=by have h1:=ht.1;have h2:=B0.1;omega
    refine ⟨by simp [kD,hl],fun j u x hj hx=>?_⟩
    cases j with
    |zero=>
     simp only [List.getElem?_cons_zero,Option.some.injEq] at hj
     subst hj
     exact zC hv (hr.2 0 v x (by simp) hx)
    |succ j=>
     refine ht.2 j u x (by simpa using hj) ?_
     have cL:j+1<a.size:=(Array.getElem?_eq_some_iff.1 hx).1
     rw [Array.getElem?_extract,if_pos (by omega),Nat.add_comm]
     exact hx
  · cases h
theorem b9.cut {E:Env} {st:St} {w:World} (h:b9 E st w):b9 E.cut (dG st.g) w:=by
 have hl:∀ k,(dG st.g).live k->st.live k:=by
  intro k hk
  obtain ⟨n,rfl,o,ho⟩:=mT hk
  exact ⟨o,ho⟩
 refine ⟨h.ng,rfl,?_,h.jL,?_,fun k k' hk hZ dM=>h.sep k k' (hl k hk) (hl k' hZ) dM,fun k hk=>h.own k (hl k hk)⟩
 · intro k hk
   obtain ⟨n,rfl,o,ho⟩:=mT hk
   exact h.jM (.g n) ⟨o,ho⟩
 · intro k o hk
   obtain ⟨n,rfl,o',Uo⟩:=mT ⟨o,hk⟩
   exact h.obj (.g n) o hk
def Env.join (E E':Env):Env where
 I:=E'.I
 μ k:=match k with
  |.g _=>E'.μ k
  |.l _=>E.μ k
 ng:=E'.ng
 nl:=E.nl
theorem b9.back {E E':Env} {st:St} {h':aA} {w w':World} (h:b9 E st w) (hn:E'.nl=0) (hs:b9 E' (dG h') w')
 (he:Ext E.cut (dG st.g) w E' (dG h') w'):b9 (E.join E') ⟨h',st.l⟩ w'/\Ext E st w (E.join E') ⟨h',st.l⟩ w'/\E'.Le (E.join E'):=by
 have hle:E.Le (E.join E'):=by
  refine ⟨fun b o x hx=>he.le.jL b o x hx,he.le.ng,Nat.le_refl _,?_⟩
  intro k hk
  cases k with
  |g n=>exact he.le.loc (.g n) hk
  |l n=>rfl
 have Pj:E'.Le (E.join E'):=by
  refine ⟨fun b o x hx=>hx,Nat.le_refl _,by rw [hn];exact Nat.zero_le _,?_⟩
  intro k hk
  cases k with
  |g n=>rfl
  |l n=>simp [Env.has,hn] at hk
 have hlg:∀ n,st.live (.g n)->(dG st.g).live (.g n):=fun n ⟨o,ho⟩=>⟨o,ho⟩
 have SI:∀ k,(dG st.g).live k->st.live k:=by
  intro k hk
  obtain ⟨n,rfl,o,ho⟩:=mT hk
  exact ⟨o,ho⟩
 -- an object of Kr Yb own ajE apart from all SJ Kr callee may write
 have GK:∀ n,st.live (.l n)->∀ k,(dG st.g).live k->(E.cut.μ k).bL≠(E.μ (.l n)).bL:=by
  intro n hl k hk
  obtain ⟨m,rfl,o,ho⟩:=mT hk
  exact h.sep (.g m) (.l n) ⟨o,ho⟩ hl (by simp)
 have eE:∀ k,St.live ⟨h',st.l⟩ k->(∃ n,k=.g n/\(dG h').live (.g n))\/∃ n,k=.l n/\st.live (.l n):=by
  rintro (n|n) ⟨o,ho⟩
  · exact .inl ⟨n,rfl,o,ho⟩
  · exact .inr ⟨n,rfl,o,ho⟩
 have j6:∀ n,st.live (.l n)->w'.heap[(E.μ (.l n)).bL]? =w.heap[(E.μ (.l n)).bL]? :=fun n hl=>
  he.same _ (h.lt hl) (GK n hl)
 have HZ:∀ n m,(dG h').live (.g n)->st.live (.l m)->(E'.μ (.g n)).bL≠(E.μ (.l m)).bL:=by
  intro n m hg hl
  by_cases ha:E.cut.has (.g n)
  · rw [he.le.loc _ ha]
    exact GK m hl _ (he.gD _ hg ha)
  · rcases he.gM _ hg ha with h1|⟨k0,h1,h2⟩
    · have:=h.lt hl
      omega
    · rw [<-h2]
      exact GK m hl _ h1
 refine ⟨⟨hs.ng,h.nl,?_,hs.jL,?_,?_,?_⟩,⟨hle,he.size,?_,?_,?_,?_,he.os,he.out,he.tape⟩,Pj⟩
 · intro k hk
   rcases eE k hk with ⟨n,rfl,hg⟩|⟨n,rfl,hl⟩
   · exact Pj.has (hs.jM _ hg)
   · exact hle.has (h.jM _ hl)
 · intro k o hk
   cases k with
   |g n=>
    have:=hs.obj (.g n) o hk
    exact this.eK (Env.CZ Pj) rfl
   |l n=>
    have:=h.obj (.l n) o hk
    exact this.eK hle (j6 n ⟨o,hk⟩)
 · intro a b ha hb dM
   rcases eE a ha with ⟨n,rfl,hg⟩|⟨n,rfl,hl⟩<;>rcases eE b hb with ⟨m,rfl,hg'⟩|⟨m,rfl,wZ⟩
   · exact hs.sep _ _ hg hg' dM
   · exact HZ n m hg wZ
   · exact fun e=>HZ m n hg' hl e.symm
   · exact h.sep _ _ hl wZ dM
 · intro k hk j h1 h2
   rcases eE k hk with ⟨n,rfl,hg⟩|⟨n,rfl,hl⟩
   · exact hs.own _ hg j h1 h2
   · show E'.I _ j=none
     cases hx:E'.I (E.μ (.l n)).bL j with
     |none=>exact hx
     |some x=>
      rcases he.fF _ _ _ hx with h3|h3|⟨k0,h3,h4⟩
      · have:=h.own _ hl j h1 h2
        rw [show E.cut.I=E.I from rfl,this] at h3
        cases h3
      · have:=h.lt hl
        omega
      · exact absurd h4 (GK n hl _ h3)
 · intro b o x hx
   rcases he.fF b o x hx with h1|h1|⟨k,h1,h2⟩
   · exact .inl h1
   · exact .inr (.inl h1)
   · exact .inr (.inr ⟨k,SI k h1,h2⟩)
 · intro k hk ha
   rcases eE k hk with ⟨n,rfl,hg⟩|⟨n,rfl,hl⟩
   · exact SI _ (he.gD _ hg ha)
   · exact hl
 · intro k hk ha
   rcases eE k hk with ⟨n,rfl,hg⟩|⟨n,rfl,hl⟩
   · rcases he.gM _ hg ha with h1|⟨k0,h1,h2⟩
     · exact .inl h1
     · exact .inr ⟨k0,SI k0 h1,h2⟩
   · exact absurd (h.jM _ hl) ha
 · intro b hb hn
   exact he.same b hb fun k hk=>by
    have:=hn k (SI k hk)
    obtain ⟨n,rfl,o,ho⟩:=mT hk
    exact this
theorem aB.use {P:Program} {f:Nat} {vs:List V} {E:Env} {st:St} {w:World} (hs:b9 E st w) {args:List V} {a:Array Value} (hp:gK args=some vs)
 (ha:eI E args a) {K:V->aA->Prop} (h:aB P f vs st.g K) {next:Value->World->Prop}
 (hK:∀ v h' E' w' x,K v h'->b9 E' ⟨h',st.l⟩ w'->Ext E st w E' ⟨h',st.l⟩ w'->Rel E' v x->next x w') {Q:Exit->Act->World->Prop} {act:Act}:
 Calls P f a w fun
  |.returned v,w'=>next v w'
  |.panicked chain,w'=>Q (.panic chain) act w'
  |.outgrown,_=>LetsOut Q:=by
 refine (h.2 E.cut w a rfl hs.cut (C3 hp ha)).mono ?_
 rintro e w' ⟨v,x,h',E',hk,rfl,hn,yX,he,hr⟩
 obtain ⟨h1,h2,h3⟩:=hs.back hn yX he
 exact hK v h' _ w' x hk h1 h2 (hr.mono h3)
open Go
def p8:Nat->Value->V->Bool
 |0,_,_=>false
 |n+1,x,v=>match x,v with
  |.bool p,.b q=>p==q
  |.int k p,.i k' q=>decide (k=k')&&decide (p=q)
  |.string p,.s q=>decide (p.data.toList=q)
  |.pointer none,.kE=>true
  |.slice none 0 0,.aV=>true
  |.map none,.gC=>true
  |.nilFunc,.kG=>true
  |.agg cs,.agg l=>decide (cs.size=l.length)&&cs.all (·.oneCell')&&(cs.toList.zip l).all fun q=>p8 n q.1 q.2
  |.tuple cs,.bY l=>decide (cs.size=l.length)&&(cs.toList.zip l).all fun q=>p8 n q.1 q.2
  |_,_=>false
theorem GL {α β:Type} {p:α×β->Bool} {l:List α} {r:List β} (h:(l.zip r).all p=true) {j:Nat} {x:α} {y:β} (hx:l[j]? =some x) (hy:r[j]? =some y):p (x,y)=true:=by
 rw [List.all_eq_true] at h
 refine h (x,y) (List.mem_of_getElem? (i:=j) ?_)
 rw [List.getElem?_zip_eq_some]
 exact ⟨hx,hy⟩
theorem kO {n:Nat}:∀ {x:Value} {v:V},p8 n x v=true->∀ E,Rel E v x:=by
 induction n with
 |zero=>intro x v h;cases h
 |succ n ih=>
  intro x v h E
  unfold p8 at h
  split at h
  · rw [beq_iff_eq] at h;subst h;exact .deep (.b _)
  · simp only [Bool.and_eq_true,decide_eq_true_eq] at h;obtain ⟨rfl,rfl⟩:=h;exact .deep (.i _ _)
  · simp only [decide_eq_true_eq] at h
    subst h
    rename_i p
    have:str p.data.toList=p:=by cases p;rfl
    have h2:=eT.s (I:=E.I) p.data.toList
    rw [this] at h2
    exact .deep h2
  · exact .kE
  · exact .deep .aV
  · exact .gC
  · exact .kG
  · simp only [Bool.and_eq_true,decide_eq_true_eq] at h
    refine .agg _ _ h.1.1 ?_ fun j u y hj hy=>ih (GL h.2 (by rw [Array.getElem?_toList];exact hy) hj) E
    intro j x hx
    exact (Array.all_eq_true_iff_forall_mem.1 h.1.2) x (Array.mem_of_getElem? hx)
  · simp only [Bool.and_eq_true,decide_eq_true_eq] at h
    exact .bY _ _ h.1 fun j u y hj hy=>ih (GL h.2 (by rw [Array.getElem?_toList];exact hy) hj) E
  · cases h
def dY (x:Operand) (d:bH):Bool:=
 match x,d with
 |.tmp t,.t n=>t==n
 |.const x,.c v=>p8 4 x v
 |.func f,.c (.fn g [] [])=>f==g
 |_,_=>false
def C4:List Operand->List bH->Bool
 |[],[]=>true
 |x::r,d::q=>dY x d&&C4 r q
 |_,_=>false
def tT:Option Operand->Option bH->Bool
 |none,none=>true
 |some x,some d=>dY x d
 |_,_=>false
structure aY (E:Env) (N:Nat) (fr:Fr) (a:Act):Prop where
 size:a.tmps.size=N
 rel:∀ t,Rel E (fr.get t) (a.tmps.getD t undef)
theorem aY.mono {E F:Env} (h:E.Le F) {N:Nat} {fr:Fr} {a:Act} (hf:aY E N fr a):aY F N fr a:=⟨hf.size,fun t=>(hf.rel t).mono h⟩
theorem bA {x:Operand} {d:bH} (h:dY x d=true) {E:Env} {N:Nat} {fr:Fr} {a:Act} (hf:aY E N fr a):Rel E (d.ev fr) (a.eval x):=by
 unfold dY at h
 split at h
 · rw [beq_iff_eq] at h;subst h;exact hf.rel _
 · exact kO h E
 · rw [beq_iff_eq] at h
   subst h
   exact .fn _ _ _ _ _ rfl rfl (fun j v x hj=>by simp at hj) (fun j v x hj=>by simp at hj)
 · cases h
theorem zD {E:Env} {N:Nat} {fr:Fr} {a:Act} (hf:aY E N fr a):∀ {xs:List Operand} {ds:List bH},C4 xs ds=true->eI E (bH.GH fr ds) (xs.map a.eval).toArray:=by
 intro xs
 induction xs with
 |nil=>
  intro ds h
  cases ds with
  |nil=>exact ⟨rfl,fun j v x hj=>by simp [bH.GH] at hj⟩
  |cons d r=>cases h
 |cons x r ih=>
  intro ds h
  cases ds with
  |nil=>cases h
  |cons d q=>
   simp only [C4,Bool.and_eq_true] at h
   have h1:=bA h.1 hf
   have h2:=ih h.2
   refine ⟨by simp [bH.GH,<-h2.1],fun j v y hj hy=>?_⟩
   cases j with
   |zero=>
    simp [bH.GH] at hj hy
    subst hj;subst hy;exact h1
   |succ j=>exact h2.2 j v y (by simpa [bH.GH] using hj) (by simpa using hy)
theorem Ib {E:Env} {N:Nat} {fr:Fr} {a:Act} (hf:aY E N fr a) {x:Option Operand} {d:Option bH} (h:tT x d=true):
 (x=none/\bH.Cq fr d=none)\/∃ y v,x.map a.eval=some y/\bH.Cq fr d=some v/\Rel E v y:=by
 unfold tT at h
 split at h
 · exact .inl ⟨rfl,rfl⟩
 · exact .inr ⟨_,_,rfl,rfl,bA h hf⟩
 · cases h
section
variable {P:Program} {o:Oper} {a:Act} {w:World} {next:Act->World->Prop} {Q:Exit->Act->World->Prop}
theorem aT {x:Value} {w':World} (h:(execOp a.eval o).run P w=.ok (.value x) w') (hn:next (a.put o.dst x) w'):o.wp P a w next Q:=by
 unfold Oper.wp;rw [h];exact hn
theorem GM {w':World} (h:(execOp a.eval o).run P w=.ok .skip w') (hn:next (a.put o.dst undef) w'):o.wp P a w next Q:=by
 unfold Oper.wp;rw [h];exact hn
end
def fG (E:Env) (st:St) (w:World) (o:Oper) (a:Act) (next:Act->World->Prop) (K:R->Prop):Prop:=
 ∀ v bU E' w' x,K (v,bU)->b9 E' bU w'->Ext E st w E' bU w'->Rel E' v x->next (a.put o.dst x) w'
section
variable {P:Program} {o:Oper} {a:Act} {E:Env} {N:Nat} {st:St} {w:World} {fr:Fr} {next:Act->World->Prop} {Q:Exit->Act->World->Prop} {K:R->Prop}
theorem fG.same (hc:fG E st w o a next K) (hs:b9 E st w) {v:V} {x:Value} (hk:K (v,st)) (hr:Rel E v x):next (a.put o.dst x) w:=
 hc v st E w x hk hs (.refl E st w) hr
theorem SK {x:Operand} {d:bH} (ho:o.op=.move x) (hx:dY x d=true) (hs:b9 E st w) (hf:aY E N fr a)
 (hw:(step (.mv d) fr st).wp (aB P) K) (hc:fG E st w o a next K):o.wp P a w next Q:=
 aT (x:=a.eval x) (by simp [execOp,ho]) (hc.same hs hw (bA hx hf))
theorem Pk {x:Operand} {d:bH} (ho:o.op=.assign x) (hx:dY x d=true) (hs:b9 E st w) (hf:aY E N fr a)
 (hw:(step (.L6 d) fr st).wp (aB P) K) (hc:fG E st w o a next K):o.wp P a w next Q:=
 aT (x:=a.eval x) (by simp [execOp,ho]) (hc.same hs hw (bA hx hf))
theorem Rel.bool {x:Bool} {y:Value} (h:Rel E (.b x) y):y=.bool x:=by cases h with|deep h=>cases h;rfl
theorem Rel.int {k:IntKind} {n:Int} {y:Value} (h:Rel E (.i k n) y):y=.int k n:=by cases h with|deep h=>cases h;rfl
theorem Rel.Ca {l:List UInt8} {y:Value} (h:Rel E (.s l) y):y=.string (str l):=by cases h with|deep h=>cases h;rfl
theorem Nk {x y z:Operand} {c d e:bH} (ho:o.op=.pick x y z) (hx:dY x c=true) (hy:dY y d=true) (hz:dY z e=true) (hs:b9 E st w) (hf:aY E N fr a)
 (hw:(step (.pick c d e) fr st).wp (aB P) K) (hc:fG E st w o a next K):o.wp P a w next Q:=by
 have h1:=bA hx hf
 simp only [step] at hw
 split at hw
 · rename_i b hb
   rw [hb] at h1
   have h1:=h1.bool
   cases b with
   |true=>exact aT (x:=a.eval y) (by simp [execOp,ho,asBool,h1]) (hc.same hs (hw.1 rfl) (bA hy hf))
   |false=>exact aT (x:=a.eval z) (by simp [execOp,ho,asBool,h1]) (hc.same hs (hw.2 rfl) (bA hz hf))
 · exact hw.elim
end
open Go
section
variable {P:Program} {o:Oper} {a:Act} {E:Env} {N:Nat} {st:St} {w:World} {fr:Fr} {next:Act->World->Prop} {Q:Exit->Act->World->Prop} {K:R->Prop}
theorem fN {op:BinOp} {t yt:TypeId} {x y:Operand} {v:Value} (ho:o.op=.binOp op t x y yt) (hg:eqGuard op t x y (a.eval x) (a.eval y)=pure ())
 (h:(binOp op t (a.eval x) (a.eval y)).run P w=.ok v w):(execOp a.eval o).run P w=.ok (.value v) w:=by
 simp [execOp,ho,hg,h]
theorem SL (bs:ByteArray):∀ (n i:Nat) (r:List UInt8),bs.size - i=n->ByteArray.toList.loop bs i r=r.reverse++bs.data.toList.drop i:=by
 intro n
 induction n with
 |zero=>
  intro i r h
  unfold ByteArray.toList.loop
  rw [if_neg (by omega)]
  have:bs.data.toList.drop i=[]:=List.drop_eq_nil_of_le (by simp;have:bs.size=bs.data.size:=rfl;omega)
  rw [this,List.append_nil]
 |succ n ih=>
  intro i r h
  unfold ByteArray.toList.loop
  have cL:i<bs.size:=by omega
  rw [if_pos cL,ih (i+1) _ (by omega)]
  have Ic:i<bs.data.toList.length:=by simpa using cL
  rw [List.drop_eq_getElem_cons Ic]
  have:bs.get! i=bs.data.toList[i]:=by
   have:i<bs.data.size:=cL
   simp only [ByteArray.get!,Array.getElem_toList]
   exact getElem!_pos bs.data i this
  rw [this]
  simp
theorem Nl (bs:ByteArray):bs.toList=bs.data.toList:=by
 unfold ByteArray.toList
 rw [SL bs _ 0 [] rfl]
 simp
theorem iW (l:List UInt8):(str l).toList=l:=by rw [Nl];rfl
theorem Pm {op:BinOp} {t yt:TypeId} {x y:Operand} {d e:bH} (ho:o.op=.binOp op t x y yt) (hx:dY x d=true) (hy:dY y e=true) (hs:b9 E st w) (hf:aY E N fr a)
 (hw:(step (.bin op d e) fr st).wp (aB P) K) (hc:fG E st w o a next K):o.wp P a w next Q:=by
 have h1:=bA hx hf
 have h2:=bA hy hf
 simp only [step,pZ] at hw
 split at hw
 · rename_i k p k' q e1 e2
   rw [e1] at h1
   rw [e2] at h2
   have h1:=h1.int
   have h2:=h2.int
   have hg:eqGuard op t x y (a.eval x) (a.eval y)=pure ():=by rw [h1];exact eqGuard_at_int _ _ _ _ _ _ _
   cases op
   case shl=>
    obtain ⟨hq,hw⟩:=hw
    have hq:0<=q:=by simpa using hq
    rw [T.wp,nX] at hw
    exact aT (fN ho hg (by rw [h1,h2,binOp_shl];simp [Op.shift,show ¬q<0 by omega])) (hc.same hs hw (.deep (.i _ _)))
   case shr=>
    obtain ⟨hq,hw⟩:=hw
    have hq:0<=q:=by simpa using hq
    exact aT (fN ho hg (by rw [h1,h2,binOp_shr];simp [Op.shift,show ¬q<0 by omega])) (hc.same hs hw (.deep (.i _ _)))
   all_goals
    simp only at hw
    split at hw
    · rename_i hk
      subst hk
      first
       |(rw [T.wp,nX] at hw
         exact aT (fN ho hg (by rw [h1,h2];simp [binOp,Op.intArith])) (hc.same hs hw (.deep (.i _ _))))
       |(obtain ⟨hq,hw⟩:=hw
         have hq:¬q=0:=by simpa using hq
         rw [T.wp,nX] at hw
         exact aT (fN ho hg (by rw [h1,h2];simp [binOp,Op.intDiv,hq])) (hc.same hs hw (.deep (.i _ _))))
       |(obtain ⟨hq,hw⟩:=hw
         have hq:¬q=0:=by simpa using hq
         exact aT (fN ho hg (by rw [h1,h2];simp [binOp,Op.intDiv,hq])) (hc.same hs hw (.deep (.i _ _))))
       |exact aT (fN ho hg (by rw [h1,h2];simp [binOp,Op.intBits])) (hc.same hs hw (.deep (.i _ _)))
       |exact aT (fN ho hg (by rw [h1,h2];simp [binOp,Op.intCmp]<;>rfl)) (hc.same hs hw (.deep (.b _)))
    · exact hw.elim
 · rename_i p q e1 e2
   rw [e1] at h1
   rw [e2] at h2
   have h1:=h1.Ca
   have h2:=h2.Ca
   have hg:eqGuard op t x y (a.eval x) (a.eval y)=pure ():=by rw [h1];exact eqGuard_at_string _ _ _ _ _ _
   have kD:∀ l,(str l).size=l.length:=fun l=>by simp [str,ByteArray.size]
   cases op
   case add=>
    obtain ⟨hq,hw⟩:=hw
    have hq:((p.length+q.length:Nat):Int)<=9223372036854775807:=by simpa using hq
    refine aT (x:=.string (str (p++q))) (fN ho hg ?_) (hc.same hs hw (.deep (.s _)))
    rw [h1,h2]
    simp only [binOp,Op.stringOp,kD,IntKind.max_i64]
    rw [if_neg (by omega)]
    have:str p++str q=str (p++q):=by
     apply ByteArray.ext
     simp [str]
    rw [this];rfl
   case eql=>exact aT (fN ho hg (by rw [h1,h2];simp [binOp,Op.stringOp,iW])) (hc.same hs hw (.deep (.b _)))
   case neq=>exact aT (fN ho hg (by rw [h1,h2];simp [binOp,Op.stringOp,iW])) (hc.same hs hw (.deep (.b _)))
   case lss=>exact aT (fN ho hg (by rw [h1,h2];simp [binOp,Op.stringOp,iW])) (hc.same hs hw (.deep (.b _)))
   case leq=>exact aT (fN ho hg (by rw [h1,h2];simp [binOp,Op.stringOp,iW])) (hc.same hs hw (.deep (.b _)))
   case gtr=>exact aT (fN ho hg (by rw [h1,h2];simp [binOp,Op.stringOp,iW])) (hc.same hs hw (.deep (.b _)))
   case geq=>exact aT (fN ho hg (by rw [h1,h2];simp [binOp,Op.stringOp,iW])) (hc.same hs hw (.deep (.b _)))
   all_goals exact hw.elim
 · exact hw.elim
theorem SM {op:UnOp} {t:TypeId} {x:Operand} {d:bH} (ho:o.op=.unOp op t x) (hx:dY x d=true) (hs:b9 E st w) (hf:aY E N fr a)
 (hw:(step (.un op d) fr st).wp (aB P) K) (hc:fG E st w o a next K):o.wp P a w next Q:=by
 have h1:=bA hx hf
 simp only [step] at hw
 split at hw
 · rename_i y e1
   rw [e1] at h1
   have h1:=h1.bool
   exact aT (x:=.bool (!y)) (by simp [execOp,ho,h1,Op.unary]) (hc.same hs hw (.deep (.b _)))
 · rename_i k n e1
   rw [e1] at h1
   have h1:=h1.int
   rw [T.wp,nX] at hw
   exact aT (x:=.int k (k.wrap (0 - n))) (by simp [execOp,ho,h1,Op.unary,Op.intArith]) (hc.same hs hw (.deep (.i _ _)))
 · exact hw.elim
theorem Pn {s t:TypeId} {k:IntKind} {x:Operand} {d:bH} (ho:o.op=.convert s t x) (hx:dY x d=true) (hu:(P.underlying s).isSome=true) (ht:P.underlying t=some (.int k))
 (hs:b9 E st w) (hf:aY E N fr a) (hw:(step (.SC k d) fr st).wp (aB P) K) (hc:fG E st w o a next K):o.wp P a w next Q:=by
 have h1:=bA hx hf
 simp only [step] at hw
 split at hw
 · rename_i k' n e1
   rw [e1] at h1
   have h1:=h1.int
   rw [T.wp,nX] at hw
   obtain ⟨du,Vo⟩:=Option.isSome_iff_exists.1 hu
   refine aT (x:=.int k (k.wrap n)) ?_ (hc.same hs hw (.deep (.i _ _)))
   simp [execOp,ho,h1,convert,run_underlying Vo,run_underlying ht,Conv.intToInt]
 · exact hw.elim
theorem Po {s t:TypeId} {x:Operand} {d:bH} (ho:o.op=.convert s t x) (hx:dY x d=true) (hu:(P.underlying s).isSome=true) (ht:P.underlying t=some .string)
 (hs:b9 E st w) (hf:aY E N fr a) (hw:(step (.SD d) fr st).wp (aB P) K) (hc:fG E st w o a next K):o.wp P a w next Q:=by
 have h1:=bA hx hf
 simp only [step] at hw
 split at hw
 · rename_i y e1
   rw [e1] at h1
   have h1:=h1.Ca
   obtain ⟨du,Vo⟩:=Option.isSome_iff_exists.1 hu
   refine aT (x:=.string (str y)) ?_ (hc.same hs hw (.deep (.s _)))
   simp [execOp,ho,h1,convert,run_underlying Vo,run_underlying ht]
 · exact hw.elim
theorem Nn {x:Operand} {d:bH} (ho:o.op=.nilCheck x) (hx:dY x d=true) (hs:b9 E st w) (hf:aY E N fr a)
 (hw:(step (.CX d) fr st).wp (aB P) K) (hc:fG E st w o a next K):o.wp P a w next Q:=by
 have h1:=bA hx hf
 simp only [step] at hw
 split at hw
 case h_5=>exact hw.elim
 all_goals
  rename_i e1
  rw [e1] at h1
  refine aT (x:=a.eval x) ?_ (hc.same hs hw h1)
  generalize hy:a.eval x=y at h1
  cases h1<;>first|(rename_i hd;cases hd)|simp [execOp,ho,hy]
theorem Ks {t:TypeId} {x:Operand} {f:Nat} {d:bH} {fs:Array Field} {fl:Field} {off:Nat} (ho:o.op=.fieldAddr t x f) (hx:dY x d=true)
 (hu:P.underlying t=some (.struct fs)) (vL:fs[f]? =some fl) (Vp:fl.offset=off) (hz:∃ i,P.info? fl.type=some i/\i.size≠0)
 (hs:b9 E st w) (hf:aY E N fr a) (hw:(step (.s9 off d) fr st).wp (aB P) K) (hc:fG E st w o a next K):o.wp P a w next Q:=by
 have h1:=bA hx hf
 subst Vp
 obtain ⟨i,hi,Cs⟩:=hz
 have dW:∀ b c,a.eval x=.pointer (some ⟨b,c,none⟩)->(execOp a.eval o).run P w=.ok (.value (.pointer (some ⟨b,c+fl.offset,none⟩))) w:=by
  intro b c hb
  simp [execOp,ho,hb,Instr.fieldAt,run_underlying hu,vL,Instr.sureAddr,fieldPlace,sizeOf,typeInfo,hi,Cs,Addr.add_lit]
 simp only [step] at hw
 split at hw
 · rename_i k c e1
   rw [e1] at h1
   generalize hy:a.eval x=y at h1
   cases h1 with
   |deep hd=>cases hd
   |p _ _ hk=>
    refine aT (dW _ _ hy) (hc.same hs hw ?_)
    rw [Nat.add_assoc];exact .p _ _ hk
 · rename_i k sz ix c e1
   rw [e1] at h1
   generalize hy:a.eval x=y at h1
   cases h1 with
   |deep hd=>cases hd
   |pa _ _ _ _ hk=>
    refine aT (dW _ _ hy) (hc.same hs hw ?_)
    rw [Nat.add_assoc];exact .pa _ _ _ _ hk
 · rename_i cs c e1
   rw [e1] at h1
   generalize hy:a.eval x=y at h1
   cases h1 with
   |deep hd=>cases hd
   |pc _ _ bL c0 val hv hr=>
    refine aT (dW _ _ hy) (hc.same hs hw ?_)
    rw [Nat.add_assoc];exact .pc _ _ _ _ val hv hr
 · exact hw.elim
theorem By {cs:List V} {off n:Nat} {v:V} (h:dL cs off (some n)=some v):off+n<=cs.length/\v=.agg ((cs.drop off).take n):=by
 simp only [dL] at h
 split at h
 · rename_i hl;exact ⟨hl,(Option.some.inj h).symm⟩
 · cases h
def tU (P:Program) (t:TypeId) (n:Option Nat):Bool:=
 match n,P.underlying t with
 |none,some d=>!d.isRow
 |some k,some d=>d.isRow&&(P.info? t).map (·.size)==some k
 |_,none=>false
theorem AP {t:TypeId} {d:TypeDesc} (h:P.underlying t=some d) (w:World):(isAgg t).run P w=.ok d.isRow w:=by
 unfold isAgg
 rw [Sem.run_bind,run_underlying h w]
 cases d<;>rfl
theorem qV {t:TypeId} {n:Option Nat} (hn:tU P t n=true) {cs:List V} {xs:Array Value} (hr:eI E cs xs) (h1:∀ (j:Nat) (x:Value),xs[j]? =some x->x.oneCell'=true)
 {off:Nat} {v:V} (hv:dL cs off n=some v):∃ x,(part t xs off).run P w=.ok x w/\Rel E v x:=by
 unfold tU at hn
 split at hn
 · rename_i d hd
   obtain ⟨x,hx,vM⟩:=hr.get hv
   refine ⟨x,?_,vM⟩
   have:d.isRow=false:=by simpa using hn
   simp [part,AP hd,this,hx]
 · rename_i k d hd
   simp only [Bool.and_eq_true,beq_iff_eq] at hn
   obtain ⟨hl,rfl⟩:=By hv
   cases hq:P.info? t with
   |none=>simp [hq] at hn
   |some i=>
    have hs:i.size=k:=by simpa [hq] using hn.2
    refine ⟨.agg (xs.extract off (off+k)),?_,?_⟩
    · simp [part,AP hd,hn.1,sizeOf,typeInfo,hq,hs]
    · have kD:=hr.1
      refine .agg _ _ ?_ ?_ ?_
      · simp only [Array.size_extract,List.length_take,List.length_drop];omega
      · intro j x hx
        rw [Array.getElem?_extract] at hx
        split at hx
        · exact h1 _ _ hx
        · cases hx
      · intro j u x hj hx
        rw [Array.getElem?_extract] at hx
        rw [List.getElem?_take] at hj
        split at hj
        · split at hx
          · rw [List.getElem?_drop] at hj
            exact hr.2 _ u x hj hx
          · cases hx
        · cases hj
 · cases hn
theorem Pp {t:TypeId} {x:Operand} {f:Nat} {d:bH} {fs:Array Field} {fl:Field} {off:Nat} {n:Option Nat} (ho:o.op=.field t x f) (hx:dY x d=true)
 (hu:P.underlying t=some (.struct fs)) (vL:fs[f]? =some fl) (Vp:fl.offset=off) (hz:tU P fl.type n=true)
 (hs:b9 E st w) (hf:aY E N fr a) (hw:(step (.OM off n d) fr st).wp (aB P) K) (hc:fG E st w o a next K):o.wp P a w next Q:=by
 have h1:=bA hx hf
 subst Vp
 simp only [step] at hw
 split at hw
 · rename_i cs e1
   rw [e1] at h1
   generalize hy:a.eval x=y at h1
   cases h1 with
   |deep hd=>cases hd
   |agg _ b hb Kt Vq=>
    unfold T.opt at hw
    split at hw
    · rename_i v hv
      obtain ⟨z,FD,H0⟩:=qV (w:=w) hz ⟨hb,Vq⟩ Kt hv
      exact aT (x:=z) (by simp [execOp,ho,hy,Instr.field,run_underlying hu,vL,asAgg,FD]) (hc.same hs hw H0)
    · exact hw.elim
 · exact hw.elim
theorem vN {i:Int} {n:Nat}:pY i n=true↔0<=i/\i<n:=by simp [pY]
theorem No {t e:TypeId} {x y:Operand} {d c:bH} {len sz:Nat} (ho:o.op=.indexAddr t x y) (hx:dY x d=true) (hy:dY y c=true)
 (hu:P.underlying t=some (.array len e)) (hz:(P.info? e).map (·.size)=some sz)
 (hs:b9 E st w) (hf:aY E N fr a) (hw:(step (.GC len sz d c) fr st).wp (aB P) K) (hc:fG E st w o a next K):o.wp P a w next Q:=by
 have h1:=bA hx hf
 have h2:=bA hy hf
 cases hq:P.info? e with
 |none=>simp [hq] at hz
 |some i=>
 have hi:i.size=sz:=by simpa [hq] using hz
 simp only [step] at hw
 split at hw
 · rename_i k n e2
   rw [e2] at h2
   have h2:=h2.int
   obtain ⟨lQ,hw⟩:=hw
   rw [vN] at lQ
   have dW:∀ b c,a.eval x=.pointer (some ⟨b,c,none⟩)->(execOp a.eval o).run P w=.ok (.value (.pointer (some ⟨b,c+n.toNat*sz,none⟩))) w:=by
    intro b c hb
    simp [execOp,ho,hb,h2,Instr.indexAt,asIntOf,run_underlying hu,Instr.sureAddr,sizeOf,typeInfo,hq,hi,lQ.1,lQ.2,Addr.add_lit]
   split at hw
   · rename_i k c e1
     rw [e1] at h1
     generalize hy:a.eval x=y at h1
     cases h1 with
     |deep hd=>cases hd
     |p _ _ hk=>
      refine aT (dW _ _ hy) (hc.same hs hw ?_)
      rw [Nat.add_assoc];exact .p _ _ hk
   · rename_i k sz ix c e1
     rw [e1] at h1
     generalize hy:a.eval x=y at h1
     cases h1 with
     |deep hd=>cases hd
     |pa _ _ _ _ hk=>
      refine aT (dW _ _ hy) (hc.same hs hw ?_)
      rw [Nat.add_assoc];exact .pa _ _ _ _ hk
   · rename_i cs c e1
     rw [e1] at h1
     generalize hy:a.eval x=y at h1
     cases h1 with
     |deep hd=>cases hd
     |pc _ _ bL c0 val hv hr=>
      refine aT (dW _ _ hy) (hc.same hs hw ?_)
      rw [Nat.add_assoc];exact .pc _ _ _ _ val hv hr
   · exact hw.elim
 · exact hw.elim
theorem Pq {t:TypeId} {x y:Operand} {d c:bH} (ho:o.op=.index t x y) (hx:dY x d=true) (hy:dY y c=true) (hu:P.underlying t=some .string)
 (hs:b9 E st w) (hf:aY E N fr a) (hw:(step (.SF d c) fr st).wp (aB P) K) (hc:fG E st w o a next K):o.wp P a w next Q:=by
 have h1:=bA hx hf
 have h2:=bA hy hf
 simp only [step] at hw
 split at hw
 · rename_i l k n e1 e2
   rw [e1] at h1
   rw [e2] at h2
   have h1:=h1.Ca
   have h2:=h2.int
   obtain ⟨h0,b,hb,hw⟩:=hw
   have h0:0<=n:=by simpa using h0
   refine aT (x:=.int .u8 b.toNat) ?_ (hc.same hs hw (.deep (.i _ _)))
   have:(str l)[n.toNat]? =some b:=by
    have cL:=(List.getElem?_eq_some_iff.1 hb)
    obtain ⟨cL,he⟩:=cL
    have kD:(str l).size=l.length:=by simp [str,ByteArray.size]
    rw [getElem?_pos (str l) n.toNat (by rw [kD];exact cL)]
    simp only [<-he]
    rfl
   simp [execOp,ho,h1,h2,Instr.index,asIntOf,run_underlying hu,h0,this]
 · exact hw.elim
theorem Pr {t e:TypeId} {x y:Operand} {d c:bH} {len sz:Nat} {n:Option Nat} (ho:o.op=.index t x y) (hx:dY x d=true) (hy:dY y c=true)
 (hu:P.underlying t=some (.array len e)) (hz:(P.info? e).map (·.size)=some sz) (hn:tU P e n=true)
 (hs:b9 E st w) (hf:aY E N fr a) (hw:(step (.O6 len sz n d c) fr st).wp (aB P) K) (hc:fG E st w o a next K):o.wp P a w next Q:=by
 have h1:=bA hx hf
 have h2:=bA hy hf
 cases hq:P.info? e with
 |none=>simp [hq] at hz
 |some i=>
 have hi:i.size=sz:=by simpa [hq] using hz
 simp only [step] at hw
 split at hw
 · rename_i cs k j e1 e2
   rw [e1] at h1
   rw [e2] at h2
   have h2:=h2.int
   generalize hy:a.eval x=y at h1
   cases h1 with
   |deep hd=>cases hd
   |agg _ b hb Kt Vq=>
    obtain ⟨lQ,hw⟩:=hw
    rw [vN] at lQ
    unfold T.opt at hw
    split at hw
    · rename_i v hv
      obtain ⟨z,FD,H0⟩:=qV (w:=w) hn ⟨hb,Vq⟩ Kt hv
      exact aT (x:=z) (by simp [execOp,ho,hy,h2,Instr.index,asIntOf,run_underlying hu,lQ.1,lQ.2,sizeOf,typeInfo,hq,hi,FD]) (hc.same hs hw H0)
    · exact hw.elim
 · exact hw.elim
theorem Ps {x:Operand} {d:bH} {i:Nat} (ho:o.op=.extract x i) (hx:dY x d=true)
 (hs:b9 E st w) (hf:aY E N fr a) (hw:(step (.ext d i) fr st).wp (aB P) K) (hc:fG E st w o a next K):o.wp P a w next Q:=by
 have h1:=bA hx hf
 simp only [step] at hw
 split at hw
 · rename_i vs e1
   rw [e1] at h1
   generalize hy:a.eval x=y at h1
   cases h1 with
   |deep hd=>cases hd
   |bY _ b hb Vq=>
    unfold T.opt at hw
    split at hw
    · rename_i v hv
      obtain ⟨z,FD,H0⟩:=eI.get ⟨hb,Vq⟩ hv
      exact aT (x:=z) (by simp [execOp,ho,hy,Instr.extract,FD]) (hc.same hs hw H0)
    · exact hw.elim
 · exact hw.elim
theorem Np {f:Nat} {first cap:Array Operand} {ds:List bH} (ho:o.op=.makeFunc (.func f) first cap) (h0:first.size=0) (hx:C4 cap.toList ds=true)
 (hs:b9 E st w) (hf:aY E N fr a) (hw:(step (.GB f ds) fr st).wp (aB P) K) (hc:fG E st w o a next K):o.wp P a w next Q:=by
 have h1:=zD hf hx
 have h0:first=#[]:=by simpa using h0
 subst h0
 refine aT (x:=.func (.func f) #[] (cap.map a.eval)) (by simp [execOp,ho,Instr.makeFunc]) (hc.same hs hw ?_)
 have e:(cap.toList.map a.eval).toArray=cap.map a.eval:=by
  apply Array.ext'
  simp
 rw [e] at h1
 exact .fn _ _ _ _ _ rfl h1.1 (fun j v x hj=>by simp at hj) h1.2
end
open Go
def fX (E:Env) (w:World) (b o:Nat) (cs:List V):Prop:=
 ∀ j v,cs[j]? =some v->∃ x,bI w b (o+j)=some x/\Rel E v x/\x.oneCell'=true
theorem eT.one {I:zA} {v:V} {x:Value} (h:eT I v x):x.oneCell'=true:=by cases h<;>rfl
theorem fX.mono {E F:Env} (h:E.Le F) {w:World} {b o:Nat} {cs:List V} (hc:fX E w b o cs):fX F w b o cs:=
 fun j v hj=>let ⟨x,a,c,d⟩:=hc j v hj;⟨x,a,c.mono h,d⟩
theorem fX.sub {E:Env} {w:World} {b o:Nat} {cs:List V} (hc:fX E w b o cs) (off n:Nat):fX E w b (o+off) ((cs.drop off).take n):=by
 intro j v hj
 rw [List.getElem?_take] at hj
 split at hj
 · rw [List.getElem?_drop] at hj
   rw [Nat.add_assoc]
   exact hc _ v hj
 · cases hj
theorem gR.zE {z:Nat} {E:Env} {w:World} {L:Loc} {cs:List V} (h:gR z E w L cs):fX E w L.bL L.base cs:=by
 obtain ⟨cells,t,fz,h1,_,_,_,h5⟩:=h
 intro j v hj
 obtain ⟨x,hx,hr,ho⟩:=h5 j v hj
 exact ⟨x,by simp [bI,h1,hx],hr,ho⟩
theorem b9.Up {E:Env} {st:St} {w:World} (h:b9 E st w) {cs:List V} {b o:Nat} {val:Nat->Value} (hv:∀ j d,cs[j]? =some d->E.I b (o+j)=some (val j))
 (hr:∀ j d,cs[j]? =some d->eT E.I d (val j)):fX E w b o cs:=
 fun j v hj=>⟨val j,h.jL _ _ _ (hv j v hj),.deep (hr j v hj),(hr j v hj).one⟩
theorem fX.list {E:Env} {w:World} {b:Nat}:∀ {cs:List V} {o:Nat},fX E w b o cs->
 ∃ xs:List Value,xs.length=cs.length/\w.rangeAt b o xs/\eI E cs xs.toArray/\∀ x∈xs,x.oneCell'=true:=by
 intro cs
 induction cs with
 |nil=>exact fun _=>⟨[],rfl,fun j v hj=>by simp at hj,⟨rfl,fun j v x hj=>by simp at hj⟩,fun x hx=>by simp at hx⟩
 |cons v r ih=>
  intro o h
  obtain ⟨x,hx,hr,ho⟩:=h 0 v rfl
  obtain ⟨xs,h1,h2,h3,h4⟩:=ih (o:=o+1) (fun j u hj=>by
   have:=h (j+1) u (by simpa using hj)
   rw [show o+1+j=o+(j+1) by omega];exact this)
  refine ⟨x::xs,by simp [h1],?_,⟨by simp [h1],?_⟩,?_⟩
  · intro j u hj
    cases j with
    |zero=>
     simp at hj
     subst hj
     rw [kW];exact hx
    |succ j=>
     have:=h2 j u (by simpa using hj)
     rw [show o+(j+1)=o+1+j by omega];exact this
  · intro j u y hj hy
    cases j with
    |zero=>
     simp at hj hy
     subst hj;subst hy;exact hr
    |succ j=>exact h3.2 j u y (by simpa using hj) (by simpa using hy)
  · intro y hy
    cases hy with
    |head=>exact ho
    |tail _ hy=>exact h4 y hy
theorem tV {P:Program} {E:Env} {w:World} {t:TypeId} {n:Option Nat} (hn:tU P t n=true) {b o:Nat} {cs:List V} (h:fX E w b o cs) {off:Nat} {v:V}
 (hv:dL cs off n=some v):∃ x,(loadVar t ⟨b,o+off,none⟩).run P w=.ok x w/\Rel E v x:=by
 unfold tU at hn
 split at hn
 · rename_i d hd
   obtain ⟨x,hx,hr,_⟩:=h off v hv
   refine ⟨x,?_,hr⟩
   have hf:d.isRow=false:=by simpa using hn
   have hc:w.cell? ⟨b,o+off,none⟩=some x:=by rw [kW];exact hx
   simp [loadVar,AP hd,hf,load,Sem.run,hc]
 · rename_i k d hd
   simp only [Bool.and_eq_true,beq_iff_eq] at hn
   obtain ⟨hl,rfl⟩:=By hv
   obtain ⟨xs,h1,h2,h3,h4⟩:=(h.sub off k).list
   have hk:xs.length=k:=by rw [h1];simp;omega
   refine ⟨.agg xs.toArray,run_loadVar_mid w b (o+off) t xs d h2 hd hn.1 (by rw [hn.2,hk]),.agg _ _ h3.1 ?_ h3.2⟩
   intro j x hx
   exact h4 x (List.mem_of_getElem? (i:=j) (by simpa using hx))
 · cases hn
def qW:Array Value->Nat->List Value->Array Value
 |c,_,[]=>c
 |c,o,v::r=>qW (c.setIfInBounds o v) (o+1) r
theorem iX:∀ (vs:List Value) (c:Array Value) (o:Nat),(qW c o vs).size=c.size
 |[],_,_=>rfl
 |v::r,c,o=>by rw [qW,iX r];simp
theorem lY:∀ (vs:List Value) (c:Array Value) (o j:Nat),o+vs.length<=c.size->
 (qW c o vs)[j]? =if o<=j/\j<o+vs.length then vs[j - o]? else c[j]?
 |[],c,o,j,_=>by simp [qW];omega
 |v::r,c,o,j,h=>by
  simp only [List.length_cons] at h
  rw [qW,lY r _ _ _ (by simp;omega)]
  by_cases h1:j=o
  · subst h1
    rw [if_neg (by omega),if_pos (by simp)]
    simp [show j<c.size by omega]
  · by_cases h2:o+1<=j/\j<o+1+r.length
    · rw [if_pos h2,if_pos (by simp;omega)]
      rw [show j - o=(j - (o+1))+1 by omega]
      simp
    · rw [if_neg h2,if_neg (by simp;omega)]
      rw [Array.getElem?_setIfInBounds_ne (fun e=>h1 e.symm)]
theorem iY:∀ (vs cs:List V) (o:Nat),(dI cs o vs).length=cs.length
 |[],_,_=>rfl
 |v::r,c,o=>by rw [dI,iY r];simp
theorem iZ:∀ (vs cs:List V) (o j:Nat),o+vs.length<=cs.length->
 (dI cs o vs)[j]? =if o<=j/\j<o+vs.length then vs[j - o]? else cs[j]?
 |[],c,o,j,_=>by simp [dI];omega
 |v::r,c,o,j,h=>by
  simp only [List.length_cons] at h
  rw [dI,iZ r _ _ _ (by simp;omega)]
  by_cases h1:j=o
  · subst h1
    rw [if_neg (by omega),if_pos (by simp)]
    simp [show j<c.length by omega]
  · by_cases h2:o+1<=j/\j<o+1+r.length
    · rw [if_pos h2,if_pos (by simp;omega)]
      rw [show j - o=(j - (o+1))+1 by omega]
      simp
    · rw [if_neg h2,if_neg (by simp;omega)]
      rw [List.getElem?_set_ne (fun e=>h1 e.symm)]
theorem j7 (b:Nat):∀ (vs:List Value) (o:Nat) (w:World) {c:Array Value} {t:TypeId} {fz:Nat×Nat},w.heap[b]? =some (.cells c t fz)->
 (w.setCells b o vs).heap[b]? =some (.cells (qW c o vs) t fz)
 |[],_,_,_,_,_,h=>h
 |v::r,o,w,c,t,fz,h=>by
  refine j7 b r (o+1) _ ?_
  simp only [World.setCell,Array.getElem?_modify,h,if_true,Option.map_some]
  rfl
theorem kY (b:Nat) {k:Nat} (hk:k≠b):∀ (vs:List Value) (o:Nat) (w:World),(w.setCells b o vs).heap[k]? =w.heap[k]?
 |[],_,_=>rfl
 |v::r,o,w=>by
  rw [World.setCells,kY b hk r]
  simp only [World.setCell,Array.getElem?_modify]
  rw [if_neg (by omega)]
theorem mM (b:Nat):∀ (vs:List Value) (o:Nat) (w:World),(w.setCells b o vs).heap.size=w.heap.size/\(w.setCells b o vs).os=w.os/\(w.setCells b o vs).output=w.output/\(w.setCells b o vs).tape=w.tape
 |[],_,_=>⟨rfl,rfl,rfl,rfl⟩
 |v::r,o,w=>by
  obtain ⟨h1,h2,h3,h4⟩:=mM b r (o+1) (w.setCell ⟨b,o,none⟩ v)
  exact ⟨h1.trans (by simp [World.setCell]),h2,h3,h4⟩
theorem Fz.free {z:Nat} {w:World} {b:Nat} {c:Array Value} {t:TypeId} {fz:Nat×Nat} (hb:w.heap[b]? =some (.cells c t fz)) (hf:sC z fz c.size) {j:Nat} (hj:j<c.size):w.frozen? ⟨b,j,none⟩=false:=by
 obtain ⟨lo,hi⟩:=fz
 simp only [World.frozen?,hb,Bool.and_eq_false_iff,decide_eq_false_iff_not]
 rcases hf with h|h
 · simp only at h;omega
 · simp only at h;omega
theorem Row.there {z:Nat} {w:World} {b:Nat} {c:Array Value} {t:TypeId} {fz:Nat×Nat} (hb:w.heap[b]? =some (.cells c t fz)) (hf:sC z fz c.size) {o n:Nat} (hn:o+n<=c.size):w.there b o n:=by
 intro j hj
 refine ⟨?_,Fz.free hb hf (by omega)⟩
 rw [kW]
 simp only [bI,hb]
 simp [show o+j<c.size by omega]
theorem b9.write {E:Env} {st:St} {w:World} (h:b9 E st w) {k:Key} {o0:Obj} (hk:st.get k=some o0) {cells:Array Value} {t:TypeId} {fz:Nat×Nat}
 (hb:w.heap[(E.μ k).bL]? =some (.cells cells t fz)) (xY:(E.μ k).fin<=cells.size) {pos:Nat} {xs:List Value} (h1:(E.μ k).base<=pos) (h2:pos+xs.length<=(E.μ k).fin) (o':Obj)
 (Uo:Holds (E.at k) (w.setCells (E.μ k).bL pos xs) (E.μ k) o'):
 b9 E (st.set k o') (w.setCells (E.μ k).bL pos xs)/\Ext E st w E (st.set k o') (w.setCells (E.μ k).bL pos xs):=by
 obtain ⟨r1,r2,r3,r4⟩:=mM (E.μ k).bL xs pos w
 refine h.set hk o' r1 (fun b dM=>kY _ dM _ _ _) r2 r3 r4 ?_ Uo
 intro j x hx
 have hI:=h.jL _ _ _ hx
 simp only [bI,hb,j7 _ xs pos w hb] at hI ⊢
 rw [lY _ _ _ _ (by omega)]
 by_cases eB:pos<=j/\j<pos+xs.length
 · have:=h.own k ⟨o0,hk⟩ j (by omega) (by omega)
   rw [this] at hx;cases hx
 · rw [if_neg eB];exact hI
theorem gR.written {z:Nat} {E:Env} {w:World} {L:Loc} {cs:List V} {cells:Array Value} {t:TypeId} {fz:Nat×Nat} (hb:w.heap[L.bL]? =some (.cells cells t fz)) (hf:sC z fz cells.size)
 (h1:L.base+cs.length<=L.fin) (h2:L.fin<=cells.size) (h3:∀ j v,cs[j]? =some v->∃ x,cells[L.base+j]? =some x/\Rel E v x/\x.oneCell'=true)
 {off:Nat} {vs:List V} {xs:List Value} (hr:eI E vs xs.toArray) (ho:∀ x∈xs,x.oneCell'=true) (eB:off+vs.length<=cs.length):
 gR z E (w.setCells L.bL (L.base+off) xs) L (dI cs off vs):=by
 have hl:xs.length=vs.length:=by simpa using hr.1
 refine ⟨_,t,fz,j7 _ xs _ w hb,by rw [iX];exact hf,by rw [iY];exact h1,by rw [iX];exact h2,?_⟩
 intro j v hj
 rw [iZ _ _ _ _ eB] at hj
 rw [lY _ _ _ _ (by omega)]
 by_cases hc:off<=j/\j<off+vs.length
 · rw [if_pos hc] at hj
   rw [if_pos (by omega)]
   obtain ⟨x,hx,vM⟩:=hr.get hj
   rw [show L.base+j - (L.base+off)=j - off by omega]
   exact ⟨x,by simpa using hx,vM,ho x (List.mem_of_getElem? (i:=j - off) (by simpa using hx))⟩
 · rw [if_neg hc] at hj
   rw [if_neg (by omega)]
   exact h3 j v hj
section
variable {P:Program} {o:Oper} {a:Act} {E:Env} {N:Nat} {st:St} {w:World} {fr:Fr} {next:Act->World->Prop} {Q:Exit->Act->World->Prop} {K:R->Prop}
theorem b9.cs {k:Key} {c:List V} (hs:b9 E st w) (hk:st.get k=some (.cs c)):gR 1 (E.at k) w (E.μ k) c:=(hs.obj k _ hk).2
theorem b9.C5 {k:Key} {c:List V} (hs:b9 E st w) (hk:st.get k=some (.cs c)):(E.μ k).base=0:=(hs.obj k _ hk).1
theorem oT {sz:Nat}:∀ {es:List (List V)},(∀ e∈es,e.length=sz)->∀ {ix j:Nat} {e:List V},es[ix]? =some e->j<sz->es.flatten[ix*sz+j]? =e[j]? :=by
 intro es
 induction es with
 |nil=>intro _ ix j e h;simp at h
 |cons d r ih=>
  intro hl ix j e h hj
  have hd:d.length=sz:=hl d (.head _)
  rw [List.flatten_cons]
  cases ix with
  |zero=>
   simp at h
   subst h
   rw [Nat.zero_mul,Nat.zero_add,List.getElem?_append_left (by omega)]
  |succ ix=>
   rw [List.getElem?_append_right (by rw [hd,Nat.succ_mul];omega),hd]
   rw [show (ix+1)*sz+j - sz=ix*sz+j by rw [Nat.succ_mul];omega]
   exact ih (fun e he=>hl e (.tail _ he)) (by simpa using h) hj
theorem cU {sz:Nat}:∀ {es:List (List V)},(∀ e∈es,e.length=sz)->es.flatten.length=es.length*sz:=by
 intro es
 induction es with
 |nil=>intro _;simp
 |cons d r ih=>
  intro hl
  rw [List.flatten_cons,List.length_append,ih (fun e he=>hl e (.tail _ he)),hl d (.head _),List.length_cons,Nat.succ_mul]
  omega
theorem lZ {sz:Nat}:∀ {es:List (List V)},(∀ e∈es,e.length=sz)->∀ n,(es.take n).flatten=es.flatten.take (n*sz):=by
 intro es
 induction es with
 |nil=>intro _ n;simp
 |cons d r ih=>
  intro hl n
  have hd:d.length=sz:=hl d (.head _)
  cases n with
  |zero=>simp
  |succ n=>
   rw [List.take_succ_cons,List.flatten_cons,List.flatten_cons,ih (fun e he=>hl e (.tail _ he)),List.take_append,hd,Nat.succ_mul]
   rw [List.take_of_length_le (l:=d) (by omega),show n*sz+sz - sz=n*sz by omega]
theorem mA {sz:Nat}:∀ {es:List (List V)},(∀ e∈es,e.length=sz)->∀ n,(es.drop n).flatten=es.flatten.drop (n*sz):=by
 intro es
 induction es with
 |nil=>intro _ n;simp
 |cons d r ih=>
  intro hl n
  have hd:d.length=sz:=hl d (.head _)
  cases n with
  |zero=>simp
  |succ n=>
   rw [List.drop_succ_cons,List.flatten_cons,ih (fun e he=>hl e (.tail _ he)),List.drop_append,hd,Nat.succ_mul]
   have h0:d.drop (n*sz+sz)=[]:=List.drop_eq_nil_of_le (by omega)
   rw [h0,List.nil_append,show n*sz+sz - sz=n*sz by omega]
theorem elem_at {w:World} {b base sz:Nat} {es:List (List V)} (hl:∀ e∈es,e.length=sz) (h:fX E w b base es.flatten) {ix:Nat} {e:List V} (he:es[ix]? =some e):
 fX E w b (base+ix*sz) e:=by
 intro j v hj
 have Kb:j<sz:=by
  have:=(List.getElem?_eq_some_iff.1 hj).1
  rw [hl e (List.mem_of_getElem? he)] at this;exact this
 rw [Nat.add_assoc]
 exact h _ v (by rw [oT hl he Kb];exact hj)
theorem Nq {t:TypeId} {x:Operand} {d:bH} {n:Option Nat} (ho:o.op=.load t x) (hx:dY x d=true) (hn:tU P t n=true) (hs:b9 E st w) (hf:aY E N fr a)
 (hw:(step (.load n d) fr st).wp (aB P) K) (hc:fG E st w o a next K):o.wp P a w next Q:=by
 have h1:=bA hx hf
 have fin:∀ {b c:Nat} {cs:List V} {off:Nat} {v:V},a.eval x=.pointer (some ⟨b,c+off,none⟩)->fX E w b c cs->dL cs off n=some v->K (v,st)->o.wp P a w next Q:=by
  intro b c cs off v hp xZ hv hk
  obtain ⟨z,FD,H0⟩:=tV (P:=P) hn xZ hv
  exact aT (x:=z) (by simp [execOp,ho,hp,Instr.loadAt,Instr.sureAddr,FD]) (hc.same hs hk H0)
 simp only [step] at hw
 split at hw
 · rename_i k off e1
   rw [e1] at h1
   generalize hy:a.eval x=y at h1
   cases h1 with
   |deep hd=>cases hd
   |p _ _ hk=>
    obtain ⟨ob,eC,hw⟩:=hw
    dsimp only at hw
    split at hw
    · rename_i c
      unfold T.opt at hw
      split at hw
      · rename_i v hv
        exact fin hy ((hs.cs eC).zE.mono (E.C0 k)) hv hw
      · exact hw.elim
    · exact hw.elim
 · rename_i k sz ix off e1
   rw [e1] at h1
   generalize hy:a.eval x=y at h1
   cases h1 with
   |deep hd=>cases hd
   |pa _ _ _ _ hk=>
    obtain ⟨ob,eC,hw⟩:=hw
    dsimp only at hw
    split at hw
    · rename_i dS es
      split at hw
      · rename_i hz
        subst hz
        obtain ⟨e,he,hw⟩:=hw
        dsimp only at hw
        unfold T.opt at hw
        split at hw
        · rename_i v hv
          have dH:=hs.obj k _ eC
          have:=elem_at dH.1 (dH.2.zE.mono (E.C0 k)) he
          exact fin hy this hv hw
        · exact hw.elim
      · exact hw.elim
    · exact hw.elim
 · rename_i cs off e1
   rw [e1] at h1
   generalize hy:a.eval x=y at h1
   cases h1 with
   |deep hd=>cases hd
   |pc _ _ bL c0 val hv hr=>
    unfold T.opt at hw
    split at hw
    · rename_i v Vr
      exact fin hy (hs.Up hv hr) Vr hw
    · exact hw.elim
 · exact hw.elim
end
open Go
section
variable {P:Program} {o:Oper} {a:Act} {E:Env} {N:Nat} {st:St} {w:World} {fr:Fr} {next:Act->World->Prop} {Q:Exit->Act->World->Prop} {K:R->Prop}
theorem AQ {v:V} {x:Value} (hs:v.Uj=true) (hr:Rel E v x):eI E v.cells x.cells/\∀ y∈x.cells.toList,y.oneCell'=true:=by
 cases hr with
 |agg cs b hb h1 Vq=>
  refine ⟨⟨hb,Vq⟩,fun y hy=>?_⟩
  obtain ⟨j,hj⟩:=List.getElem?_of_mem hy
  have Kb:b.toList[j]? =some y:=hj
  rw [Array.getElem?_toList] at Kb
  exact h1 j y Kb
 |fK=>cases hs
 |bY=>cases hs
 |pc=>cases hs
 |deep hd=>
  have h1:=hd.one
  have hc:x.cells=#[x]:=by cases x<;>first|rfl|(simp [Value.oneCell'] at h1)
  have hv:v.cells=[v]:=by cases hd<;>rfl
  rw [hc,hv]
  refine ⟨⟨rfl,fun j u y hj hy=>?_⟩,fun y hy=>by simp at hy;subst hy;exact h1⟩
  cases j with
  |zero=>simp at hj hy;subst hj;subst hy;exact .deep hd
  |succ j=>simp at hj
 |kE=>exact ⟨⟨rfl,fun j u y hj hy=>by cases j<;>simp [V.cells,Value.cells] at hj hy;subst hj;subst hy;exact .kE⟩,fun y hy=>by simp [Value.cells] at hy;subst hy;rfl⟩
 |p k off hk=>exact ⟨⟨rfl,fun j u y hj hy=>by cases j<;>simp [V.cells,Value.cells] at hj hy;subst hj;subst hy;exact .p _ _ hk⟩,fun y hy=>by simp [Value.cells] at hy;subst hy;rfl⟩
 |pa k sz ix off hk=>exact ⟨⟨rfl,fun j u y hj hy=>by cases j<;>simp [V.cells,Value.cells] at hj hy;subst hj;subst hy;exact .pa _ _ _ _ hk⟩,fun y hy=>by simp [Value.cells] at hy;subst hy;rfl⟩
 |EW k sz es a cap hk hd GN yX=>exact ⟨⟨rfl,fun j u y hj hy=>by cases j<;>simp [V.cells,Value.cells] at hj hy;subst hj;subst hy;exact .EW _ _ _ _ _ hk hd GN yX⟩,fun y hy=>by simp [Value.cells] at hy;subst hy;rfl⟩
 |ms k sz st len a cap hk h1 h2 h4 h3=>exact ⟨⟨rfl,fun j u y hj hy=>by cases j<;>simp [V.cells,Value.cells] at hj hy;subst hj;subst hy;exact .ms _ _ _ _ _ _ hk h1 h2 h4 h3⟩,fun y hy=>by simp [Value.cells] at hy;subst hy;rfl⟩
 |gC=>exact ⟨⟨rfl,fun j u y hj hy=>by cases j<;>simp [V.cells,Value.cells] at hj hy;subst hj;subst hy;exact .gC⟩,fun y hy=>by simp [Value.cells] at hy;subst hy;rfl⟩
 |m k hk=>exact ⟨⟨rfl,fun j u y hj hy=>by cases j<;>simp [V.cells,Value.cells] at hj hy;subst hj;subst hy;exact .m _ hk⟩,fun y hy=>by simp [Value.cells] at hy;subst hy;rfl⟩
 |fn f p q p' q' h1 h2 h3 h4=>exact ⟨⟨rfl,fun j u y hj hy=>by cases j<;>simp [V.cells,Value.cells] at hj hy;subst hj;subst hy;exact .fn _ _ _ _ _ h1 h2 h3 h4⟩,fun y hy=>by simp [Value.cells] at hy;subst hy;rfl⟩
 |kG=>exact ⟨⟨rfl,fun j u y hj hy=>by cases j<;>simp [V.cells,Value.cells] at hj hy;subst hj;subst hy;exact .kG⟩,fun y hy=>by simp [Value.cells] at hy;subst hy;rfl⟩
def Env.H2 (E:Env) (g:Bool):Env:=
 match g with
 |true=>E.cut
 |false=>E
theorem tW {g:Bool} {l l':List V} {xs:Array Value} (h:sA g l=some l') (hr:eI E l xs):eI (E.H2 g) l' xs:=by
 cases g with
 |true=>exact C3 h hr
 |false=>simp only [sA,Option.some.injEq] at h;subst h;exact hr
theorem Env.x6 (E:Env) (k:Key):E.at k=E.H2 k.qK:=by cases k<;>rfl
theorem Cb {t:TypeId} {x:Value} {b c:Nat} (hi:(P.info? t).map (·.size)=some x.cells.size) (ht:w.there b c x.cells.size) (h1:∀ y∈x.cells.toList,y.oneCell'=true):
 (storeVar t ⟨b,c,none⟩ x).run P w=.ok () (w.setCells b c x.cells.toList):=by
 have:=run_storeCells_cells (P:=P) b c x.cells.toList 0 w (fun j hj=>by simpa using (ht j (by simpa using hj)).1) (fun j hj=>by simpa using (ht j (by simpa using hj)).2) h1
 cases hq:P.info? t with
 |none=>simp [hq] at hi
 |some i=>
  have hs:x.cells.size=i.size:=by simp [hq] at hi;omega
  simp only [Nat.add_zero] at this
  simp [storeVar,sizeOf,typeInfo,hq,hs,this]
theorem Ie {sz:Nat}:∀ {es:List (List V)},(∀ e∈es,e.length=sz)->∀ {ix:Nat} {e:List V},es[ix]? =some e->∀ (off:Nat) (vs:List V),off+vs.length<=sz->
 (es.set ix (dI e off vs)).flatten=dI es.flatten (ix*sz+off) vs:=by
 intro es hl ix e he off vs eB
 have cL:ix<es.length:=(List.getElem?_eq_some_iff.1 he).1
 have hle:e.length=sz:=hl e (List.mem_of_getElem? he)
 have wZ:∀ d∈es.set ix (dI e off vs),d.length=sz:=by
  intro d hd
  rcases List.mem_or_eq_of_mem_set hd with h|h
  · exact hl d h
  · rw [h,iY];exact hle
 have hmul:(ix+1)*sz<=es.length*sz:=Nat.mul_le_mul_right _ cL
 rw [Nat.succ_mul] at hmul
 apply List.ext_getElem?
 intro j
 have Yc:=cU wZ
 have Uq:=cU hl
 rw [iZ _ _ _ _ (by rw [Uq];omega)]
 by_cases hj:j<es.length*sz
 · have kD:0<sz:=by
    rcases Nat.eq_zero_or_pos sz with h|h
    · subst h;simp at hj
    · exact h
   have hd:j=j/sz*sz+j%sz:=by rw [Nat.mul_comm];exact (Nat.div_add_mod j sz).symm
   have hm:j%sz<sz:=Nat.mod_lt _ kD
   have hq:j/sz<es.length:=(Nat.div_lt_iff_lt_mul kD).2 hj
   generalize j/sz=q at hd hq
   generalize j%sz=m at hd hm
   subst hd
   obtain ⟨d,hdq⟩:∃ d,es[q]? =some d:=⟨es[q],by simp [hq]⟩
   rw [oT hl hdq hm]
   by_cases hqi:q=ix
   · subst hqi
     rw [he] at hdq
     cases hdq
     rw [oT wZ (e:=dI e off vs) (by simp [hq]) hm,iZ _ _ _ _ (by omega)]
     by_cases hc:off<=m/\m<off+vs.length
     · rw [if_pos hc,if_pos (by omega)]
       congr 1;omega
     · rw [if_neg hc,if_neg (by omega)]
   · rw [oT wZ (e:=d) (by rw [List.getElem?_set_ne (fun e=>hqi e.symm)];exact hdq) hm]
     rw [if_neg]
     rintro ⟨h1,h2⟩
     have:q=ix:=by
      rcases Nat.lt_trichotomy q ix with h|h|h
      · have:(q+1)*sz<=ix*sz:=Nat.mul_le_mul_right _ h
        rw [Nat.succ_mul] at this;omega
      · exact h
      · have:(ix+1)*sz<=q*sz:=Nat.mul_le_mul_right _ h
        rw [Nat.succ_mul] at this;omega
     exact hqi this
 · rw [List.getElem?_eq_none (by rw [Yc];simp;omega),if_neg (by omega),List.getElem?_eq_none (by rw [Uq];omega)]
theorem Ku {t:TypeId} {x y:Operand} {d e:bH} {n:Nat} (ho:o.op=.store t x y) (hx:dY x d=true) (hy:dY y e=true) (hn:(P.info? t).map (·.size)=some n)
 (hs:b9 E st w) (hf:aY E N fr a) (hw:(step (.store n d e) fr st).wp (aB P) K) (hc:fG E st w o a next K):o.wp P a w next Q:=by
 have h1:=bA hx hf
 have h2:=bA hy hf
 simp only [step] at hw
 split at hw
 case isFalse=>exact hw.elim
 rename_i vO
 obtain ⟨Vs,hlen⟩:=vO
 obtain ⟨nC,iD⟩:=AQ Vs h2
 have kD:(a.eval y).cells.size=n:=by rw [nC.1];exact hlen
 have dW:∀ {b c:Nat},a.eval x=.pointer (some ⟨b,c,none⟩)->w.there b c (a.eval y).cells.size->(execOp a.eval o).run P w=.ok .skip (w.setCells b c (a.eval y).cells.toList):=by
  intro b c hp ht
  have:=Cb (P:=P) (t:=t) (x:=a.eval y) (by rw [hn,kD]) ht iD
  simp [execOp,ho,hp,Instr.storeAt,Instr.sureAddr,this]
 have Pt:Rel E (.bY []) undef:=.bY _ _ rfl (fun j v x hj=>by simp at hj)
 split at hw
 · rename_i k off e1
   rw [e1] at h1
   generalize hp:a.eval x=z at h1
   cases h1 with
   |deep hd=>cases hd
   |p _ _ hk=>
    unfold T.opt at hw
    split at hw
    case h_2=>exact hw.elim
    rename_i vs Vt
    obtain ⟨ob,eC,hw⟩:=hw
    dsimp only at hw
    split at hw
    case h_2=>exact hw.elim
    rename_i c
    split at hw
    case h_2=>exact hw.elim
    rename_i Cc
    have Cc:off+vs.length<=c.length:=by simpa [oH] using Cc
    have wN:=tW Vt nC
    rw [<-Env.x6] at wN
    obtain ⟨cells,ty,fz,r1,r2,r3,r4,r5⟩:=hs.cs eC
    have H3:(a.eval y).cells.size=vs.length:=wN.1
    have dH:=gR.written r1 r2 r3 r4 r5 (vs:=vs) (xs:=(a.eval y).cells.toList) wN iD Cc
    obtain ⟨s1,s2⟩:=hs.write eC r1 r4 (pos:=(E.μ k).base+off) (xs:=(a.eval y).cells.toList) (by omega) (by simp [H3];omega) (.cs (dI c off vs)) ⟨hs.C5 eC,dH⟩
    exact GM (dW hp (Row.there r1 r2 (by rw [H3];omega))) (hc _ _ _ _ _ hw s1 s2 Pt)
 · rename_i k sz ix off e1
   rw [e1] at h1
   generalize hp:a.eval x=z at h1
   cases h1 with
   |deep hd=>cases hd
   |pa _ _ _ _ hk=>
    unfold T.opt at hw
    split at hw
    case h_2=>exact hw.elim
    rename_i vs Vt
    obtain ⟨ob,eC,hw⟩:=hw
    dsimp only at hw
    split at hw
    case h_2=>exact hw.elim
    rename_i dS es
    split at hw
    case isFalse=>exact hw.elim
    rename_i hz
    subst hz
    obtain ⟨el,mN,hw⟩:=hw
    dsimp only at hw
    split at hw
    case h_2=>exact hw.elim
    rename_i Cc
    have Cc:off+vs.length<=el.length:=by simpa [oH] using Cc
    have wN:=tW Vt nC
    rw [<-Env.x6] at wN
    have Nr:=hs.obj k _ eC
    obtain ⟨hl,Yd⟩:=Nr
    obtain ⟨cells,ty,fz,r1,r2,r3,r4,r5⟩:=Yd
    have H3:(a.eval y).cells.size=vs.length:=wN.1
    have acW:el.length=dS:=hl el (List.mem_of_getElem? mN)
    have cL:ix<es.length:=(List.getElem?_eq_some_iff.1 mN).1
    have hmul:(ix+1)*dS<=es.length*dS:=Nat.mul_le_mul_right _ cL
    rw [Nat.succ_mul] at hmul
    have vL:=cU hl
    have Kv:=Ie hl mN off vs (by omega)
    have dH:=gR.written r1 r2 r3 r4 r5 (off:=ix*dS+off) (vs:=vs) (xs:=(a.eval y).cells.toList) wN iD (by omega)
    rw [<-Kv,<-Nat.add_assoc] at dH
    have wZ:∀ d∈es.set ix (dI el off vs),d.length=dS:=by
     intro d hd
     rcases List.mem_or_eq_of_mem_set hd with h|h
     · exact hl d h
     · rw [h,iY];exact acW
    obtain ⟨s1,s2⟩:=hs.write eC r1 r4 (pos:=(E.μ k).base+ix*dS+off) (xs:=(a.eval y).cells.toList) (by omega) (by simp [H3];omega) (.arr dS (es.set ix (dI el off vs))) ⟨wZ,dH⟩
    exact GM (dW hp (Row.there r1 r2 (by rw [H3];omega))) (hc _ _ _ _ _ hw s1 s2 Pt)
 · exact hw.elim
end
end Go.Eng
