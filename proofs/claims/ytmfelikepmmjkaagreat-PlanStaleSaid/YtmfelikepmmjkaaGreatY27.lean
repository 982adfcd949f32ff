/-
The reader: names.
-/
import Derived.Test.YtmfelikepmmjkaaGreatY26
import Derived.Test.YtmfelikepmmjkaaGreatY23
set_option linter.unusedVariables false
set_option linter.unusedSimpArgs false
set_option maxHeartbeats 8000000
namespace Go.Eng
open Go
def fR (s:aU):Prop:=s.length<=12/\∀ c∈s,0<eA c.toNat
def lL (s:aU):List Int:=s.map fun c=>(c.toNat:Int)
theorem Gh:∀ s:aU,bytesOf ((lL s).map gH)=some s
 |[]=>rfl
 |c::r=>by
  have h:=Gh r
  show bytesOf ([V.i .u8 (c.toNat:Int)]::(lL r).map gH)=_
  simp only [bytesOf,h]
  simp
section
variable {P:Program} (hG:bN P AF.fns.get)
include hG
def Gi (l r:List Int) (i:Nat):Prop:=r.length=l.length/\∀ j,j<l.length->r[j]? =if j<i\/l.length<=j+i then l[l.length - 1 - j]? else l[j]?
omit hG in
theorem Gi.step {l r:List Int} {i:Nat} (h:Gi l r i) (hi:2*i+1<l.length) {x y:Int} (hx:l[i]? =some x) (hy:l[l.length - 1 - i]? =some y):Gi l ((r.set i y).set (l.length - 1 - i) x) (i+1):=by
 obtain ⟨h1,h2⟩:=h
 refine ⟨by simp [h1],fun j hj=>?_⟩
 rw [List.getElem?_set,List.getElem?_set]
 by_cases c1:l.length - 1 - i=j
 · rw [if_pos c1,if_pos (by simp [h1];omega),if_pos (by omega),<-c1,show l.length - 1 - (l.length - 1 - i)=i by omega,hx]
 · rw [if_neg c1]
   by_cases c2:i=j
   · rw [if_pos c2,if_pos (by omega),if_pos (by omega),<-c2,hy]
   · rw [if_neg c2,h2 j hj]
     by_cases c3:j<i\/l.length<=j+i
     · rw [if_pos c3,if_pos (by omega)]
     · rw [if_neg c3,if_neg (by omega)]
omit hG in
theorem Gi.done {l r:List Int} {i:Nat} (h:Gi l r i) (hi:l.length<=2*i+1) (L8:2*i<=l.length):r=l.reverse:=by
 obtain ⟨h1,h2⟩:=h
 apply List.ext_getElem?
 intro j
 by_cases hj:j<l.length
 · rw [h2 j hj,List.getElem?_reverse (by omega)]
   by_cases c:j<i\/l.length<=j+i
   · rw [if_pos c]
   · rw [if_neg c]
     congr 1;omega
 · rw [List.getElem?_eq_none (by omega),List.getElem?_eq_none (by simp;omega)]
theorem rev_at {h:aA} {c:Nat} {l:List Int} (hc:h.get c=some (.arr 1 (l.map gH))) (hl:l.length<=1000) {K:V->aA->Prop}
 (hK:∀ h',h'.get c=some (.arr 1 (l.reverse.map gH))->aA.aI (fun n=>n=c) h h'->K (.bY []) h'):aB P 220 [.ms (.g c) 1 0 l.length] h K:=by
 refine aN (hG _ AF.f220 rfl) rfl ?_
 (refine zr ?_)
 refine bV.by (fun q fr st=>∃ (i:Nat) (hh lc:aA) (r:List Int),2*i<=l.length/\q=l.length - i/\Gi l r i/\hh.get c=some (.arr 1 (r.map gH))/\aA.aI (fun n=>n=c) h hh/\
  Fr.le [(3,.i .i64 ((l.length:Int) - 1 - i)),(2,.i .i64 i),(0,.ms (.g c) 1 0 l.length)] fr/\st=⟨hh,lc⟩)
  l.length ⟨0,h,_,l,by omega,rfl,⟨rfl,fun j hj=>by rw [if_neg (by omega)]⟩,hc,.refl _ _,(by
   have:((l.length:Int) - 1 - ((0:Nat):Int))=(l.length:Int) - 1:=by omega
   rw [this];exact dK),rfl⟩ ?_
 rintro q fr st ⟨i,hh,lc,r,hi,rfl,Rq,hg,hk,dO,rfl⟩
 refine ⟨_,dO,fun R hR=>?_⟩
 have KA:=Rq.1
 have XP:(r.map gH).length=l.length:=by rw [List.length_map,KA]
 by_cases eB:(i:Int)<(l.length:Int) - 1 - i
 · have hj:l.length - 1 - i<l.length:=by omega
   have hx:=List.getElem?_eq_getElem (show i<l.length by omega)
   have hy:=List.getElem?_eq_getElem hj
   generalize l[i]=x at hx
   generalize l[l.length - 1 - i]=y at hy
   have vM:r[i]? =some x:=by rw [Rq.2 i (by omega),if_neg (by omega),hx]
   have Yt:r[l.length - 1 - i]? =some y:=by rw [Rq.2 _ hj,if_neg (by omega),hy]
   have gx:(r.map gH)[0+((i:Nat):Int).toNat]? =some [.i .u8 x]:=by rw [Nat.zero_add,Int.toNat_natCast,List.getElem?_map,vM];rfl
   have gy:(r.map gH)[0+((l.length:Int) - 1 - (i:Int)).toNat]? =some [.i .u8 y]:=by rw [Nat.zero_add,show ((l.length:Int) - 1 - (i:Int)).toNat=l.length - 1 - i by omega,List.getElem?_map,Yt];rfl
   have gy2:((r.map gH).set (0+((i:Nat):Int).toNat) [.i .u8 y])[0+((l.length:Int) - 1 - (i:Int)).toNat]? =some [.i .u8 y]:=by rw [List.getElem?_set_ne (by omega)];exact gy
   have xY:((r.map gH).set (0+((i:Nat):Int).toNat) [.i .u8 y]).set (0+((l.length:Int) - 1 - (i:Int)).toNat) [.i .u8 x]=((r.set i y).set (l.length - 1 - i) x).map gH:=by
    rw [Nat.zero_add,Nat.zero_add,Int.toNat_natCast,show ((l.length:Int) - 1 - (i:Int)).toNat=l.length - 1 - i by omega,List.map_set,List.map_set];rfl
   ((conv=>whnf);repeat ((first|refine aH.dt eB ?_|refine aK.ix (by omega) (by omega) ?_|refine aK.mk (decide_eq_true (by omega)) ?_|refine aQ.gS (by omega) (by omega) ?_|refine ye (hg) ?_|refine ye (gx) ?_|refine ye (gy) ?_|refine ye (gy2) ?_|refine ye (aA.aD hg) ?_|refine zz ?_)<;>(conv=>whnf)))
   exact hR (l.length - (i+1)) _ _ (by omega) ⟨i+1,_,_,(r.set i y).set (l.length - 1 - i) x,by omega,rfl,Rq.step (by omega) hx hy,(aA.aD (aA.aD hg)).trans (congrArg (fun x=>some (Obj.arr 1 x)) xY),
    aA.aI.set (b:=fun n=>n=c) (aA.aI.set (b:=fun n=>n=c) hk (.inl rfl) _) (.inl rfl) _,(by
     have e1:((l.length:Int) - 1 - ((i+1:Nat):Int))=(l.length:Int) - 1 - (i:Int) - 1:=by omega
     rw [e1];exact dK),rfl⟩
 · (refine cJ @eB ?_)
   exact hK hh (by rw [<-Rq.done (by omega) (by omega)];exact hg) hk
end
open Go
theorem MQ (R:List V) {d:Nat} (hd:d<=37) (x:Int) (hx:x=(d:Int)):dL (tv true++R) (0+0+259+x.toNat*1) none=some (.i .u8 (BO d:Nat)):=by
 subst hx
 show (tv true++R)[_]? =_
 rw [show 0+0+259+((d:Nat):Int).toNat*1=259+d by omega]
 rw [List.getElem?_append_left (by rw [nI];omega)]
 unfold tv nU
 rw [List.getElem?_append_right (by simp)]
 simp only [List.length_append,List.length_cons,List.length_nil,List.length_map,List.length_range]
 rw [show 259+d - (0+1+1+1+256)=d by omega]
 simp [wD,hd,show d<38 by omega]
def nJ (s:aU) (i:Nat):List Int:=lL (s.drop (12 - i)).reverse
theorem Om {s:aU} {i:Nat} (hi:i<12) {c:UInt8} (hc:s[11 - i]? =some c):nJ s (i+1)=nJ s i++[(c.toNat:Int)]:=by
 unfold nJ
 have h1:=(List.getElem?_eq_some_iff.1 hc)
 obtain ⟨h2,h3⟩:=h1
 rw [show 12 - (i+1)=11 - i by omega,List.drop_eq_getElem_cons h2,h3,show 11 - i+1=12 - i by omega]
 simp [lL]
theorem On {s:aU} {i:Nat} (hi:i<12) (hc:s.length<=11 - i):nJ s (i+1)=nJ s i:=by
 unfold nJ
 rw [List.drop_of_length_le (show s.length<=12 - (i+1) by omega),List.drop_of_length_le (show s.length<=12 - i by omega)]
def ZU (h:aA) (lo a:Nat) (bv:V) (acc:List Int):Prop:=(acc=[]/\bv=.aV)\/∃ c,bv=.ms (.g c) 1 0 acc.length/\lo<=c/\c≠a/\c<h.next/\h.get c=some (.arr 1 (acc.map gH))/\acc≠[]
theorem aA.aI.trans' {h hh h3:aA} {a c:Nat} (h1:aA.aI (fun n=>n=a) h hh) (h2:aA.aI (fun n=>n=c) hh h3) (hc:h.next<=c):aA.aI (fun n=>n=a) h h3:=
 (aA.aI.trans (b:=fun n=>n=a\/n=c) (h1.mono fun _ _ e=>.inl e) (h2.mono fun _ _ e=>.inr e)).mono fun n hn e=>by rcases e with e|e;exact e;omega
section
variable {P:Program} (hG:bN P AF.fns.get)
include hG
theorem MR {h:aA} {K:V->aA->Prop} (hK:K (.bY []) h):aB P 220 [.aV] h K:=by
 refine aN (hG _ AF.f220 rfl) rfl ?_
 ((conv=>whnf);repeat ((first|refine bV.un ?_|refine zz ?_)<;>(conv=>whnf)))
 exact hK
theorem rmake_at (fD:eD P 285) {h:aA} {a:Nat} {m:Bool} {B:List Int} (hr:iI h a m B) {K:V->aA->Prop}
 (hK:∀ h',iI h' a true B->aA.aI (fun n=>n=a) h h'->K (.bY []) h'):aB P 211 [.p (.g a) 0] h K:=
 tmake_at hG fD hr.1 hr.2 fun h' q1 q2=>hK h' ⟨Nat.lt_of_lt_of_le hr.1 q2.1,q1⟩ q2
theorem rname_at (fD:eD P 285) {h:aA} {a:Nat} {m:Bool} {s:aU} {B:List Int} (hr:iI h a m (bQ s++B)) (hs:fR s) (hl:B.length<=10000000) {K:V->aA->Prop}
 (hK:∀ h',iI h' a true B->aA.aI (fun n=>n=a) h h'->K (.s s) h'):aB P 128 [.p (.g a) 0] h K:=by
 have WE:=fun K hK=>rmake_at (K:=K) hG fD hr hK
 have nC:=JG s
 refine aN (hG _ AF.f128 rfl) rfl ?_
 (refine cJ @WE ?_)
 intro h1 r1 k1
 have Cg:=fun K hK=>rnumB_at (K:=K) (n:=Eo s) (size:=8) hG r1 (by omega) (by omega) (by omega) (by omega) hK
 (refine cJ @Cg ?_)
 intro h2 r2 k2
 (refine zx0 ?_)
 refine bV.by (fun q fr st=>∃ (i:Nat) (hh lc:aA) (bv:V),i<=12/\q=12 - i/\iI hh a true B/\aA.aI (fun n=>n=a) h hh/\ZU hh h.next a bv (nJ s i)/\
  Fr.le [(13,.i .i64 i),(4,bv),(3,.i .u64 (pM ((eN s).take (12 - i)):Nat)),(0,.p (.g a) 0)] fr/\st=⟨hh,lc⟩)
  12 ⟨0,h2,_,.aV,Nat.zero_le _,rfl,r2,k1.trans k2,.inl ⟨(by unfold nJ;rw [List.drop_of_length_le (by have:=hs.1;omega)];rfl),rfl⟩,(by
   rw [show (eN s).take (12 - 0)=eN s from List.take_of_length_le (by rw [qF];omega)];exact dK),rfl⟩ ?_
 rintro q fr st ⟨i,hh,lc,bv,hi,rfl,mQ,hk,hb,dO,rfl⟩
 refine ⟨_,dO,fun R hR=>?_⟩
 have Ar:(nJ s i).length<=12:=by unfold nJ lL;simp;have:=hs.1;omega
 by_cases eB:i<12
 · have kQ:=sS s (show 11 - i<12 by omega)
   rw [show 11 - i+1=12 - i by omega] at kQ
   have cL:=Bi s (show 11 - i<=12 by omega)
   have hp:=U8 (show 11 - i<=12 by omega)
   have ah9:pM ((eN s).take (12 - i))=pM ((eN s).take (11 - i))*38+gX s (11 - i):=by rw [kQ,sR]
   have YL:=El s (11 - i)
   generalize hA:pM ((eN s).take (12 - i))=A at*
   generalize hC:pM ((eN s).take (11 - i))=C at*
   have H6:((A:Nat):Int).tmod 38=(gX s (11 - i):Nat):=by rw [Int.tmod_eq_emod_of_nonneg (by omega)];omega
   have TS:((A:Nat):Int).tdiv 38=(C:Nat):=by rw [Int.tdiv_eq_ediv_of_nonneg (by omega)];omega
   have hC':pM ((eN s).take (12 - (i+1)))=C:=by rw [show 12 - (i+1)=11 - i by omega];exact hC
   obtain ⟨U7,Gf⟩:=mQ
   by_cases VB:11 - i<s.length
   · have hc:=List.getElem?_eq_getElem VB
     have Wx:=List.getElem_mem VB
     generalize s[11 - i]=c at hc Wx
     have Wu:=hs.2 c Wx
     have hd:gX s (11 - i)=eA c.toNat:=by unfold gX;rw [hc]
     have Cv:=yS c.toNat Wu
     have Fw:=Om (s:=s) eB hc
     rw [hd] at H6 YL
     rcases hb with ⟨wB,rfl⟩|⟨kc,rfl,XX,ZP,hkn,hkg,dM⟩
     · ((conv=>whnf);repeat ((first|refine aH.dt (show (i:Int)<12 by omega) ?_|refine aH.dt (show ((A:Nat):Int).tmod 38>0 by rw [H6];omega) ?_|refine aK.ix (by rw [H6];omega) (by rw [H6];omega) ?_|refine aZ.of (MQ _ YL _ H6) ?_|refine aQ.wu (by rw [TS];omega) (by rw [TS];omega) ?_|refine aQ.gS (by omega) (by omega) ?_|refine ye (Gf) ?_|refine ye (aA.aC _ _) ?_|refine zz ?_)<;>(conv=>whnf)))
       rw [TS]
       have dH:some (Obj.arr 1 [[V.i .u8 (BO (eA c.toNat):Nat)]])=some (.arr 1 ((nJ s (i+1)).map gH)):=by rw [Fw,wB,Cv];rfl
       exact hR (12 - (i+1)) _ _ (by omega) ⟨i+1,_,_,_,by omega,rfl,⟨Nat.lt_succ_of_lt (Nat.lt_succ_of_lt U7),aA.gp (by show a≠hh.next+1;omega) (aA.gp (by omega) Gf)⟩,.push (.push hk _) _,
        .inr ⟨hh.next+1,by first|(rw [Fw,wB];done)|(rw [Fw,wB];rfl),by have:=hk.1;omega,by omega,Nat.lt_succ_self _,(aA.aC _ _).trans dH,by rw [Fw];simp⟩,(by rw [hC'];exact dK),rfl⟩
     · have g3:∀ o,(hh.push o).get kc=some (.arr 1 ((nJ s i).map gH)):=fun o=>aA.gp (by omega) hkg
       have hm:((nJ s i).map gH).length=(nJ s i).length:=List.length_map _
       ((conv=>whnf);repeat ((first|refine aH.dt (show (i:Int)<12 by omega) ?_|refine aH.dt (show ((A:Nat):Int).tmod 38>0 by rw [H6];omega) ?_|refine aK.ix (by rw [H6];omega) (by rw [H6];omega) ?_|refine aZ.of (MQ _ YL _ H6) ?_|refine aQ.wu (by rw [TS];omega) (by rw [TS];omega) ?_|refine aQ.gS (by omega) (by omega) ?_|refine aK.mk (by simp only [bR];exact decide_eq_true (by simp;omega)) ?_|refine aK.mk (decide_eq_true (by rw [hm];omega)) ?_|refine aH.df (show ¬0+(nJ s i).length+1<=((nJ s i).map gH).length by rw [hm];omega) ?_|refine ye (Gf) ?_|refine ye (aA.aC _ _) ?_|refine ye (g3 _) ?_|refine zz ?_)<;>(conv=>whnf)))
       rw [TS]
       have dH:some (Obj.arr 1 (List.drop 0 (List.take (0+(nJ s i).length) ((nJ s i).map gH))++[[V.i .u8 (BO (eA c.toNat):Nat)]]))=some (.arr 1 ((nJ s (i+1)).map gH)):=by
        rw [List.take_of_length_le (by rw [hm];omega),Fw,Cv,List.map_append];rfl
       have yY:∀ o o2,aA.aI (fun n=>n=a) h (((hh.push o).remove kc).push o2):=fun o o2=>.push (aA.aI.remove (b:=fun n=>n=a) (.push hk _) (.inr XX)) _
       exact hR (12 - (i+1)) _ _ (by omega) ⟨i+1,_,_,_,by omega,rfl,⟨Nat.lt_succ_of_lt (Nat.lt_succ_of_lt U7),aA.gp (by show a≠hh.next+1;omega) (aA.gr (by omega) (aA.gp (by omega) Gf))⟩,yY _ _,
        .inr ⟨hh.next+1,by first|(rw [Fw,List.length_append];done)|(rw [Fw,List.length_append];rfl),by have:=hk.1;omega,by omega,Nat.lt_succ_self _,(aA.aC _ _).trans dH,by rw [Fw];simp⟩,(by rw [hC'];exact dK),rfl⟩
   · have hd:gX s (11 - i)=0:=by unfold gX;rw [List.getElem?_eq_none (by omega)]
     have Fw:=On (s:=s) eB (by omega)
     rw [hd] at H6
     have GN:ZU hh h.next a bv (nJ s (i+1)):=by rw [Fw];exact hb
     rcases hb with ⟨wB,rfl⟩|⟨kc,rfl,XX,ZP,hkn,hkg,dM⟩
     all_goals
      ((conv=>whnf);repeat ((first|refine aH.dt (show (i:Int)<12 by omega) ?_|refine aH.df (show ¬((A:Nat):Int).tmod 38>0 by rw [H6];omega) ?_|refine aQ.wu (by rw [TS];omega) (by rw [TS];omega) ?_|refine aQ.gS (by omega) (by omega) ?_|refine zz ?_)<;>(conv=>whnf)))
      rw [TS]
      exact hR (12 - (i+1)) _ _ (by omega) ⟨i+1,hh,_,_,by omega,rfl,⟨U7,Gf⟩,hk,GN,(by rw [hC'];exact dK),rfl⟩
 · obtain rfl:i=12:=by omega
   have xY:nJ s 12=lL s.reverse:=by unfold nJ;simp
   have ZV:(nJ s 12).reverse=lL s:=by rw [xY];simp [lL,List.map_reverse]
   have hbs:=Gh s
   have hlen:(nJ s 12).length=s.length:=by rw [xY];simp [lL]
   rcases hb with ⟨wB,rfl⟩|⟨kc,rfl,XX,ZP,hkn,hkg,dM⟩
   · have OX:s=[]:=List.length_eq_zero_iff.1 (by rw [<-hlen,wB];rfl)
     have hrn:=fun K hK=>MR (K:=K) hG (h:=hh) hK
     (refine iU (show ¬((12:Nat):Int)<12 by omega) @hrn ?_)
     rw [OX] at hK
     exact hK hh mQ hk
   · have wN:=fun K hK=>rev_at (K:=K) hG hkg (by omega) hK
     (refine iU (show ¬((12:Nat):Int)<12 by omega) @wN ?_)
     intro h3 q1 q2
     rw [ZV] at q1
     have hm:((lL s).map gH).length=s.length:=by simp [lL]
     have hd:List.take (nJ s 12).length (List.drop 0 ((lL s).map gH))=(lL s).map gH:=List.take_of_length_le (by rw [hlen];simp [lL])
     ((conv=>whnf);repeat ((first|refine aK.mk (decide_eq_true (by rw [hm,hlen];omega)) ?_|refine ye ((congrArg bytesOf hd).trans hbs) ?_|refine ye (q1) ?_|refine zz ?_)<;>(conv=>whnf)))
     exact hK h3 ⟨Nat.lt_of_lt_of_le mQ.1 q2.1,by rw [q2.2 a mQ.1 (by omega)];exact mQ.2⟩ (hk.trans' q2 XX)
end
open Go
def ZW {α:Type} (k:Nat) (R:α->List V):List α->V
 |[]=>.aV
 |x::r=>.sl none k ((x::r).map R)
def ZX (lc:aA) (k:Nat) (bv:V) (rows:List (List V)):Prop:=(rows=[]/\bv=.aV)\/∃ t,bv=.sl (some (.l t)) k rows/\t<lc.next/\lc.get t=some .spare/\rows≠[]
theorem rN {α:Type} (f:α->List Int) (h:∀ x,1<=(f x).length):∀ l:List α,l.length<=(l.flatMap f).length
 |[]=>Nat.le_refl _
 |x::r=>by
  have h1:=rN f h r
  have h2:=h x
  rw [List.flatMap_cons,List.length_append,List.length_cons]
  omega
theorem mI {α:Type} (f:α->List Int) {l:List α} {i:Nat} {x:α} (h:l[i]? =some x):(l.drop i).flatMap f=f x++(l.drop (i+1)).flatMap f:=by
 obtain ⟨h1,h2⟩:=List.getElem?_eq_some_iff.1 h
 rw [List.drop_eq_getElem_cons h1,h2,List.flatMap_cons]
theorem fT {α:Type} (f:α->List Int) (n:Nat) (l:List α) (i:Nat) (h:∀ x∈l,(f x).length<=n):((l.drop i).flatMap f).length<=l.length*n:=by
 have h1:=eS f n (l.drop i) fun x hx=>h x (List.mem_of_mem_drop hx)
 have h2:(l.drop i).length*n<=l.length*n:=Nat.mul_le_mul_right n (by simp)
 omega
def MS (r:hU):Prop:=(0<=r.a/\r.a<4294967296)/\(0<=r.b/\r.b<4294967296)/\(0<=r.c/\r.c<4294967296)
section
variable {P:Program} (hG:bN P AF.fns.get)
include hG
theorem rnumI_at {h:aA} {a:Nat} {m:Bool} {n:Int} {size:Nat} {R:List Int} (hr:iI h a m (dB n size++R)) (hs:size<=8) (hn:0<=n) (Sv:n<((256 ^ size:Nat):Int)) (MK:n<=9223372036854775807) (hl:R.length<=100000000) {K:V->aA->Prop}
 (hK:∀ h',iI h' a m R->aA.aI (fun n=>n=a) h h'->K (.i .i64 n) h'):aB P 127 [.p (.g a) 0,.i .i64 size] h K:=by
 obtain ⟨k,rfl⟩:=Int.eq_ofNat_of_zero_le hn
 exact rnumB_at hG hr hs (by omega) MK hl hK
theorem rres_at {h:aA} {a:Nat} {m:Bool} {r:hU} {R:List Int} (hr:iI h a m (pN r++R)) (hb:MS r) (hl:R.length<=10000000) {K:V->aA->Prop}
 (hK:∀ h',iI h' a m R->aA.aI (fun n=>n=a) h h'->K (.agg (yL r)) h'):aB P 129 [.p (.g a) 0] h K:=by
 unfold pN at hr
 rw [List.append_assoc,List.append_assoc] at hr
 obtain ⟨⟨a1,a2⟩,⟨b1,b2⟩,⟨d1,d2⟩⟩:=hb
 have h1:=fun K hK=>rnumI_at (K:=K) hG hr (by omega) a1 (by show r.a<(4294967296:Int);exact a2) (by omega) (by simp only [List.length_append,aR];omega) hK
 refine aN (hG _ AF.f129 rfl) rfl ?_
 ((conv=>whnf);repeat ((first|refine bV.un ?_|refine cA (h1 _) ?_|refine zz ?_)<;>(conv=>whnf)))
 intro h2 r2 k2
 have h3:=fun K hK=>rnumI_at (K:=K) hG r2 (by omega) b1 (by show r.b<(4294967296:Int);exact b2) (by omega) (by simp only [List.length_append,aR];omega) hK
 ((conv=>whnf);repeat ((first|refine bV.un ?_|refine cA (h3 _) ?_|refine zz ?_)<;>(conv=>whnf)))
 intro h4 r4 k4
 have h5:=fun K hK=>rnumI_at (K:=K) hG r4 (by omega) d1 (by show r.c<(4294967296:Int);exact d2) (by omega) (by omega) hK
 ((conv=>whnf);repeat ((first|refine bV.un ?_|refine cA (h5 _) ?_|refine zz ?_)<;>(conv=>whnf)))
 intro h6 r6 k6
 ((conv=>whnf);repeat ((first|refine bV.un ?_|refine zz ?_)<;>(conv=>whnf)))
 exact hK h6 r6 ((k2.trans k4).trans k6)
theorem rpairs_at (fD:eD P 285) {h:aA} {a:Nat} {m:Bool} {l:List dE} {R:List Int} (hr:iI h a m (eP l++R)) (hl:l.length<=100) (dZ:∀ p∈l,fR p.key/\fR p.val) (hR:R.length<=1000000) {K:V->aA->Prop}
 (hK:∀ h' m',iI h' a m' R->aA.aI (fun n=>n=a) h h'->K (ZW 2 bJ l) h'):aB P 131 [.p (.g a) 0,.fn 132 [] []] h K:=by
 have Ct:∀ p:dE,(cO p).length=16:=fun p=>by simp [cO,bM]
 unfold eP at hr
 rw [List.append_assoc] at hr
 have fC:=rN cO (fun p=>by rw [Ct];omega) l
 have hle:=eS cO 16 l fun p _=>Nat.le_of_eq (Ct p)
 have h1:=fun K hK=>rcount_at (K:=K) hG hr (by omega) (by rw [List.length_append];omega) (by rw [List.length_append];omega) hK
 refine aN (hG _ AF.f131 rfl) rfl ?_
 (refine cJ @h1 ?_)
 intro h2 r2 k2
 (refine zr ?_)
 refine bV.by (fun q fr st=>∃ (i:Nat) (hh lc:aA) (m':Bool) (bv:V),i<=l.length/\q=l.length - i/\iI hh a m' ((l.drop i).flatMap cO++R)/\aA.aI (fun n=>n=a) h hh/\ZX lc 2 bv ((l.take i).map bJ)/\
  Fr.le [(10,.i .i64 i),(9,.i .i64 l.length),(5,bv),(1,.fn 132 [] []),(0,.p (.g a) 0)] fr/\st=⟨hh,lc⟩)
  l.length ⟨0,h2,_,m,.aV,Nat.zero_le _,rfl,r2,k2,.inl ⟨rfl,rfl⟩,dK,rfl⟩ ?_
 rintro q fr st ⟨i,hh,lc,m',bv,hi,rfl,mQ,hk,WQ,dO,rfl⟩
 refine ⟨_,dO,fun R0 Oo=>?_⟩
 have Yx:=fT cO 16 l i fun p _=>Nat.le_of_eq (Ct p)
 have B0:((l.take i).map bJ).length<=100:=by simp;omega
 by_cases eB:i<l.length
 · have he:=List.getElem?_eq_getElem eB
   have As:=dZ _ (List.getElem_mem eB)
   generalize l[i]=x at he As
   have hd:=mI cO he
   have Aj:=fT cO 16 l (i+1) fun p _=>Nat.le_of_eq (Ct p)
   rw [hd] at mQ
   unfold cO at mQ
   rw [List.append_assoc,List.append_assoc] at mQ
   have kQ:(l.take (i+1)).map bJ=(l.take i).map bJ++[bJ x]:=by rw [List.take_add_one,he];simp
   have Sv:=fun K hK=>rname_at (K:=K) hG fD mQ As.1 (by rw [List.length_append,List.length_append,bM];unfold cO at Aj;omega) hK
   rcases WQ with ⟨wB,rfl⟩|⟨t,rfl,MT,AM,dM⟩
   · (refine iU (show (i:Int)<(l.length:Nat) by omega) @Sv ?_)
     intro h3 r3 k3
     have MK:=fun K hK=>rname_at (K:=K) hG fD r3 As.2 (by rw [List.length_append];unfold cO at Aj;omega) hK
     (refine cJ @MK ?_)
     intro h4 r4 k4
     (refine cJ (aN (hG _ AF.f132 rfl) rfl) ?_)
     exact Oo (l.length - (i+1)) _ _ (by omega) ⟨i+1,h4,_,true,_,by omega,rfl,r4,(hk.trans k3).trans k4,.inr ⟨lc.next+1,by first|(rw [kQ,wB];done)|(rw [kQ,wB];rfl),Nat.lt_succ_self _,aA.aC _ _,by rw [kQ];simp⟩,dK,rfl⟩
   · have f0:(lc.push .spare).get t=some .spare:=aA.gp (by omega) AM
     (refine iU (show (i:Int)<(l.length:Nat) by omega) @Sv ?_)
     intro h3 r3 k3
     have MK:=fun K hK=>rname_at (K:=K) hG fD r3 As.2 (by rw [List.length_append];unfold cO at Aj;omega) hK
     (refine cJ @MK ?_)
     intro h4 r4 k4
     ((conv=>whnf);repeat ((first|refine cA (aN (hG _ AF.f132 rfl) rfl) ?_|refine aQ.gS (by omega) (by omega) ?_|refine aK.mk (by simp only [bR];exact decide_eq_true (by simp at B0 ⊢;omega)) ?_|refine ye (f0) ?_|refine zz ?_)<;>(conv=>whnf)))
     exact Oo (l.length - (i+1)) _ _ (by omega) ⟨i+1,h4,_,true,_,by omega,rfl,r4,(hk.trans k3).trans k4,.inr ⟨lc.next+1,by first|(rw [kQ];done)|(rw [kQ];rfl),Nat.lt_succ_self _,aA.aC _ _,by rw [kQ];simp⟩,dK,rfl⟩
 · obtain rfl:i=l.length:=by omega
   rw [List.drop_length] at mQ
   rw [List.take_length] at WQ
   have ZY:=hK hh m' mQ hk
   rcases WQ with ⟨wB,rfl⟩|⟨t,rfl,MT,AM,dM⟩
   · have zJ:l=[]:=by simpa using wB
     subst zJ
     (refine cJ (show ¬(((([]:List dE)).length:Nat):Int)<(([]:List dE).length:Nat) by omega) ?_)
     exact ZY
   · cases l with
     |nil=>exact absurd rfl dM
     |cons x r=>
      (refine cJ (show ¬(((x::r).length:Nat):Int)<((x::r).length:Nat) by omega) ?_)
      exact ZY
end
open Go
def mR (c:Nat):Bool:=decide (0<eA c)
def bK (s:aU):Bool:=decide (1<=s.length)&&decide (s.length<=12)&&s.all fun c=>mR c.toNat
theorem nameB_ok {s:aU} (h:bK s=true):fR s:=by
 unfold bK at h
 simp only [Bool.and_eq_true,decide_eq_true_eq,List.all_eq_true] at h
 exact ⟨h.1.2,fun c hc=>by simpa [mR] using h.2 c hc⟩
theorem Es (c:Nat):mR c=((decide (97<=c)&&decide (c<=122))||(decide (48<=c)&&decide (c<=57))||decide (c=45)):=by
 unfold mR eA
 by_cases h1:97<=c/\c<123
 · rw [if_pos h1,decide_eq_true (show 0<c - 96 by omega),decide_eq_true h1.1,decide_eq_true (show c<=122 by omega)];rfl
 · rw [if_neg h1]
   have e1:(decide (97<=c)&&decide (c<=122))=false:=by
    rw [<-Bool.decide_and];exact decide_eq_false (by omega)
   rw [e1]
   by_cases h2:48<=c/\c<58
   · rw [if_pos h2,decide_eq_true (show 0<c - 21 by omega),decide_eq_true h2.1,decide_eq_true (show c<=57 by omega)];rfl
   · rw [if_neg h2]
     have e2:(decide (48<=c)&&decide (c<=57))=false:=by
      rw [<-Bool.decide_and];exact decide_eq_false (by omega)
     rw [e2]
     by_cases h3:c=45
     · rw [if_pos h3,decide_eq_true h3];rfl
     · rw [if_neg h3,decide_eq_false h3];rfl
def qG (x:Int):Bool:=decide (0<=x)&&decide (x<=1000000000)
def Bj (r:hU):Bool:=qG r.a&&qG r.b&&qG r.c
def mJ:Option Int->List Int->Bool
 |_,[]=>true
 |o,x::r=>decide (1<=x)&&decide (x<=65535)&&(match o with
  |none=>true
  |some y=>decide (y<x))&&mJ (some x) r
section
variable {P:Program} (hG:bN P AF.fns.get)
include hG
theorem letter_at {h:aA} (c:Nat) {K:V->aA->Prop} (hK:K (.b (mR c)) h):aB P 219 [.i .u8 (c:Nat)] h K:=by
 rw [Es] at hK
 by_cases c1:97<=c<;>by_cases c2:c<=122<;>by_cases c3:48<=c<;>by_cases c4:c<=57<;>by_cases c5:c=45
 all_goals
  simp only [c1,c2,c3,c4,c5,decide_true,decide_false,Bool.and_true,Bool.and_false,Bool.or_true,Bool.or_false,Bool.true_or,Bool.false_or,Bool.false_and,Bool.true_and] at hK
 all_goals
  first
  |(exfalso;omega)
  |(refine aN (hG _ AF.f219 rfl) rfl ?_
    (refine zr ?_)
    first|exact hK|(rw [decide_eq_true (show (c:Int)=45 by omega)];exact hK)|(rw [decide_eq_false (show ¬(c:Int)=45 by omega)];exact hK))
theorem name_at {h:aA} (s:aU) (hl:s.length<=9223372036854775807) {K:V->aA->Prop} (hK:K (.b (bK s)) h):aB P 125 [.s s] h K:=by
 unfold bK at hK
 by_cases c1:s.length<1
 · rw [decide_eq_false (by omega)] at hK
   refine aN (hG _ AF.f125 rfl) rfl ?_
   (refine zr ?_)
   exact hK
 rw [decide_eq_true (by omega),Bool.true_and] at hK
 by_cases c2:s.length>12
 · rw [decide_eq_false (by omega)] at hK
   refine aN (hG _ AF.f125 rfl) rfl ?_
   (refine zr ?_)
   exact hK
 rw [decide_eq_true (by omega),Bool.true_and] at hK
 refine aN (hG _ AF.f125 rfl) rfl ?_
 (refine zr ?_)
 refine bV.by (fun q fr st=>∃ (i:Nat) (l:aA),i<=s.length/\q=s.length - i/\(s.take i).all (fun c=>mR c.toNat)=true/\
  Fr.le [(14,.i .i64 i),(13,.i .i64 s.length),(0,.s s)] fr/\st=⟨h,l⟩)
  s.length ⟨0,_,Nat.zero_le _,rfl,rfl,dK,rfl⟩ ?_
 rintro q fr st ⟨i,l,hi,rfl,eV,dO,rfl⟩
 refine ⟨_,dO,fun R hR=>?_⟩
 by_cases eB:i<s.length
 · have hc:=List.getElem?_eq_getElem eB
   have Wx:=List.getElem_mem eB
   generalize s[i]=c at hc Wx
   have fM:s[((i:Nat):Int).toNat]? =some c:=by rw [Int.toNat_natCast];exact hc
   have cL:=fun K hK=>letter_at (K:=K) hG (h:=h) c.toNat hK
   (refine O0 (show (i:Int)<(s.length:Nat) by omega) (decide_eq_true (show (0:Int)<=(i:Int) by omega)) @cL @fM ?_)
   cases hb:mR c.toNat
   · (refine zr ?_)
     have:(s.all fun c=>mR c.toNat)=false:=by
      rw [List.all_eq_false];exact ⟨c,Wx,by rw [hb];decide⟩
     rw [this] at hK
     exact hK
   · (refine zr ?_)
     exact hR (s.length - (i+1)) _ _ (by omega) ⟨i+1,_,by omega,rfl,(by rw [List.take_add_one,hc];simp [eV,hb]),dK,rfl⟩
 · obtain rfl:i=s.length:=by omega
   rw [List.take_length] at eV
   rw [eV] at hK
   (refine zr ?_)
   exact hK
theorem qmay_at {h:aA} (r:hU) {K:V->aA->Prop} (hK:K (.b (Bj r)) h):aB P 208 [.agg (yL r)] h K:=by
 unfold Bj qG at hK
 by_cases c1:0<=r.a/\r.a<=1000000000
 case neg=>
  rw [<-Bool.decide_and,decide_eq_false c1] at hK
  by_cases d:r.a<0
  all_goals
   refine aN (hG _ AF.f208 rfl) rfl ?_
   ((conv=>whnf);repeat ((first|refine bV.un ?_|refine zz ?_)<;>(conv=>whnf)))
   exact hK
 rw [<-Bool.decide_and,decide_eq_true c1,Bool.true_and] at hK
 by_cases c2:0<=r.b/\r.b<=1000000000
 case neg=>
  rw [<-Bool.decide_and,decide_eq_false c2] at hK
  by_cases d:r.b<0
  all_goals
   refine aN (hG _ AF.f208 rfl) rfl ?_
   ((conv=>whnf);repeat ((first|refine bV.un ?_|refine zz ?_)<;>(conv=>whnf)))
   exact hK
 rw [<-Bool.decide_and,decide_eq_true c2,Bool.true_and] at hK
 by_cases c3:0<=r.c/\r.c<=1000000000
 case neg=>
  rw [<-Bool.decide_and,decide_eq_false c3] at hK
  by_cases d:r.c<0
  all_goals
   refine aN (hG _ AF.f208 rfl) rfl ?_
   ((conv=>whnf);repeat ((first|refine bV.un ?_|refine zz ?_)<;>(conv=>whnf)))
   exact hK
 rw [<-Bool.decide_and,decide_eq_true c3] at hK
 refine aN (hG _ AF.f208 rfl) rfl ?_
 ((conv=>whnf);repeat ((first|refine bV.un ?_|refine zz ?_)<;>(conv=>whnf)))
 exact hK
end
open Go
theorem vA (o:Option Int) (x:Int) (r:List Int):mJ o (x::r)=(decide (1<=x)&&decide (x<=65535)&&(match o with
 |none=>true
 |some y=>decide (y<x))&&mJ (some x) r):=by
 cases o<;>rfl
def fB:Option aU->List dE->Bool
 |_,[]=>true
 |o,x::r=>bK x.key&&bK x.val&&(match o with
  |none=>true
  |some y=>Op.bytesLess y x.key)&&fB (some x.key) r
theorem qH (o:Option aU) (x:dE) (r:List dE):fB o (x::r)=(bK x.key&&bK x.val&&(match o with
 |none=>true
 |some y=>Op.bytesLess y x.key)&&fB (some x.key) r):=by
 cases o<;>rfl
def lM (t:cM):Bool:=(if t.kind=1\/t.kind=2 then decide (1<=t.bF.length)&&decide (t.bF.length<=6) else decide (t.kind=3\/t.kind=4)&&decide (t.bF.length=0))&&bK t.key&&t.bF.all bK
def Et (t:j8):Bool:=(decide (t.key=[])||bK t.key)&&(if t.any then decide (t.val=[]) else bK t.val)
section
variable {P:Program} (hG:bN P AF.fns.get)
include hG
theorem oports_at {h:aA} (l:List Int) (hl:l.length<=9223372036854775807) {K:V->aA->Prop} (hK:K (.b (mJ none l&&decide (l.length<=6))) h):aB P 212 [.sl none 1 (l.map fV)] h K:=by
 have iO:(l.map fV).length=l.length:=List.length_map _
 refine aN (hG _ AF.f212 rfl) rfl ?_
 ((conv=>whnf);repeat ((first|refine zz ?_)<;>(conv=>whnf)))
 refine bV.by (fun q fr st=>∃ (i:Nat) (lc:aA) (o:Option Int),i<=l.length/\q=l.length - i/\mJ none l=mJ o (l.drop i)/\((i=0/\o=none)\/(0<i/\∃ y,l[i - 1]? =some y/\o=some y))/\
  Fr.le [(7,.i .i64 i),(6,.i .i64 (l.map fV).length),(5,.sl none 1 (l.map fV)),(0,.sl none 1 (l.map fV))] fr/\st=⟨h,lc⟩)
  l.length ⟨0,_,none,Nat.zero_le _,rfl,rfl,.inl ⟨rfl,rfl⟩,dK,rfl⟩ ?_
 rintro q fr st ⟨i,lc,o,hi,rfl,heq,ho,dO,rfl⟩
 refine ⟨_,dO,fun R hR=>?_⟩
 have nY:mJ none l=false->K (.b false) h:=fun hf=>by rw [hf] at hK;exact hK
 by_cases eB:i<l.length
 · have he:=List.getElem?_eq_getElem eB
   have y6:=List.drop_eq_getElem_cons eB
   generalize l[i]=x at he y6
   rw [y6,vA] at heq
   by_cases c1:x<1
   · rw [decide_eq_false (by omega)] at heq
     ((conv=>whnf);repeat ((first|refine aH.dt (show (i:Int)<(l.map fV).length by omega) ?_|refine aH.dt c1 ?_|refine ye (aG (by omega) he) ?_|refine zz ?_)<;>(conv=>whnf)))
     exact nY (by rw [heq];rfl)
   rw [decide_eq_true (show 1<=x by omega)] at heq
   by_cases c2:x>65535
   · rw [decide_eq_false (show ¬x<=65535 by omega)] at heq
     ((conv=>whnf);repeat ((first|refine aH.dt (show (i:Int)<(l.map fV).length by omega) ?_|refine aH.df c1 ?_|refine aH.dt c2 ?_|refine ye (aG (by omega) he) ?_|refine zz ?_)<;>(conv=>whnf)))
     exact nY (by rw [heq];rfl)
   rw [decide_eq_true (show x<=65535 by omega)] at heq
   rcases ho with ⟨rfl,rfl⟩|⟨Cs,y,hy,rfl⟩
   · ((conv=>whnf);repeat ((first|refine aH.dt (show ((0:Nat):Int)<(l.map fV).length by omega) ?_|refine aH.df c1 ?_|refine aH.df c2 ?_|refine aH.df (show ¬((0:Nat):Int)>0 by omega) ?_|refine aQ.gS (by omega) (by omega) ?_|refine ye (aG (by omega) he) ?_|refine zz ?_)<;>(conv=>whnf)))
     exact hR (l.length - (0+1)) _ _ (by omega) ⟨0+1,_,some x,by omega,rfl,heq,.inr ⟨by omega,x,he,rfl⟩,dK,rfl⟩
   · by_cases c3:y>=x
     · simp only [decide_eq_false (show ¬y<x by omega)] at heq
       ((conv=>whnf);repeat ((first|refine aH.dt (show (i:Int)<(l.map fV).length by omega) ?_|refine aH.df c1 ?_|refine aH.df c2 ?_|refine aH.dt (show (i:Int)>0 by omega) ?_|refine aQ.gS (by omega) (by omega) ?_|refine aK.ix (by omega) (by omega) ?_|refine aH.dt c3 ?_|refine ye (aG (by omega) he) ?_|refine ye (aG (by omega) hy) ?_|refine zz ?_)<;>(conv=>whnf)))
       exact nY (by rw [heq];rfl)
     · simp only [decide_eq_true (show y<x by omega)] at heq
       ((conv=>whnf);repeat ((first|refine aH.dt (show (i:Int)<(l.map fV).length by omega) ?_|refine aH.df c1 ?_|refine aH.df c2 ?_|refine aH.dt (show (i:Int)>0 by omega) ?_|refine aQ.gS (by omega) (by omega) ?_|refine aK.ix (by omega) (by omega) ?_|refine aH.df c3 ?_|refine ye (aG (by omega) he) ?_|refine ye (aG (by omega) hy) ?_|refine zz ?_)<;>(conv=>whnf)))
       exact hR (l.length - (i+1)) _ _ (by omega) ⟨i+1,_,some x,by omega,rfl,heq,.inr ⟨by omega,x,he,rfl⟩,dK,rfl⟩
 · obtain rfl:i=l.length:=by omega
   rw [List.drop_length] at heq
   have heq:mJ none l=true:=heq
   rw [heq,Bool.true_and] at hK
   have e:decide (((l.map fV).length:Int)<=6)=decide (l.length<=6):=by
    by_cases c:l.length<=6
    · rw [decide_eq_true c,decide_eq_true (by omega)]
    · rw [decide_eq_false c,decide_eq_false (by omega)]
   ((conv=>whnf);repeat ((first|refine aH.df (show ¬((l.length:Nat):Int)<(l.map fV).length by omega) ?_|refine zz ?_)<;>(conv=>whnf)))
   rw [e]
   exact hK
theorem lmay_at {h:aA} (l:List dE) (hl:l.length<=9223372036854775807) (hs:∀ q∈l,q.key.length<=9223372036854775807/\q.val.length<=9223372036854775807) {K:V->aA->Prop} (hK:K (.b (fB none l&&decide (l.length<=6))) h):aB P 209 [.sl none 2 (l.map bJ)] h K:=by
 have iO:(l.map bJ).length=l.length:=List.length_map _
 refine aN (hG _ AF.f209 rfl) rfl ?_
 (refine zr ?_)
 refine bV.by (fun q fr st=>∃ (i:Nat) (lc:aA) (o:Option aU),i<=l.length/\q=l.length - i/\fB none l=fB o (l.drop i)/\((i=0/\o=none)\/(0<i/\∃ y,l[i - 1]? =some y/\o=some y.key))/\
  Fr.le [(7,.i .i64 i),(6,.i .i64 (l.map bJ).length),(5,.sl none 2 (l.map bJ)),(0,.sl none 2 (l.map bJ))] fr/\st=⟨h,lc⟩)
  l.length ⟨0,_,none,Nat.zero_le _,rfl,rfl,.inl ⟨rfl,rfl⟩,dK,rfl⟩ ?_
 rintro q fr st ⟨i,lc,o,hi,rfl,heq,ho,dO,rfl⟩
 refine ⟨_,dO,fun R hR=>?_⟩
 have nY:fB none l=false->K (.b false) h:=fun hf=>by rw [hf] at hK;exact hK
 have a1:∀ o,(lc.push o).get lc.next=some o:=fun o=>aA.aC _ _
 have a2:∀ o o2,((lc.push o).set lc.next o2).get lc.next=some o2:=fun o o2=>aA.aD (a1 o)
 by_cases eB:i<l.length
 · have he:=List.getElem?_eq_getElem eB
   have Nt:=hs _ (List.getElem_mem eB)
   have y6:=List.drop_eq_getElem_cons eB
   generalize l[i]=x at he y6 Nt
   rw [y6,qH] at heq
   have hk:=fun K hK=>name_at (K:=K) hG (h:=h) x.key Nt.1 hK
   have hv:=fun K hK=>name_at (K:=K) hG (h:=h) x.val Nt.2 hK
   cases c1:bK x.key
   · rw [c1] at heq hk
     (refine Jk (show (i:Int)<(l.map bJ).length by omega) @hk @he @a1 @a2 ?_)
     exact nY (by rw [heq];rfl)
   cases c2:bK x.val
   · rw [c1,c2] at heq
     rw [c1] at hk
     rw [c2] at hv
     (refine Wk (show (i:Int)<(l.map bJ).length by omega) @hk @hv @he @a1 @a2 ?_)
     exact nY (by rw [heq];rfl)
   rw [c1,c2] at heq
   rw [c1] at hk
   rw [c2] at hv
   rcases ho with ⟨rfl,rfl⟩|⟨Cs,y,hy,rfl⟩
   · (refine Zr (show ((0:Nat):Int)<(l.map bJ).length by omega) @hk @hv (show ¬((0:Nat):Int)>0 by omega) @he @a1 @a2 ?_)
     exact hR (l.length - (0+1)) _ _ (by omega) ⟨0+1,_,some x.key,by omega,rfl,heq,.inr ⟨by omega,x,he,rfl⟩,dK,rfl⟩
   · cases c3:Op.bytesLess y.key x.key
     · simp only [c3] at heq
       ((conv=>whnf);repeat ((first|refine aH.dt (show (i:Int)<(l.map bJ).length by omega) ?_|refine cA (hk _) ?_|refine cA (hv _) ?_|refine aH.dt (show (i:Int)>0 by omega) ?_|refine aQ.gS (by omega) (by omega) ?_|refine aK.ix (by omega) (by omega) ?_|refine aH.tt (show (!Op.bytesLess y.key x.key)=true by rw [c3];rfl) ?_|refine ye (aG (by omega) he) ?_|refine ye (aG (by omega) hy) ?_|refine ye (a1 _) ?_|refine ye (a2 _ _) ?_|refine zz ?_)<;>(conv=>whnf)))
       exact nY (by rw [heq];rfl)
     · simp only [c3] at heq
       ((conv=>whnf);repeat ((first|refine aH.dt (show (i:Int)<(l.map bJ).length by omega) ?_|refine cA (hk _) ?_|refine cA (hv _) ?_|refine aH.dt (show (i:Int)>0 by omega) ?_|refine aQ.gS (by omega) (by omega) ?_|refine aK.ix (by omega) (by omega) ?_|refine aH.ff (show (!Op.bytesLess y.key x.key)=false by rw [c3];rfl) ?_|refine ye (aG (by omega) he) ?_|refine ye (aG (by omega) hy) ?_|refine ye (a1 _) ?_|refine ye (a2 _ _) ?_|refine zz ?_)<;>(conv=>whnf)))
       exact hR (l.length - (i+1)) _ _ (by omega) ⟨i+1,_,some x.key,by omega,rfl,heq,.inr ⟨by omega,x,he,rfl⟩,dK,rfl⟩
 · obtain rfl:i=l.length:=by omega
   rw [List.drop_length] at heq
   have heq:fB none l=true:=heq
   rw [heq,Bool.true_and] at hK
   have e:decide (((l.map bJ).length:Int)<=6)=decide (l.length<=6):=by
    by_cases c:l.length<=6
    · rw [decide_eq_true c,decide_eq_true (by omega)]
    · rw [decide_eq_false c,decide_eq_false (by omega)]
   (refine cJ (show ¬((l.length:Nat):Int)<(l.map bJ).length by omega) ?_)
   rw [e]
   exact hK
end
open Go
theorem Rr {P:Program} {f:Nat} (hk:gE P f (iN 1 none)=true) {l:List aU} {g:Nat} {k:Nat} {h:aA} {p:aU->Bool} (hl:l.length<=9223372036854775807)
 (hg:∀ e∈l,∀ K:V->aA->Prop,K (.b (p e)) h->aB P g (.s e::[]) h K) {K:V->aA->Prop} (hK:K (.i .i64 (gB p l)) h):aB P f [.sl none 1 (l.map bG),.fn g [] []] h K:=by
 have iO:(l.map bG).length=l.length:=List.length_map _
 refine aN hk rfl ?_
 ((conv=>whnf);repeat ((first|refine aH.ff rfl ?_|refine aH.tt rfl ?_|refine aZ.of rfl ?_|refine aK.mk rfl ?_|refine aP.mk rfl ?_|refine cD.of rfl ?_)<;>(conv=>whnf)))
 refine bV.by (fun q fr st=>∃ i:Nat,i<=l.length/\q=l.length - i/\(∀ (j:Nat) (e:aU),j<i->l[j]? =some e->p e=false)/\Fr.le [(8,.i .i64 i),(7,.i .i64 (l.map bG).length),(1,.fn g [] []),(0,.sl none 1 (l.map bG))] fr/\st=dG h)
  l.length ⟨0,Nat.zero_le _,rfl,fun j e hj=>absurd hj (Nat.not_lt_zero _),dK,rfl⟩ ?_
 rintro q fr st ⟨i,hi,rfl,dZ,hle,rfl⟩
 refine ⟨_,hle,fun R hR=>?_⟩
 ((conv=>whnf);repeat ((first|refine aH.ff rfl ?_|refine aH.tt rfl ?_|refine aZ.of rfl ?_|refine aK.mk rfl ?_|refine aP.mk rfl ?_|refine cD.of rfl ?_)<;>(conv=>whnf)))
 refine aH.ds (fun cL=>?_) (fun fC=>?_)
 · have cZ:i<l.length:=by omega
   have he:=List.getElem?_eq_getElem cZ
   have hm:=List.getElem_mem cZ
   generalize l[i]=e at he hm
   ((conv=>whnf);repeat ((first|refine aK.ix (by omega) (by omega) ?_|refine aH.ff rfl ?_|refine aH.tt rfl ?_|refine aZ.of rfl ?_|refine aK.mk rfl ?_|refine aP.mk rfl ?_|refine cD.of (aG (by simp) he) ?_|refine cD.of rfl ?_)<;>(conv=>whnf)))
   refine cY.mk (hg e hm _ ?_)
   ((conv=>whnf);repeat ((first|refine aH.ff rfl ?_|refine aH.tt rfl ?_|refine aZ.of rfl ?_|refine aK.mk rfl ?_|refine aP.mk rfl ?_|refine cD.of rfl ?_)<;>(conv=>whnf)))
   refine aH.mk (fun hp=>?_) (fun hp=>?_)
   · ((conv=>whnf);repeat ((first|refine aH.ff rfl ?_|refine aH.tt rfl ?_|refine aZ.of rfl ?_|refine aK.mk rfl ?_|refine aP.mk rfl ?_|refine cD.of rfl ?_)<;>(conv=>whnf)))
     rw [cX he hp dZ] at hK
     exact hK
   · ((conv=>whnf);repeat ((first|refine aQ.gS (by omega) (by omega) ?_|refine aH.ff rfl ?_|refine aH.tt rfl ?_|refine aZ.of rfl ?_|refine aK.mk rfl ?_|refine aP.mk rfl ?_|refine cD.of rfl ?_)<;>(conv=>whnf)))
     refine hR (l.length - (i+1)) _ _ (by omega) ⟨i+1,by omega,rfl,fun j x hj hx=>?_,dK,rfl⟩
     by_cases xF:j<i
     · exact dZ j x xF hx
     · obtain rfl:j=i:=by omega
       rw [he] at hx;cases hx;exact hp
 · ((conv=>whnf);repeat ((first|refine aH.ff rfl ?_|refine aH.tt rfl ?_|refine aZ.of rfl ?_|refine aK.mk rfl ?_|refine aP.mk rfl ?_|refine cD.of rfl ?_)<;>(conv=>whnf)))
   rw [dF fun j x hx=>dZ j x (by have:=(List.getElem?_eq_some_iff.1 hx).1;omega) hx] at hK
   exact hK
theorem Oq {P:Program} {f:Nat} (hk:gE P f (iN 3 (some 3))=true) {l:List cM} {g:Nat} {k:Nat} {h:aA} {p:cM->Bool} (hl:l.length<=9223372036854775807)
 (hg:∀ e∈l,∀ K:V->aA->Prop,K (.b (p e)) h->aB P g (.agg (bD e)::[]) h K) {K:V->aA->Prop} (hK:K (.i .i64 (gB p l)) h):aB P f [.sl none 3 (l.map bD),.fn g [] []] h K:=by
 have iO:(l.map bD).length=l.length:=List.length_map _
 refine aN hk rfl ?_
 ((conv=>whnf);repeat ((first|refine aH.ff rfl ?_|refine aH.tt rfl ?_|refine aZ.of rfl ?_|refine aK.mk rfl ?_|refine aP.mk rfl ?_|refine cD.of rfl ?_)<;>(conv=>whnf)))
 refine bV.by (fun q fr st=>∃ i:Nat,i<=l.length/\q=l.length - i/\(∀ (j:Nat) (e:cM),j<i->l[j]? =some e->p e=false)/\Fr.le [(8,.i .i64 i),(7,.i .i64 (l.map bD).length),(1,.fn g [] []),(0,.sl none 3 (l.map bD))] fr/\st=dG h)
  l.length ⟨0,Nat.zero_le _,rfl,fun j e hj=>absurd hj (Nat.not_lt_zero _),dK,rfl⟩ ?_
 rintro q fr st ⟨i,hi,rfl,dZ,hle,rfl⟩
 refine ⟨_,hle,fun R hR=>?_⟩
 ((conv=>whnf);repeat ((first|refine aH.ff rfl ?_|refine aH.tt rfl ?_|refine aZ.of rfl ?_|refine aK.mk rfl ?_|refine aP.mk rfl ?_|refine cD.of rfl ?_)<;>(conv=>whnf)))
 refine aH.ds (fun cL=>?_) (fun fC=>?_)
 · have cZ:i<l.length:=by omega
   have he:=List.getElem?_eq_getElem cZ
   have hm:=List.getElem_mem cZ
   generalize l[i]=e at he hm
   ((conv=>whnf);repeat ((first|refine aK.ix (by omega) (by omega) ?_|refine aH.ff rfl ?_|refine aH.tt rfl ?_|refine aZ.of rfl ?_|refine aK.mk rfl ?_|refine aP.mk rfl ?_|refine cD.of (aG (by simp) he) ?_|refine cD.of rfl ?_)<;>(conv=>whnf)))
   refine cY.mk (hg e hm _ ?_)
   ((conv=>whnf);repeat ((first|refine aH.ff rfl ?_|refine aH.tt rfl ?_|refine aZ.of rfl ?_|refine aK.mk rfl ?_|refine aP.mk rfl ?_|refine cD.of rfl ?_)<;>(conv=>whnf)))
   refine aH.mk (fun hp=>?_) (fun hp=>?_)
   · ((conv=>whnf);repeat ((first|refine aH.ff rfl ?_|refine aH.tt rfl ?_|refine aZ.of rfl ?_|refine aK.mk rfl ?_|refine aP.mk rfl ?_|refine cD.of rfl ?_)<;>(conv=>whnf)))
     rw [cX he hp dZ] at hK
     exact hK
   · ((conv=>whnf);repeat ((first|refine aQ.gS (by omega) (by omega) ?_|refine aH.ff rfl ?_|refine aH.tt rfl ?_|refine aZ.of rfl ?_|refine aK.mk rfl ?_|refine aP.mk rfl ?_|refine cD.of rfl ?_)<;>(conv=>whnf)))
     refine hR (l.length - (i+1)) _ _ (by omega) ⟨i+1,by omega,rfl,fun j x hj hx=>?_,dK,rfl⟩
     by_cases xF:j<i
     · exact dZ j x xF hx
     · obtain rfl:j=i:=by omega
       rw [he] at hx;cases hx;exact hp
 · ((conv=>whnf);repeat ((first|refine aH.ff rfl ?_|refine aH.tt rfl ?_|refine aZ.of rfl ?_|refine aK.mk rfl ?_|refine aP.mk rfl ?_|refine cD.of rfl ?_)<;>(conv=>whnf)))
   rw [dF fun j x hx=>dZ j x (by have:=(List.getElem?_eq_some_iff.1 hx).1;omega) hx] at hK
   exact hK
theorem Rs {P:Program} {f:Nat} (hk:gE P f (iN 3 (some 3))=true) {l:List j8} {g:Nat} {k:Nat} {h:aA} {p:j8->Bool} (hl:l.length<=9223372036854775807)
 (hg:∀ e∈l,∀ K:V->aA->Prop,K (.b (p e)) h->aB P g (.agg (eO e)::[]) h K) {K:V->aA->Prop} (hK:K (.i .i64 (gB p l)) h):aB P f [.sl none 3 (l.map eO),.fn g [] []] h K:=by
 have iO:(l.map eO).length=l.length:=List.length_map _
 refine aN hk rfl ?_
 ((conv=>whnf);repeat ((first|refine aH.ff rfl ?_|refine aH.tt rfl ?_|refine aZ.of rfl ?_|refine aK.mk rfl ?_|refine aP.mk rfl ?_|refine cD.of rfl ?_)<;>(conv=>whnf)))
 refine bV.by (fun q fr st=>∃ i:Nat,i<=l.length/\q=l.length - i/\(∀ (j:Nat) (e:j8),j<i->l[j]? =some e->p e=false)/\Fr.le [(8,.i .i64 i),(7,.i .i64 (l.map eO).length),(1,.fn g [] []),(0,.sl none 3 (l.map eO))] fr/\st=dG h)
  l.length ⟨0,Nat.zero_le _,rfl,fun j e hj=>absurd hj (Nat.not_lt_zero _),dK,rfl⟩ ?_
 rintro q fr st ⟨i,hi,rfl,dZ,hle,rfl⟩
 refine ⟨_,hle,fun R hR=>?_⟩
 ((conv=>whnf);repeat ((first|refine aH.ff rfl ?_|refine aH.tt rfl ?_|refine aZ.of rfl ?_|refine aK.mk rfl ?_|refine aP.mk rfl ?_|refine cD.of rfl ?_)<;>(conv=>whnf)))
 refine aH.ds (fun cL=>?_) (fun fC=>?_)
 · have cZ:i<l.length:=by omega
   have he:=List.getElem?_eq_getElem cZ
   have hm:=List.getElem_mem cZ
   generalize l[i]=e at he hm
   ((conv=>whnf);repeat ((first|refine aK.ix (by omega) (by omega) ?_|refine aH.ff rfl ?_|refine aH.tt rfl ?_|refine aZ.of rfl ?_|refine aK.mk rfl ?_|refine aP.mk rfl ?_|refine cD.of (aG (by simp) he) ?_|refine cD.of rfl ?_)<;>(conv=>whnf)))
   refine cY.mk (hg e hm _ ?_)
   ((conv=>whnf);repeat ((first|refine aH.ff rfl ?_|refine aH.tt rfl ?_|refine aZ.of rfl ?_|refine aK.mk rfl ?_|refine aP.mk rfl ?_|refine cD.of rfl ?_)<;>(conv=>whnf)))
   refine aH.mk (fun hp=>?_) (fun hp=>?_)
   · ((conv=>whnf);repeat ((first|refine aH.ff rfl ?_|refine aH.tt rfl ?_|refine aZ.of rfl ?_|refine aK.mk rfl ?_|refine aP.mk rfl ?_|refine cD.of rfl ?_)<;>(conv=>whnf)))
     rw [cX he hp dZ] at hK
     exact hK
   · ((conv=>whnf);repeat ((first|refine aQ.gS (by omega) (by omega) ?_|refine aH.ff rfl ?_|refine aH.tt rfl ?_|refine aZ.of rfl ?_|refine aK.mk rfl ?_|refine aP.mk rfl ?_|refine cD.of rfl ?_)<;>(conv=>whnf)))
     refine hR (l.length - (i+1)) _ _ (by omega) ⟨i+1,by omega,rfl,fun j x hj hx=>?_,dK,rfl⟩
     by_cases xF:j<i
     · exact dZ j x xF hx
     · obtain rfl:j=i:=by omega
       rw [he] at hx;cases hx;exact hp
 · ((conv=>whnf);repeat ((first|refine aH.ff rfl ?_|refine aH.tt rfl ?_|refine aZ.of rfl ?_|refine aK.mk rfl ?_|refine aP.mk rfl ?_|refine cD.of rfl ?_)<;>(conv=>whnf)))
   rw [dF fun j x hx=>dZ j x (by have:=(List.getElem?_eq_some_iff.1 hx).1;omega) hx] at hK
   exact hK
theorem CN {α:Type} (f:α->Bool):∀ l:List α,(l.any fun x=>!f x)=!l.all f
 |[]=>rfl
 |x::r=>by rw [List.any_cons,List.all_cons,CN f r,Bool.not_and]
structure HN (t:cM):Prop where
 key:t.key.length<=9223372036854775807
 len:t.bF.length<=9223372036854775807
 bF:∀ v∈t.bF,v.length<=9223372036854775807
def fI (l:List cM):Bool:=decide (l.length<=6)&&l.all lM
def vB (l:List j8):Bool:=decide (l.length<=6)&&l.all Et
section
variable {P:Program} (hG:bN P AF.fns.get)
include hG
theorem Rt {l:List aU} {g:Nat} {k:Nat} {h:aA} {p:aU->Bool} (hl:l.length<=9223372036854775807)
 (hg:∀ e∈l,∀ K:V->aA->Prop,K (.b (p e)) h->aB P g (.s e::[]) h K) {K:V->aA->Prop} (hK:K (.b (l.any p)) h):aB P 336 [.sl none 1 (l.map bG),.fn g [] []] h K:=by
 refine aN (hG _ AF.f336 rfl) rfl ?_
 ((conv=>whnf);repeat ((first|refine aH.ff rfl ?_|refine aH.tt rfl ?_|refine aZ.of rfl ?_|refine aK.mk rfl ?_|refine aP.mk rfl ?_|refine cD.of rfl ?_)<;>(conv=>whnf)))
 refine cY.mk (Rr (k:=k) (show gE P 155 (iN 1 none)=true from hG _ AF.f155 rfl) hl hg ?_)
 ((conv=>whnf);repeat ((first|refine aH.ff rfl ?_|refine aH.tt rfl ?_|refine aZ.of rfl ?_|refine aK.mk rfl ?_|refine aP.mk rfl ?_|refine cD.of rfl ?_)<;>(conv=>whnf)))
 rw [<-jQ] at hK
 exact hK
theorem Ot {l:List cM} {g:Nat} {k:Nat} {h:aA} {p:cM->Bool} (hl:l.length<=9223372036854775807)
 (hg:∀ e∈l,∀ K:V->aA->Prop,K (.b (p e)) h->aB P g (.agg (bD e)::[]) h K) {K:V->aA->Prop} (hK:K (.b (l.any p)) h):aB P 277 [.sl none 3 (l.map bD),.fn g [] []] h K:=by
 refine aN (hG _ AF.f277 rfl) rfl ?_
 ((conv=>whnf);repeat ((first|refine aH.ff rfl ?_|refine aH.tt rfl ?_|refine aZ.of rfl ?_|refine aK.mk rfl ?_|refine aP.mk rfl ?_|refine cD.of rfl ?_)<;>(conv=>whnf)))
 refine cY.mk (Oq (k:=k) (show gE P 332 (iN 3 (some 3))=true from hG _ AF.f332 rfl) hl hg ?_)
 ((conv=>whnf);repeat ((first|refine aH.ff rfl ?_|refine aH.tt rfl ?_|refine aZ.of rfl ?_|refine aK.mk rfl ?_|refine aP.mk rfl ?_|refine cD.of rfl ?_)<;>(conv=>whnf)))
 rw [<-jQ] at hK
 exact hK
theorem Ru {l:List j8} {g:Nat} {k:Nat} {h:aA} {p:j8->Bool} (hl:l.length<=9223372036854775807)
 (hg:∀ e∈l,∀ K:V->aA->Prop,K (.b (p e)) h->aB P g (.agg (eO e)::[]) h K) {K:V->aA->Prop} (hK:K (.b (l.any p)) h):aB P 280 [.sl none 3 (l.map eO),.fn g [] []] h K:=by
 refine aN (hG _ AF.f280 rfl) rfl ?_
 ((conv=>whnf);repeat ((first|refine aH.ff rfl ?_|refine aH.tt rfl ?_|refine aZ.of rfl ?_|refine aK.mk rfl ?_|refine aP.mk rfl ?_|refine cD.of rfl ?_)<;>(conv=>whnf)))
 refine cY.mk (Rs (k:=k) (show gE P 333 (iN 3 (some 3))=true from hG _ AF.f333 rfl) hl hg ?_)
 ((conv=>whnf);repeat ((first|refine aH.ff rfl ?_|refine aH.tt rfl ?_|refine aZ.of rfl ?_|refine aK.mk rfl ?_|refine aP.mk rfl ?_|refine cD.of rfl ?_)<;>(conv=>whnf)))
 rw [<-jQ] at hK
 exact hK
theorem mterm1_at {h:aA} (v:aU) (hs:v.length<=9223372036854775807) {K:V->aA->Prop} (hK:K (.b (!bK v)) h):aB P 337 [.s v] h K:=by
 have hk:=fun K hK=>name_at (K:=K) hG (h:=h) v hs hK
 refine aN (hG _ AF.f337 rfl) rfl ?_
 (refine cJ @hk ?_)
 exact hK
theorem mterm_at {h:aA} (t:cM) (hs:HN t) {K:V->aA->Prop} (hK:K (.b (lM t)) h):aB P 289 [.agg (bD t)] h K:=by
 have iO:(t.bF.map bG).length=t.bF.length:=List.length_map _
 have hk:=fun K hK=>name_at (K:=K) hG (h:=h) t.key hs.key hK
 have hc:=fun (K:V->aA->Prop) (hK:K (.b (!t.bF.all bK)) h)=>Rt (K:=K) hG (k:=0) (g:=337) (p:=fun v=>!bK v) hs.len (fun v hv K hK=>mterm1_at hG v (hs.bF v hv) hK) (by rw [CN];exact hK)
 have hB:∀ L M:Nat,(∀ b,lM t=b->b=(bK t.key&&decide (L<=t.bF.length)&&decide (t.bF.length<=M)&&t.bF.all bK))->K (.b (bK t.key&&decide (L<=t.bF.length)&&decide (t.bF.length<=M)&&t.bF.all bK)) h:=fun L M hb=>by rw [<-hb _ rfl];exact hK
 by_cases k:t.kind=1\/t.kind=2
 · have hK:=hB 1 6 fun b hb=>by
    rw [<-hb];unfold lM;rw [if_pos k]
    cases bK t.key<;>cases decide (1<=t.bF.length)<;>cases decide (t.bF.length<=6)<;>rfl
   cases c0:bK t.key
   · rw [c0] at hK hk
     rcases k with k|k
     all_goals
      refine aN (hG _ AF.f289 rfl) rfl ?_
      (refine cJ @hk ?_)
      exact hK
   rw [c0] at hK hk
   by_cases c1:1<=t.bF.length
   case neg=>
    rw [decide_eq_false c1] at hK
    rcases k with k|k
    all_goals
     refine aN (hG _ AF.f289 rfl) rfl ?_
     (refine cJ @hk ?_)
     exact hK
   rw [decide_eq_true c1] at hK
   by_cases c2:t.bF.length<=6
   case neg=>
    rw [decide_eq_false c2] at hK
    rcases k with k|k
    all_goals
     refine aN (hG _ AF.f289 rfl) rfl ?_
     (refine cJ @hk ?_)
     exact hK
   rw [decide_eq_true c2] at hK
   rcases k with k|k
   all_goals
    refine aN (hG _ AF.f289 rfl) rfl ?_
    (refine iU @hk @hc ?_)
    rw [Bool.not_not]
    exact hK
 by_cases k2:t.kind=3\/t.kind=4
 · have hK:=hB 0 0 fun b hb=>by
    rw [<-hb];unfold lM;rw [if_neg k,decide_eq_true k2]
    by_cases c:t.bF.length=0
    · rw [decide_eq_true c,decide_eq_true (show 0<=t.bF.length by omega),decide_eq_true (show t.bF.length<=0 by omega)];cases bK t.key<;>rfl
    · rw [decide_eq_false c,decide_eq_false (show ¬t.bF.length<=0 by omega)];cases bK t.key<;>cases decide (0<=t.bF.length)<;>rfl
   rw [decide_eq_true (Nat.zero_le _),Bool.and_true] at hK
   cases c0:bK t.key
   · rw [c0] at hK hk
     rcases k2 with k2|k2
     all_goals
      refine aN (hG _ AF.f289 rfl) rfl ?_
      (refine cJ @hk ?_)
      exact hK
   rw [c0] at hK hk
   by_cases c2:t.bF.length<=0
   case neg=>
    rw [decide_eq_false c2] at hK
    rcases k2 with k2|k2
    all_goals
     refine aN (hG _ AF.f289 rfl) rfl ?_
     (refine cJ @hk ?_)
     exact hK
   rw [decide_eq_true c2] at hK
   rcases k2 with k2|k2
   all_goals
    refine aN (hG _ AF.f289 rfl) rfl ?_
    (refine iU @hk @hc ?_)
    rw [Bool.not_not]
    exact hK
 · have hT:lM t=false:=by
    unfold lM;rw [if_neg k,decide_eq_false k2];rfl
   rw [hT] at hK
   have k1:¬t.kind=1:=fun e=>k (.inl e)
   have k1':¬t.kind=2:=fun e=>k (.inr e)
   have k3:¬t.kind=3:=fun e=>k2 (.inl e)
   have k4:¬t.kind=4:=fun e=>k2 (.inr e)
   refine aN (hG _ AF.f289 rfl) rfl ?_
   (refine zr ?_)
   exact hK
end
end Go.Eng
