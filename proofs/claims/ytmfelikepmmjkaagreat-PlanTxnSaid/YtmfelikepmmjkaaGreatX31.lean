/-
The reader: a name.
-/
import Derived.Test.YtmfelikepmmjkaaGreatX30
import Derived.Test.YtmfelikepmmjkaaGreatX23
set_option linter.unusedVariables false
set_option linter.unusedSimpArgs false
set_option maxHeartbeats 8000000
namespace Go.Eng
open Go
theorem On (R:List V) {d:Nat} (hd:d<=37) (x:Int) (hx:x=(d:Int)):dS (tv true++R) (0+0+259+x.toNat*1) none=some (.i .u8 (CT d:Nat)):=by
 subst hx
 show (tv true++R)[_]? =_
 rw [show 0+0+259+((d:Nat):Int).toNat*1=259+d by omega]
 rw [List.getElem?_append_left (by rw [pB];omega)]
 unfold tv pM
 rw [List.getElem?_append_right (by simp)]
 simp only [List.length_append,List.length_cons,List.length_nil,List.length_map,List.length_range]
 rw [show 259+d - (0+1+1+1+256)=d by omega]
 simp [yF,hd,show d<38 by omega]
def pD (s:aU) (i:Nat):List Int:=mM (s.drop (12 - i)).reverse
theorem PY {s:aU} {i:Nat} (hi:i<12) {c:UInt8} (hc:s[11 - i]? =some c):pD s (i+1)=pD s i++[(c.toNat:Int)]:=by
 unfold pD
 have h1:=(List.getElem?_eq_some_iff.1 hc)
 obtain ⟨h2,h3⟩:=h1
 rw [show 12 - (i+1)=11 - i by omega,List.drop_eq_getElem_cons h2,h3,show 11 - i+1=12 - i by omega]
 simp [mM]
theorem PZ {s:aU} {i:Nat} (hi:i<12) (hc:s.length<=11 - i):pD s (i+1)=pD s i:=by
 unfold pD
 rw [List.drop_of_length_le (show s.length<=12 - (i+1) by omega),List.drop_of_length_le (show s.length<=12 - i by omega)]
def ac7 (h:aA) (lo a:Nat) (bv:V) (acc:List Int):Prop:=(acc=[]/\bv=.aS)\/∃ c,bv=.ms (.g c) 1 0 acc.length/\lo<=c/\c≠a/\c<h.next/\h.get c=some (.arr 1 (acc.map hM))/\acc≠[]
theorem aA.aJ.trans' {h hh h3:aA} {a c:Nat} (h1:aA.aJ (fun n=>n=a) h hh) (h2:aA.aJ (fun n=>n=c) hh h3) (hc:h.next<=c):aA.aJ (fun n=>n=a) h h3:=
 (aA.aJ.trans (b:=fun n=>n=a\/n=c) (h1.mono fun _ _ e=>.inl e) (h2.mono fun _ _ e=>.inr e)).mono fun n hn e=>by rcases e with e|e;exact e;omega
section
variable {P:Program} (hG:bP P AF.fns.get)
include hG
theorem Oo {h:aA} {K:V->aA->Prop} (hK:K (.bY []) h):aC P 220 [.aS] h K:=by
 refine aQ (hG _ AF.f220 rfl) rfl ?_
 ((conv=>whnf);repeat ((first|refine b8.un ?_|refine zz ?_)<;>(conv=>whnf)))
 exact hK
theorem rmake_at (eN:dQ P 285) {h:aA} {a:Nat} {m:Bool} {B:List Int} (hr:hU h a m B) {K:V->aA->Prop}
 (hK:∀ h',hU h' a true B->aA.aJ (fun n=>n=a) h h'->K (.bY []) h'):aC P 211 [.p (.g a) 0] h K:=
 tmake_at hG eN hr.1 hr.2 fun h' q1 q2=>hK h' ⟨Nat.lt_of_lt_of_le hr.1 q2.1,q1⟩ q2
theorem rname_at (eN:dQ P 285) {h:aA} {a:Nat} {m:Bool} {s:aU} {B:List Int} (hr:hU h a m (bV s++B)) (hs:eH s) (hl:B.length<=10000000) {K:V->aA->Prop}
 (hK:∀ h',hU h' a true B->aA.aJ (fun n=>n=a) h h'->K (.s s) h'):aC P 128 [.p (.g a) 0] h K:=by
 have YD:=fun K hK=>rmake_at (K:=K) hG eN hr hK
 have mV:=KT s
 refine aQ (hG _ AF.f128 rfl) rfl ?_
 (refine cD @YD ?_)
 intro h1 r1 k1
 have Dd:=fun K hK=>rnumB_at (K:=K) (n:=Fw s) (size:=8) hG r1 (by omega) (by omega) (by omega) (by omega) hK
 (refine cD @Dd ?_)
 intro h2 r2 k2
 (refine zx0 ?_)
 refine b8.by (fun q fr st=>∃ (i:Nat) (hh lc:aA) (bv:V),i<=12/\q=12 - i/\hU hh a true B/\aA.aJ (fun n=>n=a) h hh/\ac7 hh h.next a bv (pD s i)/\
  Fr.le [(13,.i .i64 i),(4,bv),(3,.i .u64 (qV ((eZ s).take (12 - i)):Nat)),(0,.p (.g a) 0)] fr/\st=⟨hh,lc⟩)
  12 ⟨0,h2,_,.aS,Nat.zero_le _,rfl,r2,k1.trans k2,.inl ⟨(by unfold pD;rw [List.drop_of_length_le (by have:=hs.1;omega)];rfl),rfl⟩,(by
   rw [show (eZ s).take (12 - 0)=eZ s from List.take_of_length_le (by rw [rV];omega)];exact cT),rfl⟩ ?_
 rintro q fr st ⟨i,hh,lc,bv,hi,rfl,lW,hk,hb,dE,rfl⟩
 refine ⟨_,dE,fun R hR=>?_⟩
 have Bj:(pD s i).length<=12:=by unfold pD mM;simp;have:=hs.1;omega
 by_cases cY:i<12
 · have jM:=uL s (show 11 - i<12 by omega)
   rw [show 11 - i+1=12 - i by omega] at jM
   have cO:=Cp s (show 11 - i<=12 by omega)
   have hp:=WY (show 11 - i<=12 by omega)
   have al8:qV ((eZ s).take (12 - i))=qV ((eZ s).take (11 - i))*38+iO s (11 - i):=by rw [jM,uK]
   have hdl:=Ft s (11 - i)
   generalize hA:qV ((eZ s).take (12 - i))=A at*
   generalize hC:qV ((eZ s).take (11 - i))=C at*
   have Gx:((A:Nat):Int).tmod 38=(iO s (11 - i):Nat):=by rw [Int.tmod_eq_emod_of_nonneg (by omega)];omega
   have VG:((A:Nat):Int).tdiv 38=(C:Nat):=by rw [Int.tdiv_eq_ediv_of_nonneg (by omega)];omega
   have hC':qV ((eZ s).take (12 - (i+1)))=C:=by rw [show 12 - (i+1)=11 - i by omega];exact hC
   obtain ⟨WX,Hm⟩:=lW
   by_cases XC:11 - i<s.length
   · have hc:=List.getElem?_eq_getElem XC
     have Yx:=List.getElem_mem XC
     generalize s[11 - i]=c at hc Yx
     have Yu:=hs.2 c Yx
     have hd:iO s (11 - i)=eM c.toNat:=by unfold iO;rw [hc]
     have Du:=Aq c.toNat Yu
     have Gy:=PY (s:=s) cY hc
     rw [hd] at Gx hdl
     rcases hb with ⟨uH,rfl⟩|⟨kc,rfl,W3,hka,Tk,hkg,dJ⟩
     · ((conv=>whnf);repeat ((first|refine aH.dt (show (i:Int)<12 by omega) ?_|refine aH.dt (show ((A:Nat):Int).tmod 38>0 by rw [Gx];omega) ?_|refine aM.ix (by rw [Gx];omega) (by rw [Gx];omega) ?_|refine bC.of (On _ hdl _ Gx) ?_|refine aR.wu (by rw [VG];omega) (by rw [VG];omega) ?_|refine aR.gA (by omega) (by omega) ?_|refine ye (Hm) ?_|refine ye (aA.aB _ _) ?_|refine zz ?_)<;>(conv=>whnf)))
       rw [VG]
       have dR:some (Obj.arr 1 [[V.i .u8 (CT (eM c.toNat):Nat)]])=some (.arr 1 ((pD s (i+1)).map hM)):=by rw [Gy,uH,Du];rfl
       exact hR (12 - (i+1)) _ _ (by omega) ⟨i+1,_,_,_,by omega,rfl,⟨Nat.lt_succ_of_lt (Nat.lt_succ_of_lt WX),aA.gp (by show a≠hh.next+1;omega) (aA.gp (by omega) Hm)⟩,.push (.push hk _) _,
        .inr ⟨hh.next+1,by first|(rw [Gy,uH];done)|(rw [Gy,uH];rfl),by have:=hk.1;omega,by omega,Nat.lt_succ_self _,(aA.aB _ _).trans dR,by rw [Gy];simp⟩,(by rw [hC'];exact cT),rfl⟩
     · have g3:∀ o,(hh.push o).get kc=some (.arr 1 ((pD s i).map hM)):=fun o=>aA.gp (by omega) hkg
       have hm:((pD s i).map hM).length=(pD s i).length:=List.length_map _
       ((conv=>whnf);repeat ((first|refine aH.dt (show (i:Int)<12 by omega) ?_|refine aH.dt (show ((A:Nat):Int).tmod 38>0 by rw [Gx];omega) ?_|refine aM.ix (by rw [Gx];omega) (by rw [Gx];omega) ?_|refine bC.of (On _ hdl _ Gx) ?_|refine aR.wu (by rw [VG];omega) (by rw [VG];omega) ?_|refine aR.gA (by omega) (by omega) ?_|refine aM.mk (by simp only [bT];exact decide_eq_true (by simp;omega)) ?_|refine aM.mk (decide_eq_true (by rw [hm];omega)) ?_|refine aH.df (show ¬0+(pD s i).length+1<=((pD s i).map hM).length by rw [hm];omega) ?_|refine ye (Hm) ?_|refine ye (aA.aB _ _) ?_|refine ye (g3 _) ?_|refine zz ?_)<;>(conv=>whnf)))
       rw [VG]
       have dR:some (Obj.arr 1 (List.drop 0 (List.take (0+(pD s i).length) ((pD s i).map hM))++[[V.i .u8 (CT (eM c.toNat):Nat)]]))=some (.arr 1 ((pD s (i+1)).map hM)):=by
        rw [List.take_of_length_le (by rw [hm];omega),Gy,Du,List.map_append];rfl
       have BT:∀ o o2,aA.aJ (fun n=>n=a) h (((hh.push o).remove kc).push o2):=fun o o2=>.push (aA.aJ.remove (b:=fun n=>n=a) (.push hk _) (.inr W3)) _
       exact hR (12 - (i+1)) _ _ (by omega) ⟨i+1,_,_,_,by omega,rfl,⟨Nat.lt_succ_of_lt (Nat.lt_succ_of_lt WX),aA.gp (by show a≠hh.next+1;omega) (aA.gr (by omega) (aA.gp (by omega) Hm))⟩,BT _ _,
        .inr ⟨hh.next+1,by first|(rw [Gy,List.length_append];done)|(rw [Gy,List.length_append];rfl),by have:=hk.1;omega,by omega,Nat.lt_succ_self _,(aA.aB _ _).trans dR,by rw [Gy];simp⟩,(by rw [hC'];exact cT),rfl⟩
   · have hd:iO s (11 - i)=0:=by unfold iO;rw [List.getElem?_eq_none (by omega)]
     have Gy:=PZ (s:=s) cY (by omega)
     rw [hd] at Gx
     have H0:ac7 hh h.next a bv (pD s (i+1)):=by rw [Gy];exact hb
     rcases hb with ⟨uH,rfl⟩|⟨kc,rfl,W3,hka,Tk,hkg,dJ⟩
     all_goals
      ((conv=>whnf);repeat ((first|refine aH.dt (show (i:Int)<12 by omega) ?_|refine aH.df (show ¬((A:Nat):Int).tmod 38>0 by rw [Gx];omega) ?_|refine aR.wu (by rw [VG];omega) (by rw [VG];omega) ?_|refine aR.gA (by omega) (by omega) ?_|refine zz ?_)<;>(conv=>whnf)))
      rw [VG]
      exact hR (12 - (i+1)) _ _ (by omega) ⟨i+1,hh,_,_,by omega,rfl,⟨WX,Hm⟩,hk,H0,(by rw [hC'];exact cT),rfl⟩
 · obtain rfl:i=12:=by omega
   have zS:pD s 12=mM s.reverse:=by unfold pD;simp
   have ac8:(pD s 12).reverse=mM s:=by rw [zS];simp [mM,List.map_reverse]
   have hbs:=Ho s
   have hlen:(pD s 12).length=s.length:=by rw [zS];simp [mM]
   rcases hb with ⟨uH,rfl⟩|⟨kc,rfl,W3,hka,Tk,hkg,dJ⟩
   · have QE:s=[]:=List.length_eq_zero_iff.1 (by rw [<-hlen,uH];rfl)
     have hrn:=fun K hK=>Oo (K:=K) hG (h:=hh) hK
     (refine iG (show ¬((12:Nat):Int)<12 by omega) @hrn ?_)
     rw [QE] at hK
     exact hK hh lW hk
   · have vH:=fun K hK=>rev_at (K:=K) hG hkg (by omega) hK
     (refine iG (show ¬((12:Nat):Int)<12 by omega) @vH ?_)
     intro h3 q1 q2
     rw [ac8] at q1
     have hm:((mM s).map hM).length=s.length:=by simp [mM]
     have hd:List.take (pD s 12).length (List.drop 0 ((mM s).map hM))=(mM s).map hM:=List.take_of_length_le (by rw [hlen];simp [mM])
     ((conv=>whnf);repeat ((first|refine aM.mk (decide_eq_true (by rw [hm,hlen];omega)) ?_|refine ye ((congrArg bytesOf hd).trans hbs) ?_|refine ye (q1) ?_|refine zz ?_)<;>(conv=>whnf)))
     exact hK h3 ⟨Nat.lt_of_lt_of_le lW.1 q2.1,by rw [q2.2 a lW.1 (by omega)];exact lW.2⟩ (hk.trans' q2 W3)
end
open Go
def YO {α:Type} (k:Nat) (R:α->List V):List α->V
 |[]=>.aS
 |x::r=>.sl none k ((x::r).map R)
def YP (lc:aA) (k:Nat) (bv:V) (rows:List (List V)):Prop:=(rows=[]/\bv=.aS)\/∃ t,bv=.sl (some (.l t)) k rows/\t<lc.next/\lc.get t=some .spare/\rows≠[]
theorem qX {α:Type} (f:α->List Int) (h:∀ x,1<=(f x).length):∀ l:List α,l.length<=(l.flatMap f).length
 |[]=>Nat.le_refl _
 |x::r=>by
  have h1:=qX f h r
  have h2:=h x
  rw [List.flatMap_cons,List.length_append,List.length_cons]
  omega
theorem lO {α:Type} (f:α->List Int) {l:List α} {i:Nat} {x:α} (h:l[i]? =some x):(l.drop i).flatMap f=f x++(l.drop (i+1)).flatMap f:=by
 obtain ⟨h1,h2⟩:=List.getElem?_eq_some_iff.1 h
 rw [List.drop_eq_getElem_cons h1,h2,List.flatMap_cons]
theorem eU {α:Type} (f:α->List Int) (n:Nat) (l:List α) (i:Nat) (h:∀ x∈l,(f x).length<=n):((l.drop i).flatMap f).length<=l.length*n:=by
 have h1:=eV f n (l.drop i) fun x hx=>h x (List.mem_of_mem_drop hx)
 have h2:(l.drop i).length*n<=l.length*n:=Nat.mul_le_mul_right n (by simp)
 omega
def I6 (r:gW):Prop:=(0<=r.a/\r.a<4294967296)/\(0<=r.b/\r.b<4294967296)/\(0<=r.c/\r.c<4294967296)
section
variable {P:Program} (hG:bP P AF.fns.get)
include hG
theorem rnumI_at {h:aA} {a:Nat} {m:Bool} {n:Int} {size:Nat} {R:List Int} (hr:hU h a m (dI n size++R)) (hs:size<=8) (hn:0<=n) (PN:n<((256 ^ size:Nat):Int)) (Hf:n<=9223372036854775807) (hl:R.length<=100000000) {K:V->aA->Prop}
 (hK:∀ h',hU h' a m R->aA.aJ (fun n=>n=a) h h'->K (.i .i64 n) h'):aC P 127 [.p (.g a) 0,.i .i64 size] h K:=by
 obtain ⟨k,rfl⟩:=Int.eq_ofNat_of_zero_le hn
 exact rnumB_at hG hr hs (by omega) Hf hl hK
theorem rres_at {h:aA} {a:Nat} {m:Bool} {r:gW} {R:List Int} (hr:hU h a m (pC r++R)) (hb:I6 r) (hl:R.length<=10000000) {K:V->aA->Prop}
 (hK:∀ h',hU h' a m R->aA.aJ (fun n=>n=a) h h'->K (.agg (Aj r)) h'):aC P 129 [.p (.g a) 0] h K:=by
 unfold pC at hr
 rw [List.append_assoc,List.append_assoc] at hr
 obtain ⟨⟨a1,a2⟩,⟨b1,b2⟩,⟨d1,d2⟩⟩:=hb
 have h1:=fun K hK=>rnumI_at (K:=K) hG hr (by omega) a1 (by show r.a<(4294967296:Int);exact a2) (by omega) (by simp only [List.length_append,aV];omega) hK
 refine aQ (hG _ AF.f129 rfl) rfl ?_
 ((conv=>whnf);repeat ((first|refine b8.un ?_|refine cA (h1 _) ?_|refine zz ?_)<;>(conv=>whnf)))
 intro h2 r2 k2
 have h3:=fun K hK=>rnumI_at (K:=K) hG r2 (by omega) b1 (by show r.b<(4294967296:Int);exact b2) (by omega) (by simp only [List.length_append,aV];omega) hK
 ((conv=>whnf);repeat ((first|refine b8.un ?_|refine cA (h3 _) ?_|refine zz ?_)<;>(conv=>whnf)))
 intro h4 r4 k4
 have h5:=fun K hK=>rnumI_at (K:=K) hG r4 (by omega) d1 (by show r.c<(4294967296:Int);exact d2) (by omega) (by omega) hK
 ((conv=>whnf);repeat ((first|refine b8.un ?_|refine cA (h5 _) ?_|refine zz ?_)<;>(conv=>whnf)))
 intro h6 r6 k6
 ((conv=>whnf);repeat ((first|refine b8.un ?_|refine zz ?_)<;>(conv=>whnf)))
 exact hK h6 r6 ((k2.trans k4).trans k6)
theorem rpairs_at (eN:dQ P 285) {h:aA} {a:Nat} {m:Bool} {l:List cX} {R:List Int} (hr:hU h a m (dV l++R)) (hl:l.length<=100) (dW:∀ p∈l,eH p.key/\eH p.val) (hR:R.length<=1000000) {K:V->aA->Prop}
 (hK:∀ h' m',hU h' a m' R->aA.aJ (fun n=>n=a) h h'->K (YO 2 aY l) h'):aC P 131 [.p (.g a) 0,.fn 132 [] []] h K:=by
 have xY:∀ p:cX,(bX p).length=16:=fun p=>by simp [bX,bN]
 unfold dV at hr
 rw [List.append_assoc] at hr
 have fE:=qX bX (fun p=>by rw [xY];omega) l
 have hle:=eV bX 16 l fun p _=>Nat.le_of_eq (xY p)
 have h1:=fun K hK=>rcount_at (K:=K) hG hr (by omega) (by rw [List.length_append];omega) (by rw [List.length_append];omega) hK
 refine aQ (hG _ AF.f131 rfl) rfl ?_
 (refine cD @h1 ?_)
 intro h2 r2 k2
 (refine zr ?_)
 refine b8.by (fun q fr st=>∃ (i:Nat) (hh lc:aA) (m':Bool) (bv:V),i<=l.length/\q=l.length - i/\hU hh a m' ((l.drop i).flatMap bX++R)/\aA.aJ (fun n=>n=a) h hh/\YP lc 2 bv ((l.take i).map aY)/\
  Fr.le [(10,.i .i64 i),(9,.i .i64 l.length),(5,bv),(1,.fn 132 [] []),(0,.p (.g a) 0)] fr/\st=⟨hh,lc⟩)
  l.length ⟨0,h2,_,m,.aS,Nat.zero_le _,rfl,r2,k2,.inl ⟨rfl,rfl⟩,cT,rfl⟩ ?_
 rintro q fr st ⟨i,hh,lc,m',bv,hi,rfl,lW,hk,Tq,dE,rfl⟩
 refine ⟨_,dE,fun R0 LJ=>?_⟩
 have Zx:=eU bX 16 l i fun p _=>Nat.le_of_eq (xY p)
 have BJ:((l.take i).map aY).length<=100:=by simp;omega
 by_cases cY:i<l.length
 · have he:=List.getElem?_eq_getElem cY
   have yK:=dW _ (List.getElem_mem cY)
   generalize l[i]=x at he yK
   have hd:=lO bX he
   have vD:=eU bX 16 l (i+1) fun p _=>Nat.le_of_eq (xY p)
   rw [hd] at lW
   unfold bX at lW
   rw [List.append_assoc,List.append_assoc] at lW
   have jM:(l.take (i+1)).map aY=(l.take i).map aY++[aY x]:=by rw [List.take_add_one,he];simp
   have PN:=fun K hK=>rname_at (K:=K) hG eN lW yK.1 (by rw [List.length_append,List.length_append,bN];unfold bX at vD;omega) hK
   rcases Tq with ⟨uH,rfl⟩|⟨t,rfl,Jy,yU,dJ⟩
   · (refine iG (show (i:Int)<(l.length:Nat) by omega) @PN ?_)
     intro h3 r3 k3
     have Hf:=fun K hK=>rname_at (K:=K) hG eN r3 yK.2 (by rw [List.length_append];unfold bX at vD;omega) hK
     (refine cD @Hf ?_)
     intro h4 r4 k4
     (refine cD (aQ (hG _ AF.f132 rfl) rfl) ?_)
     exact LJ (l.length - (i+1)) _ _ (by omega) ⟨i+1,h4,_,true,_,by omega,rfl,r4,(hk.trans k3).trans k4,.inr ⟨lc.next+1,by first|(rw [jM,uH];done)|(rw [jM,uH];rfl),Nat.lt_succ_self _,aA.aB _ _,by rw [jM];simp⟩,cT,rfl⟩
   · have f0:(lc.push .spare).get t=some .spare:=aA.gp (by omega) yU
     (refine iG (show (i:Int)<(l.length:Nat) by omega) @PN ?_)
     intro h3 r3 k3
     have Hf:=fun K hK=>rname_at (K:=K) hG eN r3 yK.2 (by rw [List.length_append];unfold bX at vD;omega) hK
     (refine cD @Hf ?_)
     intro h4 r4 k4
     ((conv=>whnf);repeat ((first|refine cA (aQ (hG _ AF.f132 rfl) rfl) ?_|refine aR.gA (by omega) (by omega) ?_|refine aM.mk (by simp only [bT];exact decide_eq_true (by simp at BJ ⊢;omega)) ?_|refine ye (f0) ?_|refine zz ?_)<;>(conv=>whnf)))
     exact LJ (l.length - (i+1)) _ _ (by omega) ⟨i+1,h4,_,true,_,by omega,rfl,r4,(hk.trans k3).trans k4,.inr ⟨lc.next+1,by first|(rw [jM];done)|(rw [jM];rfl),Nat.lt_succ_self _,aA.aB _ _,by rw [jM];simp⟩,cT,rfl⟩
 · obtain rfl:i=l.length:=by omega
   rw [List.drop_length] at lW
   rw [List.take_length] at Tq
   have W4:=hK hh m' lW hk
   rcases Tq with ⟨uH,rfl⟩|⟨t,rfl,Jy,yU,dJ⟩
   · have u9:l=[]:=by simpa using uH
     subst u9
     (refine cD (show ¬(((([]:List cX)).length:Nat):Int)<(([]:List cX).length:Nat) by omega) ?_)
     exact W4
   · cases l with
     |nil=>exact absurd rfl dJ
     |cons x r=>
      (refine cD (show ¬(((x::r).length:Nat):Int)<((x::r).length:Nat) by omega) ?_)
      exact W4
end
open Go
def nU (c:Nat):Bool:=decide (0<eM c)
def bI (s:aU):Bool:=decide (1<=s.length)&&decide (s.length<=12)&&s.all fun c=>nU c.toNat
theorem nameB_ok {s:aU} (h:bI s=true):eH s:=by
 unfold bI at h
 simp only [Bool.and_eq_true,decide_eq_true_eq,List.all_eq_true] at h
 exact ⟨h.1.2,fun c hc=>by simpa [nU] using h.2 c hc⟩
theorem Fy (c:Nat):nU c=((decide (97<=c)&&decide (c<=122))||(decide (48<=c)&&decide (c<=57))||decide (c=45)):=by
 unfold nU eM
 by_cases h1:97<=c/\c<123
 · rw [if_pos h1,decide_eq_true (show 0<c - 96 by omega),decide_eq_true h1.1,decide_eq_true (show c<=122 by omega)];rfl
 · rw [if_neg h1]
   have e1:(decide (97<=c)&&decide (c<=122))=false:=by
    rw [<-Bool.decide_and];exact decide_eq_false (by omega)
   rw [e1]
   by_cases h2:48<=c/\c<58
   · rw [if_pos h2,decide_eq_true (show 0<c - 21 by omega),decide_eq_true h2.1,decide_eq_true (show c<=57 by omega)];rfl
   · rw [if_neg h2]
     have e2:(decide (48<=c)&&decide (c<=57))=false:=by
      rw [<-Bool.decide_and];exact decide_eq_false (by omega)
     rw [e2]
     by_cases h3:c=45
     · rw [if_pos h3,decide_eq_true h3];rfl
     · rw [if_neg h3,decide_eq_false h3];rfl
def pN (x:Int):Bool:=decide (0<=x)&&decide (x<=1000000000)
def Bk (r:gW):Bool:=pN r.a&&pN r.b&&pN r.c
def nL:Option Int->List Int->Bool
 |_,[]=>true
 |o,x::r=>decide (1<=x)&&decide (x<=65535)&&(match o with
  |none=>true
  |some y=>decide (y<x))&&nL (some x) r
section
variable {P:Program} (hG:bP P AF.fns.get)
include hG
theorem letter_at {h:aA} (c:Nat) {K:V->aA->Prop} (hK:K (.b (nU c)) h):aC P 219 [.i .u8 (c:Nat)] h K:=by
 rw [Fy] at hK
 by_cases c1:97<=c<;>by_cases c2:c<=122<;>by_cases c3:48<=c<;>by_cases c4:c<=57<;>by_cases c5:c=45
 all_goals
  simp only [c1,c2,c3,c4,c5,decide_true,decide_false,Bool.and_true,Bool.and_false,Bool.or_true,Bool.or_false,Bool.true_or,Bool.false_or,Bool.false_and,Bool.true_and] at hK
 all_goals
  first
  |(exfalso;omega)
  |(refine aQ (hG _ AF.f219 rfl) rfl ?_
    (refine zr ?_)
    first|exact hK|(rw [decide_eq_true (show (c:Int)=45 by omega)];exact hK)|(rw [decide_eq_false (show ¬(c:Int)=45 by omega)];exact hK))
theorem name_at {h:aA} (s:aU) (hl:s.length<=9223372036854775807) {K:V->aA->Prop} (hK:K (.b (bI s)) h):aC P 125 [.s s] h K:=by
 unfold bI at hK
 by_cases c1:s.length<1
 · rw [decide_eq_false (by omega)] at hK
   refine aQ (hG _ AF.f125 rfl) rfl ?_
   (refine zr ?_)
   exact hK
 rw [decide_eq_true (by omega),Bool.true_and] at hK
 by_cases c2:s.length>12
 · rw [decide_eq_false (by omega)] at hK
   refine aQ (hG _ AF.f125 rfl) rfl ?_
   (refine zr ?_)
   exact hK
 rw [decide_eq_true (by omega),Bool.true_and] at hK
 refine aQ (hG _ AF.f125 rfl) rfl ?_
 (refine zr ?_)
 refine b8.by (fun q fr st=>∃ (i:Nat) (l:aA),i<=s.length/\q=s.length - i/\(s.take i).all (fun c=>nU c.toNat)=true/\
  Fr.le [(14,.i .i64 i),(13,.i .i64 s.length),(0,.s s)] fr/\st=⟨h,l⟩)
  s.length ⟨0,_,Nat.zero_le _,rfl,rfl,cT,rfl⟩ ?_
 rintro q fr st ⟨i,l,hi,rfl,fH,dE,rfl⟩
 refine ⟨_,dE,fun R hR=>?_⟩
 by_cases cY:i<s.length
 · have hc:=List.getElem?_eq_getElem cY
   have Yx:=List.getElem_mem cY
   generalize s[i]=c at hc Yx
   have fU:s[((i:Nat):Int).toNat]? =some c:=by rw [Int.toNat_natCast];exact hc
   have cO:=fun K hK=>letter_at (K:=K) hG (h:=h) c.toNat hK
   (refine N9 (show (i:Int)<(s.length:Nat) by omega) (decide_eq_true (show (0:Int)<=(i:Int) by omega)) @cO @fU ?_)
   cases hb:nU c.toNat
   · (refine zr ?_)
     have:(s.all fun c=>nU c.toNat)=false:=by
      rw [List.all_eq_false];exact ⟨c,Yx,by rw [hb];decide⟩
     rw [this] at hK
     exact hK
   · (refine zr ?_)
     exact hR (s.length - (i+1)) _ _ (by omega) ⟨i+1,_,by omega,rfl,(by rw [List.take_add_one,hc];simp [fH,hb]),cT,rfl⟩
 · obtain rfl:i=s.length:=by omega
   rw [List.take_length] at fH
   rw [fH] at hK
   (refine zr ?_)
   exact hK
theorem qmay_at {h:aA} (r:gW) {K:V->aA->Prop} (hK:K (.b (Bk r)) h):aC P 208 [.agg (Aj r)] h K:=by
 unfold Bk pN at hK
 by_cases c1:0<=r.a/\r.a<=1000000000
 case neg=>
  rw [<-Bool.decide_and,decide_eq_false c1] at hK
  by_cases d:r.a<0
  all_goals
   refine aQ (hG _ AF.f208 rfl) rfl ?_
   ((conv=>whnf);repeat ((first|refine b8.un ?_|refine zz ?_)<;>(conv=>whnf)))
   exact hK
 rw [<-Bool.decide_and,decide_eq_true c1,Bool.true_and] at hK
 by_cases c2:0<=r.b/\r.b<=1000000000
 case neg=>
  rw [<-Bool.decide_and,decide_eq_false c2] at hK
  by_cases d:r.b<0
  all_goals
   refine aQ (hG _ AF.f208 rfl) rfl ?_
   ((conv=>whnf);repeat ((first|refine b8.un ?_|refine zz ?_)<;>(conv=>whnf)))
   exact hK
 rw [<-Bool.decide_and,decide_eq_true c2,Bool.true_and] at hK
 by_cases c3:0<=r.c/\r.c<=1000000000
 case neg=>
  rw [<-Bool.decide_and,decide_eq_false c3] at hK
  by_cases d:r.c<0
  all_goals
   refine aQ (hG _ AF.f208 rfl) rfl ?_
   ((conv=>whnf);repeat ((first|refine b8.un ?_|refine zz ?_)<;>(conv=>whnf)))
   exact hK
 rw [<-Bool.decide_and,decide_eq_true c3] at hK
 refine aQ (hG _ AF.f208 rfl) rfl ?_
 ((conv=>whnf);repeat ((first|refine b8.un ?_|refine zz ?_)<;>(conv=>whnf)))
 exact hK
end
open Go
theorem wZ (o:Option Int) (x:Int) (r:List Int):nL o (x::r)=(decide (1<=x)&&decide (x<=65535)&&(match o with
 |none=>true
 |some y=>decide (y<x))&&nL (some x) r):=by
 cases o<;>rfl
def fO:Option aU->List cX->Bool
 |_,[]=>true
 |o,x::r=>bI x.key&&bI x.val&&(match o with
  |none=>true
  |some y=>Op.bytesLess y x.key)&&fO (some x.key) r
theorem rW (o:Option aU) (x:cX) (r:List cX):fO o (x::r)=(bI x.key&&bI x.val&&(match o with
 |none=>true
 |some y=>Op.bytesLess y x.key)&&fO (some x.key) r):=by
 cases o<;>rfl
def mO (t:cM):Bool:=(if t.kind=1\/t.kind=2 then decide (1<=t.bF.length)&&decide (t.bF.length<=6) else decide (t.kind=3\/t.kind=4)&&decide (t.bF.length=0))&&bI t.key&&t.bF.all bI
def FA (t:lC):Bool:=(decide (t.key=[])||bI t.key)&&(if t.any then decide (t.val=[]) else bI t.val)
section
variable {P:Program} (hG:bP P AF.fns.get)
include hG
theorem oports_at {h:aA} (l:List Int) (hl:l.length<=9223372036854775807) {K:V->aA->Prop} (hK:K (.b (nL none l&&decide (l.length<=6))) h):aC P 212 [.sl none 1 (l.map fA)] h K:=by
 have gK:(l.map fA).length=l.length:=List.length_map _
 refine aQ (hG _ AF.f212 rfl) rfl ?_
 ((conv=>whnf);repeat ((first|refine zz ?_)<;>(conv=>whnf)))
 refine b8.by (fun q fr st=>∃ (i:Nat) (lc:aA) (o:Option Int),i<=l.length/\q=l.length - i/\nL none l=nL o (l.drop i)/\((i=0/\o=none)\/(0<i/\∃ y,l[i - 1]? =some y/\o=some y))/\
  Fr.le [(7,.i .i64 i),(6,.i .i64 (l.map fA).length),(5,.sl none 1 (l.map fA)),(0,.sl none 1 (l.map fA))] fr/\st=⟨h,lc⟩)
  l.length ⟨0,_,none,Nat.zero_le _,rfl,rfl,.inl ⟨rfl,rfl⟩,cT,rfl⟩ ?_
 rintro q fr st ⟨i,lc,o,hi,rfl,heq,ho,dE,rfl⟩
 refine ⟨_,dE,fun R hR=>?_⟩
 have pH:nL none l=false->K (.b false) h:=fun hf=>by rw [hf] at hK;exact hK
 by_cases cY:i<l.length
 · have he:=List.getElem?_eq_getElem cY
   have AB:=List.drop_eq_getElem_cons cY
   generalize l[i]=x at he AB
   rw [AB,wZ] at heq
   by_cases c1:x<1
   · rw [decide_eq_false (by omega)] at heq
     ((conv=>whnf);repeat ((first|refine aH.dt (show (i:Int)<(l.map fA).length by omega) ?_|refine aH.dt c1 ?_|refine ye (aF (by omega) he) ?_|refine zz ?_)<;>(conv=>whnf)))
     exact pH (by rw [heq];rfl)
   rw [decide_eq_true (show 1<=x by omega)] at heq
   by_cases c2:x>65535
   · rw [decide_eq_false (show ¬x<=65535 by omega)] at heq
     ((conv=>whnf);repeat ((first|refine aH.dt (show (i:Int)<(l.map fA).length by omega) ?_|refine aH.df c1 ?_|refine aH.dt c2 ?_|refine ye (aF (by omega) he) ?_|refine zz ?_)<;>(conv=>whnf)))
     exact pH (by rw [heq];rfl)
   rw [decide_eq_true (show x<=65535 by omega)] at heq
   rcases ho with ⟨rfl,rfl⟩|⟨Ds,y,hy,rfl⟩
   · ((conv=>whnf);repeat ((first|refine aH.dt (show ((0:Nat):Int)<(l.map fA).length by omega) ?_|refine aH.df c1 ?_|refine aH.df c2 ?_|refine aH.df (show ¬((0:Nat):Int)>0 by omega) ?_|refine aR.gA (by omega) (by omega) ?_|refine ye (aF (by omega) he) ?_|refine zz ?_)<;>(conv=>whnf)))
     exact hR (l.length - (0+1)) _ _ (by omega) ⟨0+1,_,some x,by omega,rfl,heq,.inr ⟨by omega,x,he,rfl⟩,cT,rfl⟩
   · by_cases c3:y>=x
     · simp only [decide_eq_false (show ¬y<x by omega)] at heq
       ((conv=>whnf);repeat ((first|refine aH.dt (show (i:Int)<(l.map fA).length by omega) ?_|refine aH.df c1 ?_|refine aH.df c2 ?_|refine aH.dt (show (i:Int)>0 by omega) ?_|refine aR.gA (by omega) (by omega) ?_|refine aM.ix (by omega) (by omega) ?_|refine aH.dt c3 ?_|refine ye (aF (by omega) he) ?_|refine ye (aF (by omega) hy) ?_|refine zz ?_)<;>(conv=>whnf)))
       exact pH (by rw [heq];rfl)
     · simp only [decide_eq_true (show y<x by omega)] at heq
       ((conv=>whnf);repeat ((first|refine aH.dt (show (i:Int)<(l.map fA).length by omega) ?_|refine aH.df c1 ?_|refine aH.df c2 ?_|refine aH.dt (show (i:Int)>0 by omega) ?_|refine aR.gA (by omega) (by omega) ?_|refine aM.ix (by omega) (by omega) ?_|refine aH.df c3 ?_|refine ye (aF (by omega) he) ?_|refine ye (aF (by omega) hy) ?_|refine zz ?_)<;>(conv=>whnf)))
       exact hR (l.length - (i+1)) _ _ (by omega) ⟨i+1,_,some x,by omega,rfl,heq,.inr ⟨by omega,x,he,rfl⟩,cT,rfl⟩
 · obtain rfl:i=l.length:=by omega
   rw [List.drop_length] at heq
   have heq:nL none l=true:=heq
   rw [heq,Bool.true_and] at hK
   have e:decide (((l.map fA).length:Int)<=6)=decide (l.length<=6):=by
    by_cases c:l.length<=6
    · rw [decide_eq_true c,decide_eq_true (by omega)]
    · rw [decide_eq_false c,decide_eq_false (by omega)]
   ((conv=>whnf);repeat ((first|refine aH.df (show ¬((l.length:Nat):Int)<(l.map fA).length by omega) ?_|refine zz ?_)<;>(conv=>whnf)))
   rw [e]
   exact hK
theorem lmay_at {h:aA} (l:List cX) (hl:l.length<=9223372036854775807) (hs:∀ q∈l,q.key.length<=9223372036854775807/\q.val.length<=9223372036854775807) {K:V->aA->Prop} (hK:K (.b (fO none l&&decide (l.length<=6))) h):aC P 209 [.sl none 2 (l.map aY)] h K:=by
 have gK:(l.map aY).length=l.length:=List.length_map _
 refine aQ (hG _ AF.f209 rfl) rfl ?_
 (refine zr ?_)
 refine b8.by (fun q fr st=>∃ (i:Nat) (lc:aA) (o:Option aU),i<=l.length/\q=l.length - i/\fO none l=fO o (l.drop i)/\((i=0/\o=none)\/(0<i/\∃ y,l[i - 1]? =some y/\o=some y.key))/\
  Fr.le [(7,.i .i64 i),(6,.i .i64 (l.map aY).length),(5,.sl none 2 (l.map aY)),(0,.sl none 2 (l.map aY))] fr/\st=⟨h,lc⟩)
  l.length ⟨0,_,none,Nat.zero_le _,rfl,rfl,.inl ⟨rfl,rfl⟩,cT,rfl⟩ ?_
 rintro q fr st ⟨i,lc,o,hi,rfl,heq,ho,dE,rfl⟩
 refine ⟨_,dE,fun R hR=>?_⟩
 have pH:fO none l=false->K (.b false) h:=fun hf=>by rw [hf] at hK;exact hK
 have a1:∀ o,(lc.push o).get lc.next=some o:=fun o=>aA.aB _ _
 have a2:∀ o o2,((lc.push o).set lc.next o2).get lc.next=some o2:=fun o o2=>aA.aD (a1 o)
 by_cases cY:i<l.length
 · have he:=List.getElem?_eq_getElem cY
   have O0:=hs _ (List.getElem_mem cY)
   have AB:=List.drop_eq_getElem_cons cY
   generalize l[i]=x at he AB O0
   rw [AB,rW] at heq
   have hk:=fun K hK=>name_at (K:=K) hG (h:=h) x.key O0.1 hK
   have hv:=fun K hK=>name_at (K:=K) hG (h:=h) x.val O0.2 hK
   cases c1:bI x.key
   · rw [c1] at heq hk
     (refine IV (show (i:Int)<(l.map aY).length by omega) @hk @he @a1 @a2 ?_)
     exact pH (by rw [heq];rfl)
   cases c2:bI x.val
   · rw [c1,c2] at heq
     rw [c1] at hk
     rw [c2] at hv
     (refine WN (show (i:Int)<(l.map aY).length by omega) @hk @hv @he @a1 @a2 ?_)
     exact pH (by rw [heq];rfl)
   rw [c1,c2] at heq
   rw [c1] at hk
   rw [c2] at hv
   rcases ho with ⟨rfl,rfl⟩|⟨Ds,y,hy,rfl⟩
   · (refine zr7 (show ((0:Nat):Int)<(l.map aY).length by omega) @hk @hv (show ¬((0:Nat):Int)>0 by omega) @he @a1 @a2 ?_)
     exact hR (l.length - (0+1)) _ _ (by omega) ⟨0+1,_,some x.key,by omega,rfl,heq,.inr ⟨by omega,x,he,rfl⟩,cT,rfl⟩
   · cases c3:Op.bytesLess y.key x.key
     · simp only [c3] at heq
       ((conv=>whnf);repeat ((first|refine aH.dt (show (i:Int)<(l.map aY).length by omega) ?_|refine cA (hk _) ?_|refine cA (hv _) ?_|refine aH.dt (show (i:Int)>0 by omega) ?_|refine aR.gA (by omega) (by omega) ?_|refine aM.ix (by omega) (by omega) ?_|refine aH.tt (show (!Op.bytesLess y.key x.key)=true by rw [c3];rfl) ?_|refine ye (aF (by omega) he) ?_|refine ye (aF (by omega) hy) ?_|refine ye (a1 _) ?_|refine ye (a2 _ _) ?_|refine zz ?_)<;>(conv=>whnf)))
       exact pH (by rw [heq];rfl)
     · simp only [c3] at heq
       ((conv=>whnf);repeat ((first|refine aH.dt (show (i:Int)<(l.map aY).length by omega) ?_|refine cA (hk _) ?_|refine cA (hv _) ?_|refine aH.dt (show (i:Int)>0 by omega) ?_|refine aR.gA (by omega) (by omega) ?_|refine aM.ix (by omega) (by omega) ?_|refine aH.ff (show (!Op.bytesLess y.key x.key)=false by rw [c3];rfl) ?_|refine ye (aF (by omega) he) ?_|refine ye (aF (by omega) hy) ?_|refine ye (a1 _) ?_|refine ye (a2 _ _) ?_|refine zz ?_)<;>(conv=>whnf)))
       exact hR (l.length - (i+1)) _ _ (by omega) ⟨i+1,_,some x.key,by omega,rfl,heq,.inr ⟨by omega,x,he,rfl⟩,cT,rfl⟩
 · obtain rfl:i=l.length:=by omega
   rw [List.drop_length] at heq
   have heq:fO none l=true:=heq
   rw [heq,Bool.true_and] at hK
   have e:decide (((l.map aY).length:Int)<=6)=decide (l.length<=6):=by
    by_cases c:l.length<=6
    · rw [decide_eq_true c,decide_eq_true (by omega)]
    · rw [decide_eq_false c,decide_eq_false (by omega)]
   (refine cD (show ¬((l.length:Nat):Int)<(l.map aY).length by omega) ?_)
   rw [e]
   exact hK
end
open Go
theorem Tr {P:Program} {f:Nat} (hk:gU P f (jH 1 none)=true) {l:List aU} {g:Nat} {k:Nat} {h:aA} {p:aU->Bool} (hl:l.length<=9223372036854775807)
 (hg:∀ e∈l,∀ K:V->aA->Prop,K (.b (p e)) h->aC P g (.s e::[]) h K) {K:V->aA->Prop} (hK:K (.i .i64 (gQ p l)) h):aC P f [.sl none 1 (l.map bE),.fn g [] []] h K:=by
 have gK:(l.map bE).length=l.length:=List.length_map _
 refine aQ hk rfl ?_
 ((conv=>whnf);repeat ((first|refine aH.ff rfl ?_|refine aH.tt rfl ?_|refine bC.of rfl ?_|refine aM.mk rfl ?_|refine aT.mk rfl ?_|refine cK.of rfl ?_)<;>(conv=>whnf)))
 refine b8.by (fun q fr st=>∃ i:Nat,i<=l.length/\q=l.length - i/\(∀ (j:Nat) (e:aU),j<i->l[j]? =some e->p e=false)/\Fr.le [(8,.i .i64 i),(7,.i .i64 (l.map bE).length),(1,.fn g [] []),(0,.sl none 1 (l.map bE))] fr/\st=dP h)
  l.length ⟨0,Nat.zero_le _,rfl,fun j e hj=>absurd hj (Nat.not_lt_zero _),cT,rfl⟩ ?_
 rintro q fr st ⟨i,hi,rfl,dW,hle,rfl⟩
 refine ⟨_,hle,fun R hR=>?_⟩
 ((conv=>whnf);repeat ((first|refine aH.ff rfl ?_|refine aH.tt rfl ?_|refine bC.of rfl ?_|refine aM.mk rfl ?_|refine aT.mk rfl ?_|refine cK.of rfl ?_)<;>(conv=>whnf)))
 refine aH.ds (fun cO=>?_) (fun fE=>?_)
 · have cZ:i<l.length:=by omega
   have he:=List.getElem?_eq_getElem cZ
   have hm:=List.getElem_mem cZ
   generalize l[i]=e at he hm
   ((conv=>whnf);repeat ((first|refine aM.ix (by omega) (by omega) ?_|refine aH.ff rfl ?_|refine aH.tt rfl ?_|refine bC.of rfl ?_|refine aM.mk rfl ?_|refine aT.mk rfl ?_|refine cK.of (aF (by simp) he) ?_|refine cK.of rfl ?_)<;>(conv=>whnf)))
   refine dF.mk (hg e hm _ ?_)
   ((conv=>whnf);repeat ((first|refine aH.ff rfl ?_|refine aH.tt rfl ?_|refine bC.of rfl ?_|refine aM.mk rfl ?_|refine aT.mk rfl ?_|refine cK.of rfl ?_)<;>(conv=>whnf)))
   refine aH.mk (fun hp=>?_) (fun hp=>?_)
   · ((conv=>whnf);repeat ((first|refine aH.ff rfl ?_|refine aH.tt rfl ?_|refine bC.of rfl ?_|refine aM.mk rfl ?_|refine aT.mk rfl ?_|refine cK.of rfl ?_)<;>(conv=>whnf)))
     rw [dD he hp dW] at hK
     exact hK
   · ((conv=>whnf);repeat ((first|refine aR.gA (by omega) (by omega) ?_|refine aH.ff rfl ?_|refine aH.tt rfl ?_|refine bC.of rfl ?_|refine aM.mk rfl ?_|refine aT.mk rfl ?_|refine cK.of rfl ?_)<;>(conv=>whnf)))
     refine hR (l.length - (i+1)) _ _ (by omega) ⟨i+1,by omega,rfl,fun j x hj hx=>?_,cT,rfl⟩
     by_cases zE:j<i
     · exact dW j x zE hx
     · obtain rfl:j=i:=by omega
       rw [he] at hx;cases hx;exact hp
 · ((conv=>whnf);repeat ((first|refine aH.ff rfl ?_|refine aH.tt rfl ?_|refine bC.of rfl ?_|refine aM.mk rfl ?_|refine aT.mk rfl ?_|refine cK.of rfl ?_)<;>(conv=>whnf)))
   rw [dN fun j x hx=>dW j x (by have:=(List.getElem?_eq_some_iff.1 hx).1;omega) hx] at hK
   exact hK
theorem P0 {P:Program} {f:Nat} (hk:gU P f (jH 3 (some 3))=true) {l:List cM} {g:Nat} {k:Nat} {h:aA} {p:cM->Bool} (hl:l.length<=9223372036854775807)
 (hg:∀ e∈l,∀ K:V->aA->Prop,K (.b (p e)) h->aC P g (.agg (bA e)::[]) h K) {K:V->aA->Prop} (hK:K (.i .i64 (gQ p l)) h):aC P f [.sl none 3 (l.map bA),.fn g [] []] h K:=by
 have gK:(l.map bA).length=l.length:=List.length_map _
 refine aQ hk rfl ?_
 ((conv=>whnf);repeat ((first|refine aH.ff rfl ?_|refine aH.tt rfl ?_|refine bC.of rfl ?_|refine aM.mk rfl ?_|refine aT.mk rfl ?_|refine cK.of rfl ?_)<;>(conv=>whnf)))
 refine b8.by (fun q fr st=>∃ i:Nat,i<=l.length/\q=l.length - i/\(∀ (j:Nat) (e:cM),j<i->l[j]? =some e->p e=false)/\Fr.le [(8,.i .i64 i),(7,.i .i64 (l.map bA).length),(1,.fn g [] []),(0,.sl none 3 (l.map bA))] fr/\st=dP h)
  l.length ⟨0,Nat.zero_le _,rfl,fun j e hj=>absurd hj (Nat.not_lt_zero _),cT,rfl⟩ ?_
 rintro q fr st ⟨i,hi,rfl,dW,hle,rfl⟩
 refine ⟨_,hle,fun R hR=>?_⟩
 ((conv=>whnf);repeat ((first|refine aH.ff rfl ?_|refine aH.tt rfl ?_|refine bC.of rfl ?_|refine aM.mk rfl ?_|refine aT.mk rfl ?_|refine cK.of rfl ?_)<;>(conv=>whnf)))
 refine aH.ds (fun cO=>?_) (fun fE=>?_)
 · have cZ:i<l.length:=by omega
   have he:=List.getElem?_eq_getElem cZ
   have hm:=List.getElem_mem cZ
   generalize l[i]=e at he hm
   ((conv=>whnf);repeat ((first|refine aM.ix (by omega) (by omega) ?_|refine aH.ff rfl ?_|refine aH.tt rfl ?_|refine bC.of rfl ?_|refine aM.mk rfl ?_|refine aT.mk rfl ?_|refine cK.of (aF (by simp) he) ?_|refine cK.of rfl ?_)<;>(conv=>whnf)))
   refine dF.mk (hg e hm _ ?_)
   ((conv=>whnf);repeat ((first|refine aH.ff rfl ?_|refine aH.tt rfl ?_|refine bC.of rfl ?_|refine aM.mk rfl ?_|refine aT.mk rfl ?_|refine cK.of rfl ?_)<;>(conv=>whnf)))
   refine aH.mk (fun hp=>?_) (fun hp=>?_)
   · ((conv=>whnf);repeat ((first|refine aH.ff rfl ?_|refine aH.tt rfl ?_|refine bC.of rfl ?_|refine aM.mk rfl ?_|refine aT.mk rfl ?_|refine cK.of rfl ?_)<;>(conv=>whnf)))
     rw [dD he hp dW] at hK
     exact hK
   · ((conv=>whnf);repeat ((first|refine aR.gA (by omega) (by omega) ?_|refine aH.ff rfl ?_|refine aH.tt rfl ?_|refine bC.of rfl ?_|refine aM.mk rfl ?_|refine aT.mk rfl ?_|refine cK.of rfl ?_)<;>(conv=>whnf)))
     refine hR (l.length - (i+1)) _ _ (by omega) ⟨i+1,by omega,rfl,fun j x hj hx=>?_,cT,rfl⟩
     by_cases zE:j<i
     · exact dW j x zE hx
     · obtain rfl:j=i:=by omega
       rw [he] at hx;cases hx;exact hp
 · ((conv=>whnf);repeat ((first|refine aH.ff rfl ?_|refine aH.tt rfl ?_|refine bC.of rfl ?_|refine aM.mk rfl ?_|refine aT.mk rfl ?_|refine cK.of rfl ?_)<;>(conv=>whnf)))
   rw [dN fun j x hx=>dW j x (by have:=(List.getElem?_eq_some_iff.1 hx).1;omega) hx] at hK
   exact hK
theorem Ts {P:Program} {f:Nat} (hk:gU P f (jH 3 (some 3))=true) {l:List lC} {g:Nat} {k:Nat} {h:aA} {p:lC->Bool} (hl:l.length<=9223372036854775807)
 (hg:∀ e∈l,∀ K:V->aA->Prop,K (.b (p e)) h->aC P g (.agg (eP e)::[]) h K) {K:V->aA->Prop} (hK:K (.i .i64 (gQ p l)) h):aC P f [.sl none 3 (l.map eP),.fn g [] []] h K:=by
 have gK:(l.map eP).length=l.length:=List.length_map _
 refine aQ hk rfl ?_
 ((conv=>whnf);repeat ((first|refine aH.ff rfl ?_|refine aH.tt rfl ?_|refine bC.of rfl ?_|refine aM.mk rfl ?_|refine aT.mk rfl ?_|refine cK.of rfl ?_)<;>(conv=>whnf)))
 refine b8.by (fun q fr st=>∃ i:Nat,i<=l.length/\q=l.length - i/\(∀ (j:Nat) (e:lC),j<i->l[j]? =some e->p e=false)/\Fr.le [(8,.i .i64 i),(7,.i .i64 (l.map eP).length),(1,.fn g [] []),(0,.sl none 3 (l.map eP))] fr/\st=dP h)
  l.length ⟨0,Nat.zero_le _,rfl,fun j e hj=>absurd hj (Nat.not_lt_zero _),cT,rfl⟩ ?_
 rintro q fr st ⟨i,hi,rfl,dW,hle,rfl⟩
 refine ⟨_,hle,fun R hR=>?_⟩
 ((conv=>whnf);repeat ((first|refine aH.ff rfl ?_|refine aH.tt rfl ?_|refine bC.of rfl ?_|refine aM.mk rfl ?_|refine aT.mk rfl ?_|refine cK.of rfl ?_)<;>(conv=>whnf)))
 refine aH.ds (fun cO=>?_) (fun fE=>?_)
 · have cZ:i<l.length:=by omega
   have he:=List.getElem?_eq_getElem cZ
   have hm:=List.getElem_mem cZ
   generalize l[i]=e at he hm
   ((conv=>whnf);repeat ((first|refine aM.ix (by omega) (by omega) ?_|refine aH.ff rfl ?_|refine aH.tt rfl ?_|refine bC.of rfl ?_|refine aM.mk rfl ?_|refine aT.mk rfl ?_|refine cK.of (aF (by simp) he) ?_|refine cK.of rfl ?_)<;>(conv=>whnf)))
   refine dF.mk (hg e hm _ ?_)
   ((conv=>whnf);repeat ((first|refine aH.ff rfl ?_|refine aH.tt rfl ?_|refine bC.of rfl ?_|refine aM.mk rfl ?_|refine aT.mk rfl ?_|refine cK.of rfl ?_)<;>(conv=>whnf)))
   refine aH.mk (fun hp=>?_) (fun hp=>?_)
   · ((conv=>whnf);repeat ((first|refine aH.ff rfl ?_|refine aH.tt rfl ?_|refine bC.of rfl ?_|refine aM.mk rfl ?_|refine aT.mk rfl ?_|refine cK.of rfl ?_)<;>(conv=>whnf)))
     rw [dD he hp dW] at hK
     exact hK
   · ((conv=>whnf);repeat ((first|refine aR.gA (by omega) (by omega) ?_|refine aH.ff rfl ?_|refine aH.tt rfl ?_|refine bC.of rfl ?_|refine aM.mk rfl ?_|refine aT.mk rfl ?_|refine cK.of rfl ?_)<;>(conv=>whnf)))
     refine hR (l.length - (i+1)) _ _ (by omega) ⟨i+1,by omega,rfl,fun j x hj hx=>?_,cT,rfl⟩
     by_cases zE:j<i
     · exact dW j x zE hx
     · obtain rfl:j=i:=by omega
       rw [he] at hx;cases hx;exact hp
 · ((conv=>whnf);repeat ((first|refine aH.ff rfl ?_|refine aH.tt rfl ?_|refine bC.of rfl ?_|refine aM.mk rfl ?_|refine aT.mk rfl ?_|refine cK.of rfl ?_)<;>(conv=>whnf)))
   rw [dN fun j x hx=>dW j x (by have:=(List.getElem?_eq_some_iff.1 hx).1;omega) hx] at hK
   exact hK
theorem DM {α:Type} (f:α->Bool):∀ l:List α,(l.any fun x=>!f x)=!l.all f
 |[]=>rfl
 |x::r=>by rw [List.any_cons,List.all_cons,DM f r,Bool.not_and]
structure I7 (t:cM):Prop where
 key:t.key.length<=9223372036854775807
 len:t.bF.length<=9223372036854775807
 bF:∀ v∈t.bF,v.length<=9223372036854775807
def fY (l:List cM):Bool:=decide (l.length<=6)&&l.all mO
def xA (l:List lC):Bool:=decide (l.length<=6)&&l.all FA
section
variable {P:Program} (hG:bP P AF.fns.get)
include hG
theorem Tt {l:List aU} {g:Nat} {k:Nat} {h:aA} {p:aU->Bool} (hl:l.length<=9223372036854775807)
 (hg:∀ e∈l,∀ K:V->aA->Prop,K (.b (p e)) h->aC P g (.s e::[]) h K) {K:V->aA->Prop} (hK:K (.b (l.any p)) h):aC P 336 [.sl none 1 (l.map bE),.fn g [] []] h K:=by
 refine aQ (hG _ AF.f336 rfl) rfl ?_
 ((conv=>whnf);repeat ((first|refine aH.ff rfl ?_|refine aH.tt rfl ?_|refine bC.of rfl ?_|refine aM.mk rfl ?_|refine aT.mk rfl ?_|refine cK.of rfl ?_)<;>(conv=>whnf)))
 refine dF.mk (Tr (k:=k) (show gU P 155 (jH 1 none)=true from hG _ AF.f155 rfl) hl hg ?_)
 ((conv=>whnf);repeat ((first|refine aH.ff rfl ?_|refine aH.tt rfl ?_|refine bC.of rfl ?_|refine aM.mk rfl ?_|refine aT.mk rfl ?_|refine cK.of rfl ?_)<;>(conv=>whnf)))
 rw [<-kC] at hK
 exact hK
theorem P1 {l:List cM} {g:Nat} {k:Nat} {h:aA} {p:cM->Bool} (hl:l.length<=9223372036854775807)
 (hg:∀ e∈l,∀ K:V->aA->Prop,K (.b (p e)) h->aC P g (.agg (bA e)::[]) h K) {K:V->aA->Prop} (hK:K (.b (l.any p)) h):aC P 277 [.sl none 3 (l.map bA),.fn g [] []] h K:=by
 refine aQ (hG _ AF.f277 rfl) rfl ?_
 ((conv=>whnf);repeat ((first|refine aH.ff rfl ?_|refine aH.tt rfl ?_|refine bC.of rfl ?_|refine aM.mk rfl ?_|refine aT.mk rfl ?_|refine cK.of rfl ?_)<;>(conv=>whnf)))
 refine dF.mk (P0 (k:=k) (show gU P 332 (jH 3 (some 3))=true from hG _ AF.f332 rfl) hl hg ?_)
 ((conv=>whnf);repeat ((first|refine aH.ff rfl ?_|refine aH.tt rfl ?_|refine bC.of rfl ?_|refine aM.mk rfl ?_|refine aT.mk rfl ?_|refine cK.of rfl ?_)<;>(conv=>whnf)))
 rw [<-kC] at hK
 exact hK
theorem Tu {l:List lC} {g:Nat} {k:Nat} {h:aA} {p:lC->Bool} (hl:l.length<=9223372036854775807)
 (hg:∀ e∈l,∀ K:V->aA->Prop,K (.b (p e)) h->aC P g (.agg (eP e)::[]) h K) {K:V->aA->Prop} (hK:K (.b (l.any p)) h):aC P 280 [.sl none 3 (l.map eP),.fn g [] []] h K:=by
 refine aQ (hG _ AF.f280 rfl) rfl ?_
 ((conv=>whnf);repeat ((first|refine aH.ff rfl ?_|refine aH.tt rfl ?_|refine bC.of rfl ?_|refine aM.mk rfl ?_|refine aT.mk rfl ?_|refine cK.of rfl ?_)<;>(conv=>whnf)))
 refine dF.mk (Ts (k:=k) (show gU P 333 (jH 3 (some 3))=true from hG _ AF.f333 rfl) hl hg ?_)
 ((conv=>whnf);repeat ((first|refine aH.ff rfl ?_|refine aH.tt rfl ?_|refine bC.of rfl ?_|refine aM.mk rfl ?_|refine aT.mk rfl ?_|refine cK.of rfl ?_)<;>(conv=>whnf)))
 rw [<-kC] at hK
 exact hK
theorem mterm1_at {h:aA} (v:aU) (hs:v.length<=9223372036854775807) {K:V->aA->Prop} (hK:K (.b (!bI v)) h):aC P 337 [.s v] h K:=by
 have hk:=fun K hK=>name_at (K:=K) hG (h:=h) v hs hK
 refine aQ (hG _ AF.f337 rfl) rfl ?_
 (refine cD @hk ?_)
 exact hK
theorem mterm_at {h:aA} (t:cM) (hs:I7 t) {K:V->aA->Prop} (hK:K (.b (mO t)) h):aC P 289 [.agg (bA t)] h K:=by
 have gK:(t.bF.map bE).length=t.bF.length:=List.length_map _
 have hk:=fun K hK=>name_at (K:=K) hG (h:=h) t.key hs.key hK
 have hc:=fun (K:V->aA->Prop) (hK:K (.b (!t.bF.all bI)) h)=>Tt (K:=K) hG (k:=0) (g:=337) (p:=fun v=>!bI v) hs.len (fun v hv K hK=>mterm1_at hG v (hs.bF v hv) hK) (by rw [DM];exact hK)
 have hB:∀ L M:Nat,(∀ b,mO t=b->b=(bI t.key&&decide (L<=t.bF.length)&&decide (t.bF.length<=M)&&t.bF.all bI))->K (.b (bI t.key&&decide (L<=t.bF.length)&&decide (t.bF.length<=M)&&t.bF.all bI)) h:=fun L M hb=>by rw [<-hb _ rfl];exact hK
 by_cases k:t.kind=1\/t.kind=2
 · have hK:=hB 1 6 fun b hb=>by
    rw [<-hb];unfold mO;rw [if_pos k]
    cases bI t.key<;>cases decide (1<=t.bF.length)<;>cases decide (t.bF.length<=6)<;>rfl
   cases c0:bI t.key
   · rw [c0] at hK hk
     rcases k with k|k
     all_goals
      refine aQ (hG _ AF.f289 rfl) rfl ?_
      (refine cD @hk ?_)
      exact hK
   rw [c0] at hK hk
   by_cases c1:1<=t.bF.length
   case neg=>
    rw [decide_eq_false c1] at hK
    rcases k with k|k
    all_goals
     refine aQ (hG _ AF.f289 rfl) rfl ?_
     (refine cD @hk ?_)
     exact hK
   rw [decide_eq_true c1] at hK
   by_cases c2:t.bF.length<=6
   case neg=>
    rw [decide_eq_false c2] at hK
    rcases k with k|k
    all_goals
     refine aQ (hG _ AF.f289 rfl) rfl ?_
     (refine cD @hk ?_)
     exact hK
   rw [decide_eq_true c2] at hK
   rcases k with k|k
   all_goals
    refine aQ (hG _ AF.f289 rfl) rfl ?_
    (refine iG @hk @hc ?_)
    rw [Bool.not_not]
    exact hK
 by_cases k2:t.kind=3\/t.kind=4
 · have hK:=hB 0 0 fun b hb=>by
    rw [<-hb];unfold mO;rw [if_neg k,decide_eq_true k2]
    by_cases c:t.bF.length=0
    · rw [decide_eq_true c,decide_eq_true (show 0<=t.bF.length by omega),decide_eq_true (show t.bF.length<=0 by omega)];cases bI t.key<;>rfl
    · rw [decide_eq_false c,decide_eq_false (show ¬t.bF.length<=0 by omega)];cases bI t.key<;>cases decide (0<=t.bF.length)<;>rfl
   rw [decide_eq_true (Nat.zero_le _),Bool.and_true] at hK
   cases c0:bI t.key
   · rw [c0] at hK hk
     rcases k2 with k2|k2
     all_goals
      refine aQ (hG _ AF.f289 rfl) rfl ?_
      (refine cD @hk ?_)
      exact hK
   rw [c0] at hK hk
   by_cases c2:t.bF.length<=0
   case neg=>
    rw [decide_eq_false c2] at hK
    rcases k2 with k2|k2
    all_goals
     refine aQ (hG _ AF.f289 rfl) rfl ?_
     (refine cD @hk ?_)
     exact hK
   rw [decide_eq_true c2] at hK
   rcases k2 with k2|k2
   all_goals
    refine aQ (hG _ AF.f289 rfl) rfl ?_
    (refine iG @hk @hc ?_)
    rw [Bool.not_not]
    exact hK
 · have hT:mO t=false:=by
    unfold mO;rw [if_neg k,decide_eq_false k2];rfl
   rw [hT] at hK
   have k1:¬t.kind=1:=fun e=>k (.inl e)
   have k1':¬t.kind=2:=fun e=>k (.inr e)
   have k3:¬t.kind=3:=fun e=>k2 (.inl e)
   have k4:¬t.kind=4:=fun e=>k2 (.inr e)
   refine aQ (hG _ AF.f289 rfl) rfl ?_
   (refine zr ?_)
   exact hK
end
end Go.Eng
