/-
Who is on a node; no port is had twice; a state is whole.
-/
import Derived.Test.YtmfelikepmmjkaaGreatY33
import Derived.Test.YtmfelikepmmjkaaGreatY34
import Derived.Test.YtmfelikepmmjkaaGreatY24
import Derived.Test.YtmfelikepmmjkaaGreatY32
import Derived.Test.YtmfelikepmmjkaaGreatY09
set_option linter.unusedVariables false
set_option linter.unusedSimpArgs false
set_option maxHeartbeats 8000000
set_option maxRecDepth 10000
namespace Go.Eng
open Go
theorem HF.room {p:aO} (h:HF p):iP p:=
 ⟨by have:=h.aX;omega,by have:=h.labels;omega,by have:=h.b8;omega,⟨by have:=h.lR.len;omega,fun t ht=>by have:=h.lR.each t ht;omega⟩,⟨by have:=h.cT.len;omega,fun t ht=>by have:=h.cT.each t ht;omega⟩,
  ⟨by have:=h.even.len;omega,fun t ht=>by have:=h.even.each t ht;omega⟩⟩
open Go
theorem F4 {s:eG} {p:aO} {x:aU} (h:x∈iG s p):hY s p x=true:=by
 obtain ⟨n,hn,rfl⟩:=List.mem_map.1 h
 exact (List.mem_filter.1 hn).2
open Go
def eL (a c:Int):Int:=if c<1\/1000000000<c then 0 else (100*mZ (lU a 0) c).tdiv c
theorem U6 {a c:Int} (h:1<=c):0<=mZ (lU a 0) c/\mZ (lU a 0) c<=c:=by unfold mZ lU;split<;>split<;>omega
theorem oD (a c:Int):0<=eL a c/\eL a c<=100:=by
 unfold eL
 split
 · omega
 · have h:=U6 (a:=a) (c:=c) (by omega)
   rw [Int.tdiv_eq_ediv_of_nonneg (by omega)]
   exact ⟨Int.ediv_nonneg (by omega) (by omega),Int.ediv_le_of_le_mul (by omega) (by omega)⟩
abbrev Acc:=Int×Int×Int
def tI (pack:Bool) (r t:Int) (z:Acc):Acc:=if r<=0 then z else (z.1+(if pack then eL t r else 100 - eL t r),mZ z.2.1 (eL t r),lU z.2.2 (eL t r))
def pV (pack:Bool) (c t:hU):Nat->Acc
 |0=>(0,100,0)
 |1=>tI pack c.a t.a (0,100,0)
 |2=>tI pack c.b t.b (tI pack c.a t.a (0,100,0))
 |_=>tI pack c.c t.c (tI pack c.b t.b (tI pack c.a t.a (0,100,0)))
structure qE (i:Nat) (any:Bool) (z:Acc):Prop where
 s0:0<=z.1
 s1:z.1<=100*i
 l0:0<=z.2.1
 l1:z.2.1<=100
 h0:0<=z.2.2
 h1:z.2.2<=100
 le:any=true->z.2.1<=z.2.2
 no:any=false->z.2.1=100/\z.2.2=0
theorem qE.zero:qE 0 false (0,100,0):=⟨by decide,by decide,by decide,by decide,by decide,by decide,(fun h=>by cases h),fun _=>⟨rfl,rfl⟩⟩
theorem qE.pass {i:Nat} {any:Bool} {z:Acc} (h:qE i any z):qE (i+1) any z:=⟨h.s0,by have:=h.s1;omega,h.l0,h.l1,h.h0,h.h1,h.le,h.no⟩
theorem qE.take {i:Nat} {any:Bool} {z:Acc} (h:qE i any z) (pack:Bool) {x:Int} (h0:0<=x) (h1:x<=100):qE (i+1) true (z.1+(if pack then x else 100 - x),mZ z.2.1 x,lU z.2.2 x):=by
 have a1:=h.s0
 have a2:=h.s1
 have a3:=h.l0
 have a4:=h.l1
 have a5:=h.h0
 have a6:=h.h1
 refine ⟨?_,?_,?_,?_,?_,?_,fun _=>?_,fun h=>by cases h⟩
 · cases pack<;>simp<;>omega
 · cases pack<;>simp<;>omega
 all_goals (simp only [mZ,lU];first|(split<;>omega)|(split<;>split<;>omega))
def Ej (z:Acc) (n:Nat):Int:=z.1+100 - lU (z.2.2 - z.2.1) 0+lU (10 - n) 0
theorem Oe {any:Bool} {z:Acc} (h:qE 3 any z) (n:Nat):0<=Ej z n/\Ej z n<=410:=by
 have a1:=h.s0
 have a2:=h.s1
 have a3:=h.l0
 have a6:=h.h1
 unfold Ej lU
 split<;>split<;>omega
theorem accD_ok (pack:Bool) (c t:hU):∀ i,i<=3->∃ any,qE i any (pV pack c t i):=by
 have st:∀ {i:Nat} {any:Bool} {z:Acc} (r t:Int),qE i any z->∃ ae6,qE (i+1) ae6 (tI pack r t z):=fun r t h=>by
  unfold tI
  split
  · exact ⟨_,h.pass⟩
  · exact ⟨_,h.take pack (oD t r).1 (oD t r).2⟩
 have h0:qE 0 false (pV pack c t 0):=.zero
 obtain ⟨a1,h1⟩:=st c.a t.a h0
 obtain ⟨a2,h2⟩:=st c.b t.b h1
 obtain ⟨a3,h3⟩:=st c.c t.c h2
 intro i hi
 match i,hi with
 |0,_=>exact ⟨_,h0⟩
 |1,_=>exact ⟨_,h1⟩
 |2,_=>exact ⟨_,h2⟩
 |3,_=>exact ⟨_,h3⟩
def jZ (s:eG) (p:aO) (node:aU) (pack:Bool):Int:=
 if hY s p node then
  match s.nodes.find? (fun n=>n.name==node),BL s node with
  |some n,some u=>match Ad u p.gG with
   |some t=>Ej (pV pack n.cap t 3) (HC s node).length
   |none=>-1
  |_,_=>-1
 else -1
theorem Ek {s:eG} {p:aO} {node:aU} (h:hY s p node=true):∃ n u t,s.nodes.find? (fun n=>n.name==node)=some n/\BL s node=some u/\Ad u p.gG=some t:=by
 unfold hY at h
 cases hf:s.nodes.find? (fun n=>n.name==node) with
 |none=>rw [hf] at h;cases h
 |some n=>
  rw [hf] at h
  have hn:n.name=node:=by simpa using List.find?_some hf
  dsimp only at h
  simp only [Q4,Bool.and_eq_true] at h
  have h1:=h.2.1
  unfold Jn at h1
  rw [hn] at h1
  cases hu:BL s node with
  |none=>rw [hu] at h1;cases h1
  |some u=>
   rw [hu] at h1
   dsimp only at h1
   cases ht:Ad u p.gG with
   |none=>rw [ht] at h1;cases h1
   |some t=>exact ⟨n,u,t,rfl,rfl,ht⟩
theorem Rj {s:eG} {p:aO} {node:aU} {pack:Bool} (h:hY s p node=false):jZ s p node pack=-1:=by
 unfold jZ
 rw [h]
 rfl
theorem Rk {s:eG} {p:aO} {node:aU} {pack:Bool} (h:hY s p node=true):0<=jZ s p node pack/\jZ s p node pack<=410:=by
 obtain ⟨n,u,t,h1,h2,h3⟩:=Ek h
 unfold jZ
 rw [if_pos h,h1,h2]
 dsimp only
 rw [h3]
 obtain ⟨any,hz⟩:=accD_ok pack n.cap t 3 (Nat.le_refl _)
 exact Oe hz _
section
variable {P:Program} (hG:bN P AF.fns.get)
include hG
theorem Of (a c:Int):Pure P 170 [.i .i64 a,.i .i64 c] (·=.i .i64 (eL a c)):=by
 refine aM (hG _ AF.f170 rfl) rfl ?_
 by_cases h1:c<1
 · (refine zr ?_)
   exact aE rfl (by rw [eL,if_pos (.inl h1)])
 by_cases h2:1000000000<c
 · (refine zr ?_)
   exact aE rfl (by rw [eL,if_pos (.inr h2)])
 have hm:=U6 (a:=a) (c:=c) (by omega)
 have hq:=oD a c
 have hs:eL a c=(100*mZ (lU a 0) c).tdiv c:=by rw [eL,if_neg (by omega)]
 rw [hs] at hq ⊢
 obtain ⟨m,hmd⟩:∃ m,mZ (lU a 0) c=m:=⟨_,rfl⟩
 rw [hmd] at hm hq ⊢
 ((conv=>whnf);repeat ((first|refine aZ.of (Tt (z:=lU a 0) rfl) ?_|refine aZ.of (UY (z:=m) hmd) ?_|refine aK.mk (by simp;omega) ?_|refine aQ.gS (by exact Int.le_trans (by decide) hq.1) (by exact Int.le_trans hq.2 (by decide)) ?_|refine zz ?_)<;>(conv=>whnf)))
 exact aE rfl rfl
end
open Go
section
variable {P:Program} (hG:bN P AF.fns.get)
include hG
theorem Og (s:eG) (p:aO) (node:aU) (pack:Bool) (hs:s.ok) (hp:p.fit) (y5:Small s) (hr:∀ q∈s.aF,iP q):Pure P 90 [lT s,.agg (aJ p),.s node,.b pack] (·=.i .i64 (jZ s p node pack)):=by
 have a1:=feas_ok hG s p node hs hp y5
 refine aM (hG _ AF.f90 rfl) rfl ?_
 cases hf:hY s p node
 · rw [hf] at a1
   rw [Rj hf]
   (refine cJ @a1 ?_)
   exact aE rfl rfl
 rw [hf] at a1
 obtain ⟨n,u,t,h1,h2,h3⟩:=Ek hf
 have a2:=getnode_ok hG s node hs.nodes y5
 have a3:=used_ok hG s node hs.aF (by have:=hs.some;omega) (fun q hq=>(hs.uT q hq).gG)
 rw [h2] at a3
 have a4:=add_ok hG u p.gG (sumD_ok (by decide) h2) hp.gG
 have a5:=on_ok hG s node hs hr
 have hsc:jZ s p node pack=Ej (pV pack n.cap t 3) (HC s node).length:=by
  unfold jZ
  rw [if_pos hf,h1,h2]
  dsimp only
  rw [h3]
 have ZN:(HC s node).length<=s.aF.length:=List.length_filter_le _ _
 have hl:=hs.aF
 have Iv:=hs.some
 unfold bP at hl
 rw [h1] at a2
 rw [h3] at a4
 rw [hsc]
 generalize HC s node=l at a5 ZN
 have iO:(l.map aJ).length=l.length:=List.length_map _
 (refine O0 @a1 @a2 @a3 @a4 ?_)
 refine bC.by (fun q fr st=>∃ (i:Nat) (z1 z2 z3:Int) (any:Bool),i<=3/\q=3 - i/\(z1,z2,z3)=pV pack n.cap t i/\qE i any (z1,z2,z3)/\
  fr=[(47,.i .i64 i),(46,.agg (yL n.cap)),(17,.i .i64 z3),(16,.i .i64 z2),(15,.i .i64 z1),(13,.p (.l 1) 0),(4,.p (.l 0) 0),(3,.b pack),(2,.s node)]/\
  st=⟨gZ,⟨2,[(1,.cs (yL t)),(0,.cs [.sl none 6 (s.nodes.map aS),.sl none 16 (s.aF.map aJ)])]⟩⟩)
  3 ⟨_,_,?_,0,0,100,0,false,Nat.zero_le _,rfl,rfl,.zero,rfl,rfl⟩ ?_
 · exact tL [0,4]
 rintro q fr st ⟨i,z1,z2,z3,any,hi,rfl,hz,dZ,rfl,rfl⟩ R hR
 have b1:=dZ.s0
 have b2:=dZ.s1
 have b3:=dZ.l0
 have b4:=dZ.l1
 have b5:=dZ.h0
 have b6:=dZ.h1
 dsimp only at b1 b2 b3 b4 b5 b6
 rcases (show i=3\/i<3 by omega) with rfl|hi3
 · rw [<-hz]
   obtain ⟨d,hd⟩:∃ d,lU (z3 - z2) 0=d:=⟨_,rfl⟩
   have EY:0<=d/\d<=100:=by rw [<-hd];unfold lU;split<;>omega
   obtain ⟨k,hk⟩:∃ k,lU (10 - (((l.map aJ).length:Nat):Int)) 0=k:=⟨_,rfl⟩
   have Cf:0<=k/\k<=10:=by rw [<-hk];unfold lU;split<;>omega
   ((conv=>whnf);repeat ((first|refine aZ.of (Tt (z:=d) hd) ?_|refine aZ.of (Tt (z:=k) hk) ?_|refine cA (Pure.go a5 rfl) ?_|refine zz ?_)<;>(conv=>whnf)))
   refine aE rfl (congrArg (V.i .i64) ?_)
   show _=z1+100 - lU (z3 - z2) 0+lU (10 - (l.length:Int)) 0
   rw [iO] at hk
   rw [hd,hk]
 · have step:∀ (r x:Int),(¬r<=0->Pure P 170 [.i .i64 x,.i .i64 r] (·=.i .i64 (eL x r))):=fun r x _=>Of hG x r
   rcases (show i=0\/i=1\/i=2 by omega) with rfl|rfl|rfl
   · by_cases hc:n.cap.a<=0
     · have hn:(z1,z2,z3)=pV pack n.cap t 1:=by rw [hz];simp [pV,tI,hc]
       (refine zr ?_)
       refine hR 2 _ _ (by omega) ⟨_,_,?_,1,z1,z2,z3,any,by omega,rfl,hn,dZ.pass,rfl,rfl⟩
       exact tL [0,1]
     · have xJ:=step n.cap.a t.a hc
       have hx:=oD t.a n.cap.a
       have hn:(z1+(if pack then eL t.a n.cap.a else 100 - eL t.a n.cap.a),mZ z2 (eL t.a n.cap.a),lU z3 (eL t.a n.cap.a))=pV pack n.cap t 1:=by
        have e:pV pack n.cap t 0=(0,100,0):=rfl
        rw [e] at hz
        cases hz
        simp [pV,tI,hc]
       generalize eL t.a n.cap.a=x at xJ hx hn
       have qO:=dZ.take pack hx.1 hx.2
       cases pack
       all_goals ((conv=>whnf);repeat ((first|refine cA (Pure.go xJ rfl) ?_|refine aZ.of (UY (z:=mZ z2 x) rfl) ?_|refine aZ.of (Tt (z:=lU z3 x) rfl) ?_|refine zz ?_)<;>(conv=>whnf)))
       all_goals
        refine hR 2 _ _ (by omega) ⟨_,_,?_,1,_,_,_,true,by omega,rfl,hn,qO,rfl,rfl⟩
        exact tL [0,1]
   · by_cases hc:n.cap.b<=0
     · have hn:(z1,z2,z3)=pV pack n.cap t 2:=by
        have e:pV pack n.cap t 2=tI pack n.cap.b t.b (pV pack n.cap t 1):=rfl
        rw [e,<-hz]
        simp [tI,hc]
       (refine zr ?_)
       refine hR 1 _ _ (by omega) ⟨_,_,?_,2,z1,z2,z3,any,by omega,rfl,hn,dZ.pass,rfl,rfl⟩
       exact tL [0,1]
     · have xJ:=step n.cap.b t.b hc
       have hx:=oD t.b n.cap.b
       have hn:(z1+(if pack then eL t.b n.cap.b else 100 - eL t.b n.cap.b),mZ z2 (eL t.b n.cap.b),lU z3 (eL t.b n.cap.b))=pV pack n.cap t 2:=by
        have e:pV pack n.cap t 2=tI pack n.cap.b t.b (pV pack n.cap t 1):=rfl
        rw [e,<-hz]
        simp [tI,hc]
       generalize eL t.b n.cap.b=x at xJ hx hn
       have qO:=dZ.take pack hx.1 hx.2
       cases pack
       all_goals ((conv=>whnf);repeat ((first|refine cA (Pure.go xJ rfl) ?_|refine aZ.of (UY (z:=mZ z2 x) rfl) ?_|refine aZ.of (Tt (z:=lU z3 x) rfl) ?_|refine zz ?_)<;>(conv=>whnf)))
       all_goals
        refine hR 1 _ _ (by omega) ⟨_,_,?_,2,_,_,_,true,by omega,rfl,hn,qO,rfl,rfl⟩
        exact tL [0,1]
   · by_cases hc:n.cap.c<=0
     · have hn:(z1,z2,z3)=pV pack n.cap t 3:=by
        have e:pV pack n.cap t 3=tI pack n.cap.c t.c (pV pack n.cap t 2):=rfl
        rw [e,<-hz]
        simp [tI,hc]
       (refine zr ?_)
       refine hR 0 _ _ (by omega) ⟨_,_,?_,3,z1,z2,z3,any,by omega,rfl,hn,dZ.pass,rfl,rfl⟩
       exact tL [0,1]
     · have xJ:=step n.cap.c t.c hc
       have hx:=oD t.c n.cap.c
       have hn:(z1+(if pack then eL t.c n.cap.c else 100 - eL t.c n.cap.c),mZ z2 (eL t.c n.cap.c),lU z3 (eL t.c n.cap.c))=pV pack n.cap t 3:=by
        have e:pV pack n.cap t 3=tI pack n.cap.c t.c (pV pack n.cap t 2):=rfl
        rw [e,<-hz]
        simp [tI,hc]
       generalize eL t.c n.cap.c=x at xJ hx hn
       have qO:=dZ.take pack hx.1 hx.2
       cases pack
       all_goals ((conv=>whnf);repeat ((first|refine cA (Pure.go xJ rfl) ?_|refine aZ.of (UY (z:=mZ z2 x) rfl) ?_|refine aZ.of (Tt (z:=lU z3 x) rfl) ?_|refine zz ?_)<;>(conv=>whnf)))
       all_goals
        refine hR 0 _ _ (by omega) ⟨_,_,?_,3,_,_,_,true,by omega,rfl,hn,qO,rfl,rfl⟩
        exact tL [0,1]
end
open Go
def jH (s:eG) (p:aO) (pack:Bool):List aU->Int->aU->Int×aU
 |[],b,a=>(b,a)
 |n::r,b,a=>if b<jZ s p n pack then jH s p pack r (jZ s p n pack) n else jH s p pack r b a
def xU (s:eG) (p:aO) (pack:Bool):Int×aU:=jH s p pack (iG s p) (-1) []
section
variable {s:eG} {p:aO} {pack:Bool}
theorem HL:∀ {L:List aU} {b:Int} {a:aU},b<=(jH s p pack L b a).1/\∀ x∈L,jZ s p x pack<=(jH s p pack L b a).1
 |[],b,a=>⟨Int.le_refl _,fun _ h=>by cases h⟩
 |n::r,b,a=>by
  rw [jH]
  split
  · rename_i h
    have ih:=HL (L:=r) (b:=jZ s p n pack) (a:=n)
    refine ⟨by omega,fun x hx=>?_⟩
    cases hx with
    |head=>exact ih.1
    |tail _ hx=>exact ih.2 x hx
  · rename_i h
    have ih:=HL (L:=r) (b:=b) (a:=a)
    refine ⟨ih.1,fun x hx=>?_⟩
    cases hx with
    |head=>omega
    |tail _ hx=>exact ih.2 x hx
theorem HM:∀ {L:List aU} {b:Int} {a:aU},jH s p pack L b a=(b,a)\/((jH s p pack L b a).2∈L/\(jH s p pack L b a).1=jZ s p (jH s p pack L b a).2 pack/\b<(jH s p pack L b a).1)
 |[],b,a=>.inl rfl
 |n::r,b,a=>by
  rw [jH]
  split
  · rename_i h
    rcases HM (L:=r) (b:=jZ s p n pack) (a:=n) with ih|⟨h1,h2,h3⟩
    · rw [ih]
      exact .inr ⟨.head _,rfl,h⟩
    · exact .inr ⟨.tail _ h1,h2,by omega⟩
  · rcases HM (L:=r) (b:=b) (a:=a) with ih|⟨h1,h2,h3⟩
    · exact .inl ih
    · exact .inr ⟨.tail _ h1,h2,h3⟩
end
section
variable {P:Program} (hG:bN P AF.fns.get)
include hG
theorem best_ok (s:eG) (p:aO) (pack:Bool) (Bf:(iG s p).length<=6) (hw:Pure P 89 [lT s,.agg (aJ p)] (·=.sl none 1 ((iG s p).map bG))) (hsc:∀ node:aU,Pure P 90 [lT s,.agg (aJ p),.s node,.b pack] (·=.i .i64 (jZ s p node pack))):
 Pure P 29 [lT s,.agg (aJ p),.b pack] (·=.bY [.s (xU s p pack).2,.b (decide ((xU s p pack).1>=0))]):=by
 rw [xU]
 generalize iG s p=l at hw Bf
 have iO:(l.map bG).length=l.length:=List.length_map _
 refine aM (hG _ AF.f29 rfl) rfl ?_
 (refine cJ @hw ?_)
 refine bC.by (fun q fr st=>∃ (i:Nat) (b:Int) (a:aU),i<=l.length/\q=l.length - i/\jH s p pack l (-1) []=jH s p pack (l.drop i) b a/\
  fr=[(17,.i .i64 i),(16,.i .i64 (l.map bG).length),(15,.sl none 1 (l.map bG)),(9,.s a),(8,.i .i64 b),(4,.p (.l 1) 0),(3,.p (.l 0) 0),(2,.b pack)]/\
  st=⟨gZ,⟨2,[(1,.cs (aJ p)),(0,.cs [.sl none 6 (s.nodes.map aS),.sl none 16 (s.aF.map aJ)])]⟩⟩)
  l.length ⟨_,_,?_,0,-1,[],Nat.zero_le _,rfl,rfl,rfl,rfl⟩ ?_
 · exact tL [0,1]
 rintro q fr st ⟨i,b,a,hi,rfl,rC,rfl,rfl⟩ R hR
 (conv=>whnf)
 refine aH.ds (fun cL=>?_) (fun fC=>?_)
 · have cZ:i<l.length:=by omega
   have he:=List.getElem?_eq_getElem cZ
   rw [List.drop_eq_getElem_cons cZ,jH] at rC
   generalize l[i]=e at he rC
   have hc:=hsc e
   generalize jZ s p e pack=x at hc rC
   by_cases hbx:b<x
   · rw [if_pos hbx] at rC
     (refine iU @hc @he ?_)
     refine hR (l.length - (i+1)) _ _ (by omega) ⟨_,_,?_,i+1,x,e,by omega,rfl,rC,rfl,rfl⟩
     exact tL [0,1]
   · rw [if_neg hbx] at rC
     (refine iU @hc @he ?_)
     refine hR (l.length - (i+1)) _ _ (by omega) ⟨_,_,?_,i+1,b,a,by omega,rfl,rC,rfl,rfl⟩
     exact tL [0,1]
 · rw [List.drop_eq_nil_of_le (by omega),jH] at rC
   rw [rC]
   (refine zr ?_)
   exact aE rfl rfl
end
end Go.Eng
