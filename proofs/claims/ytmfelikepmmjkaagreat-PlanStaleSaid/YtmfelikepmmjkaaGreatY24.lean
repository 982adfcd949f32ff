/-
Labels, taints, amounts: what the program's functions answer.
-/
import Derived.Test.YtmfelikepmmjkaaGreatY23
import Derived.Test.YtmfelikepmmjkaaGreatY13
set_option linter.unusedVariables false
set_option linter.unusedSimpArgs false
set_option maxHeartbeats 4000000
set_option maxRecDepth 10000
namespace Go.Eng
open Go
def getD (l:List dE) (key:aU):aU×Bool:=
 match l.find? (fun p=>p.key==key) with
 |some p=>(p.val,true)
 |none=>([],false)
def Bb (t:j8) (x:dE):Bool:=(t.key==[]||t.key==x.key)&&(t.any||t.val==x.val)
def Su (n:Int):Bool:=decide (0<=n)&&decide (n<=4611686018427387904)
def uS (a b:Int):Bool:=Su a&&Su b&&decide (a<=4611686018427387904 - b)
def Ad (x y:hU):Option hU:=if uS x.a y.a&&(uS x.b y.b&&uS x.c y.c) then some ⟨x.a+y.a,x.b+y.b,x.c+y.c⟩ else none
def Lp (r:hU):V:=.agg (yL r)
def Wl (r:Option hU):V:=
 match r with
 |some r=>.bY [Lp r,.b true]
 |none=>.bY [Lp ⟨0,0,0⟩,.b false]
def Jl (n:Int):Prop:=-9223372036854775808<=n/\n<=9223372036854775807
def hU.ok (r:hU):Prop:=Jl r.a/\Jl r.b/\Jl r.c
theorem QT {n:Int}:((!Su n)=false)=(0<=n/\n<=4611686018427387904):=by simp [Su]
theorem QU {n:Int}:((!Su n)=true)=¬(0<=n/\n<=4611686018427387904):=by simp [Su];omega
def QV (a b:Int):Prop:=0<=a/\0<=b/\a+b<=4611686018427387904
theorem Bc {a b:Int}:uS a b=true↔QV a b:=by simp [uS,Su,QV];omega
theorem Wm {x y:hU} (h:(0<=x.a/\0<=y.a/\x.a+y.a<=4611686018427387904)/\(0<=x.b/\0<=y.b/\x.b+y.b<=4611686018427387904)/\0<=x.c/\0<=y.c/\x.c+y.c<=4611686018427387904):Ad x y=some ⟨x.a+y.a,x.b+y.b,x.c+y.c⟩:=by
 have:(uS x.a y.a&&(uS x.b y.b&&uS x.c y.c))=true:=by
  simp only [Bool.and_eq_true,Bc]
  exact h
 rw [Ad,if_pos this]
theorem Wn {x y:hU} (h:¬((0<=x.a/\0<=y.a/\x.a+y.a<=4611686018427387904)/\(0<=x.b/\0<=y.b/\x.b+y.b<=4611686018427387904)/\0<=x.c/\0<=y.c/\x.c+y.c<=4611686018427387904)):Ad x y=none:=by
 have:¬(uS x.a y.a&&(uS x.b y.b&&uS x.c y.c))=true:=by
  simp only [Bool.and_eq_true,Bc]
  exact h
 rw [Ad,if_neg this]
theorem addD_ok {x y t:hU} (h:Ad x y=some t):t.ok:=by
 unfold Ad at h
 split at h
 · rename_i hc
   simp only [Bool.and_eq_true,Bc,QV] at hc
   cases h
   simp only [hU.ok,Jl]
   omega
 · cases h
instance (n:Int):Decidable (Jl n):=inferInstanceAs (Decidable (_/\_))
instance (r:hU):Decidable r.ok:=inferInstanceAs (Decidable (_/\_/\_))
section
variable {P:Program} (hG:bN P AF.fns.get)
include hG
theorem get_ok (l:List dE) (key:aU) (hl:l.length<=9223372036854775807):Pure P 201 [.sl none 2 (l.map bJ),.s key] (·=.bY [.s (getD l key).1,.b (getD l key).2]):=by
 have iO:(l.map bJ).length=l.length:=List.length_map _
 refine aM (hG _ AF.f201 rfl) rfl ?_
 (refine zr ?_)
 refine bC.by (fun q fr st=>∃ i:Nat,i<=l.length/\q=l.length - i/\cS (fun e=>e.key==key) l i/\fr=[(10,.i .i64 i),(9,.i .i64 (l.map bJ).length),(8,.sl none 2 (l.map bJ)),(1,.s key)]/\st=dG gZ)
  l.length ⟨_,_,?_,0,Nat.zero_le _,rfl,cS.zero,rfl,rfl⟩ ?_
 · exact yN
 rintro q fr st ⟨i,hi,rfl,dZ,rfl,rfl⟩ R hR
 (conv=>whnf)
 refine aH.ds (fun cL=>?_) (fun fC=>?_)
 · have cZ:i<l.length:=by omega
   have he:=List.getElem?_eq_getElem cZ
   generalize l[i]=e at he
   (refine cJ @he ?_)
   refine aH.mk (fun hp=>?_) (fun hp=>?_)
   · (refine zr ?_)
     refine aE rfl ?_
     simp only [getD,nZ he hp dZ]
   · (refine zr ?_)
     refine hR (l.length - (i+1)) _ _ (by omega) ⟨_,_,?_,i+1,by omega,rfl,dZ.succ he hp,rfl,rfl⟩
     exact yN
 · (refine zr ?_)
   refine aE rfl ?_
   simp only [getD,oC (dZ.all (by omega))]
theorem in_ok (n:Int):Pure P 262 [.i .i64 n] (·=.b (Su n)):=by
 refine aM (hG _ AF.f262 rfl) rfl ?_
 (refine zr ?_)
 refine aH.ds (fun h1=>?_) (fun h1=>?_)
 · (refine zr ?_)
   refine aE rfl ?_
   simp only [Su]
   rw [decide_eq_true (by omega:0<=n)]
   rfl
 · (refine zr ?_)
   refine aE rfl ?_
   simp only [Su]
   rw [decide_eq_false (by omega:¬0<=n)]
   rfl
theorem bears_ok (t:j8) (x:dE):Pure P 282 [.agg (eO t),.agg (bJ x)] (·=.b (Bb t x)):=by
 refine aM (hG _ AF.f282 rfl) rfl ?_
 (refine zr ?_)
 refine aH.mk (fun h1=>?_) (fun h1=>?_)
 all_goals (refine zr ?_)
 all_goals try (refine aH.mk (fun h2=>?_) (fun h2=>?_))
 all_goals (refine zr ?_)
 all_goals try (refine aH.mk (fun h3=>?_) (fun h3=>?_))
 all_goals (refine zr ?_)
 all_goals (refine aE rfl ?_)
 all_goals simp_all [Bb]
theorem add_ok (x y:hU) (hx:x.ok) (hy:y.ok):Pure P 169 [Lp x,Lp y] (·=Wl (Ad x y)):=by
 obtain ⟨x1,x2,x3⟩:=hx
 obtain ⟨y1,y2,y3⟩:=hy
 unfold Jl at x1 x2 x3 y1 y2 y3
 refine aM (hG _ AF.f169 rfl) rfl ?_
 ((conv=>whnf);repeat' ((first|refine cA (Pure.go (in_ok hG _) rfl) ?_|refine aQ.gS (by simp only [QU,QT] at*;omega) (by simp only [QU,QT] at*;omega) ?_|refine zz ?_|refine bC.un rfl ?_|refine aH.ds (fun _=>?_) (fun _=>?_)|refine aH.ns (fun _=>?_) (fun _=>?_)|refine aH.mk (fun _=>?_) (fun _=>?_)|(intro r hr;cases r))<;>(conv=>whnf)))
 all_goals (refine aE rfl ?_)
 all_goals simp only [QU,QT] at*
 all_goals first|(rw [Wn (by omega)];rfl)|(rw [Wm (by omega)];rfl)
def DT:hU->List hU->Option hU
 |s,[]=>some s
 |s,r::q=>match Ad s r with
  |some t=>DT t q
  |none=>none
theorem sum_ok (l:List hU) (hl:l.length<=9223372036854775807) (hr:∀ r∈l,r.ok):Pure P 148 [.sl none 3 (l.map yL)] (·=Wl (DT ⟨0,0,0⟩ l)):=by
 have iO:(l.map yL).length=l.length:=List.length_map _
 refine aM (hG _ AF.f148 rfl) rfl ?_
 (refine zr ?_)
 refine bC.by (fun q fr st=>∃ (i:Nat) (s:hU),i<=l.length/\q=l.length - i/\s.ok/\DT ⟨0,0,0⟩ l=DT s (l.drop i)/\fr=[(11,.i .i64 i),(10,.i .i64 (l.map yL).length),(9,.sl none 3 (l.map yL)),(4,.p (.l 1) 0),(2,.p (.l 0) 0)]/\st=⟨gZ,⟨2,[(1,.cs (yL s)),(0,.cs (yL ⟨0,0,0⟩))]⟩⟩)
  l.length ⟨_,_,?_,0,⟨0,0,0⟩,Nat.zero_le _,rfl,by decide,rfl,rfl,rfl⟩ ?_
 · exact tL [0,1]
 rintro q fr st ⟨i,s,hi,rfl,hs,heq,rfl,rfl⟩ R hR
 (conv=>whnf)
 refine aH.ds (fun cL=>?_) (fun fC=>?_)
 · have cZ:i<l.length:=by omega
   have he:=List.getElem?_eq_getElem cZ
   have hm:=List.getElem_mem cZ
   rw [List.drop_eq_getElem_cons cZ] at heq
   generalize l[i]=e at he heq hm
   (refine cJ @he ?_)
   refine cY.app (Pure.go (add_ok hG s e hs (hr e hm)) rfl) ?_
   cases ha:Ad s e with
   |none=>
    (refine zr ?_)
    refine aE rfl ?_
    rw [heq,DT,ha]
    rfl
   |some t=>
    (refine zr ?_)
    refine hR (l.length - (i+1)) _ _ (by omega) ⟨_,_,?_,i+1,t,by omega,rfl,addD_ok ha,by rw [heq,DT,ha],rfl,rfl⟩
    exact tL [0,1]
 · (refine zr ?_)
   rw [List.drop_eq_nil_of_le (by omega)] at heq
   refine aE rfl ?_
   rw [heq]
   rfl
end
open Go
def mG (t:cM) (l:List dE):Bool:=
 let v:=getD l t.key
 let UZ:=v.2&&t.bF.any fun e=>v.1==e
 if t.kind=1 then UZ else if t.kind=2 then !UZ else if t.kind=3 then v.2 else if t.kind=4 then !v.2 else false
def bP {α:Type} (l:List α):Prop:=l.length<=9223372036854775807
def cM.ok (t:cM):Prop:=bP t.bF
structure CJ (l:List cM):Prop where
 len:bP l
 each:∀ x∈l,x.ok
structure aO.ok (p:aO):Prop where
 aX:bP p.aX
 labels:bP p.labels
 b8:bP p.b8
 lR:CJ p.lR
 cT:CJ p.cT
 even:CJ p.even
section
variable {P:Program} (hG:bN P AF.fns.get)
include hG
theorem NV (l:List aU) (x:aU) (hl:l.length<=9223372036854775807):Pure P 245 [.sl none 1 (l.map bG),.s x] (·=.i .i64 (gB (fun e=>x==e) l)):=by
 have iO:(l.map bG).length=l.length:=List.length_map _
 refine aM (hG _ AF.f245 rfl) rfl ?_
 (refine zr ?_)
 refine bC.by (fun q fr st=>∃ i:Nat,i<=l.length/\q=l.length - i/\cS (fun e=>x==e) l i/\fr=[(8,.i .i64 i),(7,.i .i64 (l.map bG).length),(1,.s x),(0,.sl none 1 (l.map bG))]/\st=dG gZ)
  l.length ⟨_,_,?_,0,Nat.zero_le _,rfl,cS.zero,rfl,rfl⟩ ?_
 · exact yN
 rintro q fr st ⟨i,hi,rfl,dZ,rfl,rfl⟩ R hR
 (conv=>whnf)
 refine aH.ds (fun cL=>?_) (fun fC=>?_)
 · have cZ:i<l.length:=by omega
   have he:=List.getElem?_eq_getElem cZ
   generalize l[i]=e at he
   (refine cJ @he ?_)
   refine aH.mk (fun hp=>?_) (fun hp=>?_)
   · (refine zr ?_)
     refine aE rfl ?_
     rw [cX he hp dZ]
   · (refine zr ?_)
     refine hR (l.length - (i+1)) _ _ (by omega) ⟨_,_,?_,i+1,by omega,rfl,dZ.succ he hp,rfl,rfl⟩
     exact yN
 · (refine zr ?_)
   refine aE rfl ?_
   rw [dF fun j x hx=>dZ j x (by have:=(List.getElem?_eq_some_iff.1 hx).1;omega) hx]
theorem F3 (l:List aU) (x:aU) (hl:l.length<=9223372036854775807):Pure P 154 [.sl none 1 (l.map bG),.s x] (·=.b (l.any fun e=>x==e)):=by
 refine aM (hG _ AF.f154 rfl) rfl ?_
 (refine cJ (NV hG l x hl) ?_)
 refine aE rfl ?_
 exact congrArg V.b jQ
theorem NW {l:List cM} {g:Nat} {k:Nat} {h:aA} {p:cM->Bool} (hl:l.length<=9223372036854775807)
 (hg:∀ e∈l,∀ K:V->aA->Prop,K (.b (p e)) h->aB P g (.agg (bD e)::[.p (.g k) 0]) h K) {K:V->aA->Prop} (hK:K (.b (l.any p)) h):aB P 277 [.sl none 3 (l.map bD),.fn g [] [.p (.g k) 0]] h K:=by
 refine aN (hG _ AF.f277 rfl) rfl ?_
 ((conv=>whnf);repeat ((first|refine aH.ff rfl ?_|refine aH.tt rfl ?_|refine aZ.of rfl ?_|refine aK.mk rfl ?_|refine aP.mk rfl ?_|refine cD.of rfl ?_)<;>(conv=>whnf)))
 refine cY.mk (NU (k:=k) (show gE P 332 (iN 3 (some 3))=true from hG _ AF.f332 rfl) hl hg ?_)
 ((conv=>whnf);repeat ((first|refine aH.ff rfl ?_|refine aH.tt rfl ?_|refine aZ.of rfl ?_|refine aK.mk rfl ?_|refine aP.mk rfl ?_|refine cD.of rfl ?_)<;>(conv=>whnf)))
 rw [<-jQ] at hK
 exact hK
theorem QW {l:List j8} {g:Nat} {k:Nat} {h:aA} {p:j8->Bool} (hl:l.length<=9223372036854775807)
 (hg:∀ e∈l,∀ K:V->aA->Prop,K (.b (p e)) h->aB P g (.agg (eO e)::[.p (.g k) 0]) h K) {K:V->aA->Prop} (hK:K (.b (l.any p)) h):aB P 280 [.sl none 3 (l.map eO),.fn g [] [.p (.g k) 0]] h K:=by
 refine aN (hG _ AF.f280 rfl) rfl ?_
 ((conv=>whnf);repeat ((first|refine aH.ff rfl ?_|refine aH.tt rfl ?_|refine aZ.of rfl ?_|refine aK.mk rfl ?_|refine aP.mk rfl ?_|refine cD.of rfl ?_)<;>(conv=>whnf)))
 refine cY.mk (QR (k:=k) (show gE P 333 (iN 3 (some 3))=true from hG _ AF.f333 rfl) hl hg ?_)
 ((conv=>whnf);repeat ((first|refine aH.ff rfl ?_|refine aH.tt rfl ?_|refine aZ.of rfl ?_|refine aK.mk rfl ?_|refine aP.mk rfl ?_|refine cD.of rfl ?_)<;>(conv=>whnf)))
 rw [<-jQ] at hK
 exact hK
theorem holds_ok (t:cM) (l:List dE) (ht:t.ok) (hl:bP l):Pure P 279 [.agg (bD t),.sl none 2 (l.map bJ)] (·=.b (mG t l)):=by
 refine aM (hG _ AF.f279 rfl) rfl ?_
 obtain ⟨v,hv⟩:∃ v,v=getD l t.key:=⟨_,rfl⟩
 obtain ⟨v1,v2⟩:=v
 have rC:=get_ok hG l t.key hl
 rw [<-hv] at rC
 simp only [mG,<-hv]
 cases v2
 all_goals ((conv=>whnf);repeat' ((first|refine cA (Pure.go rC rfl) ?_|refine cA (Pure.go (F3 hG t.bF _ ht) rfl) ?_|refine zz ?_|refine aH.ds (fun _=>?_) (fun _=>?_)|refine aH.ns (fun _=>?_) (fun _=>?_)|refine aH.mk (fun _=>?_) (fun _=>?_)|(intro r hr;cases r))<;>(conv=>whnf)))
 all_goals (refine aE rfl ?_)
 all_goals simp_all
theorem matchf_ok {t:cM} {l:List dE} (ht:t.ok) (hl:bP l) {h:aA} {k:Nat} (hc:h.get k=some (.cs [.sl none 2 (l.map bJ)])) {K:V->aA->Prop} (hK:K (.b (!mG t l)) h):aB P 278 [.agg (bD t),.p (.g k) 0] h K:=by
 refine aN (hG _ AF.f278 rfl) rfl ?_
 ((conv=>whnf);repeat ((first|refine aH.ff rfl ?_|refine aH.tt rfl ?_|refine aZ.of rfl ?_|refine aK.mk rfl ?_|refine aP.mk rfl ?_|refine cD.of (hc) ?_|refine cD.of rfl ?_)<;>(conv=>whnf)))
 refine cY.mk (Pure.go (holds_ok hG t l ht hl) rfl ?_)
 ((conv=>whnf);repeat ((first|refine aH.ff rfl ?_|refine aH.tt rfl ?_|refine aZ.of rfl ?_|refine aK.mk rfl ?_|refine aP.mk rfl ?_|refine cD.of rfl ?_)<;>(conv=>whnf)))
 exact hK
theorem match_ok (ts:List cM) (l:List dE) (ht:∀ t∈ts,t.ok) (Zt:bP ts) (hl:bP l):Pure P 197 [.sl none 3 (ts.map bD),.sl none 2 (l.map bJ)] (·=.b (ts.all fun t=>mG t l)):=by
 refine aM (hG _ AF.f197 rfl) rfl ?_
 ((conv=>whnf);repeat ((first|refine cA (NW hG (p:=fun t=>!mG t l) Zt (fun e he K hK=>matchf_ok hG (ht e he) hl rfl hK)) ?_|refine zz ?_)<;>(conv=>whnf)))
 refine aE rfl ?_
 simp [List.all_eq_not_any_not]
theorem bearsf_ok {t:j8} {x:dE} {h:aA} {k:Nat} (hc:h.get k=some (.cs (bJ x))) {K:V->aA->Prop} (hK:K (.b (Bb t x)) h):aB P 281 [.agg (eO t),.p (.g k) 0] h K:=by
 refine aN (hG _ AF.f281 rfl) rfl ?_
 ((conv=>whnf);repeat ((first|refine aH.ff rfl ?_|refine aH.tt rfl ?_|refine aZ.of rfl ?_|refine aK.mk rfl ?_|refine aP.mk rfl ?_|refine cD.of (hc) ?_|refine cD.of rfl ?_)<;>(conv=>whnf)))
 refine cY.mk (Pure.go (bears_ok hG t x) rfl ?_)
 ((conv=>whnf);repeat ((first|refine aH.ff rfl ?_|refine aH.tt rfl ?_|refine aZ.of rfl ?_|refine aK.mk rfl ?_|refine aP.mk rfl ?_|refine cD.of rfl ?_)<;>(conv=>whnf)))
 exact hK
def Tu (b8:List j8) (ts:List dE):Bool:=ts.all fun x=>b8.any fun t=>Bb t x
theorem all_ok (b8:List j8) (ts:List dE) (ht:bP b8) (hl:bP ts):Pure P 198 [.sl none 3 (b8.map eO),.sl none 2 (ts.map bJ)] (·=.b (Tu b8 ts)):=by
 have iO:(ts.map bJ).length=ts.length:=List.length_map _
 have wZ:ts.length<=9223372036854775807:=hl
 refine aM (hG _ AF.f198 rfl) rfl ?_
 (refine zr ?_)
 refine bC.by (fun q fr st=>∃ i:Nat,i<=ts.length/\q=ts.length - i/\cS (fun x=>!b8.any fun t=>Bb t x) ts i/\fr=[(9,.i .i64 i),(8,.i .i64 (ts.map bJ).length),(7,.sl none 2 (ts.map bJ)),(0,.sl none 3 (b8.map eO))]/\st=dG gZ)
  ts.length ⟨_,_,?_,0,Nat.zero_le _,rfl,cS.zero,rfl,rfl⟩ ?_
 · exact yN
 rintro q fr st ⟨i,hi,rfl,dZ,rfl,rfl⟩ R hR
 (conv=>whnf)
 refine aH.ds (fun cL=>?_) (fun fC=>?_)
 · have cZ:i<ts.length:=by omega
   have he:=List.getElem?_eq_getElem cZ
   generalize ts[i]=e at he
   ((conv=>whnf);repeat ((first|refine cA (QW hG (p:=fun t=>Bb t e) ht (fun t _ K hK=>bearsf_ok hG rfl hK)) ?_|refine ye (aG (by simp) he) ?_|refine zz ?_)<;>(conv=>whnf)))
   refine aH.mk (fun hp=>?_) (fun hp=>?_)
   · (refine zr ?_)
     refine aE rfl ?_
     simp only [Tu,List.all_eq_not_any_not]
     rw [any_some he hp]
     rfl
   · (refine zr ?_)
     refine hR (ts.length - (i+1)) _ _ (by omega) ⟨_,_,?_,i+1,by omega,rfl,dZ.succ he hp,rfl,rfl⟩
     exact yN
 · (refine zr ?_)
   refine aE rfl ?_
   simp only [Tu,List.all_eq_not_any_not]
   rw [any_none (dZ.all (by omega))]
   rfl
end
open Go
theorem Ae {α:Type} {R:α->List V} {g:Bool} (h:∀ x,sA g (R x)=some (R x)):∀ l:List α,gL g (l.map R)=some (l.map R)
 |[]=>rfl
 |x::r=>by simp only [List.map_cons,gL,h x,Ae h r]
section
variable {P:Program} (hG:bN P AF.fns.get)
include hG
theorem DU (l:List dE) (hl:l.length*32<=140737488355328):Pure P 164 [.sl none 2 (l.map bJ)] (·=.sl none 2 (l.map bJ)):=by
 refine aM (hG _ AF.f164 rfl) rfl ?_
 cases l with
 |nil=>
  (refine zr ?_)
  refine A2.mk fun b=>?_
  cases b
  · (refine zr ?_)
    exact hM rfl
  · (refine zr ?_)
    exact pure_nil rfl
 |cons x r=>
  ((conv=>whnf);repeat ((first|refine ye (fP (fun _=>rfl) (x::r)) ?_|refine aK.mk (by first|(simp [bR];done)|simpa [bR] using hl) ?_|refine zz ?_)<;>(conv=>whnf)))
  exact hM rfl
theorem Jm (l:List dE) (hl:l.length*32<=140737488355328):Pure P 243 [.sl none 2 (l.map bJ)] (·=.sl none 2 (l.map bJ)):=by
 refine aM (hG _ AF.f243 rfl) rfl ?_
 cases l with
 |nil=>
  (refine zr ?_)
  refine A2.mk fun b=>?_
  cases b
  · (refine zr ?_)
    exact hM rfl
  · (refine zr ?_)
    exact pure_nil rfl
 |cons x r=>
  ((conv=>whnf);repeat ((first|refine ye (fP (fun _=>rfl) (x::r)) ?_|refine aK.mk (by first|(simp [bR];done)|simpa [bR] using hl) ?_|refine zz ?_)<;>(conv=>whnf)))
  exact hM rfl
theorem NX (l:List aU) (hl:l.length*16<=140737488355328):Pure P 79 [.sl none 1 (l.map bG)] (·=.sl none 1 (l.map bG)):=by
 refine aM (hG _ AF.f79 rfl) rfl ?_
 cases l with
 |nil=>
  (refine zr ?_)
  refine A2.mk fun b=>?_
  cases b
  · (refine zr ?_)
    exact sM (ds:=[]) rfl rfl (Nat.le_refl _) rfl
  · (refine zr ?_)
    exact pure_nil rfl
 |cons x r=>
  ((conv=>whnf);repeat ((first|refine ye (Ae (fun _=>rfl) (x::r)) ?_|refine aK.mk (by first|(simp [bR];done)|simpa [bR] using hl) ?_|refine zz ?_)<;>(conv=>whnf)))
  refine sM rfl (fP (fun _=>rfl) (x::r)) (by simp) ?_
  simp [List.take_of_length_le]
theorem copyNode_ok (n:cI) (h1:n.labels.length*32<=140737488355328) (h2:n.eW.length*32<=140737488355328):Pure P 149 [.agg (aS n)] (·=.agg (aS n)):=by
 refine aM (hG _ AF.f149 rfl) rfl ?_
 (refine iU (DU hG _ h1) (Jm hG _ h2) ?_)
 exact aE rfl rfl
end
open Go
structure rI (l:List cM):Prop where
 len:l.length*48<=140737488355328
 each:∀ t∈l,t.bF.length*16<=140737488355328
structure iP (p:aO):Prop where
 aX:p.aX.length*8<=140737488355328
 labels:p.labels.length*32<=140737488355328
 b8:p.b8.length*40<=140737488355328
 lR:rI p.lR
 cT:rI p.cT
 even:rI p.even
theorem map_set {α:Type} {R:α->List V} {l:List α} {i j:Nat} {x:α} {e':List V} (h:l[i]? =some x) (hj:j=i) (he:e'=R x):(l.map R).set j e'=l.map R:=by
 subst hj he
 apply List.ext_getElem?
 intro q
 rw [List.getElem?_set]
 split
 · rename_i e
   subst e
   rw [if_pos (by simpa using (List.getElem?_eq_some_iff.1 h).1),HB h]
 · rfl
section
variable {P:Program} (hG:bN P AF.fns.get)
include hG
theorem NY (l:List Int) (hl:l.length*8<=140737488355328):Pure P 163 [.sl none 1 (l.map fV)] (·=.sl none 1 (l.map fV)):=by
 refine aM (hG _ AF.f163 rfl) rfl ?_
 cases l with
 |nil=>
  (refine zr ?_)
  refine A2.mk fun b=>?_
  cases b
  · (refine zr ?_)
    exact hM rfl
  · (refine zr ?_)
    exact pure_nil rfl
 |cons x r=>
  ((conv=>whnf);repeat ((first|refine ye (fP (fun _=>rfl) (x::r)) ?_|refine aK.mk (by first|(simp [bR];done)|simpa [bR] using hl) ?_|refine zz ?_)<;>(conv=>whnf)))
  exact hM rfl
theorem NZ (l:List j8) (hl:l.length*40<=140737488355328):Pure P 165 [.sl none 3 (l.map eO)] (·=.sl none 3 (l.map eO)):=by
 refine aM (hG _ AF.f165 rfl) rfl ?_
 cases l with
 |nil=>
  (refine zr ?_)
  refine A2.mk fun b=>?_
  cases b
  · (refine zr ?_)
    exact hM rfl
  · (refine zr ?_)
    exact pure_nil rfl
 |cons x r=>
  ((conv=>whnf);repeat ((first|refine ye (fP (fun _=>rfl) (x::r)) ?_|refine aK.mk (by first|(simp [bR];done)|simpa [bR] using hl) ?_|refine zz ?_)<;>(conv=>whnf)))
  exact hM rfl
theorem copyTerms_ok (l:List cM) (hl:rI l):Pure P 166 [.sl none 3 (l.map bD)] (·=.sl none 3 (l.map bD)):=by
 refine aM (hG _ AF.f166 rfl) rfl ?_
 cases l with
 |nil=>
  (refine zr ?_)
  refine cY.mk (jU (hG _ _ rfl) rfl ?_)
  (refine zr ?_)
  refine A2.mk fun b=>?_
  cases b
  · ((conv=>whnf);repeat ((first|refine zz ?_|refine bC.un rfl ?_)<;>(conv=>whnf)))
    exact sM (ds:=[]) rfl rfl (Nat.le_refl _) rfl
  · ((conv=>whnf);repeat ((first|refine zz ?_|refine bC.un rfl ?_)<;>(conv=>whnf)))
    exact pure_nil rfl
 |cons x r=>
  obtain ⟨l,OQ⟩:∃ l,l=x::r:=⟨_,rfl⟩
  have iO:(l.map bD).length=l.length:=List.length_map _
  have Sr:=hl.len
  have rW:rI l:=OQ▸hl
  (refine zr ?_)
  refine cY.mk (jU (hG _ _ rfl) rfl ?_)
  ((conv=>whnf);repeat ((first|refine ye (Ae (fun _=>rfl) (x::r)) ?_|refine aK.mk (by first|(simp [bR];done)|simpa [bR] using hl.len) ?_|refine zz ?_)<;>(conv=>whnf)))
  rw [<-OQ] at*
  refine bC.by (fun q fr st=>∃ i:Nat,i<=l.length/\q=l.length - i/\fr=[(9,.i .i64 i),(8,.i .i64 l.length),(3,.ms (.g 0) 3 0 l.length)]/\st=⟨⟨1,[(0,.arr 3 (l.map bD))]⟩,Ia⟩)
   l.length ⟨_,_,?_,0,Nat.zero_le _,rfl,rfl,rfl⟩ ?_
  · simp only [List.length_nil,Nat.zero_add,List.take_nil,List.drop_nil,List.nil_append,List.length_map]
    exact tG [1] []
  rintro q fr st ⟨i,hi,rfl,rfl,rfl⟩ R hR
  (conv=>whnf)
  refine aH.ds (fun cL=>?_) (fun fC=>?_)
  · have cZ:i<l.length:=by omega
    have he:=List.getElem?_eq_getElem cZ
    have hv:=rW.each _ (List.getElem_mem cZ)
    generalize l[i]=e at he hv
    (refine iU (NX hG _ hv) @he ?_)
    refine hR (l.length - (i+1)) _ _ (by omega) ⟨_,_,?_,i+1,by omega,rfl,rfl,rfl⟩
    rw [map_set (R:=bD) he]
    · exact tG [0] []
    · simp
    · rfl
  · (refine zr ?_)
    exact sM rfl (fP (fun _=>rfl) l) (by simp) (by simp [List.take_of_length_le])
theorem copyPod_ok (p:aO) (hp:iP p):Pure P 84 [.agg (aJ p)] (·=.agg (aJ p)):=by
 refine aM (hG _ AF.f84 rfl) rfl ?_
 (refine Wk (NY hG _ hp.aX) (DU hG _ hp.labels) (NZ hG _ hp.b8) (copyTerms_ok hG _ hp.lR) (copyTerms_ok hG _ hp.cT) (copyTerms_ok hG _ hp.even) ?_)
 exact aE rfl rfl
end
open Go
def QX (b:Bool) (k:Nat) (sz:Nat) (es:List (List V)):V:=
 match b with
 |true=>.sl (some (.l k)) sz es
 |false=>.aV
def QY (b:Bool) (n:Nat) (rY:List (Nat×Obj)):St:=
 match b with
 |true=>⟨gZ,⟨n+1,(n,.spare)::rY⟩⟩
 |false=>⟨gZ,⟨n,rY⟩⟩
structure cI.ok (n:cI):Prop where
 labels:bP n.labels
 eW:bP n.eW
structure aO.fit (p:aO):Prop extends DV:p.ok where
 gG:p.gG.ok
structure eG.ok (s:eG):Prop where
 nodes:bP s.nodes
 aF:bP s.aF
 node:∀ n∈s.nodes,n.ok
 uT:∀ p∈s.aF,p.fit
 some:s.aF.length*248<=140737488355328
theorem rJ {Q:V->Prop} {cs ds:List V} {b:Bool} {h':aA} (hc:yZ gV ⟨0,0⟩ gA cs ds) (hf:ds.all V.flat=true) (hq:Q (.bY [.agg ds,.b b])):pH Q (.bY [.agg cs,.b b]) h':=
 vZ (u:=.bY [.agg ds,.b b]) gA lD (.inr ⟨_,_,rfl,rfl,.inr (.inl ⟨_,_,rfl,rfl,hc⟩),rG rfl,trivial⟩) (by simp only [V.free,List.all_cons,V.pB,hf];rfl) hq
theorem rK {Q:V->Prop} {cs ds:List V} {h':aA} (hc:yZ gV ⟨0,0⟩ gA cs ds) (hf:ds.all V.flat=true) (hq:Q (.agg ds)):pH Q (.agg cs) h':=
 vZ (u:=.agg ds) gA lD (.inl (.inr (.inl ⟨_,_,rfl,rfl,hc⟩))) hf hq
open Go
def Small (s:eG):Prop:=∀ n∈s.nodes,n.labels.length*32<=140737488355328/\n.eW.length*32<=140737488355328
def Wo (b:Bool) (sz n:Nat):V:=
 match b with
 |true=>.ms (.g 0) sz 0 n
 |false=>.aV
def Wp (b:Bool) (sz:Nat) (es:List (List V)):aA:=
 match b with
 |true=>⟨1,[(0,.arr sz es)]⟩
 |false=>gZ
def cH (s:eG) (gs:List aU):eG:=⟨s.nodes,s.aF.filter fun q=>!(gs.any fun g=>q.name==g)⟩
theorem N1 {Q:V->Prop} {k sz a n:Nat} {es ds:List (List V)} {ns:List (List V)} {h':aA} (h:h'.get k=some (.arr sz es)) (hd:dR es=some ds) (hn:a+n<=ds.length) (hq:Q (.agg [.sl none 6 ns,.sl none sz ((ds.drop a).take n)])):pH Q (.agg [.sl none 6 ns,.ms (.g k) sz a n]) h':=
 vZ (u:=.agg [.sl none 6 ns,.sl none sz ((ds.drop a).take n)]) (Sq k sz ds) (Hy h hd) (.inl (.inr (.inl ⟨_,_,rfl,rfl,⟨iM rfl,.XI (by simp [Sq]) hn rfl,trivial⟩⟩))) rfl hq
section
variable {P:Program} (hG:bN P AF.fns.get)
include hG
theorem nodes_ok (s:eG) (h6:s.nodes.length<=1000) (y5:Small s):Pure P 153 [lT s] (·=.sl none 6 (s.nodes.map aS)):=by
 have iO:(s.nodes.map aS).length=s.nodes.length:=List.length_map _
 refine aM (hG _ AF.f153 rfl) rfl ?_
 (refine zr ?_)
 refine bC.by (fun q fr st=>∃ (i:Nat) (b:Bool) (es:List cI),i<=s.nodes.length/\q=s.nodes.length - i/\es=s.nodes.take i/\(b=false->es=[])/\
  fr=[(9,.i .i64 i),(8,.i .i64 (s.nodes.map aS).length),(7,.sl none 6 (s.nodes.map aS)),(3,QX b 0 6 (es.map aS))]/\st=QY b 0 [])
  s.nodes.length ⟨_,_,?_,0,false,[],Nat.zero_le _,rfl,rfl,fun _=>rfl,rfl,rfl⟩ ?_
 · exact yN
 rintro q fr st ⟨i,b,es,hi,rfl,nR,hb,rfl,rfl⟩ R hR
 have DW:es.length<=i:=by
  rw [nR]
  exact List.length_take_le _ _
 (conv=>whnf)
 refine aH.ds (fun cL=>?_) (fun fC=>?_)
 · have cZ:i<s.nodes.length:=by omega
   have he:=List.getElem?_eq_getElem cZ
   have hm:=List.getElem_mem cZ
   generalize s.nodes[i]=e at he hm
   have hc:=copyNode_ok hG e (y5 e hm).1 (y5 e hm).2
   have h1:es++[e]=s.nodes.take (i+1):=by rw [cG he,<-nR]
   have hint:es.map aS++[aS e]=(es++[e]).map aS:=by rw [List.map_append];rfl
   cases b
   · obtain rfl:es=[]:=hb rfl
     (refine iU @hc @he ?_)
     refine hR (s.nodes.length - (i+1)) _ _ (by omega) ⟨_,_,?_,i+1,true,[]++[e],by omega,rfl,h1,(fun h=>by cases h),rfl,rfl⟩
     exact tL [2]
   · (refine zx3 @hc (congrArg some hint) @he ?_)
     refine hR (s.nodes.length - (i+1)) _ _ (by omega) ⟨_,_,?_,i+1,true,es++[e],by omega,rfl,h1,(fun h=>by cases h),rfl,rfl⟩
     exact tL [3]
 · have eV:es=s.nodes:=by rw [nR,List.take_of_length_le (by omega)]
   rw [<-eV]
   cases b
   · obtain rfl:es=[]:=hb rfl
     (refine zr ?_)
     exact pure_nil rfl
   · (refine zr ?_)
     exact hM rfl
theorem without_ok (s:eG) (gs:List aU) (h6:s.nodes.length<=1000) (hs:s.ok) (y5:Small s) (hr:∀ q∈s.aF,iP q) (HZ:bP gs):Pure P 77 [lT s,.sl none 1 (gs.map bG)] (·=lT (cH s gs)):=by
 have iO:(s.aF.map aJ).length=s.aF.length:=List.length_map _
 have hl:=hs.aF
 have Iv:=hs.some
 unfold bP at hl
 have hn:=nodes_ok hG s h6 y5
 obtain ⟨f,hf⟩:∃ f:aO->Bool,f=fun q=>!(gs.any fun g=>q.name==g):=⟨_,rfl⟩
 refine aM (hG _ AF.f77 rfl) rfl ?_
 (refine cJ @hn ?_)
 refine bC.by (fun q fr st=>∃ (i:Nat) (b:Bool) (es:List aO) (n:Nat),i<=s.aF.length/\q=s.aF.length - i/\es=(s.aF.take i).filter f/\(b=false->es=[])/\n=es.length/\
  fr=[(14,.i .i64 i),(13,.i .i64 (s.aF.map aJ).length),(12,.sl none 16 (s.aF.map aJ)),(5,.p (.l 1) 0),(4,.p (.l 0) 0),(1,.sl none 1 (gs.map bG))]/\
  st=⟨Wp b 16 (es.map aJ),⟨2,[(1,.cs [.sl none 6 (s.nodes.map aS),Wo b 16 n]),(0,.cs [.aV,.aV])]⟩⟩)
  s.aF.length ⟨_,_,?_,0,false,[],0,Nat.zero_le _,rfl,rfl,fun _=>rfl,rfl,rfl,rfl⟩ ?_
 · exact tG [] [1,2]
 rintro q fr st ⟨i,b,es,n,hi,rfl,nR,hb,hn,rfl,rfl⟩ R hR
 have DW:es.length<=i:=by
  rw [nR]
  exact Nat.le_trans (List.length_filter_le _ _) (List.length_take_le _ _)
 have BA:(es.map aJ).length=es.length:=List.length_map _
 (conv=>whnf)
 refine aH.ds (fun cL=>?_) (fun fC=>?_)
 · have cZ:i<s.aF.length:=by omega
   have he:=List.getElem?_eq_getElem cZ
   have QZ:=hr _ (List.getElem_mem cZ)
   generalize s.aF[i]=e at he QZ
   have hc:=copyPod_ok hG e QZ
   have Q0:=F3 hG gs e.name HZ
   have pR:f e=!(gs.any fun g=>e.name==g):=by rw [hf]
   have h1:f e=true->es++[e]=(s.aF.take (i+1)).filter f:=fun h=>by
    rw [cG he,List.filter_append,<-nR]
    simp [h]
   have h0:f e=false->es=(s.aF.take (i+1)).filter f:=fun h=>by
    rw [cG he,List.filter_append,<-nR]
    simp [h]
   rw [pR] at h1 h0
   generalize (gs.any fun g=>e.name==g)=c at Q0 h1 h0
   cases c<;>cases b
   · obtain rfl:es=[]:=hb rfl
     (refine pU @Q0 @hc @he ?_)
     refine hR (s.aF.length - (i+1)) _ _ (by omega) ⟨_,_,?_,i+1,true,[]++[e],1,by omega,rfl,h1 rfl,(fun h=>by cases h),rfl,rfl,rfl⟩
     exact tG [1] [0,1]
   · (refine zx3 @Q0 @hc @he ?_)
     refine hR (s.aF.length - (i+1)) _ _ (by omega) ⟨_,_,?_,i+1,true,es++[e],n+1,by omega,rfl,h1 rfl,(fun h=>by cases h),by simp [hn],rfl,rfl⟩
     exact tG [2] [0,1]
   · obtain rfl:es=[]:=hb rfl
     (refine iU @Q0 @he ?_)
     refine hR (s.aF.length - (i+1)) _ _ (by omega) ⟨_,_,?_,i+1,false,[],0,by omega,rfl,h0 rfl,fun _=>rfl,rfl,rfl,rfl⟩
     exact tG [] [0,1]
   · (refine iU @Q0 @he ?_)
     refine hR (s.aF.length - (i+1)) _ _ (by omega) ⟨_,_,?_,i+1,true,es,n,by omega,rfl,h0 rfl,(fun h=>by cases h),hn,rfl,rfl⟩
     exact tG [0] [0,1]
 · have eV:es=(cH s gs).aF:=by
    rw [nR,List.take_of_length_le (by omega),hf]
    rfl
   have fin:lT ⟨s.nodes,es⟩=lT (cH s gs):=by rw [eV];rfl
   cases b
   · obtain rfl:es=[]:=hb rfl
     (refine zr ?_)
     exact rK yM rfl fin
   · (refine zr ?_)
     refine N1 rfl (fP (fun _=>rfl) es) (by omega) ?_
     rw [List.drop_zero,List.take_of_length_le (by omega)]
     exact fin
end
open Go
def HC (s:eG) (node:aU):List aO:=s.aF.filter fun p=>p.node==node&&!(node==[])
def BL (s:eG) (node:aU):Option hU:=DT ⟨0,0,0⟩ ((HC s node).map (·.gG))
section
variable {P:Program} (hG:bN P AF.fns.get)
include hG
theorem used_ok (s:eG) (node:aU) (hl:bP s.aF) (hs:s.aF.length*24<=140737488355328) (hr:∀ p∈s.aF,p.gG.ok):Pure P 66 [lT s,.s node] (·=Wl (BL s node)):=by
 have iO:(s.aF.map aJ).length=s.aF.length:=List.length_map _
 unfold bP at hl
 obtain ⟨f,hf⟩:∃ f:aO->Bool,f=fun p=>p.node==node&&!(node==[]):=⟨_,rfl⟩
 refine aM (hG _ AF.f66 rfl) rfl ?_
 (refine zr ?_)
 refine bC.by (fun q fr st=>∃ (i:Nat) (b:Bool) (es:List hU),i<=s.aF.length/\q=s.aF.length - i/\es=((s.aF.take i).filter f).map (·.gG)/\(b=false->es=[])/\
  fr=[(12,.i .i64 i),(11,.i .i64 (s.aF.map aJ).length),(10,.sl none 16 (s.aF.map aJ)),(6,QX b 1 3 (es.map yL)),(4,.p (.l 0) 0),(1,.s node)]/\st=QY b 1 [(0,.cs (yL ⟨0,0,0⟩))])
  s.aF.length ⟨_,_,?_,0,false,[],Nat.zero_le _,rfl,rfl,fun _=>rfl,rfl,rfl⟩ ?_
 · exact tL [1]
 rintro q fr st ⟨i,b,es,hi,rfl,nR,hb,rfl,rfl⟩ R hR
 have DW:es.length<=i:=by
  rw [nR,List.length_map]
  exact Nat.le_trans (List.length_filter_le _ _) (List.length_take_le _ _)
 (conv=>whnf)
 refine aH.ds (fun cL=>?_) (fun fC=>?_)
 · have cZ:i<s.aF.length:=by omega
   have he:=List.getElem?_eq_getElem cZ
   generalize s.aF[i]=e at he
   have h1:f e=true->es++[e.gG]=((s.aF.take (i+1)).filter f).map (·.gG):=fun h=>by
    rw [cG he,List.filter_append,List.map_append,<-nR]
    simp [h]
   have h0:f e=false->es=((s.aF.take (i+1)).filter f).map (·.gG):=fun h=>by
    rw [cG he,List.filter_append,List.map_append,<-nR]
    simp [h]
   cases b
   · obtain rfl:es=[]:=hb rfl
     ((conv=>whnf);repeat' ((first|refine ye (aG (by simp) he) ?_|refine zz ?_|refine aH.ds (fun _=>?_) (fun _=>?_)|refine aH.ns (fun _=>?_) (fun _=>?_)|refine aH.mk (fun _=>?_) (fun _=>?_)|(intro r hr;cases r))<;>(conv=>whnf)))
     · refine hR (s.aF.length - (i+1)) _ _ (by omega) ⟨_,_,?_,i+1,true,[]++[e.gG],by omega,rfl,h1 (by rw [hf];simp_all),(fun h=>by cases h),rfl,rfl⟩
       exact tL [0,3]
     · refine hR (s.aF.length - (i+1)) _ _ (by omega) ⟨_,_,?_,i+1,false,[],by omega,rfl,h0 (by rw [hf];simp_all),fun _=>rfl,rfl,rfl⟩
       exact tL [0]
     · refine hR (s.aF.length - (i+1)) _ _ (by omega) ⟨_,_,?_,i+1,false,[],by omega,rfl,h0 (by rw [hf];simp_all),fun _=>rfl,rfl,rfl⟩
       exact tL [0]
   · ((conv=>whnf);repeat' ((first|refine ye (x:=(es++[e.gG]).map yL) (by rw [List.map_append];rfl) ?_|refine aK.mk (by simp [bR];omega) ?_|refine ye (aG (by simp) he) ?_|refine zz ?_|refine aH.ds (fun _=>?_) (fun _=>?_)|refine aH.ns (fun _=>?_) (fun _=>?_)|refine aH.mk (fun _=>?_) (fun _=>?_)|(intro r hr;cases r))<;>(conv=>whnf)))
     · refine hR (s.aF.length - (i+1)) _ _ (by omega) ⟨_,_,?_,i+1,true,es++[e.gG],by omega,rfl,h1 (by rw [hf];simp_all),(fun h=>by cases h),rfl,rfl⟩
       exact tL [0,4]
     · refine hR (s.aF.length - (i+1)) _ _ (by omega) ⟨_,_,?_,i+1,true,es,by omega,rfl,h0 (by rw [hf];simp_all),(fun h=>by cases h),rfl,rfl⟩
       exact tL [0,1]
     · refine hR (s.aF.length - (i+1)) _ _ (by omega) ⟨_,_,?_,i+1,true,es,by omega,rfl,h0 (by rw [hf];simp_all),(fun h=>by cases h),rfl,rfl⟩
       exact tL [0,1]
 · have eV:es=(HC s node).map (·.gG):=by
    rw [nR,List.take_of_length_le (by omega),hf]
    rfl
   have mN:bP es:=by unfold bP;omega
   have E3:∀ r∈es,r.ok:=by
    rw [eV]
    intro r Cu
    obtain ⟨p,hp,rfl⟩:=List.mem_map.1 Cu
    exact hr p (List.mem_filter.1 hp).1
   have Tv:=sum_ok hG es mN E3
   cases b
   · obtain rfl:es=[]:=hb rfl
     rw [BL,<-eV]
     cases hq:DT ⟨0,0,0⟩ []<;>rw [hq] at Tv
     all_goals (refine cJ @Tv ?_)
     all_goals exact aE rfl rfl
   · rw [BL,<-eV]
     cases hq:DT ⟨0,0,0⟩ es<;>rw [hq] at Tv
     all_goals (refine cJ @Tv ?_)
     all_goals exact aE rfl rfl
end
end Go.Eng
