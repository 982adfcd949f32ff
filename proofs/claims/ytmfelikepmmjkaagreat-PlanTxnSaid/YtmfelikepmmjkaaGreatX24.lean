/-
Labels, taints, amounts: what the program's functions answer.
-/
import Derived.Test.YtmfelikepmmjkaaGreatX23
import Derived.Test.YtmfelikepmmjkaaGreatX11
set_option linter.unusedVariables false
set_option linter.unusedSimpArgs false
set_option maxHeartbeats 4000000
set_option maxRecDepth 10000
namespace Go.Eng
open Go
def getD (l:List cX) (key:aU):aU×Bool:=
 match l.find? (fun p=>p.key==key) with
 |some p=>(p.val,true)
 |none=>([],false)
def Cj (t:lC) (x:cX):Bool:=(t.key==[]||t.key==x.key)&&(t.any||t.val==x.val)
def UC (n:Int):Bool:=decide (0<=n)&&decide (n<=4611686018427387904)
def wN (a b:Int):Bool:=UC a&&UC b&&decide (a<=4611686018427387904 - b)
def y5 (x y:gW):Option gW:=if wN x.a y.a&&(wN x.b y.b&&wN x.c y.c) then some ⟨x.a+y.a,x.b+y.b,x.c+y.c⟩ else none
def MN (r:gW):V:=.agg (Aj r)
def Ym (r:Option gW):V:=
 match r with
 |some r=>.bY [MN r,.b true]
 |none=>.bY [MN ⟨0,0,0⟩,.b false]
def Kx (n:Int):Prop:=-9223372036854775808<=n/\n<=9223372036854775807
def gW.ok (r:gW):Prop:=Kx r.a/\Kx r.b/\Kx r.c
theorem SH {n:Int}:((!UC n)=false)=(0<=n/\n<=4611686018427387904):=by simp [UC]
theorem SI {n:Int}:((!UC n)=true)=¬(0<=n/\n<=4611686018427387904):=by simp [UC];omega
def SJ (a b:Int):Prop:=0<=a/\0<=b/\a+b<=4611686018427387904
theorem Ck {a b:Int}:wN a b=true↔SJ a b:=by simp [wN,UC,SJ];omega
theorem MO {x y:gW} (h:(0<=x.a/\0<=y.a/\x.a+y.a<=4611686018427387904)/\(0<=x.b/\0<=y.b/\x.b+y.b<=4611686018427387904)/\0<=x.c/\0<=y.c/\x.c+y.c<=4611686018427387904):y5 x y=some ⟨x.a+y.a,x.b+y.b,x.c+y.c⟩:=by
 have:(wN x.a y.a&&(wN x.b y.b&&wN x.c y.c))=true:=by
  simp only [Bool.and_eq_true,Ck]
  exact h
 rw [y5,if_pos this]
theorem Yn {x y:gW} (h:¬((0<=x.a/\0<=y.a/\x.a+y.a<=4611686018427387904)/\(0<=x.b/\0<=y.b/\x.b+y.b<=4611686018427387904)/\0<=x.c/\0<=y.c/\x.c+y.c<=4611686018427387904)):y5 x y=none:=by
 have:¬(wN x.a y.a&&(wN x.b y.b&&wN x.c y.c))=true:=by
  simp only [Bool.and_eq_true,Ck]
  exact h
 rw [y5,if_neg this]
theorem addD_ok {x y t:gW} (h:y5 x y=some t):t.ok:=by
 unfold y5 at h
 split at h
 · rename_i hc
   simp only [Bool.and_eq_true,Ck,SJ] at hc
   cases h
   simp only [gW.ok,Kx]
   omega
 · cases h
instance (n:Int):Decidable (Kx n):=inferInstanceAs (Decidable (_/\_))
instance (r:gW):Decidable r.ok:=inferInstanceAs (Decidable (_/\_/\_))
section
variable {P:Program} (hG:bP P AF.fns.get)
include hG
theorem get_ok (l:List cX) (key:aU) (hl:l.length<=9223372036854775807):Pure P 201 [.sl none 2 (l.map aY),.s key] (·=.bY [.s (getD l key).1,.b (getD l key).2]):=by
 have gK:(l.map aY).length=l.length:=List.length_map _
 refine aP (hG _ AF.f201 rfl) rfl ?_
 (refine zr ?_)
 refine bD.by (fun q fr st=>∃ i:Nat,i<=l.length/\q=l.length - i/\cJ (fun e=>e.key==key) l i/\fr=[(10,.i .i64 i),(9,.i .i64 (l.map aY).length),(8,.sl none 2 (l.map aY)),(1,.s key)]/\st=dP iJ)
  l.length ⟨_,_,?_,0,Nat.zero_le _,rfl,cJ.zero,rfl,rfl⟩ ?_
 · exact Ak
 rintro q fr st ⟨i,hi,rfl,dW,rfl,rfl⟩ R hR
 (conv=>whnf)
 refine aH.ds (fun cO=>?_) (fun fE=>?_)
 · have cZ:i<l.length:=by omega
   have he:=List.getElem?_eq_getElem cZ
   generalize l[i]=e at he
   (refine cD @he ?_)
   refine aH.mk (fun hp=>?_) (fun hp=>?_)
   · (refine zr ?_)
     refine aG rfl ?_
     simp only [getD,pR he hp dW]
   · (refine zr ?_)
     refine hR (l.length - (i+1)) _ _ (by omega) ⟨_,_,?_,i+1,by omega,rfl,dW.succ he hp,rfl,rfl⟩
     exact Ak
 · (refine zr ?_)
   refine aG rfl ?_
   simp only [getD,pS (dW.all (by omega))]
theorem in_ok (n:Int):Pure P 262 [.i .i64 n] (·=.b (UC n)):=by
 refine aP (hG _ AF.f262 rfl) rfl ?_
 (refine zr ?_)
 refine aH.ds (fun h1=>?_) (fun h1=>?_)
 · (refine zr ?_)
   refine aG rfl ?_
   simp only [UC]
   rw [decide_eq_true (by omega:0<=n)]
   rfl
 · (refine zr ?_)
   refine aG rfl ?_
   simp only [UC]
   rw [decide_eq_false (by omega:¬0<=n)]
   rfl
theorem bears_ok (t:lC) (x:cX):Pure P 282 [.agg (eP t),.agg (aY x)] (·=.b (Cj t x)):=by
 refine aP (hG _ AF.f282 rfl) rfl ?_
 (refine zr ?_)
 refine aH.mk (fun h1=>?_) (fun h1=>?_)
 all_goals (refine zr ?_)
 all_goals try (refine aH.mk (fun h2=>?_) (fun h2=>?_))
 all_goals (refine zr ?_)
 all_goals try (refine aH.mk (fun h3=>?_) (fun h3=>?_))
 all_goals (refine zr ?_)
 all_goals (refine aG rfl ?_)
 all_goals simp_all [Cj]
theorem add_ok (x y:gW) (hx:x.ok) (hy:y.ok):Pure P 169 [MN x,MN y] (·=Ym (y5 x y)):=by
 obtain ⟨x1,x2,x3⟩:=hx
 obtain ⟨y1,y2,y3⟩:=hy
 unfold Kx at x1 x2 x3 y1 y2 y3
 refine aP (hG _ AF.f169 rfl) rfl ?_
 ((conv=>whnf);repeat' ((first|refine cA (Pure.go (in_ok hG _) rfl) ?_|refine aR.gA (by simp only [SI,SH] at*;omega) (by simp only [SI,SH] at*;omega) ?_|refine zz ?_|refine bD.un rfl ?_|refine aH.ds (fun _=>?_) (fun _=>?_)|refine aH.ns (fun _=>?_) (fun _=>?_)|refine aH.mk (fun _=>?_) (fun _=>?_)|(intro r hr;cases r))<;>(conv=>whnf)))
 all_goals (refine aG rfl ?_)
 all_goals simp only [SI,SH] at*
 all_goals first|(rw [Yn (by omega)];rfl)|(rw [MO (by omega)];rfl)
def Al:gW->List gW->Option gW
 |s,[]=>some s
 |s,r::q=>match y5 s r with
  |some t=>Al t q
  |none=>none
theorem sum_ok (l:List gW) (hl:l.length<=9223372036854775807) (hr:∀ r∈l,r.ok):Pure P 148 [.sl none 3 (l.map Aj)] (·=Ym (Al ⟨0,0,0⟩ l)):=by
 have gK:(l.map Aj).length=l.length:=List.length_map _
 refine aP (hG _ AF.f148 rfl) rfl ?_
 (refine zr ?_)
 refine bD.by (fun q fr st=>∃ (i:Nat) (s:gW),i<=l.length/\q=l.length - i/\s.ok/\Al ⟨0,0,0⟩ l=Al s (l.drop i)/\fr=[(11,.i .i64 i),(10,.i .i64 (l.map Aj).length),(9,.sl none 3 (l.map Aj)),(4,.p (.l 1) 0),(2,.p (.l 0) 0)]/\st=⟨iJ,⟨2,[(1,.cs (Aj s)),(0,.cs (Aj ⟨0,0,0⟩))]⟩⟩)
  l.length ⟨_,_,?_,0,⟨0,0,0⟩,Nat.zero_le _,rfl,by decide,rfl,rfl,rfl⟩ ?_
 · exact tL [0,1]
 rintro q fr st ⟨i,s,hi,rfl,hs,heq,rfl,rfl⟩ R hR
 (conv=>whnf)
 refine aH.ds (fun cO=>?_) (fun fE=>?_)
 · have cZ:i<l.length:=by omega
   have he:=List.getElem?_eq_getElem cZ
   have hm:=List.getElem_mem cZ
   rw [List.drop_eq_getElem_cons cZ] at heq
   generalize l[i]=e at he heq hm
   (refine cD @he ?_)
   refine dF.app (Pure.go (add_ok hG s e hs (hr e hm)) rfl) ?_
   cases ha:y5 s e with
   |none=>
    (refine zr ?_)
    refine aG rfl ?_
    rw [heq,Al,ha]
    rfl
   |some t=>
    (refine zr ?_)
    refine hR (l.length - (i+1)) _ _ (by omega) ⟨_,_,?_,i+1,t,by omega,rfl,addD_ok ha,by rw [heq,Al,ha],rfl,rfl⟩
    exact tL [0,1]
 · (refine zr ?_)
   rw [List.drop_eq_nil_of_le (by omega)] at heq
   refine aG rfl ?_
   rw [heq]
   rfl
end
open Go
def nI (t:cM) (l:List cX):Bool:=
 let v:=getD l t.key
 let WQ:=v.2&&t.bF.any fun e=>v.1==e
 if t.kind=1 then WQ else if t.kind=2 then !WQ else if t.kind=3 then v.2 else if t.kind=4 then !v.2 else false
def bQ {α:Type} (l:List α):Prop:=l.length<=9223372036854775807
def cM.ok (t:cM):Prop:=bQ t.bF
structure DJ (l:List cM):Prop where
 len:bQ l
 each:∀ x∈l,x.ok
structure aL.ok (p:aL):Prop where
 aN:bQ p.aN
 labels:bQ p.labels
 bW:bQ p.bW
 lM:DJ p.lM
 cV:DJ p.cV
 even:DJ p.even
section
variable {P:Program} (hG:bP P AF.fns.get)
include hG
theorem Pu (l:List aU) (x:aU) (hl:l.length<=9223372036854775807):Pure P 245 [.sl none 1 (l.map bE),.s x] (·=.i .i64 (gQ (fun e=>x==e) l)):=by
 have gK:(l.map bE).length=l.length:=List.length_map _
 refine aP (hG _ AF.f245 rfl) rfl ?_
 (refine zr ?_)
 refine bD.by (fun q fr st=>∃ i:Nat,i<=l.length/\q=l.length - i/\cJ (fun e=>x==e) l i/\fr=[(8,.i .i64 i),(7,.i .i64 (l.map bE).length),(1,.s x),(0,.sl none 1 (l.map bE))]/\st=dP iJ)
  l.length ⟨_,_,?_,0,Nat.zero_le _,rfl,cJ.zero,rfl,rfl⟩ ?_
 · exact Ak
 rintro q fr st ⟨i,hi,rfl,dW,rfl,rfl⟩ R hR
 (conv=>whnf)
 refine aH.ds (fun cO=>?_) (fun fE=>?_)
 · have cZ:i<l.length:=by omega
   have he:=List.getElem?_eq_getElem cZ
   generalize l[i]=e at he
   (refine cD @he ?_)
   refine aH.mk (fun hp=>?_) (fun hp=>?_)
   · (refine zr ?_)
     refine aG rfl ?_
     rw [dD he hp dW]
   · (refine zr ?_)
     refine hR (l.length - (i+1)) _ _ (by omega) ⟨_,_,?_,i+1,by omega,rfl,dW.succ he hp,rfl,rfl⟩
     exact Ak
 · (refine zr ?_)
   refine aG rfl ?_
   rw [dN fun j x hx=>dW j x (by have:=(List.getElem?_eq_some_iff.1 hx).1;omega) hx]
theorem G9 (l:List aU) (x:aU) (hl:l.length<=9223372036854775807):Pure P 154 [.sl none 1 (l.map bE),.s x] (·=.b (l.any fun e=>x==e)):=by
 refine aP (hG _ AF.f154 rfl) rfl ?_
 (refine cD (Pu hG l x hl) ?_)
 refine aG rfl ?_
 exact congrArg V.b kC
theorem Pv {l:List cM} {g:Nat} {k:Nat} {h:aA} {p:cM->Bool} (hl:l.length<=9223372036854775807)
 (hg:∀ e∈l,∀ K:V->aA->Prop,K (.b (p e)) h->aC P g (.agg (bA e)::[.p (.g k) 0]) h K) {K:V->aA->Prop} (hK:K (.b (l.any p)) h):aC P 277 [.sl none 3 (l.map bA),.fn g [] [.p (.g k) 0]] h K:=by
 refine aQ (hG _ AF.f277 rfl) rfl ?_
 ((conv=>whnf);repeat ((first|refine aH.ff rfl ?_|refine aH.tt rfl ?_|refine bC.of rfl ?_|refine aM.mk rfl ?_|refine aT.mk rfl ?_|refine cK.of rfl ?_)<;>(conv=>whnf)))
 refine dF.mk (Pt (k:=k) (show gU P 332 (jH 3 (some 3))=true from hG _ AF.f332 rfl) hl hg ?_)
 ((conv=>whnf);repeat ((first|refine aH.ff rfl ?_|refine aH.tt rfl ?_|refine bC.of rfl ?_|refine aM.mk rfl ?_|refine aT.mk rfl ?_|refine cK.of rfl ?_)<;>(conv=>whnf)))
 rw [<-kC] at hK
 exact hK
theorem SK {l:List lC} {g:Nat} {k:Nat} {h:aA} {p:lC->Bool} (hl:l.length<=9223372036854775807)
 (hg:∀ e∈l,∀ K:V->aA->Prop,K (.b (p e)) h->aC P g (.agg (eP e)::[.p (.g k) 0]) h K) {K:V->aA->Prop} (hK:K (.b (l.any p)) h):aC P 280 [.sl none 3 (l.map eP),.fn g [] [.p (.g k) 0]] h K:=by
 refine aQ (hG _ AF.f280 rfl) rfl ?_
 ((conv=>whnf);repeat ((first|refine aH.ff rfl ?_|refine aH.tt rfl ?_|refine bC.of rfl ?_|refine aM.mk rfl ?_|refine aT.mk rfl ?_|refine cK.of rfl ?_)<;>(conv=>whnf)))
 refine dF.mk (SF (k:=k) (show gU P 333 (jH 3 (some 3))=true from hG _ AF.f333 rfl) hl hg ?_)
 ((conv=>whnf);repeat ((first|refine aH.ff rfl ?_|refine aH.tt rfl ?_|refine bC.of rfl ?_|refine aM.mk rfl ?_|refine aT.mk rfl ?_|refine cK.of rfl ?_)<;>(conv=>whnf)))
 rw [<-kC] at hK
 exact hK
theorem holds_ok (t:cM) (l:List cX) (ht:t.ok) (hl:bQ l):Pure P 279 [.agg (bA t),.sl none 2 (l.map aY)] (·=.b (nI t l)):=by
 refine aP (hG _ AF.f279 rfl) rfl ?_
 obtain ⟨v,hv⟩:∃ v,v=getD l t.key:=⟨_,rfl⟩
 obtain ⟨v1,v2⟩:=v
 have pK:=get_ok hG l t.key hl
 rw [<-hv] at pK
 simp only [nI,<-hv]
 cases v2
 all_goals ((conv=>whnf);repeat' ((first|refine cA (Pure.go pK rfl) ?_|refine cA (Pure.go (G9 hG t.bF _ ht) rfl) ?_|refine zz ?_|refine aH.ds (fun _=>?_) (fun _=>?_)|refine aH.ns (fun _=>?_) (fun _=>?_)|refine aH.mk (fun _=>?_) (fun _=>?_)|(intro r hr;cases r))<;>(conv=>whnf)))
 all_goals (refine aG rfl ?_)
 all_goals simp_all
theorem matchf_ok {t:cM} {l:List cX} (ht:t.ok) (hl:bQ l) {h:aA} {k:Nat} (hc:h.get k=some (.cs [.sl none 2 (l.map aY)])) {K:V->aA->Prop} (hK:K (.b (!nI t l)) h):aC P 278 [.agg (bA t),.p (.g k) 0] h K:=by
 refine aQ (hG _ AF.f278 rfl) rfl ?_
 ((conv=>whnf);repeat ((first|refine aH.ff rfl ?_|refine aH.tt rfl ?_|refine bC.of rfl ?_|refine aM.mk rfl ?_|refine aT.mk rfl ?_|refine cK.of (hc) ?_|refine cK.of rfl ?_)<;>(conv=>whnf)))
 refine dF.mk (Pure.go (holds_ok hG t l ht hl) rfl ?_)
 ((conv=>whnf);repeat ((first|refine aH.ff rfl ?_|refine aH.tt rfl ?_|refine bC.of rfl ?_|refine aM.mk rfl ?_|refine aT.mk rfl ?_|refine cK.of rfl ?_)<;>(conv=>whnf)))
 exact hK
theorem match_ok (ts:List cM) (l:List cX) (ht:∀ t∈ts,t.ok) (hts:bQ ts) (hl:bQ l):Pure P 197 [.sl none 3 (ts.map bA),.sl none 2 (l.map aY)] (·=.b (ts.all fun t=>nI t l)):=by
 refine aP (hG _ AF.f197 rfl) rfl ?_
 ((conv=>whnf);repeat ((first|refine cA (Pv hG (p:=fun t=>!nI t l) hts (fun e he K hK=>matchf_ok hG (ht e he) hl rfl hK)) ?_|refine zz ?_)<;>(conv=>whnf)))
 refine aG rfl ?_
 simp [List.all_eq_not_any_not]
theorem bearsf_ok {t:lC} {x:cX} {h:aA} {k:Nat} (hc:h.get k=some (.cs (aY x))) {K:V->aA->Prop} (hK:K (.b (Cj t x)) h):aC P 281 [.agg (eP t),.p (.g k) 0] h K:=by
 refine aQ (hG _ AF.f281 rfl) rfl ?_
 ((conv=>whnf);repeat ((first|refine aH.ff rfl ?_|refine aH.tt rfl ?_|refine bC.of rfl ?_|refine aM.mk rfl ?_|refine aT.mk rfl ?_|refine cK.of (hc) ?_|refine cK.of rfl ?_)<;>(conv=>whnf)))
 refine dF.mk (Pure.go (bears_ok hG t x) rfl ?_)
 ((conv=>whnf);repeat ((first|refine aH.ff rfl ?_|refine aH.tt rfl ?_|refine bC.of rfl ?_|refine aM.mk rfl ?_|refine aT.mk rfl ?_|refine cK.of rfl ?_)<;>(conv=>whnf)))
 exact hK
def Vl (bW:List lC) (ts:List cX):Bool:=ts.all fun x=>bW.any fun t=>Cj t x
theorem all_ok (bW:List lC) (ts:List cX) (ht:bQ bW) (hl:bQ ts):Pure P 198 [.sl none 3 (bW.map eP),.sl none 2 (ts.map aY)] (·=.b (Vl bW ts)):=by
 have gK:(ts.map aY).length=ts.length:=List.length_map _
 have y9:ts.length<=9223372036854775807:=hl
 refine aP (hG _ AF.f198 rfl) rfl ?_
 (refine zr ?_)
 refine bD.by (fun q fr st=>∃ i:Nat,i<=ts.length/\q=ts.length - i/\cJ (fun x=>!bW.any fun t=>Cj t x) ts i/\fr=[(9,.i .i64 i),(8,.i .i64 (ts.map aY).length),(7,.sl none 2 (ts.map aY)),(0,.sl none 3 (bW.map eP))]/\st=dP iJ)
  ts.length ⟨_,_,?_,0,Nat.zero_le _,rfl,cJ.zero,rfl,rfl⟩ ?_
 · exact Ak
 rintro q fr st ⟨i,hi,rfl,dW,rfl,rfl⟩ R hR
 (conv=>whnf)
 refine aH.ds (fun cO=>?_) (fun fE=>?_)
 · have cZ:i<ts.length:=by omega
   have he:=List.getElem?_eq_getElem cZ
   generalize ts[i]=e at he
   ((conv=>whnf);repeat ((first|refine cA (SK hG (p:=fun t=>Cj t e) ht (fun t _ K hK=>bearsf_ok hG rfl hK)) ?_|refine ye (aF (by simp) he) ?_|refine zz ?_)<;>(conv=>whnf)))
   refine aH.mk (fun hp=>?_) (fun hp=>?_)
   · (refine zr ?_)
     refine aG rfl ?_
     simp only [Vl,List.all_eq_not_any_not]
     rw [any_some he hp]
     rfl
   · (refine zr ?_)
     refine hR (ts.length - (i+1)) _ _ (by omega) ⟨_,_,?_,i+1,by omega,rfl,dW.succ he hp,rfl,rfl⟩
     exact Ak
 · (refine zr ?_)
   refine aG rfl ?_
   simp only [Vl,List.all_eq_not_any_not]
   rw [any_none (dW.all (by omega))]
   rfl
end
open Go
theorem A8 {α:Type} {R:α->List V} {g:Bool} (h:∀ x,tS g (R x)=some (R x)):∀ l:List α,iA g (l.map R)=some (l.map R)
 |[]=>rfl
 |x::r=>by simp only [List.map_cons,iA,h x,A8 h r]
section
variable {P:Program} (hG:bP P AF.fns.get)
include hG
theorem EZ (l:List cX) (hl:l.length*32<=140737488355328):Pure P 164 [.sl none 2 (l.map aY)] (·=.sl none 2 (l.map aY)):=by
 refine aP (hG _ AF.f164 rfl) rfl ?_
 cases l with
 |nil=>
  (refine zr ?_)
  refine B0.mk fun b=>?_
  cases b
  · (refine zr ?_)
    exact iR rfl
  · (refine zr ?_)
    exact pure_nil rfl
 |cons x r=>
  ((conv=>whnf);repeat ((first|refine ye (gI (fun _=>rfl) (x::r)) ?_|refine aM.mk (by first|(simp [bT];done)|simpa [bT] using hl) ?_|refine zz ?_)<;>(conv=>whnf)))
  exact iR rfl
theorem Ky (l:List cX) (hl:l.length*32<=140737488355328):Pure P 243 [.sl none 2 (l.map aY)] (·=.sl none 2 (l.map aY)):=by
 refine aP (hG _ AF.f243 rfl) rfl ?_
 cases l with
 |nil=>
  (refine zr ?_)
  refine B0.mk fun b=>?_
  cases b
  · (refine zr ?_)
    exact iR rfl
  · (refine zr ?_)
    exact pure_nil rfl
 |cons x r=>
  ((conv=>whnf);repeat ((first|refine ye (gI (fun _=>rfl) (x::r)) ?_|refine aM.mk (by first|(simp [bT];done)|simpa [bT] using hl) ?_|refine zz ?_)<;>(conv=>whnf)))
  exact iR rfl
theorem Pw (l:List aU) (hl:l.length*16<=140737488355328):Pure P 79 [.sl none 1 (l.map bE)] (·=.sl none 1 (l.map bE)):=by
 refine aP (hG _ AF.f79 rfl) rfl ?_
 cases l with
 |nil=>
  (refine zr ?_)
  refine B0.mk fun b=>?_
  cases b
  · (refine zr ?_)
    exact uE (ds:=[]) rfl rfl (Nat.le_refl _) rfl
  · (refine zr ?_)
    exact pure_nil rfl
 |cons x r=>
  ((conv=>whnf);repeat ((first|refine ye (A8 (fun _=>rfl) (x::r)) ?_|refine aM.mk (by first|(simp [bT];done)|simpa [bT] using hl) ?_|refine zz ?_)<;>(conv=>whnf)))
  refine uE rfl (gI (fun _=>rfl) (x::r)) (by simp) ?_
  simp [List.take_of_length_le]
theorem copyNode_ok (n:bK) (h1:n.labels.length*32<=140737488355328) (h2:n.cR.length*32<=140737488355328):Pure P 149 [.agg (aK n)] (·=.agg (aK n)):=by
 refine aP (hG _ AF.f149 rfl) rfl ?_
 (refine iG (EZ hG _ h1) (Ky hG _ h2) ?_)
 exact aG rfl rfl
end
open Go
structure tD (l:List cM):Prop where
 len:l.length*48<=140737488355328
 each:∀ t∈l,t.bF.length*16<=140737488355328
structure iM (p:aL):Prop where
 aN:p.aN.length*8<=140737488355328
 labels:p.labels.length*32<=140737488355328
 bW:p.bW.length*40<=140737488355328
 lM:tD p.lM
 cV:tD p.cV
 even:tD p.even
theorem map_set {α:Type} {R:α->List V} {l:List α} {i j:Nat} {x:α} {e':List V} (h:l[i]? =some x) (hj:j=i) (he:e'=R x):(l.map R).set j e'=l.map R:=by
 subst hj he
 apply List.ext_getElem?
 intro q
 rw [List.getElem?_set]
 split
 · rename_i e
   subst e
   rw [if_pos (by simpa using (List.getElem?_eq_some_iff.1 h).1),IU h]
 · rfl
section
variable {P:Program} (hG:bP P AF.fns.get)
include hG
theorem Px (l:List Int) (hl:l.length*8<=140737488355328):Pure P 163 [.sl none 1 (l.map fA)] (·=.sl none 1 (l.map fA)):=by
 refine aP (hG _ AF.f163 rfl) rfl ?_
 cases l with
 |nil=>
  (refine zr ?_)
  refine B0.mk fun b=>?_
  cases b
  · (refine zr ?_)
    exact iR rfl
  · (refine zr ?_)
    exact pure_nil rfl
 |cons x r=>
  ((conv=>whnf);repeat ((first|refine ye (gI (fun _=>rfl) (x::r)) ?_|refine aM.mk (by first|(simp [bT];done)|simpa [bT] using hl) ?_|refine zz ?_)<;>(conv=>whnf)))
  exact iR rfl
theorem Py (l:List lC) (hl:l.length*40<=140737488355328):Pure P 165 [.sl none 3 (l.map eP)] (·=.sl none 3 (l.map eP)):=by
 refine aP (hG _ AF.f165 rfl) rfl ?_
 cases l with
 |nil=>
  (refine zr ?_)
  refine B0.mk fun b=>?_
  cases b
  · (refine zr ?_)
    exact iR rfl
  · (refine zr ?_)
    exact pure_nil rfl
 |cons x r=>
  ((conv=>whnf);repeat ((first|refine ye (gI (fun _=>rfl) (x::r)) ?_|refine aM.mk (by first|(simp [bT];done)|simpa [bT] using hl) ?_|refine zz ?_)<;>(conv=>whnf)))
  exact iR rfl
theorem copyTerms_ok (l:List cM) (hl:tD l):Pure P 166 [.sl none 3 (l.map bA)] (·=.sl none 3 (l.map bA)):=by
 refine aP (hG _ AF.f166 rfl) rfl ?_
 cases l with
 |nil=>
  (refine zr ?_)
  refine dF.mk (jX (hG _ _ rfl) rfl ?_)
  (refine zr ?_)
  refine B0.mk fun b=>?_
  cases b
  · ((conv=>whnf);repeat ((first|refine zz ?_|refine bD.un rfl ?_)<;>(conv=>whnf)))
    exact uE (ds:=[]) rfl rfl (Nat.le_refl _) rfl
  · ((conv=>whnf);repeat ((first|refine zz ?_|refine bD.un rfl ?_)<;>(conv=>whnf)))
    exact pure_nil rfl
 |cons x r=>
  obtain ⟨l,L8⟩:∃ l,l=x::r:=⟨_,rfl⟩
  have gK:(l.map bA).length=l.length:=List.length_map _
  have UA:=hl.len
  have AA:tD l:=L8▸hl
  (refine zr ?_)
  refine dF.mk (jX (hG _ _ rfl) rfl ?_)
  ((conv=>whnf);repeat ((first|refine ye (A8 (fun _=>rfl) (x::r)) ?_|refine aM.mk (by first|(simp [bT];done)|simpa [bT] using hl.len) ?_|refine zz ?_)<;>(conv=>whnf)))
  rw [<-L8] at*
  refine bD.by (fun q fr st=>∃ i:Nat,i<=l.length/\q=l.length - i/\fr=[(9,.i .i64 i),(8,.i .i64 l.length),(3,.ms (.g 0) 3 0 l.length)]/\st=⟨⟨1,[(0,.arr 3 (l.map bA))]⟩,GD⟩)
   l.length ⟨_,_,?_,0,Nat.zero_le _,rfl,rfl,rfl⟩ ?_
  · simp only [List.length_nil,Nat.zero_add,List.take_nil,List.drop_nil,List.nil_append,List.length_map]
    exact tG [1] []
  rintro q fr st ⟨i,hi,rfl,rfl,rfl⟩ R hR
  (conv=>whnf)
  refine aH.ds (fun cO=>?_) (fun fE=>?_)
  · have cZ:i<l.length:=by omega
    have he:=List.getElem?_eq_getElem cZ
    have hv:=AA.each _ (List.getElem_mem cZ)
    generalize l[i]=e at he hv
    (refine iG (Pw hG _ hv) @he ?_)
    refine hR (l.length - (i+1)) _ _ (by omega) ⟨_,_,?_,i+1,by omega,rfl,rfl,rfl⟩
    rw [map_set (R:=bA) he]
    · exact tG [0] []
    · simp
    · rfl
  · (refine zr ?_)
    exact uE rfl (gI (fun _=>rfl) l) (by simp) (by simp [List.take_of_length_le])
theorem copyPod_ok (p:aL) (hp:iM p):Pure P 84 [.agg (aI p)] (·=.agg (aI p)):=by
 refine aP (hG _ AF.f84 rfl) rfl ?_
 (refine WN (Px hG _ hp.aN) (EZ hG _ hp.labels) (Py hG _ hp.bW) (copyTerms_ok hG _ hp.lM) (copyTerms_ok hG _ hp.cV) (copyTerms_ok hG _ hp.even) ?_)
 exact aG rfl rfl
end
open Go
def SL (b:Bool) (k:Nat) (sz:Nat) (es:List (List V)):V:=
 match b with
 |true=>.sl (some (.l k)) sz es
 |false=>.aS
def SM (b:Bool) (n:Nat) (tP:List (Nat×Obj)):St:=
 match b with
 |true=>⟨iJ,⟨n+1,(n,.spare)::tP⟩⟩
 |false=>⟨iJ,⟨n,tP⟩⟩
structure bK.ok (n:bK):Prop where
 labels:bQ n.labels
 cR:bQ n.cR
structure aL.fit (p:aL):Prop extends E3:p.ok where
 fQ:p.fQ.ok
structure dY.ok (s:dY):Prop where
 nodes:bQ s.nodes
 aE:bQ s.aE
 node:∀ n∈s.nodes,n.ok
 pT:∀ p∈s.aE,p.fit
 some:s.aE.length*248<=140737488355328
theorem tE {Q:V->Prop} {cs ds:List V} {b:Bool} {h':aA} (hc:Ah gV ⟨0,0⟩ gG cs ds) (hf:ds.all V.flat=true) (hq:Q (.bY [.agg ds,.b b])):qQ Q (.bY [.agg cs,.b b]) h':=
 yD (u:=.bY [.agg ds,.b b]) gG mG (.inr ⟨_,_,rfl,rfl,.inr (.inl ⟨_,_,rfl,rfl,hc⟩),qP rfl,trivial⟩) (by simp only [V.free,List.all_cons,V.qI,hf];rfl) hq
theorem tF {Q:V->Prop} {cs ds:List V} {h':aA} (hc:Ah gV ⟨0,0⟩ gG cs ds) (hf:ds.all V.flat=true) (hq:Q (.agg ds)):qQ Q (.agg cs) h':=
 yD (u:=.agg ds) gG mG (.inl (.inr (.inl ⟨_,_,rfl,rfl,hc⟩))) hf hq
open Go
def Small (s:dY):Prop:=∀ n∈s.nodes,n.labels.length*32<=140737488355328/\n.cR.length*32<=140737488355328
def Yo (b:Bool) (sz n:Nat):V:=
 match b with
 |true=>.ms (.g 0) sz 0 n
 |false=>.aS
def Yp (b:Bool) (sz:Nat) (es:List (List V)):aA:=
 match b with
 |true=>⟨1,[(0,.arr sz es)]⟩
 |false=>iJ
def aW (s:dY) (gs:List aU):dY:=⟨s.nodes,s.aE.filter fun q=>!(gs.any fun g=>q.name==g)⟩
theorem Pz {Q:V->Prop} {k sz a n:Nat} {es ds:List (List V)} {ns:List (List V)} {h':aA} (h:h'.get k=some (.arr sz es)) (hd:eC es=some ds) (hn:a+n<=ds.length) (hq:Q (.agg [.sl none 6 ns,.sl none sz ((ds.drop a).take n)])):qQ Q (.agg [.sl none 6 ns,.ms (.g k) sz a n]) h':=
 yD (u:=.agg [.sl none 6 ns,.sl none sz ((ds.drop a).take n)]) (Uz k sz ds) (IT h hd) (.inl (.inr (.inl ⟨_,_,rfl,rfl,⟨jG rfl,.ZD (by simp [Uz]) hn rfl,trivial⟩⟩))) rfl hq
section
variable {P:Program} (hG:bP P AF.fns.get)
include hG
theorem nodes_ok (s:dY) (h6:s.nodes.length<=1000) (wO:Small s):Pure P 153 [kS s] (·=.sl none 6 (s.nodes.map aK)):=by
 have gK:(s.nodes.map aK).length=s.nodes.length:=List.length_map _
 refine aP (hG _ AF.f153 rfl) rfl ?_
 (refine zr ?_)
 refine bD.by (fun q fr st=>∃ (i:Nat) (b:Bool) (es:List bK),i<=s.nodes.length/\q=s.nodes.length - i/\es=s.nodes.take i/\(b=false->es=[])/\
  fr=[(9,.i .i64 i),(8,.i .i64 (s.nodes.map aK).length),(7,.sl none 6 (s.nodes.map aK)),(3,SL b 0 6 (es.map aK))]/\st=SM b 0 [])
  s.nodes.length ⟨_,_,?_,0,false,[],Nat.zero_le _,rfl,rfl,fun _=>rfl,rfl,rfl⟩ ?_
 · exact Ak
 rintro q fr st ⟨i,b,es,hi,rfl,o8,hb,rfl,rfl⟩ R hR
 have E6:es.length<=i:=by
  rw [o8]
  exact List.length_take_le _ _
 (conv=>whnf)
 refine aH.ds (fun cO=>?_) (fun fE=>?_)
 · have cZ:i<s.nodes.length:=by omega
   have he:=List.getElem?_eq_getElem cZ
   have hm:=List.getElem_mem cZ
   generalize s.nodes[i]=e at he hm
   have hc:=copyNode_ok hG e (wO e hm).1 (wO e hm).2
   have h1:es++[e]=s.nodes.take (i+1):=by rw [cG he,<-o8]
   have hint:es.map aK++[aK e]=(es++[e]).map aK:=by rw [List.map_append];rfl
   cases b
   · obtain rfl:es=[]:=hb rfl
     (refine iG @hc @he ?_)
     refine hR (s.nodes.length - (i+1)) _ _ (by omega) ⟨_,_,?_,i+1,true,[]++[e],by omega,rfl,h1,(fun h=>by cases h),rfl,rfl⟩
     exact tL [2]
   · (refine zx3 @hc (congrArg some hint) @he ?_)
     refine hR (s.nodes.length - (i+1)) _ _ (by omega) ⟨_,_,?_,i+1,true,es++[e],by omega,rfl,h1,(fun h=>by cases h),rfl,rfl⟩
     exact tL [3]
 · have fH:es=s.nodes:=by rw [o8,List.take_of_length_le (by omega)]
   rw [<-fH]
   cases b
   · obtain rfl:es=[]:=hb rfl
     (refine zr ?_)
     exact pure_nil rfl
   · (refine zr ?_)
     exact iR rfl
theorem without_ok (s:dY) (gs:List aU) (h6:s.nodes.length<=1000) (hs:s.ok) (wO:Small s) (hr:∀ q∈s.aE,iM q) (Js:bQ gs):Pure P 77 [kS s,.sl none 1 (gs.map bE)] (·=kS (aW s gs)):=by
 have gK:(s.aE.map aI).length=s.aE.length:=List.length_map _
 have hl:=hs.aE
 have GP:=hs.some
 unfold bQ at hl
 have hn:=nodes_ok hG s h6 wO
 obtain ⟨f,hf⟩:∃ f:aL->Bool,f=fun q=>!(gs.any fun g=>q.name==g):=⟨_,rfl⟩
 refine aP (hG _ AF.f77 rfl) rfl ?_
 (refine cD @hn ?_)
 refine bD.by (fun q fr st=>∃ (i:Nat) (b:Bool) (es:List aL) (n:Nat),i<=s.aE.length/\q=s.aE.length - i/\es=(s.aE.take i).filter f/\(b=false->es=[])/\n=es.length/\
  fr=[(14,.i .i64 i),(13,.i .i64 (s.aE.map aI).length),(12,.sl none 16 (s.aE.map aI)),(5,.p (.l 1) 0),(4,.p (.l 0) 0),(1,.sl none 1 (gs.map bE))]/\
  st=⟨Yp b 16 (es.map aI),⟨2,[(1,.cs [.sl none 6 (s.nodes.map aK),Yo b 16 n]),(0,.cs [.aS,.aS])]⟩⟩)
  s.aE.length ⟨_,_,?_,0,false,[],0,Nat.zero_le _,rfl,rfl,fun _=>rfl,rfl,rfl,rfl⟩ ?_
 · exact tG [] [1,2]
 rintro q fr st ⟨i,b,es,n,hi,rfl,o8,hb,hn,rfl,rfl⟩ R hR
 have E6:es.length<=i:=by
  rw [o8]
  exact Nat.le_trans (List.length_filter_le _ _) (List.length_take_le _ _)
 have Dw:(es.map aI).length=es.length:=List.length_map _
 (conv=>whnf)
 refine aH.ds (fun cO=>?_) (fun fE=>?_)
 · have cZ:i<s.aE.length:=by omega
   have he:=List.getElem?_eq_getElem cZ
   have SN:=hr _ (List.getElem_mem cZ)
   generalize s.aE[i]=e at he SN
   have hc:=copyPod_ok hG e SN
   have SO:=G9 hG gs e.name Js
   have jE:f e=!(gs.any fun g=>e.name==g):=by rw [hf]
   have h1:f e=true->es++[e]=(s.aE.take (i+1)).filter f:=fun h=>by
    rw [cG he,List.filter_append,<-o8]
    simp [h]
   have h0:f e=false->es=(s.aE.take (i+1)).filter f:=fun h=>by
    rw [cG he,List.filter_append,<-o8]
    simp [h]
   rw [jE] at h1 h0
   generalize (gs.any fun g=>e.name==g)=c at SO h1 h0
   cases c<;>cases b
   · obtain rfl:es=[]:=hb rfl
     (refine qR @SO @hc @he ?_)
     refine hR (s.aE.length - (i+1)) _ _ (by omega) ⟨_,_,?_,i+1,true,[]++[e],1,by omega,rfl,h1 rfl,(fun h=>by cases h),rfl,rfl,rfl⟩
     exact tG [1] [0,1]
   · (refine zx3 @SO @hc @he ?_)
     refine hR (s.aE.length - (i+1)) _ _ (by omega) ⟨_,_,?_,i+1,true,es++[e],n+1,by omega,rfl,h1 rfl,(fun h=>by cases h),by simp [hn],rfl,rfl⟩
     exact tG [2] [0,1]
   · obtain rfl:es=[]:=hb rfl
     (refine iG @SO @he ?_)
     refine hR (s.aE.length - (i+1)) _ _ (by omega) ⟨_,_,?_,i+1,false,[],0,by omega,rfl,h0 rfl,fun _=>rfl,rfl,rfl,rfl⟩
     exact tG [] [0,1]
   · (refine iG @SO @he ?_)
     refine hR (s.aE.length - (i+1)) _ _ (by omega) ⟨_,_,?_,i+1,true,es,n,by omega,rfl,h0 rfl,(fun h=>by cases h),hn,rfl,rfl⟩
     exact tG [0] [0,1]
 · have fH:es=(aW s gs).aE:=by
    rw [o8,List.take_of_length_le (by omega),hf]
    rfl
   have fin:kS ⟨s.nodes,es⟩=kS (aW s gs):=by rw [fH];rfl
   cases b
   · obtain rfl:es=[]:=hb rfl
     (refine zr ?_)
     exact tF yZ rfl fin
   · (refine zr ?_)
     refine Pz rfl (gI (fun _=>rfl) es) (by omega) ?_
     rw [List.drop_zero,List.take_of_length_le (by omega)]
     exact fin
end
open Go
def oJ (s:dY) (node:aU):List aL:=s.aE.filter fun p=>p.node==node&&!(node==[])
def rO (s:dY) (node:aU):Option gW:=Al ⟨0,0,0⟩ ((oJ s node).map (·.fQ))
section
variable {P:Program} (hG:bP P AF.fns.get)
include hG
theorem used_ok (s:dY) (node:aU) (hl:bQ s.aE) (hs:s.aE.length*24<=140737488355328) (hr:∀ p∈s.aE,p.fQ.ok):Pure P 66 [kS s,.s node] (·=Ym (rO s node)):=by
 have gK:(s.aE.map aI).length=s.aE.length:=List.length_map _
 unfold bQ at hl
 obtain ⟨f,hf⟩:∃ f:aL->Bool,f=fun p=>p.node==node&&!(node==[]):=⟨_,rfl⟩
 refine aP (hG _ AF.f66 rfl) rfl ?_
 (refine zr ?_)
 refine bD.by (fun q fr st=>∃ (i:Nat) (b:Bool) (es:List gW),i<=s.aE.length/\q=s.aE.length - i/\es=((s.aE.take i).filter f).map (·.fQ)/\(b=false->es=[])/\
  fr=[(12,.i .i64 i),(11,.i .i64 (s.aE.map aI).length),(10,.sl none 16 (s.aE.map aI)),(6,SL b 1 3 (es.map Aj)),(4,.p (.l 0) 0),(1,.s node)]/\st=SM b 1 [(0,.cs (Aj ⟨0,0,0⟩))])
  s.aE.length ⟨_,_,?_,0,false,[],Nat.zero_le _,rfl,rfl,fun _=>rfl,rfl,rfl⟩ ?_
 · exact tL [1]
 rintro q fr st ⟨i,b,es,hi,rfl,o8,hb,rfl,rfl⟩ R hR
 have E6:es.length<=i:=by
  rw [o8,List.length_map]
  exact Nat.le_trans (List.length_filter_le _ _) (List.length_take_le _ _)
 (conv=>whnf)
 refine aH.ds (fun cO=>?_) (fun fE=>?_)
 · have cZ:i<s.aE.length:=by omega
   have he:=List.getElem?_eq_getElem cZ
   generalize s.aE[i]=e at he
   have h1:f e=true->es++[e.fQ]=((s.aE.take (i+1)).filter f).map (·.fQ):=fun h=>by
    rw [cG he,List.filter_append,List.map_append,<-o8]
    simp [h]
   have h0:f e=false->es=((s.aE.take (i+1)).filter f).map (·.fQ):=fun h=>by
    rw [cG he,List.filter_append,List.map_append,<-o8]
    simp [h]
   cases b
   · obtain rfl:es=[]:=hb rfl
     ((conv=>whnf);repeat' ((first|refine ye (aF (by simp) he) ?_|refine zz ?_|refine aH.ds (fun _=>?_) (fun _=>?_)|refine aH.ns (fun _=>?_) (fun _=>?_)|refine aH.mk (fun _=>?_) (fun _=>?_)|(intro r hr;cases r))<;>(conv=>whnf)))
     · refine hR (s.aE.length - (i+1)) _ _ (by omega) ⟨_,_,?_,i+1,true,[]++[e.fQ],by omega,rfl,h1 (by rw [hf];simp_all),(fun h=>by cases h),rfl,rfl⟩
       exact tL [0,3]
     · refine hR (s.aE.length - (i+1)) _ _ (by omega) ⟨_,_,?_,i+1,false,[],by omega,rfl,h0 (by rw [hf];simp_all),fun _=>rfl,rfl,rfl⟩
       exact tL [0]
     · refine hR (s.aE.length - (i+1)) _ _ (by omega) ⟨_,_,?_,i+1,false,[],by omega,rfl,h0 (by rw [hf];simp_all),fun _=>rfl,rfl,rfl⟩
       exact tL [0]
   · ((conv=>whnf);repeat' ((first|refine ye (x:=(es++[e.fQ]).map Aj) (by rw [List.map_append];rfl) ?_|refine aM.mk (by simp [bT];omega) ?_|refine ye (aF (by simp) he) ?_|refine zz ?_|refine aH.ds (fun _=>?_) (fun _=>?_)|refine aH.ns (fun _=>?_) (fun _=>?_)|refine aH.mk (fun _=>?_) (fun _=>?_)|(intro r hr;cases r))<;>(conv=>whnf)))
     · refine hR (s.aE.length - (i+1)) _ _ (by omega) ⟨_,_,?_,i+1,true,es++[e.fQ],by omega,rfl,h1 (by rw [hf];simp_all),(fun h=>by cases h),rfl,rfl⟩
       exact tL [0,4]
     · refine hR (s.aE.length - (i+1)) _ _ (by omega) ⟨_,_,?_,i+1,true,es,by omega,rfl,h0 (by rw [hf];simp_all),(fun h=>by cases h),rfl,rfl⟩
       exact tL [0,1]
     · refine hR (s.aE.length - (i+1)) _ _ (by omega) ⟨_,_,?_,i+1,true,es,by omega,rfl,h0 (by rw [hf];simp_all),(fun h=>by cases h),rfl,rfl⟩
       exact tL [0,1]
 · have fH:es=(oJ s node).map (·.fQ):=by
    rw [o8,List.take_of_length_le (by omega),hf]
    rfl
   have nQ:bQ es:=by unfold bQ;omega
   have QC:∀ r∈es,r.ok:=by
    rw [fH]
    intro r Dt
    obtain ⟨p,hp,rfl⟩:=List.mem_map.1 Dt
    exact hr p (List.mem_filter.1 hp).1
   have Vm:=sum_ok hG es nQ QC
   cases b
   · obtain rfl:es=[]:=hb rfl
     rw [rO,<-fH]
     cases hq:Al ⟨0,0,0⟩ []<;>rw [hq] at Vm
     all_goals (refine cD @Vm ?_)
     all_goals exact aG rfl rfl
   · rw [rO,<-fH]
     cases hq:Al ⟨0,0,0⟩ es<;>rw [hq] at Vm
     all_goals (refine cD @Vm ?_)
     all_goals exact aG rfl rfl
end
open Go
def CP (x y:gW):Bool:=decide (x.a<=y.a)&&(decide (x.b<=y.b)&&decide (x.c<=y.c))
def A9 (s:dY) (p:aL) (n:bK):Bool:=
 match rO s n.name with
 |some u=>match y5 u p.fQ with
  |some t=>CP t n.cap
  |none=>false
 |none=>false
def uF (s:dY) (p:aL) (n:bK):Bool:=!s.aE.any fun q=>q.node==n.name&&(!(q.node==[])&&q.aN.any fun x=>p.aN.any fun y=>decide (x=y))
def MP (p:aL) (n:bK):Bool:=p.lM.all fun t=>nI t n.labels
def MQ (p:aL) (n:bK):Bool:=Vl p.bW n.cR
theorem sumD_ok:∀ {l:List gW} {s t:gW},s.ok->Al s l=some t->t.ok
 |[],s,t,hs,h=>by cases h;exact hs
 |r::q,s,t,hs,h=>by
  simp only [Al] at h
  split at h
  · rename_i t' ht
    exact sumD_ok (addD_ok ht) h
  · cases h
section
variable {P:Program} (hG:bP P AF.fns.get)
include hG
theorem fits_ok (x y:gW):Pure P 67 [MN x,MN y] (·=.b (CP x y)):=by
 refine aP (hG _ AF.f67 rfl) rfl ?_
 ((conv=>whnf);repeat' ((first|refine zz ?_|refine bD.un rfl ?_|refine aH.ds (fun _=>?_) (fun _=>?_)|refine aH.ns (fun _=>?_) (fun _=>?_)|refine aH.mk (fun _=>?_) (fun _=>?_)|(intro r hr;cases r))<;>(conv=>whnf)))
 all_goals (refine aG rfl ?_)
 all_goals (simp [CP];try omega)
theorem room_ok (s:dY) (p:aL) (n:bK) (hs:s.ok) (hp:p.fQ.ok):Pure P 92 [kS s,.agg (aI p),.agg (aK n)] (·=.b (A9 s p n)):=by
 have hu:=used_ok hG s n.name hs.aE (by have:=hs.some;omega) (fun p hp=>(hs.pT p hp).fQ)
 refine aP (hG _ AF.f92 rfl) rfl ?_
 simp only [A9]
 cases hq:rO s n.name with
 |none=>
  rw [hq] at hu
  (refine cD @hu ?_)
  exact aG rfl rfl
 |some u=>
  rw [hq] at hu
  have ha:=add_ok hG u p.fQ (sumD_ok (by decide) hq) hp
  dsimp only
  cases ht:y5 u p.fQ with
  |none=>
   rw [ht] at ha
   (refine iG @hu @ha ?_)
   exact aG rfl rfl
  |some t=>
   rw [ht] at ha
   (refine qR @hu @ha (fits_ok hG t n.cap) ?_)
   exact aG rfl rfl
theorem Yq (l:List Int) (x:Int) (hl:l.length<=9223372036854775807):Pure P 203 [.sl none 1 (l.map fA),.i .i64 x] (·=.i .i64 (gQ (fun e=>decide (x=e)) l)):=by
 have gK:(l.map fA).length=l.length:=List.length_map _
 refine aP (hG _ AF.f203 rfl) rfl ?_
 (refine zr ?_)
 refine bD.by (fun q fr st=>∃ i:Nat,i<=l.length/\q=l.length - i/\cJ (fun e=>decide (x=e)) l i/\fr=[(8,.i .i64 i),(7,.i .i64 (l.map fA).length),(1,.i .i64 x),(0,.sl none 1 (l.map fA))]/\st=dP iJ)
  l.length ⟨_,_,?_,0,Nat.zero_le _,rfl,cJ.zero,rfl,rfl⟩ ?_
 · exact Ak
 rintro q fr st ⟨i,hi,rfl,dW,rfl,rfl⟩ R hR
 (conv=>whnf)
 refine aH.ds (fun cO=>?_) (fun fE=>?_)
 · have cZ:i<l.length:=by omega
   have he:=List.getElem?_eq_getElem cZ
   generalize l[i]=e at he
   (refine cD @he ?_)
   refine aH.mk (fun hp=>?_) (fun hp=>?_)
   · (refine zr ?_)
     refine aG rfl ?_
     rw [dD he hp dW]
   · (refine zr ?_)
     refine hR (l.length - (i+1)) _ _ (by omega) ⟨_,_,?_,i+1,by omega,rfl,dW.succ he hp,rfl,rfl⟩
     exact Ak
 · (refine zr ?_)
   refine aG rfl ?_
   rw [dN fun j x hx=>dW j x (by have:=(List.getElem?_eq_some_iff.1 hx).1;omega) hx]
theorem Yr (l:List Int) (x:Int) (hl:l.length<=9223372036854775807):Pure P 99 [.sl none 1 (l.map fA),.i .i64 x] (·=.b (l.any fun e=>decide (x=e))):=by
 refine aP (hG _ AF.f99 rfl) rfl ?_
 (refine cD (Yq hG l x hl) ?_)
 refine aG rfl ?_
 exact congrArg V.b kC
theorem SP {l:List Int} {g:Nat} {k:Nat} {h:aA} {p:Int->Bool} (hl:l.length<=9223372036854775807)
 (hg:∀ e∈l,∀ K:V->aA->Prop,K (.b (p e)) h->aC P g (.i .i64 e::[.p (.g k) 0]) h K) {K:V->aA->Prop} (hK:K (.b (l.any p)) h):aC P 97 [.sl none 1 (l.map fA),.fn g [] [.p (.g k) 0]] h K:=by
 refine aQ (hG _ AF.f97 rfl) rfl ?_
 ((conv=>whnf);repeat ((first|refine aH.ff rfl ?_|refine aH.tt rfl ?_|refine bC.of rfl ?_|refine aM.mk rfl ?_|refine aT.mk rfl ?_|refine cK.of rfl ?_)<;>(conv=>whnf)))
 refine dF.mk (SG (k:=k) (show gU P 202 (jH 1 none)=true from hG _ AF.f202 rfl) hl hg ?_)
 ((conv=>whnf);repeat ((first|refine aH.ff rfl ?_|refine aH.tt rfl ?_|refine bC.of rfl ?_|refine aM.mk rfl ?_|refine aT.mk rfl ?_|refine cK.of rfl ?_)<;>(conv=>whnf)))
 rw [<-kC] at hK
 exact hK
theorem portsf_ok {x:Int} {p:aL} (hp:bQ p.aN) {h:aA} {k:Nat} (hc:h.get k=some (.cs (aI p))) {K:V->aA->Prop} (hK:K (.b (p.aN.any fun y=>decide (x=y))) h):aC P 98 [.i .i64 x,.p (.g k) 0] h K:=by
 refine aQ (hG _ AF.f98 rfl) rfl ?_
 ((conv=>whnf);repeat ((first|refine aH.ff rfl ?_|refine aH.tt rfl ?_|refine bC.of rfl ?_|refine aM.mk rfl ?_|refine aT.mk rfl ?_|refine cK.of (hc) ?_|refine cK.of rfl ?_)<;>(conv=>whnf)))
 refine dF.mk (Pure.go (Yr hG p.aN x hp) rfl ?_)
 ((conv=>whnf);repeat ((first|refine aH.ff rfl ?_|refine aH.tt rfl ?_|refine bC.of rfl ?_|refine aM.mk rfl ?_|refine aT.mk rfl ?_|refine cK.of rfl ?_)<;>(conv=>whnf)))
 exact hK
theorem ports_ok (s:dY) (p:aL) (n:bK) (hs:s.ok) (hp:bQ p.aN):Pure P 32 [kS s,.agg (aI p),.agg (aK n)] (·=.b (uF s p n)):=by
 have gK:(s.aE.map aI).length=s.aE.length:=List.length_map _
 have hl:=hs.aE
 unfold bQ at hl
 refine aP (hG _ AF.f32 rfl) rfl ?_
 (refine zr ?_)
 refine bD.by (fun q fr st=>∃ i:Nat,i<=s.aE.length/\q=s.aE.length - i/\cJ (fun q=>q.node==n.name&&(!(q.node==[])&&q.aN.any fun x=>p.aN.any fun y=>decide (x=y))) s.aE i/\
  fr=[(12,.i .i64 i),(11,.i .i64 (s.aE.map aI).length),(10,.sl none 16 (s.aE.map aI)),(5,.p (.l 0) 0),(4,.p (.g 0) 0)]/\st=⟨⟨1,[(0,.cs (aI p))]⟩,⟨1,[(0,.cs (aK n))]⟩⟩)
  s.aE.length ⟨_,_,?_,0,Nat.zero_le _,rfl,cJ.zero,rfl,rfl⟩ ?_
 · exact tG [0] [1]
 rintro q fr st ⟨i,hi,rfl,dW,rfl,rfl⟩ R hR
 (conv=>whnf)
 refine aH.ds (fun cO=>?_) (fun fE=>?_)
 · have cZ:i<s.aE.length:=by omega
   have he:=List.getElem?_eq_getElem cZ
   have hm:=List.getElem_mem cZ
   generalize s.aE[i]=e at he hm
   have ZH:=(hs.pT e hm).aN
   ((conv=>whnf);repeat' ((first|refine cA (SP hG (p:=fun x=>p.aN.any fun y=>decide (x=y)) ZH (fun x _ K hK=>portsf_ok hG hp rfl hK)) ?_|refine ye (aF (by simp) he) ?_|refine zz ?_|refine aH.ds (fun _=>?_) (fun _=>?_)|refine aH.ns (fun _=>?_) (fun _=>?_)|refine aH.mk (fun _=>?_) (fun _=>?_)|(intro r hr;cases r))<;>(conv=>whnf)))
   all_goals first
    |(refine hR (s.aE.length - (i+1)) _ _ (by omega) ⟨_,_,?_,i+1,by omega,rfl,dW.succ he (by simp_all),rfl,rfl⟩;exact tG [0] [0])
    |(refine aG rfl ?_;simp only [uF];rw [any_some he (by simp_all)];rfl)
 · (refine zr ?_)
   refine aG rfl ?_
   simp only [uF]
   rw [any_none (dW.all (by omega))]
   rfl
theorem wants_ok (p:aL) (n:bK) (hp:p.ok) (hn:n.ok):Pure P 93 [.agg (aI p),.agg (aK n)] (·=.b (MP p n)):=by
 refine aP (hG _ AF.f93 rfl) rfl ?_
 (refine cD (match_ok hG p.lM n.labels hp.lM.each hp.lM.len hn.labels) ?_)
 exact aG rfl rfl
theorem borne_ok (p:aL) (n:bK) (hp:p.ok) (hn:n.ok):Pure P 94 [.agg (aI p),.agg (aK n)] (·=.b (MQ p n)):=by
 refine aP (hG _ AF.f94 rfl) rfl ?_
 (refine cD (all_ok hG p.bW n.cR hp.bW hn.cR) ?_)
 exact aG rfl rfl
end
open Go
def fK (s:dY) (key node:aU):aU×Bool:=
 match s.nodes.find? (fun n=>n.name==node) with
 |some n=>getD n.labels key
 |none=>([],false)
def Oa (s:dY) (key a b:aU):Bool:=(fK s key a).2&&((fK s key b).2&&(fK s key a).1==(fK s key b).1)
def IW (s:dY) (p q:aL) (a b:aU):Bool:=!p.cV.isEmpty&&((p.cV.all fun t=>nI t q.labels)&&Oa s p.eG a b)
def Vn (s:dY) (p:aL) (node:aU) (q:aL):Bool:=!(q.name==p.name||q.node==[])&&(IW s p q q.node node||IW s q p q.node node)
def IX (s:dY) (p:aL) (node:aU):Bool:=!(!p.cV.isEmpty&&!(fK s p.eG node).2)&&!s.aE.any (Vn s p node)
def E7 (s:dY) (key val:aU) (ts:List cM) (q:aL):Bool:=!(q.node==[]||!(ts.all fun t=>nI t q.labels))&&((fK s key q.node).2&&(fK s key q.node).1==val)
def wP (s:dY) (key val:aU) (ts:List cM):Nat:=(s.aE.filter (E7 s key val ts)).length
section
variable {P:Program} (hG:bP P AF.fns.get)
include hG
theorem domain_ok (s:dY) (key node:aU) (hs:s.ok):Pure P 100 [kS s,.s key,.s node] (·=.bY [.s (fK s key node).1,.b (fK s key node).2]):=by
 have gK:(s.nodes.map aK).length=s.nodes.length:=List.length_map _
 have hl:=hs.nodes
 unfold bQ at hl
 refine aP (hG _ AF.f100 rfl) rfl ?_
 (refine zr ?_)
 refine bD.by (fun q fr st=>∃ i:Nat,i<=s.nodes.length/\q=s.nodes.length - i/\cJ (fun n=>n.name==node) s.nodes i/\
  fr=[(13,.i .i64 i),(12,.i .i64 (s.nodes.map aK).length),(11,.sl none 6 (s.nodes.map aK)),(2,.s node),(1,.s key)]/\st=dP iJ)
  s.nodes.length ⟨_,_,?_,0,Nat.zero_le _,rfl,cJ.zero,rfl,rfl⟩ ?_
 · exact Ak
 rintro q fr st ⟨i,hi,rfl,dW,rfl,rfl⟩ R hR
 (conv=>whnf)
 refine aH.ds (fun cO=>?_) (fun fE=>?_)
 · have cZ:i<s.nodes.length:=by omega
   have he:=List.getElem?_eq_getElem cZ
   have hm:=List.getElem_mem cZ
   generalize s.nodes[i]=e at he hm
   (refine cD @he ?_)
   refine aH.mk (fun hp=>?_) (fun hp=>?_)
   · (refine cD (get_ok hG e.labels key (hs.node e hm).labels) ?_)
     refine aG rfl ?_
     simp only [fK,pR he hp dW]
   · (refine zr ?_)
     refine hR (s.nodes.length - (i+1)) _ _ (by omega) ⟨_,_,?_,i+1,by omega,rfl,dW.succ he hp,rfl,rfl⟩
     exact Ak
 · (refine zr ?_)
   refine aG rfl ?_
   simp only [fK,pS (dW.all (by omega))]
theorem same_ok (s:dY) (key a b:aU) (hs:s.ok):Pure P 33 [kS s,.s key,.s a,.s b] (·=.b (Oa s key a b)):=by
 refine aP (hG _ AF.f33 rfl) rfl ?_
 have h1:=domain_ok hG s key a hs
 have h2:=domain_ok hG s key b hs
 simp only [Oa]
 generalize fK s key a=x at h1
 generalize fK s key b=y at h2
 obtain ⟨x1,x2⟩:=x
 obtain ⟨y1,y2⟩:=y
 cases x2<;>cases y2
 all_goals (refine iG @h1 @h2 ?_)
 all_goals exact aG rfl rfl
theorem keeps_ok (s:dY) (p q:aL) (a b:aU) (hs:s.ok) (hp:p.ok) (hq:q.ok):Pure P 199 [kS s,.agg (aI p),.agg (aI q),.s a,.s b] (·=.b (IW s p q a b)):=by
 refine aP (hG _ AF.f199 rfl) rfl ?_
 have hm:=match_ok hG p.cV q.labels hp.cV.each hp.cV.len hq.labels
 have lA:=same_ok hG s p.eG a b hs
 have gK:(p.cV.map bA).length=p.cV.length:=List.length_map _
 simp only [IW]
 generalize (p.cV.all fun t=>nI t q.labels)=m at hm
 generalize Oa s p.eG a b=x at lA
 (refine zr ?_)
 refine aH.ds (fun h1=>?_) (fun h1=>?_)
 · have:p.cV.isEmpty=false:=by cases ha:p.cV with
    |nil=>simp [ha] at h1
    |cons _ _=>rfl
   rw [this]
   cases m
   all_goals (refine iG @hm @lA ?_)
   all_goals exact aG rfl rfl
 · have:p.cV.isEmpty=true:=by cases ha:p.cV with
    |nil=>rfl
    |cons _ _=>simp [ha] at h1
   rw [this]
   (refine zr ?_)
   exact aG rfl rfl
theorem apart_ok (s:dY) (p:aL) (node:aU) (hs:s.ok) (hp:p.ok):Pure P 95 [kS s,.agg (aI p),.s node] (·=.b (IX s p node)):=by
 have gK:(s.aE.map aI).length=s.aE.length:=List.length_map _
 have acJ:(p.cV.map bA).length=p.cV.length:=List.length_map _
 have hl:=hs.aE
 unfold bQ at hl
 have hd:=domain_ok hG s p.eG node hs
 have ah5:p.cV.isEmpty=!decide (0<(((p.cV.map bA).length:Nat):Int)):=by
  cases p.cV<;>simp
 refine aP (hG _ AF.f95 rfl) rfl ?_
 obtain ⟨x,hx⟩:∃ x,x=fK s p.eG node:=⟨_,rfl⟩
 rw [<-hx] at hd
 obtain ⟨x1,x2⟩:=x
 have BU:(fK s p.eG node).2=x2:=by rw [<-hx]
 simp only [IX,BU]
 (refine cD @hd ?_)
 refine aH.ds (fun h1=>?_) (fun h1=>?_)
 all_goals cases x2
 all_goals (refine zr ?_)
 · refine aG rfl ?_
   rw [ah5,decide_eq_true h1]
   rfl
 all_goals
  refine bD.by (fun q fr st=>∃ i:Nat,i<=s.aE.length/\q=s.aE.length - i/\cJ (Vn s p node) s.aE i/\
   fr=[(30,.i .i64 i),(29,.i .i64 (s.aE.map aI).length),(28,.sl none 16 (s.aE.map aI)),(4,.p (.l 1) 0),(3,.p (.l 0) 0),(2,.s node)]/\st=⟨iJ,⟨2,[(1,.cs (aI p)),(0,.cs [.sl none 6 (s.nodes.map aK),.sl none 16 (s.aE.map aI)])]⟩⟩)
   s.aE.length ⟨_,_,?_,0,Nat.zero_le _,rfl,cJ.zero,rfl,rfl⟩ ?_
  · exact tL [0,1]
  rintro q fr st ⟨i,hi,rfl,dW,rfl,rfl⟩ R hR
  (conv=>whnf)
  refine aH.ds (fun cO=>?_) (fun fE=>?_)
  · have cZ:i<s.aE.length:=by omega
    have he:=List.getElem?_eq_getElem cZ
    have hm:=List.getElem_mem cZ
    generalize s.aE[i]=e at he hm
    have ZH:=(hs.pT e hm).E3
    have k1:=keeps_ok hG s p e e.node node hs hp ZH
    have k2:=keeps_ok hG s e p e.node node hs ZH hp
    ((conv=>whnf);repeat' ((first|refine cA (Pure.go k1 rfl) ?_|refine cA (Pure.go k2 rfl) ?_|refine ye (aF (by simp) he) ?_|refine zz ?_|refine aH.ds (fun _=>?_) (fun _=>?_)|refine aH.ns (fun _=>?_) (fun _=>?_)|refine aH.mk (fun _=>?_) (fun _=>?_)|(intro r hr;cases r))<;>(conv=>whnf)))
    all_goals first
     |(refine hR (s.aE.length - (i+1)) _ _ (by omega) ⟨_,_,?_,i+1,by omega,rfl,dW.succ he (by (simp_all [Vn];done)),rfl,rfl⟩;exact tL [0,1])
     |(refine aG rfl ?_;rw [any_some he (by (simp_all [Vn];done))];simp)
  · (refine zr ?_)
    refine aG rfl ?_
    rw [any_none (dW.all (by omega))]
    first
     |(simp;done)
     |(have El:p.cV=[]:=by
        cases hq:p.cV with
        |nil=>rfl
        |cons _ _=>exfalso;simp [hq] at h1
       simp [El])
theorem count_ok (s:dY) (key val:aU) (ts:List cM) (hs:s.ok) (ht:DJ ts):Pure P 200 [kS s,.s key,.s val,.sl none 3 (ts.map bA)] (·=.i .i64 (wP s key val ts)):=by
 have gK:(s.aE.map aI).length=s.aE.length:=List.length_map _
 have hl:=hs.aE
 unfold bQ at hl
 refine aP (hG _ AF.f200 rfl) rfl ?_
 (refine zr ?_)
 refine bD.by (fun q fr st=>∃ i n:Nat,i<=s.aE.length/\q=s.aE.length - i/\n=((s.aE.take i).filter (E7 s key val ts)).length/\
  fr=[(17,.i .i64 i),(16,.i .i64 (s.aE.map aI).length),(15,.sl none 16 (s.aE.map aI)),(9,.i .i64 n),(4,.p (.l 0) 0),(3,.sl none 3 (ts.map bA)),(2,.s val),(1,.s key)]/\st=⟨iJ,⟨1,[(0,.cs [.sl none 6 (s.nodes.map aK),.sl none 16 (s.aE.map aI)])]⟩⟩)
  s.aE.length ⟨_,_,?_,0,0,Nat.zero_le _,rfl,rfl,rfl,rfl⟩ ?_
 · exact tL [0]
 rintro q fr st ⟨i,n,hi,rfl,hn,rfl,rfl⟩ R hR
 have hni:n<=i:=by
  rw [hn]
  exact Nat.le_trans (List.length_filter_le _ _) (List.length_take_le _ _)
 (conv=>whnf)
 refine aH.ds (fun cO=>?_) (fun fE=>?_)
 · have cZ:i<s.aE.length:=by omega
   have he:=List.getElem?_eq_getElem cZ
   have hm:=List.getElem_mem cZ
   generalize s.aE[i]=e at he hm
   have ZH:=(hs.pT e hm).E3
   have oC:((s.aE.take (i+1)).filter (E7 s key val ts)).length=n+(if E7 s key val ts e then 1 else 0):=by
    rw [cG he,List.filter_append,List.length_append,<-hn]
    by_cases h:E7 s key val ts e=true<;>simp [h]
   have LH:=match_ok hG ts e.labels ht.each ht.len ZH.labels
   have ZI:=domain_ok hG s key e.node hs
   obtain ⟨c,hc⟩:∃ c,c=E7 s key val ts e:=⟨_,rfl⟩
   rw [<-hc] at oC
   simp only [E7] at hc
   generalize (ts.all fun t=>nI t e.labels)=m at LH hc
   generalize fK s key e.node=x at ZI hc
   obtain ⟨x1,x2⟩:=x
   cases c<;>cases m<;>cases x2
   all_goals ((conv=>whnf);repeat' ((first|refine cA (Pure.go LH rfl) ?_|refine cA (Pure.go ZI rfl) ?_|refine ye (aF (by simp) he) ?_|refine zz ?_|refine aH.ds (fun _=>?_) (fun _=>?_)|refine aH.ns (fun _=>?_) (fun _=>?_)|refine aH.mk (fun _=>?_) (fun _=>?_)|(intro r hr;cases r))<;>(conv=>whnf)))
   all_goals try (exfalso;revert hc;simp_all;done)
   all_goals first
    |(refine hR (s.aE.length - (i+1)) _ _ (by omega) ⟨_,_,?_,i+1,n+0,by omega,rfl,oC.symm,rfl,rfl⟩;exact tL [0];done)
    |(refine hR (s.aE.length - (i+1)) _ _ (by omega) ⟨_,_,?_,i+1,n+1,by omega,rfl,oC.symm,rfl,rfl⟩;exact tL [0];done)
 · (refine zr ?_)
   refine aG rfl ?_
   rw [hn,List.take_of_length_le (by omega)]
   rfl
end
end Go.Eng
