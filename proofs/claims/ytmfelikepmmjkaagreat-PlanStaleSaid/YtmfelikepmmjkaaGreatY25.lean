/-
A state with a pod: put where its name has it.
-/
import Derived.Test.YtmfelikepmmjkaaGreatY24
import Derived.Test.YtmfelikepmmjkaaGreatY21
set_option linter.unusedVariables false
set_option linter.unusedSimpArgs false
set_option maxHeartbeats 8000000
set_option maxRecDepth 10000
namespace Go.Eng
open Go
theorem takeWhile_at {α:Type} {f:α->Bool} {l:List α} {i:Nat} (hi:i<=l.length) (hb:∀ (j:Nat) (x:α),j<i->l[j]? =some x->f x=true) (he:∀ x,l[i]? =some x->f x=false):(l.takeWhile f).length=i:=by
 induction l generalizing i with
 |nil=>simp at hi;simp [hi]
 |cons a r ih=>
  cases i with
  |zero=>
   have:=he a rfl
   simp [List.takeWhile,this]
  |succ i=>
   have h0:=hb 0 a (by omega) rfl
   simp only [List.takeWhile,h0,List.length_cons]
   rw [ih (by simpa using hi) (fun j x hj hx=>hb (j+1) x (by omega) (by simpa using hx)) (fun x hx=>he x (by simpa using hx))]
theorem D2 {α:Type} {p:α->Bool} {l:List α} {j:Nat} (h:l.findIdx? p=some j):gB p l=j:=by rw [gB,h]
theorem D3 {α:Type} {p:α->Bool} {l:List α} (h:l.findIdx? p=none):gB p l=-1:=by rw [gB,h]
theorem Ty {P:Program} {f:Nat} (hk:gE P f (iN 16 (some 16))=true) {l:List aO} {g:Nat} {k r:Nat} {h:aA} {p:aO->Bool} (hl:l.length<=9223372036854775807) (hr:h.get r=some (.arr 16 (l.map aJ)))
 (hg:∀ e∈l,∀ K:V->aA->Prop,K (.b (p e)) h->aB P g [.agg (aJ e),.p (.g k) 0] h K) {K:V->aA->Prop} (n:Int) (hn:gB p l=n) (hK:K (.i .i64 n) h):aB P f [.ms (.g r) 16 0 l.length,.fn g [] [.p (.g k) 0]] h K:=by
 subst hn
 have iO:(l.map aJ).length=l.length:=List.length_map _
 refine aN hk rfl ?_
 ((conv=>whnf);repeat ((first|refine aH.ff rfl ?_|refine aH.tt rfl ?_|refine aZ.of rfl ?_|refine aK.mk rfl ?_|refine aP.mk rfl ?_|refine cD.of rfl ?_)<;>(conv=>whnf)))
 refine bV.by (fun q fr st=>∃ i:Nat,i<=l.length/\q=l.length - i/\(∀ (j:Nat) (e:aO),j<i->l[j]? =some e->p e=false)/\Fr.le [(8,.i .i64 i),(7,.i .i64 l.length),(1,.fn g [] [.p (.g k) 0]),(0,.ms (.g r) 16 0 l.length)] fr/\st=dG h)
  l.length ⟨0,Nat.zero_le _,rfl,fun j e hj=>absurd hj (Nat.not_lt_zero _),dK,rfl⟩ ?_
 rintro q fr st ⟨i,hi,rfl,dZ,hle,rfl⟩
 refine ⟨_,hle,fun R hR=>?_⟩
 ((conv=>whnf);repeat ((first|refine aH.ff rfl ?_|refine aH.tt rfl ?_|refine aZ.of rfl ?_|refine aK.mk rfl ?_|refine aP.mk rfl ?_|refine cD.of rfl ?_)<;>(conv=>whnf)))
 refine aH.ds (fun cL=>?_) (fun fC=>?_)
 · have cZ:i<l.length:=by omega
   have he:=List.getElem?_eq_getElem cZ
   have hm:=List.getElem_mem cZ
   generalize l[i]=e at he hm
   ((conv=>whnf);repeat ((first|refine aK.ix (by omega) (by omega) ?_|refine aH.ff rfl ?_|refine aH.tt rfl ?_|refine aZ.of rfl ?_|refine aK.mk rfl ?_|refine aP.mk rfl ?_|refine cD.of (hr) ?_|refine cD.of (aG (by simp) he) ?_|refine cD.of rfl ?_)<;>(conv=>whnf)))
   refine cY.mk (hg e hm _ ?_)
   ((conv=>whnf);repeat ((first|refine aH.ff rfl ?_|refine aH.tt rfl ?_|refine aZ.of rfl ?_|refine aK.mk rfl ?_|refine aP.mk rfl ?_|refine cD.of rfl ?_)<;>(conv=>whnf)))
   refine aH.mk (fun hp=>?_) (fun hp=>?_)
   · ((conv=>whnf);repeat ((first|refine aH.ff rfl ?_|refine aH.tt rfl ?_|refine aZ.of rfl ?_|refine aK.mk rfl ?_|refine aP.mk rfl ?_|refine cD.of rfl ?_)<;>(conv=>whnf)))
     rw [cX he hp dZ] at hK
     exact hK
   · ((conv=>whnf);repeat ((first|refine aQ.gS (by omega) (by omega) ?_|refine aH.ff rfl ?_|refine aH.tt rfl ?_|refine aZ.of rfl ?_|refine aK.mk rfl ?_|refine aP.mk rfl ?_|refine cD.of rfl ?_)<;>(conv=>whnf)))
     refine hR (l.length - (i+1)) _ _ (by omega) ⟨i+1,by omega,rfl,fun j x hj hx=>?_,dK,rfl⟩
     by_cases xF:j<i
     · exact dZ j x xF hx
     · obtain rfl:j=i:=by omega
       rw [he] at hx;cases hx;exact hp
 · ((conv=>whnf);repeat ((first|refine aH.ff rfl ?_|refine aH.tt rfl ?_|refine aZ.of rfl ?_|refine aK.mk rfl ?_|refine aP.mk rfl ?_|refine cD.of rfl ?_)<;>(conv=>whnf)))
   rw [dF fun j x hx=>dZ j x (by have:=(List.getElem?_eq_some_iff.1 hx).1;omega) hx] at hK
   exact hK
theorem A9.of {Q:V->Nat->List (List V)->Prop} {v u:V} {sz:Nat} {es:List (List V)} {h':aA} (ht:Jg [(0,v)] (dG h') [(0,u)] ⟨⟨1,[(0,.arr sz es)]⟩,⟨0,[]⟩⟩) (hu:u.made=true) (hf:∀ e∈es,e.all V.flat=true) (hq:Q u sz es):A9 Q v h':=by
 exact ⟨u,sz,es,ht,hu,hf,hq⟩
open Go
section plain
variable {α:Type}
def fH (pre:List α) (x:α) (j:Nat) (rest:List α):List α:=pre.take j++[x]++pre.drop j++rest
def D4 (lt:α->α->Bool) (pre:List α) (x:α):Nat:=pre.length - (pre.reverse.takeWhile (lt x)).length
def D5 (lt:α->α->Bool) (pre:List α) (x:α):List α:=fH pre x (D4 lt pre x) []
def gW (lt:α->α->Bool) (l:List α):List α:=l.foldl (D5 lt) []
theorem Q5 {lt:α->α->Bool} {pre:List α} {x:α} {j:Nat} (hj:j<=pre.length) (h:∀ (t:Nat) (y:α),j<=t->pre[t]? =some y->lt x y=true) (h0:∀ y,0<j->pre[j - 1]? =some y->lt x y=false):D4 lt pre x=j:=by
 unfold D4
 rw [takeWhile_at (i:=pre.length - j) (by simp) (fun t y ht hy=>?_) (fun y hy=>?_)]
 · omega
 · rw [List.getElem?_reverse (by omega)] at hy
   exact h _ y (by omega) hy
 · have cL:=(List.getElem?_eq_some_iff.1 hy).1
   rw [List.length_reverse] at cL
   rw [List.getElem?_reverse (by omega)] at hy
   exact h0 y (by omega) (by rw [<-hy];congr 1;omega)
theorem D6 (pre:List α) (x:α) (j:Nat) (rest:List α):(fH pre x j rest).length=pre.length+1+rest.length:=by
 unfold fH
 simp only [List.length_append,List.length_take,List.length_drop,List.length_cons,List.length_nil];omega
theorem Jr {pre:List α} {x:α} {j:Nat} {rest:List α} (hj:j<=pre.length):(fH pre x j rest)[j]? =some x:=by
 unfold fH
 have h1:(pre.take j).length=j:=by rw [List.length_take];omega
 rw [List.append_assoc,List.append_assoc,List.getElem?_append_right (by omega),h1,Nat.sub_self];rfl
theorem N2 {pre:List α} {x:α} {j t:Nat} {rest:List α} (hj:j<=pre.length) (ht:t<j):(fH pre x j rest)[t]? =pre[t]? :=by
 unfold fH
 have h1:(pre.take j).length=j:=by rw [List.length_take];omega
 rw [List.append_assoc,List.append_assoc,List.getElem?_append_left (by omega),List.getElem?_take,if_pos ht]
theorem Js {pre:List α} {x y:α} {j:Nat} {rest:List α} (hj:j<pre.length) (hy:pre[j]? =some y):((fH pre x (j+1) rest).set (j+1) y).set j x=fH pre x j rest:=by
 have e1:pre.take (j+1)=pre.take j++[y]:=cG hy
 have e2:pre.drop j=y::pre.drop (j+1):=by
  rw [List.drop_eq_getElem_cons hj]
  rw [List.getElem?_eq_getElem hj] at hy
  cases hy;rfl
 have h1:(pre.take j).length=j:=by rw [List.length_take];omega
 unfold fH
 rw [e1,e2]
 simp only [List.append_assoc,List.cons_append,List.nil_append]
 rw [List.set_append_right _ _ (by omega),List.set_append_right _ _ (by omega),h1]
 simp
theorem Lt (pre:List α) (x:α) (rest:List α):fH pre x pre.length rest=pre++x::rest:=by
 unfold fH;simp
theorem N3 (lt:α->α->Bool) (pre:List α) (x:α) (rest:List α):fH pre x (D4 lt pre x) rest=D5 lt pre x++rest:=by
 unfold D5 fH;simp
theorem sO (lt:α->α->Bool):∀ (l acc:List α),(l.foldl (D5 lt) acc).length=acc.length+l.length
 |[],acc=>by simp
 |x::r,acc=>by
  rw [List.foldl_cons,sO lt r]
  unfold D5
  rw [D6];simp;omega
theorem Jt {lt:α->α->Bool} {l:List α} {i:Nat} {x:α} (hx:l[i]? =some x):gW lt (l.take (i+1))=D5 lt (gW lt (l.take i)) x:=by
 unfold gW
 rw [cG hx,List.foldl_append];rfl
theorem D7 {β:Type} {R:α->List β} {l:List α} {j:Nat} {x:α}:(l.map R).set j (R x)=(l.set j x).map R:=by
 rw [List.map_set]
end plain
theorem Ai (n:Nat) (x y:Obj):∀ l,aA.Bv (aA.Bv l n x) n y=aA.Bv l n y
 |[]=>rfl
 |(k,o)::r=>by
  by_cases hk:k=n
  · simp [aA.Bv,hk]
  · simp [aA.Bv,hk,Ai n x y r]
theorem kR (h:aA) (n:Nat) (x y:Obj):(h.set n x).set n y=h.set n y:=by simp [aA.set,Ai]
theorem xS {n:Nat} {x:Obj}:∀ {l:List (Nat×Obj)},aA.find l n=some x->aA.Bv l n x=l
 |[],_=>rfl
 |(k,o)::r,h=>by
  by_cases hk:k=n
  · simp [aA.find,hk] at h;simp [aA.Bv,hk,h]
  · simp [aA.find,hk] at h;simp [aA.Bv,hk,xS h]
theorem gF {h:aA} {n:Nat} {x:Obj} (hx:h.get n=some x):h.set n x=h:=by
 unfold aA.get at hx
 simp [aA.set,xS hx]
theorem aeN {n m:Int} {k:Int->Prop} (e:n=m) (h1:-9223372036854775808<=m) (h2:m<=9223372036854775807) (hk:k m):aQ .i64 n k:=by
 subst e;exact .gS h1 h2 hk
theorem Q6 {α β:Type} {R:α->List β} {l:List α} {a b j:Nat} {e:List β} {y:α} (Q3:a≠b) (hb:b=j) (h:a=a) (hj:l[j]? =some y):((l.map R).set a e)[b]? =some (R y):=by
 subst hb
 rw [List.getElem?_set_ne Q3]
 exact HB hj
theorem Tz {h:aA} {r a b i j:Nat} {l:List aO} {x y:aO} {o o':Obj} (ha:a=i) (hb:b=j):
 dG (((h.set r o').set r o).set r (.arr 16 (((l.map aJ).set a (aJ y)).set b (aJ x))))=dG (h.set r (.arr 16 (((l.set i y).set j x).map aJ))):=by
 subst ha;subst hb
 rw [kR,kR,List.map_set,List.map_set]
section
variable {P:Program} (hG:bN P AF.fns.get)
include hG
theorem Lu (c:aO->aO->Int) (g:Nat) (hg:∀ a b:aO,Pure P g [.agg (aJ a),.agg (aJ b)] (·=.i .i64 (c a b))) (l:List aO) (hl:l.length<=1000000) {r:Nat} {h:aA} (hr:h.get r=some (.arr 16 (l.map aJ))) {K:V->aA->Prop}
 (hK:K (.bY []) (h.set r (.arr 16 ((gW (fun a b=>decide (c a b<0)) l).map aJ)))):
 aB P 223 [.ms (.g r) 16 0 l.length,.i .i64 0,.i .i64 l.length,.fn g [] []] h K:=by
 obtain ⟨lt,cL⟩:∃ lt:aO->aO->Bool,lt=fun a b=>decide (c a b<0):=⟨_,rfl⟩
 rw [<-cL] at hK
 refine aN (hG _ AF.f223 rfl) rfl ?_
 ((conv=>whnf);repeat ((first|refine aQ.gS (by omega) (by omega) ?_|refine aH.ff rfl ?_|refine aH.tt rfl ?_|refine aZ.of rfl ?_|refine aK.mk rfl ?_|refine aP.mk rfl ?_|refine cD.of rfl ?_)<;>(conv=>whnf)))
 refine bV.by (fun q fr st=>∃ i:Nat,1<=i/\i<=l.length+1/\q=l.length+1 - i/\
  Fr.le [(8,.i .i64 i),(3,.fn g [] []),(2,.i .i64 l.length),(1,.i .i64 0),(0,.ms (.g r) 16 0 l.length)] fr/\st=dG (h.set r (.arr 16 ((gW lt (l.take i)++l.drop i).map aJ))))
  l.length ⟨1,by omega,by omega,by omega,dK,?_⟩ ?_
 · have e:gW lt (l.take 1)++l.drop 1=l:=by
    cases l with
    |nil=>rfl
    |cons x r=>simp [gW,D5,fH,D4]
   rw [e,gF hr]
 rintro q fr st ⟨i,hi1,hi,rfl,hle,rfl⟩
 refine ⟨_,hle,fun R hR=>?_⟩
 ((conv=>whnf);repeat ((first|refine aH.ff rfl ?_|refine aH.tt rfl ?_|refine aZ.of rfl ?_|refine aK.mk rfl ?_|refine aP.mk rfl ?_|refine cD.of rfl ?_)<;>(conv=>whnf)))
 refine aH.ds (fun Ic=>?_) (fun fC=>?_)
 · have cZ:i<l.length:=by omega
   have hx:=List.getElem?_eq_getElem cZ
   generalize l[i]=x at hx
   obtain ⟨pre,Wt⟩:∃ pre,pre=gW lt (l.take i):=⟨_,rfl⟩
   have Ct:pre.length=i:=by rw [Wt];unfold gW;rw [sO];simp;omega
   have Zv:l.drop i=x::l.drop (i+1):=by
    rw [List.drop_eq_getElem_cons cZ]
    rw [List.getElem?_eq_getElem cZ] at hx
    cases hx;rfl
   ((conv=>whnf);repeat ((first|refine aH.ff rfl ?_|refine aH.tt rfl ?_|refine aZ.of rfl ?_|refine aK.mk rfl ?_|refine aP.mk rfl ?_|refine cD.of rfl ?_)<;>(conv=>whnf)))
   refine bV.by (fun q fr st=>∃ j:Nat,j<=i/\j=q/\(∀ (t:Nat) (y:aO),j<=t->pre[t]? =some y->lt x y=true)/\
    Fr.le [(9,.i .i64 j),(8,.i .i64 i),(3,.fn g [] []),(2,.i .i64 l.length),(1,.i .i64 0),(0,.ms (.g r) 16 0 l.length)] fr/\st=dG (h.set r (.arr 16 ((fH pre x j (l.drop (i+1))).map aJ))))
    i ⟨i,by omega,rfl,(fun t y ht hy=>by have:=(List.getElem?_eq_some_iff.1 hy).1;omega),dK,?_⟩ ?_
   · rw [Zv,<-Wt]
     have he:=Lt pre x (l.drop (i+1))
     rw [Ct] at he
     rw [he]
   rintro q fr st ⟨j,hj,rfl,eV,Aj,rfl⟩
   refine ⟨_,Aj,fun R' hR'=>?_⟩
   have eC:∀ rows:List aO,(h.set r (.arr 16 (rows.map aJ))).get r=some (.arr 16 (rows.map aJ)):=fun rows=>aA.aD hr
   have KA:(fH pre x j (l.drop (i+1))).length=l.length:=by rw [D6,List.length_drop];omega
   have II:(fH pre x j (l.drop (i+1)))[j]? =some x:=Jr (by omega)
   have SQ:∀ k:Nat,k<=i->(∀ (t:Nat) (y:aO),k<=t->pre[t]? =some y->lt x y=true)->(∀ y,0<k->pre[k - 1]? =some y->lt x y=false)->fH pre x k (l.drop (i+1))=gW lt (l.take (i+1))++l.drop (i+1):=fun k hk h1 h2=>by
    rw [Jt hx,<-Wt,<-N3,Q5 (by omega) h1 h2]
   cases j with
   |zero=>
    ((conv=>whnf);repeat ((first|refine aQ.gS (by omega) (by omega) ?_|refine aH.ff rfl ?_|refine aH.tt rfl ?_|refine aZ.of rfl ?_|refine aK.mk rfl ?_|refine aP.mk rfl ?_|refine cD.of rfl ?_)<;>(conv=>whnf)))
    refine hR (l.length+1 - (i+1)) _ _ (by omega) ⟨i+1,by omega,by omega,rfl,dK,?_⟩
    rw [SQ 0 (by omega) eV (fun y h=>by omega)]
   |succ j=>
    have Lv:(fH pre x (j+1) (l.drop (i+1)))[j]? =pre[j]? :=N2 (by omega) (by omega)
    have hy:=List.getElem?_eq_getElem (show j<pre.length by omega)
    generalize pre[j]'(by omega)=y at hy
    rw [hy] at Lv
    ((conv=>whnf);repeat ((first|refine aH.dt (by omega) ?_|refine aK.ix (by omega) (by omega) ?_|refine aQ.gS (by omega) (by omega) ?_|refine aH.ff rfl ?_|refine aH.tt rfl ?_|refine aZ.of rfl ?_|refine aK.mk rfl ?_|refine aP.mk rfl ?_|refine cD.of (eC _) ?_|refine cD.of (aG (by omega) II) ?_|refine cD.of (aG (by omega) Lv) ?_|refine cD.of rfl ?_)<;>(conv=>whnf)))
    refine cY.mk (Pure.go (hg x y) rfl ?_)
    ((conv=>whnf);repeat ((first|refine aH.ff rfl ?_|refine aH.tt rfl ?_|refine aZ.of rfl ?_|refine aK.mk rfl ?_|refine aP.mk rfl ?_|refine cD.of rfl ?_)<;>(conv=>whnf)))
    refine aH.ds (fun hc=>?_) (fun hc=>?_)
    · ((conv=>whnf);repeat ((first|refine aK.ix (by omega) (by omega) ?_|refine aeN (m:=(j:Int)) (by omega) (by omega) (by omega) ?_|refine aQ.gS (by omega) (by omega) ?_|refine aH.ff rfl ?_|refine aH.tt rfl ?_|refine aZ.of rfl ?_|refine aK.mk rfl ?_|refine aP.mk rfl ?_|refine cD.of (eC _) ?_|refine cD.of (aG (by omega) II) ?_|refine cD.of (aG (by omega) Lv) ?_|refine cD.of (aA.aD (eC _)) ?_|refine cD.of (Q6 (by omega) (by omega) rfl Lv) ?_|refine cD.of rfl ?_)<;>(conv=>whnf)))
      refine hR' j _ _ (by omega) ⟨j,by omega,rfl,(fun t z ht hz=>?_),dK,?_⟩
      · by_cases XO:t=j
        · subst XO
          rw [hy] at hz
          cases hz
          rw [cL]
          exact decide_eq_true hc
        · exact eV t z (by omega) hz
      · rw [<-Js (by omega) hy]
        show dG (((h.set r (.arr 16 ((fH pre x (j+1) (l.drop (i+1))).map aJ))).set r (.arr 16 (((fH pre x (j+1) (l.drop (i+1))).map aJ).set (0+((j+1:Nat):Int).toNat) (aJ y)))).set r (.arr 16 ((((fH pre x (j+1) (l.drop (i+1))).map aJ).set (0+((j+1:Nat):Int).toNat) (aJ y)).set (0+((j:Nat):Int).toNat) (aJ x))))=_
        exact Tz (by omega) (by omega)
    · ((conv=>whnf);repeat ((first|refine aQ.gS (by omega) (by omega) ?_|refine aH.ff rfl ?_|refine aH.tt rfl ?_|refine aZ.of rfl ?_|refine aK.mk rfl ?_|refine aP.mk rfl ?_|refine cD.of rfl ?_)<;>(conv=>whnf)))
      refine hR (l.length+1 - (i+1)) _ _ (by omega) ⟨i+1,by omega,by omega,rfl,dK,?_⟩
      rw [SQ (j+1) hj eV (fun z _ hz=>by
       rw [Nat.add_sub_cancel,hy] at hz
       cases hz
       rw [cL]
       exact decide_eq_false hc)]
 · ((conv=>whnf);repeat ((first|refine aH.ff rfl ?_|refine aH.tt rfl ?_|refine aZ.of rfl ?_|refine aK.mk rfl ?_|refine aP.mk rfl ?_|refine cD.of rfl ?_)<;>(conv=>whnf)))
   have hn:l.length<=i:=by omega
   rw [List.take_of_length_le hn,List.drop_of_length_le hn,List.append_nil]
   exact hK
end
open Go
def Be (x y:Int):Int:=if x<y then -1 else if y<x then 1 else 0
section
variable {P:Program} (hG:bN P AF.fns.get)
include hG
theorem cmpInt_ok (x y:Int):Pure P 76 [.i .i64 x,.i .i64 y] (·=.i .i64 (Be x y)):=by
 refine aM (hG _ AF.f76 rfl) rfl ?_
 ((conv=>whnf);repeat' ((first|refine cA (jU (hG _ _ rfl) rfl) ?_|refine zz ?_|refine bC.un rfl ?_|refine aH.ds (fun _=>?_) (fun _=>?_)|refine aH.ns (fun _=>?_) (fun _=>?_)|refine aH.mk (fun _=>?_) (fun _=>?_)|(intro r hr;cases r))<;>(conv=>whnf)))
 all_goals (refine aE rfl ?_)
 all_goals (unfold Be;simp_all)
 all_goals omega
theorem Ju (c:aO->aO->Int) (g:Nat) (hg:∀ a b:aO,Pure P g [.agg (aJ a),.agg (aJ b)] (·=.i .i64 (c a b))) (l:List aO) (hl:l.length<=19) {r:Nat} {h:aA} (hr:h.get r=some (.arr 16 (l.map aJ))) {K:V->aA->Prop}
 (hK:K (.bY []) (h.set r (.arr 16 ((gW (fun a b=>decide (c a b<0)) l).map aJ)))):
 aB P 151 [.ms (.g r) 16 0 l.length,.i .i64 l.length,.fn g [] []] h K:=by
 refine aN (hG _ AF.f151 rfl) rfl ?_
 ((conv=>whnf);repeat ((first|refine bV.un ?_|refine aH.df (by omega) ?_|refine cY.app (Lu hG c g hg l (by omega) hr) ?_|refine aH.ff rfl ?_|refine aH.tt rfl ?_|refine aZ.of rfl ?_|refine aK.mk rfl ?_|refine aP.mk rfl ?_|refine cD.of rfl ?_)<;>(conv=>whnf)))
 exact hK
theorem Lw (c:aO->aO->Int) (g:Nat) (hg:∀ a b:aO,Pure P g [.agg (aJ a),.agg (aJ b)] (·=.i .i64 (c a b))) (l:List aO) (hl:l.length<=19) {r:Nat} {h:aA} (hr:h.get r=some (.arr 16 (l.map aJ))) {K:V->aA->Prop}
 (hK:K (.bY []) (h.set r (.arr 16 ((gW (fun a b=>decide (c a b<0)) l).map aJ)))):
 aB P 74 [.ms (.g r) 16 0 l.length,.fn g [] []] h K:=by
 refine aN (hG _ AF.f74 rfl) rfl ?_
 ((conv=>whnf);repeat ((first|refine cY.app (Ju hG c g hg l hl hr) ?_|refine aH.ff rfl ?_|refine aH.tt rfl ?_|refine aZ.of rfl ?_|refine aK.mk rfl ?_|refine aP.mk rfl ?_|refine cD.of rfl ?_)<;>(conv=>whnf)))
 exact hK
end
end Go.Eng
