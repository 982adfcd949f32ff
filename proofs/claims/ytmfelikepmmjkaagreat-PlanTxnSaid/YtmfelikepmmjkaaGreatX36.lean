/-
plan.find: an entry by its key.
-/
import Derived.Test.YtmfelikepmmjkaaGreatX35
import Derived.Test.YtmfelikepmmjkaaGreatX23
import Derived.Test.YtmfelikepmmjkaaGreatX34
import Derived.Test.YtmfelikepmmjkaaGreatX25
import Derived.Test.YtmfelikepmmjkaaGreatX29
import Derived.Test.YtmfelikepmmjkaaGreatX24
import Derived.Test.YtmfelikepmmjkaaGreatX28
set_option linter.unusedVariables false
set_option linter.unusedSimpArgs false
set_option maxHeartbeats 16000000
set_option maxRecDepth 10000
namespace Go.Eng
open Go
def findD (L:List dG) (k:aU):Option dG:=if k=[] then none else eA L k
theorem OC:∀ {L:List dG} {k:aU},(∀ e,eA L k=some e->∃ i:Nat,gQ (fun x:dG=>x.key==k) L=i/\L[i]? =some e)/\(eA L k=none->gQ (fun x:dG=>x.key==k) L=-1)
 |[],k=>⟨fun e h=>by simp [eA] at h,fun _=>rfl⟩
 |x::r,k=>by
  obtain ⟨a1,a2⟩:=OC (L:=r) (k:=k)
  unfold eA
  by_cases hk:k=x.key
  · rw [if_pos hk]
    refine ⟨fun e h=>⟨0,?_,by cases h;rfl⟩,fun h=>by cases h⟩
    exact dD (e:=x) rfl (by simp [hk]) (fun j x h=>by omega)
  · rw [if_neg hk]
    refine ⟨fun e h=>?_,fun h=>?_⟩
    · obtain ⟨i,h1,h2⟩:=a1 e h
      refine ⟨i+1,?_,by simpa using h2⟩
      unfold gQ at h1 ⊢
      rw [List.findIdx?_cons,if_neg (by simpa using fun h=>hk h.symm)]
      cases hf:r.findIdx? (fun x=>x.key==k) with
      |none=>rw [hf] at h1;dsimp only at h1;omega
      |some j=>rw [hf] at h1;dsimp only at h1;simp only [Option.map_some];omega
    · have h1:=a2 h
      unfold gQ at h1 ⊢
      rw [List.findIdx?_cons,if_neg (by simpa using fun h=>hk h.symm)]
      cases hf:r.findIdx? (fun x=>x.key==k) with
      |none=>rfl
      |some j=>rw [hf] at h1;dsimp only at h1;omega
section
variable {P:Program} (hG:bP P AF.fns.get)
include hG
theorem pfind1_at {e:dG} {s:aU} {h:aA} {k:Nat} (hk:h.get k=some (.cs [.s s])) {K:V->aA->Prop} (hK:K (.b (e.key==s)) h):aC P 124 [.agg (lG e),.p (.g k) 0] h K:=by
 refine dU (hG _ AF.f124 rfl) rfl ?_
 (refine cD @hk ?_)
 exact hK
theorem ixEn_at {h:aA} {g k:Nat} {L:List dG} (hl:L.length<=100000) {p:dG->Bool}
 (hg:∀ e∈L,∀ K:V->aA->Prop,K (.b (p e)) h->aC P g (.agg (lG e)::[.p (.g k) 0]) h K) {K:V->aA->Prop} (hK:K (.i .i64 (gQ p L)) h):aC P 123 [.sl none 3 (L.map lG),.fn g [] [.p (.g k) 0]] h K:=by
 have gK:(L.map lG).length=L.length:=List.length_map _
 refine dU (hG _ AF.f123 rfl) rfl ?_
 (refine zr ?_)
 refine cS.by (fun q fr st=>∃ (i:Nat) (lc:aA),i<=L.length/\q=L.length - i/\(∀ (j:Nat) (e:dG),j<i->L[j]? =some e->p e=false)/\
  Fr.le [(8,.i .i64 i),(7,.i .i64 (L.map lG).length),(1,.fn g [] [.p (.g k) 0]),(0,.sl none 3 (L.map lG))] fr/\st=⟨h,lc⟩)
  L.length ⟨0,_,Nat.zero_le _,rfl,(fun j e hj=>absurd hj (Nat.not_lt_zero _)),cT,rfl⟩ ?_
 rintro q fr st ⟨i,lc,hi,rfl,pH,dE,rfl⟩
 refine ⟨_,dE,fun R hR=>?_⟩
 by_cases cY:i<L.length
 · have he:=List.getElem?_eq_getElem cY
   have Dw:=List.getElem_mem cY
   generalize L[i]=e at he Dw
   have mV:=fun K hK=>hg e Dw K hK
   (refine qR (show (i:Int)<(L.map lG).length by omega) @mV @he ?_)
   cases hp:p e
   · (refine zr ?_)
     exact hR (L.length - (i+1)) _ _ (by omega) ⟨i+1,_,by omega,rfl,(fun j x hj hx=>by
      by_cases zE:j<i
      · exact pH j x zE hx
      · obtain rfl:j=i:=by omega
        rw [he] at hx;cases hx;exact hp),cT,rfl⟩
   · (refine zr ?_)
     rw [dD he hp pH] at hK
     exact hK
 · (refine cD (show ¬(i:Int)<(L.map lG).length by omega) ?_)
   rw [dN (p:=p) (l:=L) fun j x hx=>pH j x (by have:=(List.getElem?_eq_some_iff.1 hx).1;omega) hx] at hK
   exact hK
theorem find_at {h:aA} {L:List dG} (hl:L.length<=100000) (s:aU) {K:V->aA->Prop}
 (hK:∀ h',aA.aJ (fun _=>False) h h'->(findD L s=none->K (.bY [.agg adI,.b false]) h')/\∀ e,findD L s=some e->K (.bY [.agg (lG e),.b true]) h'):aC P 51 [.sl none 3 (L.map lG),.s s] h K:=by
 have gK:(L.map lG).length=L.length:=List.length_map _
 have W8:(h.push (.cs [.s s])).get h.next=some (.cs [.s s]):=aA.aB _ _
 have mT:=fun K hK=>ixEn_at (h:=h.push (.cs [.s s])) (K:=K) hG hl (p:=fun x=>x.key==s) (fun e _ K hK=>pfind1_at hG W8 hK) hK
 obtain ⟨b1,b2⟩:=hK (h.push (.cs [.s s])) (.push (.refl _ _) _)
 clear hK
 obtain ⟨a1,a2⟩:=OC (L:=L) (k:=s)
 unfold findD at b1 b2
 refine dU (hG _ AF.f51 rfl) rfl ?_
 cases fE:eA L s with
 |none=>
  rw [a2 fE] at mT
  rw [fE,ite_self] at b1
  (refine iG @mT @W8 ?_)
  exact b1 rfl
 |some e=>
  obtain ⟨i,h1,h2⟩:=a1 e fE
  have h3:=(List.getElem?_eq_some_iff.1 h2).1
  rw [h1] at mT
  rw [fE] at b1 b2
  by_cases hs:s=[]
  · rw [if_pos hs] at b1
    subst hs
    (refine qR @mT (show ¬((i:Nat):Int)<0 by omega) @W8 ?_)
    exact b1 rfl
  · rw [if_neg hs] at b2
    have hse:(s==([]:aU))=false:=by simpa using hs
    (refine IV @mT (show ¬((i:Nat):Int)<0 by omega) @hse @W8 @h2 ?_)
    exact b2 e rfl
end
open Go
structure QK where
 key:aU
 rev:Int
 under:Bool
def y7 (g:QK):List V:=[.s g.key,.i .i64 g.rev,.b g.under]
def Qc (g:QK):Bool:=Au g.key&&decide (0<=g.rev)
def Cv (gs:List QK) (ws:List Hv):Bool:=decide (gs.length<=20)&&(decide (1<=ws.length)&&(decide (ws.length<=64)&&(gs.all Qc&&Gz [] ws)))
section
variable {P:Program} (hG:bP P AF.fns.get)
include hG
theorem umay_at {h:aA} (gs:List QK) (Nh:∀ g∈gs,g.key.length<=9223372036854775807) (Js:gs.length<=9223372036854775807) (ws:List Hv) (hw:∀ w∈ws,TH w) (hl:ws.length<=9223372036854775807) {K:V->aA->Prop} (hK:∀ h',aA.aJ (fun _=>False) h h'->K (.b (Cv gs ws)) h'):
 aC P 103 [.agg [.sl none 3 (gs.map y7),.sl none 3 (ws.map mR)]] h K:=by
 have CS:(ws.map mR).length=ws.length:=List.length_map _
 have hgm:(gs.map y7).length=gs.length:=List.length_map _
 unfold Cv at hK
 obtain ⟨B,hB⟩:∃ B,B=Gz [] ws:=⟨_,rfl⟩
 rw [<-hB] at hK
 refine dU (hG _ AF.f103 rfl) rfl ?_
 by_cases c0:gs.length>20
 · rw [decide_eq_false (by omega)] at hK
   (refine cD (show ((gs.map y7).length:Int)>20 by omega) ?_)
   exact hK h (.refl _ _)
 rw [decide_eq_true (by omega),Bool.true_and] at hK
 by_cases c1:ws.length<1
 · rw [decide_eq_false (by omega)] at hK
   (refine iG (show ¬((gs.map y7).length:Int)>20 by omega) (show ((ws.map mR).length:Int)<1 by omega) ?_)
   exact hK h (.refl _ _)
 rw [decide_eq_true (by omega),Bool.true_and] at hK
 by_cases c2:ws.length>64
 · rw [decide_eq_false (by omega)] at hK
   (refine qR (show ¬((gs.map y7).length:Int)>20 by omega) (show ¬((ws.map mR).length:Int)<1 by omega) (show ((ws.map mR).length:Int)>64 by omega) ?_)
   exact hK h (.refl _ _)
 rw [decide_eq_true (by omega),Bool.true_and] at hK
 (refine qR (show ¬((gs.map y7).length:Int)>20 by omega) (show ¬((ws.map mR).length:Int)<1 by omega) (show ¬((ws.map mR).length:Int)>64 by omega) ?_)
 refine cS.by (fun q fr st=>∃ (j:Nat) (lo:aA),j<=gs.length/\q=gs.length - j/\gs.all Qc=(gs.drop j).all Qc/\0<lo.next/\lo.get 0=some (.cs [.sl none 3 (gs.map y7),.sl none 3 (ws.map mR)])/\
  Fr.le [(27,.i .i64 j),(26,.i .i64 (gs.map y7).length),(25,.sl none 3 (gs.map y7)),(1,.p (.l 0) 0)] fr/\st=⟨h,lo⟩)
  gs.length ⟨0,_,Nat.zero_le _,rfl,rfl,Nat.zero_lt_one,rfl,cT,rfl⟩ ?_
 rintro q fr st ⟨j,lo,hj,rfl,Hm,u9,g0,dE,rfl⟩
 refine ⟨_,dE,fun R0 LJ=>?_⟩
 by_cases F9:j<gs.length
 · have he:=List.getElem?_eq_getElem F9
   have pK:=Nh _ (List.getElem_mem F9)
   have AB:=List.drop_eq_getElem_cons F9
   generalize gs[j]=g at he pK AB
   rw [AB,List.all_cons] at Hm
   have lX:=fun (K:V->aA->Prop) hK=>gkey_ok (K:=K) hG (h:=h) g.key pK hK
   have a1:∀ o,(lo.push o).get lo.next=some o:=fun o=>aA.aB _ _
   have a2:∀ o o2,((lo.push o).set lo.next o2).get lo.next=some o2:=fun o o2=>aA.aD (a1 _)
   have a3:∀ o o2,((lo.push o).set lo.next o2).get 0=some (.cs [.sl none 3 (gs.map y7),.sl none 3 (ws.map mR)]):=fun o o2=>aA.gs (by omega) (aA.gp (by omega) g0)
   cases VS:Au g.key
   · have hgf:gs.all Qc=false:=by rw [Hm];unfold Qc;rw [VS];rfl
     rw [hgf,Bool.false_and] at hK
     rw [VS] at lX
     (refine IV (show (j:Int)<(gs.map y7).length by omega) @lX @he @a2 @a1 ?_)
     exact hK h (.refl _ _)
   rw [VS] at lX
   by_cases vH:g.rev<0
   · have hgf:gs.all Qc=false:=by rw [Hm];unfold Qc;rw [decide_eq_false (show ¬0<=g.rev by omega),Bool.and_false];rfl
     rw [hgf,Bool.false_and] at hK
     (refine WN (show (j:Int)<(gs.map y7).length by omega) @lX @vH @he @a2 @a1 ?_)
     exact hK h (.refl _ _)
   have Qb:gs.all Qc=(gs.drop (j+1)).all Qc:=by rw [Hm];unfold Qc;rw [VS,decide_eq_true (show 0<=g.rev by omega)];rfl
   (refine WN (show (j:Int)<(gs.map y7).length by omega) @lX @vH @he @a2 @a1 ?_)
   exact LJ (gs.length - (j+1)) _ _ (by omega) ⟨j+1,_,by omega,rfl,Qb,Nat.lt_succ_of_lt u9,a3 _ _,cT,rfl⟩
 obtain rfl:j=gs.length:=by omega
 rw [List.drop_length] at Hm
 rw [show gs.all Qc=true from Hm,Bool.true_and] at hK
 clear LJ
 (refine iG (show ¬((gs.length:Nat):Int)<(gs.map y7).length by omega) @g0 ?_)
 refine cS.by (fun q fr st=>∃ (i:Nat) (hh lo:aA) (S:List aU),i<=ws.length/\q=ws.length - i/\B=Gz S (ws.drop i)/\aA.aJ (fun _=>False) h hh/\hh.get h.next=some (.mp none (Bt S))/\
  Fr.le [(45,.i .i64 i),(44,.i .i64 (ws.map mR).length),(43,.sl none 3 (ws.map mR)),(5,.m (.g h.next))] fr/\st=⟨hh,lo⟩)
  ws.length ⟨0,_,_,[],Nat.zero_le _,rfl,hB,.push (.refl _ _) _,aA.aB _ _,cT,rfl⟩ ?_
 rintro q fr st ⟨i,hh,lo,S,hi,rfl,hm,hk,hg,Cq,rfl⟩
 refine ⟨_,Cq,fun R hR=>?_⟩
 by_cases cY:i<ws.length
 · have he:=List.getElem?_eq_getElem cY
   have UE:=hw _ (List.getElem_mem cY)
   have AB:=List.drop_eq_getElem_cons cY
   generalize ws[i]=w at he UE AB
   rw [AB] at hm
   unfold Gz VP at hm
   have Jv:(w.val.map hM).length=w.val.length:=List.length_map _
   have ZU:=UE.val
   have lX:=fun (K:V->aA->Prop) hK=>gkey_ok (K:=K) hG (h:=hh) w.key UE.key hK
   have a1:∀ o,(lo.push o).get lo.next=some o:=fun o=>aA.aB _ _
   have a2:∀ o o2,((lo.push o).set lo.next o2).get lo.next=some o2:=fun o o2=>aA.aD (a1 _)
   cases VS:Au w.key
   · rw [VS,Bool.false_and,Bool.false_and] at hm
     rw [VS] at lX
     rw [hm] at hK
     (refine IV (show (i:Int)<(ws.map mR).length by omega) @lX @he @a2 @a1 ?_)
     exact hK hh hk
   rw [VS,Bool.true_and] at hm
   rw [VS] at lX
   by_cases hS:w.key∈S
   · rw [decide_eq_true hS,Bool.not_true,Bool.false_and,Bool.false_and] at hm
     rw [hm] at hK
     have DQ:=CX hS
     (refine zr7 (show (i:Int)<(ws.map mR).length by omega) @lX @DQ @he @a2 @a1 @hg ?_)
     exact hK hh hk
   rw [decide_eq_false hS,Bool.not_false,Bool.true_and] at hm
   have DQ:=CY hS
   have N4:=Hu hS
   cases pK:w.gone
   · rw [pK,Bool.false_and,Bool.not_false,Bool.true_and] at hm
     have dR:mR w=[.s w.key,.sl none 1 (w.val.map hM),.b false]:=by rw [<-pK];rfl
     have fE:=(aF (f:=mR) (j:=((i:Nat):Int).toNat) (by omega) he).trans (congrArg some dR)
     by_cases hv:w.val.length<=4000
     · rw [decide_eq_true hv,Bool.true_and] at hm
       (refine SD (show (i:Int)<(ws.map mR).length by omega) @lX @DQ (show ¬((w.val.map hM).length:Int)>4000 by omega) @fE @a2 @a1 @hg ?_)
       refine hR (ws.length - (i+1)) _ _ (by omega) ⟨i+1,_,_,S++[w.key],by omega,rfl,hm,aA.aJ.set (b:=fun _=>False) hk (.inr (Nat.le_refl _)) _,?_,cT,rfl⟩
       rw [<-N4];exact aA.aD hg
     · rw [decide_eq_false hv,Bool.false_and] at hm
       rw [hm] at hK
       (refine SD (show (i:Int)<(ws.map mR).length by omega) @lX @DQ (show ((w.val.map hM).length:Int)>4000 by omega) @fE @a2 @a1 @hg ?_)
       exact hK hh hk
   · have dR:mR w=[.s w.key,.sl none 1 (w.val.map hM),.b true]:=by rw [<-pK];rfl
     have fE:=(aF (f:=mR) (j:=((i:Nat):Int).toNat) (by omega) he).trans (congrArg some dR)
     by_cases NX:0<w.val.length
     · rw [pK,decide_eq_true NX] at hm
       rw [show B=false from hm] at hK
       (refine SD (show (i:Int)<(ws.map mR).length by omega) @lX @DQ (show ((w.val.map hM).length:Int)>0 by omega) @fE @a2 @a1 @hg ?_)
       exact hK hh hk
     · rw [pK,decide_eq_false NX,decide_eq_true (show w.val.length<=4000 by omega)] at hm
       have hm':B=Gz (S++[w.key]) (ws.drop (i+1)):=hm
       ((conv=>whnf);repeat ((first|refine aH.dt (show (i:Int)<(ws.map mR).length by omega) ?_|refine cA (lX _) ?_|refine bC.no DQ ?_|refine aH.df (show ¬((w.val.map hM).length:Int)>0 by omega) ?_|refine aH.df (show ¬((w.val.map hM).length:Int)>4000 by omega) ?_|refine aR.gA (by omega) (by omega) ?_|refine ye (fE) ?_|refine ye (a2 _ _) ?_|refine ye (a1 _) ?_|refine ye (hg) ?_|refine zz ?_)<;>(conv=>whnf)))
       refine hR (ws.length - (i+1)) _ _ (by omega) ⟨i+1,_,_,S++[w.key],by omega,rfl,hm',aA.aJ.set (b:=fun _=>False) hk (.inr (Nat.le_refl _)) _,?_,cT,rfl⟩
       rw [<-N4];exact aA.aD hg
 · obtain rfl:i=ws.length:=by omega
   rw [List.drop_length] at hm
   rw [hm] at hK
   (refine cD (show ¬((ws.length:Nat):Int)<(ws.map mR).length by omega) ?_)
   exact hK hh hk
end
open Go
def Jh:List Int->Int->List Int
 |[],n=>[n]
 |k::r,n=>if n=k then k::r else k::Jh r n
def nV (l ns:List Int):List Int:=ns.foldl Jh l
theorem Lb:∀ {l:List Int} {n x:Int},x∈Jh l n↔x∈l\/x=n
 |[],n,x=>by simp [Jh]
 |k::r,n,x=>by
  unfold Jh
  split
  · rename_i h
    subst h
    constructor
    · exact .inl
    · rintro (h|rfl)
      · exact h
      · exact .head _
  · rw [List.mem_cons,Lb,List.mem_cons]
    exact or_assoc.symm
theorem rY:∀ {ns l:List Int} {x:Int},x∈nV l ns↔x∈l\/x∈ns
 |[],l,x=>by simp [nV]
 |n::r,l,x=>by
  have:=rY (ns:=r) (l:=Jh l n) (x:=x)
  unfold nV at this ⊢
  rw [List.foldl_cons,this,Lb,List.mem_cons,or_assoc]
theorem HE:∀ (l:List Int) (n:Int),vL (tB l) (.i .i64 n) (.b true)=tB (Jh l n)
 |[],_=>rfl
 |k::r,n=>by
  have ih:=HE r n
  unfold tB at ih ⊢
  simp only [List.map_cons,vL,rG,Jh]
  by_cases h:n=k
  · subst h
    simp
  · simp only [h,decide_true,decide_false,Bool.and_false,Bool.false_eq_true,if_false,List.map_cons,ih]
theorem FM:∀ {l:List Int} {n:Int},n∈l->mX (tB l) (.i .i64 n)=some (.b true)
 |[],_,h=>by cases h
 |k::r,n,h=>by
  have ih:=@FM r n
  unfold tB at ih ⊢
  simp only [List.map_cons,mX,rG]
  by_cases hk:n=k
  · subst hk
    simp
  · have hr:n∈r:=by cases h with
     |head=>exact absurd rfl hk
     |tail _ h=>exact h
    simp only [hk,decide_true,decide_false,Bool.and_false,Bool.false_eq_true,if_false]
    exact ih hr
theorem FN:∀ {l:List Int} {n:Int},n∉l->mX (tB l) (.i .i64 n)=none
 |[],_,_=>rfl
 |k::r,n,h=>by
  have ih:=@FN r n
  unfold tB at ih ⊢
  simp only [List.map_cons,mX,rG]
  have hk:n≠k:=fun e=>h (e▸.head _)
  simp only [hk,decide_true,decide_false,Bool.and_false,Bool.false_eq_true,if_false]
  exact ih fun e=>h (.tail _ e)
def rZ (seen:List Int):List aL->Bool
 |[]=>true
 |p::r=>if p.aN.any fun x=>decide (x∈seen) then false else rZ (nV seen p.aN) r
 termination_by structural l=>l
theorem CZ:∀ {l:List aL} {seen:List Int},rZ seen l=true↔(∀ p∈l,∀ x∈p.aN,x∉seen)/\l.Pairwise fun p q=>∀ x∈p.aN,x∉q.aN
 |[],seen=>by simp [rZ]
 |p::r,seen=>by
  rw [rZ]
  by_cases h:(p.aN.any fun x=>decide (x∈seen))=true
  · rw [if_pos h]
    obtain ⟨x,hx,hs⟩:=List.any_eq_true.1 h
    constructor
    · intro h;cases h
    · rintro ⟨h,_⟩
      exact absurd (of_decide_eq_true hs) (h p (.head _) x hx)
  · rw [if_neg h,CZ,List.pairwise_cons]
    have h':∀ x∈p.aN,x∉seen:=fun x hx hs=>h (List.any_eq_true.2 ⟨x,hx,decide_eq_true hs⟩)
    constructor
    · rintro ⟨h1,h2⟩
      refine ⟨fun q hq=>?_,fun q hq x hx BU=>h1 q hq x BU (rY.2 (.inr hx)),h2⟩
      cases hq with
      |head=>exact h'
      |tail _ hq=>exact fun x hx hs=>h1 q hq x hx (rY.2 (.inl hs))
    · rintro ⟨h1,h2,h3⟩
      refine ⟨fun q hq x hx hs=>?_,h3⟩
      rcases rY.1 hs with hs|hs
      · exact h1 q (.tail _ hq) x hx hs
      · exact h2 q hq x hs hx
def sA (l:List aL):Bool:=rZ [] l
theorem C0 {l:List aL}:sA l=true↔l.Pairwise fun p q=>∀ x∈p.aN,x∉q.aN:=by
 rw [sA,CZ]
 exact ⟨fun h=>h.2,fun h=>⟨fun p _ x _ h=>(by cases h),h⟩⟩
def pF (s:dY):Bool:=
 (s.nodes.all fun n=>match rO s n.name with
   |some u=>CP u n.cap&&sA (oJ s n.name)
   |none=>false)&&s.aE.all fun p=>p.node==[]||(s.nodes.find? fun n=>n.name==p.node).isSome
section
variable {P:Program} (hG:bP P AF.fns.get)
include hG
theorem clash_ok (ps:List aL) (hl:bQ ps) (hp:∀ q∈ps,bQ q.aN):Pure P 68 [.sl none 16 (ps.map aI)] (·=.b (sA ps)):=by
 have gK:(ps.map aI).length=ps.length:=List.length_map _
 unfold bQ at hl
 refine aP (hG _ AF.f68 rfl) rfl ?_
 (refine zr ?_)
 refine bD.by (fun q fr st=>∃ (i:Nat) (seen:List Int),i<=ps.length/\q=ps.length - i/\sA ps=rZ seen (ps.drop i)/\
  fr=[(13,.i .i64 i),(12,.i .i64 (ps.map aI).length),(11,.sl none 16 (ps.map aI)),(3,.m (.g 0))]/\st=⟨⟨1,[(0,.mp (some .i64) (tB seen))]⟩,GD⟩)
  ps.length ⟨_,_,?_,0,[],Nat.zero_le _,rfl,rfl,rfl,rfl⟩ ?_
 · exact tG [0] []
 rintro q fr st ⟨i,seen,hi,rfl,pK,rfl,rfl⟩ R hR
 (conv=>whnf)
 refine aH.ds (fun cO=>?_) (fun fE=>?_)
 · have cZ:i<ps.length:=by omega
   have he:=List.getElem?_eq_getElem cZ
   have xY:=hp _ (List.getElem_mem cZ)
   rw [List.drop_eq_getElem_cons cZ,rZ] at pK
   generalize ps[i]=e at he xY pK
   have Dw:(e.aN.map fA).length=e.aN.length:=List.length_map _
   unfold bQ at xY
   (refine cD @he ?_)
   refine bD.by (fun q fr st=>∃ j:Nat,j<=e.aN.length/\q=e.aN.length - j/\cJ (fun x=>decide (x∈seen)) e.aN j/\
    fr=[(20,.i .i64 j),(19,.i .i64 (e.aN.map fA).length),(18,.sl none 1 (e.aN.map fA)),(5,.p (.l 0) 0),(13,.i .i64 i),(12,.i .i64 (ps.map aI).length),(11,.sl none 16 (ps.map aI)),(3,.m (.g 0))]/\
    st=⟨⟨1,[(0,.mp (some .i64) (tB seen))]⟩,⟨1,[(0,.cs (aI e))]⟩⟩)
    e.aN.length ⟨_,_,?_,0,Nat.zero_le _,rfl,cJ.zero,rfl,rfl⟩ ?_
   · exact tG [0] [0]
   rintro q fr st ⟨j,hj,rfl,dW,rfl,rfl⟩ R2 I5
   (conv=>whnf)
   refine aH.ds (fun Mp=>?_) (fun YU=>?_)
   · have GG:j<e.aN.length:=by omega
     have hf:=List.getElem?_eq_getElem GG
     generalize e.aN[j]=x at hf
     by_cases hx:x∈seen
     · have hm:=FM hx
       (refine iG @hm @hf ?_)
       refine aG rfl ?_
       rw [pK,if_pos (any_some hf (decide_eq_true hx))]
     · have hm:=FN hx
       (refine iG @hm @hf ?_)
       refine I5 (e.aN.length - (j+1)) _ _ (by omega) ⟨_,_,?_,j+1,by omega,rfl,dW.succ hf (decide_eq_false hx),rfl,rfl⟩
       exact tG [0] [0]
   · clear I5
     have Ek:=any_none (dW.all (by omega))
     rw [Ek,if_neg (by decide)] at pK
     (refine zr ?_)
     refine bD.by (fun q fr st=>∃ j:Nat,j<=e.aN.length/\q=e.aN.length - j/\
      fr=[(31,.i .i64 j),(30,.i .i64 (e.aN.map fA).length),(29,.sl none 1 (e.aN.map fA)),(13,.i .i64 i),(12,.i .i64 (ps.map aI).length),(11,.sl none 16 (ps.map aI)),(3,.m (.g 0))]/\
      st=⟨⟨1,[(0,.mp (some .i64) (tB (nV seen (e.aN.take j))))]⟩,GD⟩)
      e.aN.length ⟨_,_,?_,0,Nat.zero_le _,rfl,rfl,rfl⟩ ?_
     · exact tG [0] []
     rintro q fr st ⟨j,hj,rfl,rfl,rfl⟩ R2 I5
     (conv=>whnf)
     refine aH.ds (fun ab8=>?_) (fun aqH=>?_)
     · have GG:j<e.aN.length:=by omega
       have hf:=List.getElem?_eq_getElem GG
       generalize e.aN[j]=x at hf
       have uC:nV seen (e.aN.take (j+1))=Jh (nV seen (e.aN.take j)) x:=by
        rw [cG hf,nV,List.foldl_append]
        rfl
       (refine cD @hf ?_)
       refine I5 (e.aN.length - (j+1)) _ _ (by omega) ⟨_,_,?_,j+1,by omega,rfl,rfl,rfl⟩
       show IQ _ ⟨⟨1,[(0,.mp (some .i64) (vL (tB (nV seen (e.aN.take j))) (.i .i64 x) (.b true)))]⟩,GD⟩ _ _
       rw [HE,<-uC]
       exact tG [0] []
     · rw [List.take_of_length_le (by omega)]
       (refine zr ?_)
       refine hR (ps.length - (i+1)) _ _ (by omega) ⟨_,_,?_,i+1,nV seen e.aN,by omega,rfl,pK,rfl,rfl⟩
       exact tG [0] []
 · rw [List.drop_eq_nil_of_le (by omega),rZ] at pK
   rw [pK]
   (refine zr ?_)
   exact aG rfl rfl
theorem HF (s:dY) (hs:s.ok) (wO:Small s) (hr:∀ q∈s.aE,iM q):Pure P 21 [kS s] (·=.b (pF s)):=by
 have gK:(s.aE.map aI).length=s.aE.length:=List.length_map _
 have UX:(s.nodes.map aK).length=s.nodes.length:=List.length_map _
 have hl:=hs.aE
 have AA:=hs.nodes
 have GP:=hs.some
 unfold bQ at hl AA
 obtain ⟨f,hf⟩:∃ f:bK->Bool,f=fun n=>!(match rO s n.name with
  |some u=>CP u n.cap&&sA (oJ s n.name)
  |none=>false):=⟨_,rfl⟩
 obtain ⟨g,hg⟩:∃ g:aL->Bool,g=fun p=>!(p.node==[]||(s.nodes.find? fun n=>n.name==p.node).isSome):=⟨_,rfl⟩
 have Td:pF s=(!(s.nodes.any f)&&!(s.aE.any g)):=by
  rw [pF,List.all_eq_not_any_not,List.all_eq_not_any_not,hf,hg]
 rw [Td]
 refine aP (hG _ AF.f21 rfl) rfl ?_
 (refine zr ?_)
 refine bD.by (fun q fr st=>∃ i:Nat,i<=s.nodes.length/\q=s.nodes.length - i/\cJ f s.nodes i/\
  fr=[(14,.i .i64 i),(13,.i .i64 (s.nodes.map aK).length),(12,.sl none 6 (s.nodes.map aK)),(1,.p (.l 0) 0)]/\
  st=⟨iJ,⟨1,[(0,.cs [.sl none 6 (s.nodes.map aK),.sl none 16 (s.aE.map aI)])]⟩⟩)
  s.nodes.length ⟨_,_,?_,0,Nat.zero_le _,rfl,cJ.zero,rfl,rfl⟩ ?_
 · exact tL [0]
 rintro q fr st ⟨i,hi,rfl,dW,rfl,rfl⟩ R hR
 (conv=>whnf)
 refine aH.ds (fun cO=>?_) (fun fE=>?_)
 · have cZ:i<s.nodes.length:=by omega
   have he:=List.getElem?_eq_getElem cZ
   generalize s.nodes[i]=e at he
   have hu:=used_ok hG s e.name hs.aE (by omega) (fun q hq=>(hs.pT q hq).fQ)
   have eN:=on_ok hG s e.name hs hr
   have mV:=clash_ok hG (oJ s e.name) (Nat.le_trans (List.length_filter_le _ _) hs.aE) (fun q hq=>(hs.pT q (List.mem_filter.1 hq).1).aN)
   have jE:f e=!(match rO s e.name with
    |some u=>CP u e.cap&&sA (oJ s e.name)
    |none=>false):=by rw [hf]
   generalize oJ s e.name=l at eN mV jE
   generalize sA l=c at mV jE
   cases hq:rO s e.name with
   |none=>
    rw [hq] at hu jE
    (refine iG @hu @he ?_)
    refine aG rfl ?_
    rw [any_some he jE]
    rfl
   |some u=>
    rw [hq] at hu jE
    have Om:=fits_ok hG u e.cap
    dsimp only at jE
    generalize CP u e.cap=d at Om jE
    cases d
    · (refine qR @hu @Om @he ?_)
      refine aG rfl ?_
      rw [any_some he jE]
      rfl
    · cases c
      · (refine IV @hu @Om @eN @mV @he ?_)
        refine aG rfl ?_
        rw [any_some he jE]
        rfl
      · (refine IV @hu @Om @eN @mV @he ?_)
        refine hR (s.nodes.length - (i+1)) _ _ (by omega) ⟨_,_,?_,i+1,by omega,rfl,dW.succ he jE,rfl,rfl⟩
        exact tL [0]
 · clear hR
   rw [any_none (dW.all (by omega))]
   (refine zr ?_)
   refine bD.by (fun q fr st=>∃ i:Nat,i<=s.aE.length/\q=s.aE.length - i/\cJ g s.aE i/\
    fr=[(46,.i .i64 i),(45,.i .i64 (s.aE.map aI).length),(44,.sl none 16 (s.aE.map aI)),(1,.p (.l 0) 0)]/\
    st=⟨iJ,⟨1,[(0,.cs [.sl none 6 (s.nodes.map aK),.sl none 16 (s.aE.map aI)])]⟩⟩)
    s.aE.length ⟨_,_,?_,0,Nat.zero_le _,rfl,cJ.zero,rfl,rfl⟩ ?_
   · exact tL [0]
   clear fE hi dW
   rintro q fr st ⟨i,hi,rfl,dW,rfl,rfl⟩ R hR
   (conv=>whnf)
   refine aH.ds (fun cO=>?_) (fun fE=>?_)
   · have cZ:i<s.aE.length:=by omega
     have he:=List.getElem?_eq_getElem cZ
     generalize s.aE[i]=e at he
     have Qb:=getnode_ok hG s e.node hs.nodes wO
     have fE:g e=!(e.node==[]||(s.nodes.find? fun n=>n.name==e.node).isSome):=by rw [hg]
     cases hq:s.nodes.find? (fun n=>n.name==e.node) with
     |some n=>
      rw [hq] at Qb
      ((conv=>whnf);repeat' ((first|refine cA (Pure.go Qb rfl) ?_|refine ye (aF (by omega) he) ?_|refine zz ?_|refine aH.ds (fun _=>?_) (fun _=>?_)|refine aH.ns (fun _=>?_) (fun _=>?_)|refine aH.mk (fun _=>?_) (fun _=>?_)|(intro r hr;cases r))<;>(conv=>whnf)))
      all_goals
       refine hR (s.aE.length - (i+1)) _ _ (by omega) ⟨_,_,?_,i+1,by omega,rfl,dW.succ he (by rw [fE,hq];simp),rfl,rfl⟩
       exact tL [0]
     |none=>
      rw [hq] at Qb
      ((conv=>whnf);repeat' ((first|refine cA (Pure.go Qb rfl) ?_|refine ye (aF (by omega) he) ?_|refine zz ?_|refine aH.ds (fun _=>?_) (fun _=>?_)|refine aH.ns (fun _=>?_) (fun _=>?_)|refine aH.mk (fun _=>?_) (fun _=>?_)|(intro r hr;cases r))<;>(conv=>whnf)))
      all_goals first
       |(refine hR (s.aE.length - (i+1)) _ _ (by omega) ⟨_,_,?_,i+1,by omega,rfl,dW.succ he (by (rw [fE,hq];simp_all;done)),rfl,rfl⟩;exact tL [0];done)
       |(refine aG rfl ?_;rw [any_some he (by (rw [fE,hq];simp_all;done))];rfl)
   · (refine zr ?_)
     refine aG rfl ?_
     rw [any_none (dW.all (by omega))]
     rfl
end
open Go
def ajE (lo:aA) (ev:V) (es:List aL):Prop:=(es=[]/\ev=.aS)\/(0<es.length/\∃ t,ev=.sl (some (.l t)) 16 (es.map aI)/\2<t/\t<lo.next/\lo.get t=some .spare)
theorem Ni {l:List aL} {i:Nat} {e:aL} (h:l[i]? =some e) (gs:List aU):(l.take (i+1)).filter (fun q=>!(gs.any fun g=>q.name==g))=(l.take i).filter (fun q=>!(gs.any fun g=>q.name==g))++(if (gs.any fun g=>e.name==g)=true then [] else [e]):=by
 rw [List.take_add_one,h,List.filter_append]
 cases c:gs.any fun g=>e.name==g<;>simp [c]
theorem VT {l:List aU} {j:Nat} {x:aU} (h:l[j]? =some x) (y:aU):((l.take (j+1)).any fun g=>y==g)=(((l.take j).any fun g=>y==g)||x==y):=by
 rw [List.take_add_one,h,List.any_append]
 have:(y==x)=(x==y):=by
  by_cases c:y=x
  · rw [c]
  · rw [beq_false_of_ne c,beq_false_of_ne (Ne.symm c)]
 simp [this]
theorem OD {fr:Fr} {st:St} {rs:List RV} {v:V} {K:V->aA->Prop} (h:eX fr st rs=some v) (hK:K v st.g):wC rs K .ret fr st:=by
 show (match eX fr st rs with|some v=>K v st.g|none=>False)
 rw [h];exact hK
theorem Lc {fr:Fr} {st:St} {k n:Nat} {j:Key} {c:List V} {v u:V} (h1:fr.get k=.p j 0) (h2:st.get j=some (.cs c)) (h3:dS c 0 (some n)=some v) (h5:v.pass=some u):eX fr st [.cell k (some n)]=some u:=by
 have e1:sD fr st (.cell k (some n))=some u:=by
  unfold sD
  simp only [h1,h2,h3,h5]
 unfold eX
 simp only [nO,e1]
section
variable {P:Program} (hG:bP P AF.fns.get)
include hG
theorem rwoL0_at {h:aA} (s:dY) (hs:s.ok) (l:List aU) (hl:l.length<=1000) {K:V->aA->Prop} (hK:∀ ev,(aW s l).aE=[]/\ev=.aS\/ev=.sl none 16 ((aW s l).aE.map aI)->K (.agg [.sl none 6 (s.nodes.map aK),ev]) h):
 aC P 56 [kS s,.sl none 1 (l.map bE)] h K:=by
 have gK:(s.aE.map aI).length=s.aE.length:=List.length_map _
 have L8:(l.map bE).length=l.length:=List.length_map _
 have Xy:=hs.aE
 have wO:=hs.some
 unfold bQ at Xy
 refine dU (hG _ AF.f56 rfl) rfl ?_
 (refine zr ?_)
 refine cS.by (fun q fr st=>∃ (i:Nat) (lo:aA) (ev:V),i<=s.aE.length/\q=s.aE.length - i/\2<lo.next/\lo.get 0=some (.cs [.sl none 6 (s.nodes.map aK),.sl none 16 (s.aE.map aI)])/\lo.get 1=some (.cs [.aS,.aS])/\lo.get 2=some (.cs [.sl none 6 (s.nodes.map aK),ev])/\
  ajE lo ev ((s.aE.take i).filter fun q=>!(l.any fun g=>q.name==g))/\
  Fr.le [(16,.i .i64 i),(15,.i .i64 (s.aE.map aI).length),(5,.p (.l 2) 0),(4,.p (.l 1) 0),(2,.p (.l 0) 0),(1,.sl none 1 (l.map bE))] fr/\st=⟨h,lo⟩)
  s.aE.length ⟨0,_,.aS,Nat.zero_le _,rfl,Nat.lt_succ_self _,rfl,rfl,rfl,.inl ⟨rfl,rfl⟩,cT,rfl⟩ ?_
 rintro q fr st ⟨i,lo,ev,hi,rfl,h2,g0,g1,g2,uT,dE,rfl⟩
 refine ⟨_,dE,fun R hR=>?_⟩
 by_cases cY:i<s.aE.length
 · have he:=List.getElem?_eq_getElem cY
   generalize s.aE[i]=e at he
   have mY:=Ni he l
   have vG:((s.aE.take i).filter fun q=>!(l.any fun g=>q.name==g)).length<=i:=Nat.le_trans (List.length_filter_le _ _) (by rw [List.length_take];omega)
   generalize (s.aE.take i).filter (fun q=>!(l.any fun g=>q.name==g))=A at uT mY vG
   (refine cD (show (i:Int)<(s.aE.map aI).length by omega) ?_)
   refine cS.by (fun q fr st=>∃ (j:Nat) (b:Bool),j<=l.length/\q=l.length - j/\b=((l.take j).any fun g=>e.name==g)/\
    Fr.le [(21,.i .i64 j),(20,.i .i64 (l.map bE).length),(19,.sl none 1 (l.map bE)),(16,.i .i64 i),(15,.i .i64 (s.aE.map aI).length),(7,.b b),(6,.i .i64 i),(5,.p (.l 2) 0),(4,.p (.l 1) 0),(2,.p (.l 0) 0),(1,.sl none 1 (l.map bE))] fr/\st=⟨h,lo⟩)
    l.length ⟨0,false,Nat.zero_le _,rfl,rfl,cT,rfl⟩ ?_
   rintro q fr st ⟨j,b,hj,rfl,hb,Cq,rfl⟩
   refine ⟨_,Cq,fun R2 I5=>?_⟩
   by_cases F9:j<l.length
   · have hx:=List.getElem?_eq_getElem F9
     generalize l[j]=x at hx
     have Nf:=VT hx e.name
     cases b
     · (refine N9 (show (j:Int)<(l.map bE).length by omega) @hx @g0 @he ?_)
       exact I5 (l.length - (j+1)) _ _ (by omega) ⟨j+1,_,by omega,rfl,by first|(rw [Nf,<-hb];done)|(rw [Nf,<-hb];rfl),cT,rfl⟩
     · (refine N9 (show (j:Int)<(l.map bE).length by omega) @hx @g0 @he ?_)
       exact I5 (l.length - (j+1)) _ _ (by omega) ⟨j+1,true,by omega,rfl,by first|(rw [Nf,<-hb];done)|(rw [Nf,<-hb];rfl),cT,rfl⟩
   obtain rfl:j=l.length:=by omega
   rw [List.take_length] at hb
   rw [<-hb] at mY
   cases b
   · simp only [Bool.false_eq_true,if_false] at mY
     have f2:(lo.push .spare).get 2=some (.cs [.sl none 6 (s.nodes.map aK),ev]):=aA.gp (by omega) g2
     rcases uT with ⟨rfl,rfl⟩|⟨hA,t,rfl,Jy,yU,ZV⟩
     · have f3:((lo.push .spare).push .spare).get 2=some (.cs [.sl none 6 (s.nodes.map aK),.aS]):=aA.gp (by show 2≠lo.next+1;omega) f2
       (refine WN (show ¬((l.length:Nat):Int)<(l.map bE).length by omega) @g2 @g0 @f2 @f3 @he ?_)
       refine hR (s.aE.length - (i+1)) _ _ (by omega) ⟨i+1,_,.sl (some (.l (lo.next+1))) 16 [aI e],by omega,rfl,?_,?_,?_,aA.aD f3,?_,cT,rfl⟩
       · show 2<lo.next+1+1;omega
       · exact aA.gs (by omega) (aA.gp (by show 0≠lo.next+1;omega) (aA.gp (by omega) g0))
       · exact aA.gs (by omega) (aA.gp (by show 1≠lo.next+1;omega) (aA.gp (by omega) g1))
       · rw [mY];exact .inr ⟨by simp,lo.next+1,rfl,by omega,Nat.lt_succ_self _,aA.gs (by omega) (aA.aB _ _)⟩
     · have p0:(lo.push .spare).get t=some .spare:=aA.gp (by omega) ZV
       have f3:(((lo.push .spare).remove t).push .spare).get 2=some (.cs [.sl none 6 (s.nodes.map aK),.sl (some (.l t)) 16 (A.map aI)]):=aA.gp (by show 2≠lo.next+1;omega) (aA.gr (by omega) f2)
       (refine zx7 (show ¬((l.length:Nat):Int)<(l.map bE).length by omega) @g2 @g0 @f2 @f3 @p0 @he ?_)
       refine hR (s.aE.length - (i+1)) _ _ (by omega) ⟨i+1,_,.sl (some (.l (lo.next+1))) 16 (A.map aI++[aI e]),by omega,rfl,?_,?_,?_,aA.aD f3,?_,cT,rfl⟩
       · show 2<lo.next+1+1;omega
       · exact aA.gs (by omega) (aA.gp (by show 0≠lo.next+1;omega) (aA.gr (by omega) (aA.gp (by omega) g0)))
       · exact aA.gs (by omega) (aA.gp (by show 1≠lo.next+1;omega) (aA.gr (by omega) (aA.gp (by omega) g1)))
       · rw [mY];exact .inr ⟨by simp,lo.next+1,by simp,by omega,Nat.lt_succ_self _,aA.gs (by omega) (aA.aB _ _)⟩
   · simp only [if_true,List.append_nil] at mY
     (refine cD (show ¬((l.length:Nat):Int)<(l.map bE).length by omega) ?_)
     exact hR (s.aE.length - (i+1)) _ _ (by omega) ⟨i+1,lo,ev,by omega,rfl,h2,g0,g1,g2,by rw [mY];exact uT,cT,rfl⟩
 · obtain rfl:i=s.aE.length:=by omega
   rw [List.take_length] at uT
   rcases uT with ⟨hA,rfl⟩|⟨hA,t,rfl,Jy,yU,ZV⟩
   · ((conv=>whnf);repeat ((first|refine aH.df (show ¬((s.aE.length:Nat):Int)<(s.aE.map aI).length by omega) ?_|refine ye (g2) ?_|refine ye (g1) ?_|refine ye (aA.aD g1) ?_|refine zz ?_)<;>(conv=>whnf)))
     exact OD (rs:=AF.f56.results) (Lc rfl (aA.aD g1) rfl rfl) (hK _ (.inl ⟨hA,rfl⟩))
   · ((conv=>whnf);repeat ((first|refine aH.df (show ¬((s.aE.length:Nat):Int)<(s.aE.map aI).length by omega) ?_|refine ye (g2) ?_|refine ye (g1) ?_|refine ye (aA.aD g1) ?_|refine zz ?_)<;>(conv=>whnf)))
     exact OD (rs:=AF.f56.results) (Lc rfl (aA.aD g1) rfl rfl) (hK _ (.inr rfl))
theorem rwoL_at {h:aA} (s:dY) (hs:s.ok) (l:List aU) (hl:l.length<=1000) {K:V->aA->Prop} (hK:K (kS (aW s l)) h):aC P 56 [kS s,.sl none 1 (l.map bE)] h K:=by
 refine aC.tell (rwoL0_at hG s hs l hl (K:=fun v h'=>h'=h/\∃ ev,((aW s l).aE=[]/\ev=.aS\/ev=.sl none 16 ((aW s l).aE.map aI))/\v=.agg [.sl none 6 (s.nodes.map aK),ev]) fun ev uT=>⟨rfl,ev,uT,rfl⟩) ?_
 rintro v h' ⟨rfl,ev,uT,rfl⟩
 refine ⟨kS (aW s l),fun E x hx=>VR (cs:=[.sl none 6 (s.nodes.map aK),ev]) (ds:=[.sl none 6 (s.nodes.map aK),.sl none 16 ((aW s l).aE.map aI)]) ⟨Bw _ _,?_,trivial⟩ E x hx,hK⟩
 rcases uT with ⟨h1,rfl⟩|rfl
 · rw [h1];exact .nil
 · exact Bw _ _
end
end Go.Eng
