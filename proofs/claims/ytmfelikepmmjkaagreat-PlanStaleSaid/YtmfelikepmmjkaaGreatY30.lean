/-
One node alone: room, ports, what is wanted, what is borne; a node by its name.
-/
import Derived.Test.YtmfelikepmmjkaaGreatY24
set_option linter.unusedVariables false
set_option linter.unusedSimpArgs false
set_option maxHeartbeats 4000000
namespace Go.Eng
open Go
def Q1 (x y:hU):Bool:=decide (x.a<=y.a)&&(decide (x.b<=y.b)&&decide (x.c<=y.c))
def Jn (s:eG) (p:aO) (n:cI):Bool:=
 match BL s n.name with
 |some u=>match Ad u p.gG with
  |some t=>Q1 t n.cap
  |none=>false
 |none=>false
def DX (s:eG) (p:aO) (n:cI):Bool:=!s.aF.any fun q=>q.node==n.name&&(!(q.node==[])&&q.aX.any fun x=>p.aX.any fun y=>decide (x=y))
def Lq (p:aO) (n:cI):Bool:=p.lR.all fun t=>mG t n.labels
def Lr (p:aO) (n:cI):Bool:=Tu p.b8 n.eW
theorem sumD_ok:∀ {l:List hU} {s t:hU},s.ok->DT s l=some t->t.ok
 |[],s,t,hs,h=>by cases h;exact hs
 |r::q,s,t,hs,h=>by
  simp only [DT] at h
  split at h
  · rename_i t' ht
    exact sumD_ok (addD_ok ht) h
  · cases h
section
variable {P:Program} (hG:bN P AF.fns.get)
include hG
theorem fits_ok (x y:hU):Pure P 67 [Lp x,Lp y] (·=.b (Q1 x y)):=by
 refine aM (hG _ AF.f67 rfl) rfl ?_
 ((conv=>whnf);repeat' ((first|refine zz ?_|refine bC.un rfl ?_|refine aH.ds (fun _=>?_) (fun _=>?_)|refine aH.ns (fun _=>?_) (fun _=>?_)|refine aH.mk (fun _=>?_) (fun _=>?_)|(intro r hr;cases r))<;>(conv=>whnf)))
 all_goals (refine aE rfl ?_)
 all_goals (simp [Q1];try omega)
theorem room_ok (s:eG) (p:aO) (n:cI) (hs:s.ok) (hp:p.gG.ok):Pure P 92 [lT s,.agg (aJ p),.agg (aS n)] (·=.b (Jn s p n)):=by
 have hu:=used_ok hG s n.name hs.aF (by have:=hs.some;omega) (fun p hp=>(hs.uT p hp).gG)
 refine aM (hG _ AF.f92 rfl) rfl ?_
 simp only [Jn]
 cases hq:BL s n.name with
 |none=>
  rw [hq] at hu
  (refine cJ @hu ?_)
  exact aE rfl rfl
 |some u=>
  rw [hq] at hu
  have ha:=add_ok hG u p.gG (sumD_ok (by decide) hq) hp
  dsimp only
  cases ht:Ad u p.gG with
  |none=>
   rw [ht] at ha
   (refine iU @hu @ha ?_)
   exact aE rfl rfl
  |some t=>
   rw [ht] at ha
   (refine pU @hu @ha (fits_ok hG t n.cap) ?_)
   exact aE rfl rfl
theorem Wq (l:List Int) (x:Int) (hl:l.length<=9223372036854775807):Pure P 203 [.sl none 1 (l.map fV),.i .i64 x] (·=.i .i64 (gB (fun e=>decide (x=e)) l)):=by
 have iO:(l.map fV).length=l.length:=List.length_map _
 refine aM (hG _ AF.f203 rfl) rfl ?_
 (refine zr ?_)
 refine bC.by (fun q fr st=>∃ i:Nat,i<=l.length/\q=l.length - i/\cS (fun e=>decide (x=e)) l i/\fr=[(8,.i .i64 i),(7,.i .i64 (l.map fV).length),(1,.i .i64 x),(0,.sl none 1 (l.map fV))]/\st=dG gZ)
  l.length ⟨_,_,?_,0,Nat.zero_le _,rfl,cS.zero,rfl,rfl⟩ ?_
 · exact yN
 rintro q fr st ⟨i,hi,rfl,dZ,rfl,rfl⟩ R hR
 (conv=>whnf)
 refine aH.ds (fun cL=>?_) (fun fC=>?_)
 · have cZ:i<l.length:=by omega
   have he:=List.getElem?_eq_getElem cZ
   generalize l[i]=e at he
   (refine cJ @he ?_)
   refine aH.mk (fun hp=>?_) (fun hp=>?_)
   · (refine zr ?_)
     refine aE rfl ?_
     rw [cX he hp dZ]
   · (refine zr ?_)
     refine hR (l.length - (i+1)) _ _ (by omega) ⟨_,_,?_,i+1,by omega,rfl,dZ.succ he hp,rfl,rfl⟩
     exact yN
 · (refine zr ?_)
   refine aE rfl ?_
   rw [dF fun j x hx=>dZ j x (by have:=(List.getElem?_eq_some_iff.1 hx).1;omega) hx]
theorem Wr (l:List Int) (x:Int) (hl:l.length<=9223372036854775807):Pure P 99 [.sl none 1 (l.map fV),.i .i64 x] (·=.b (l.any fun e=>decide (x=e))):=by
 refine aM (hG _ AF.f99 rfl) rfl ?_
 (refine cJ (Wq hG l x hl) ?_)
 refine aE rfl ?_
 exact congrArg V.b jQ
theorem Q2 {l:List Int} {g:Nat} {k:Nat} {h:aA} {p:Int->Bool} (hl:l.length<=9223372036854775807)
 (hg:∀ e∈l,∀ K:V->aA->Prop,K (.b (p e)) h->aB P g (.i .i64 e::[.p (.g k) 0]) h K) {K:V->aA->Prop} (hK:K (.b (l.any p)) h):aB P 97 [.sl none 1 (l.map fV),.fn g [] [.p (.g k) 0]] h K:=by
 refine aN (hG _ AF.f97 rfl) rfl ?_
 ((conv=>whnf);repeat ((first|refine aH.ff rfl ?_|refine aH.tt rfl ?_|refine aZ.of rfl ?_|refine aK.mk rfl ?_|refine aP.mk rfl ?_|refine cD.of rfl ?_)<;>(conv=>whnf)))
 refine cY.mk (QS (k:=k) (show gE P 202 (iN 1 none)=true from hG _ AF.f202 rfl) hl hg ?_)
 ((conv=>whnf);repeat ((first|refine aH.ff rfl ?_|refine aH.tt rfl ?_|refine aZ.of rfl ?_|refine aK.mk rfl ?_|refine aP.mk rfl ?_|refine cD.of rfl ?_)<;>(conv=>whnf)))
 rw [<-jQ] at hK
 exact hK
theorem portsf_ok {x:Int} {p:aO} (hp:bP p.aX) {h:aA} {k:Nat} (hc:h.get k=some (.cs (aJ p))) {K:V->aA->Prop} (hK:K (.b (p.aX.any fun y=>decide (x=y))) h):aB P 98 [.i .i64 x,.p (.g k) 0] h K:=by
 refine aN (hG _ AF.f98 rfl) rfl ?_
 ((conv=>whnf);repeat ((first|refine aH.ff rfl ?_|refine aH.tt rfl ?_|refine aZ.of rfl ?_|refine aK.mk rfl ?_|refine aP.mk rfl ?_|refine cD.of (hc) ?_|refine cD.of rfl ?_)<;>(conv=>whnf)))
 refine cY.mk (Pure.go (Wr hG p.aX x hp) rfl ?_)
 ((conv=>whnf);repeat ((first|refine aH.ff rfl ?_|refine aH.tt rfl ?_|refine aZ.of rfl ?_|refine aK.mk rfl ?_|refine aP.mk rfl ?_|refine cD.of rfl ?_)<;>(conv=>whnf)))
 exact hK
theorem ports_ok (s:eG) (p:aO) (n:cI) (hs:s.ok) (hp:bP p.aX):Pure P 32 [lT s,.agg (aJ p),.agg (aS n)] (·=.b (DX s p n)):=by
 have iO:(s.aF.map aJ).length=s.aF.length:=List.length_map _
 have hl:=hs.aF
 unfold bP at hl
 refine aM (hG _ AF.f32 rfl) rfl ?_
 (refine zr ?_)
 refine bC.by (fun q fr st=>∃ i:Nat,i<=s.aF.length/\q=s.aF.length - i/\cS (fun q=>q.node==n.name&&(!(q.node==[])&&q.aX.any fun x=>p.aX.any fun y=>decide (x=y))) s.aF i/\
  fr=[(12,.i .i64 i),(11,.i .i64 (s.aF.map aJ).length),(10,.sl none 16 (s.aF.map aJ)),(5,.p (.l 0) 0),(4,.p (.g 0) 0)]/\st=⟨⟨1,[(0,.cs (aJ p))]⟩,⟨1,[(0,.cs (aS n))]⟩⟩)
  s.aF.length ⟨_,_,?_,0,Nat.zero_le _,rfl,cS.zero,rfl,rfl⟩ ?_
 · exact tG [0] [1]
 rintro q fr st ⟨i,hi,rfl,dZ,rfl,rfl⟩ R hR
 (conv=>whnf)
 refine aH.ds (fun cL=>?_) (fun fC=>?_)
 · have cZ:i<s.aF.length:=by omega
   have he:=List.getElem?_eq_getElem cZ
   have hm:=List.getElem_mem cZ
   generalize s.aF[i]=e at he hm
   have XM:=(hs.uT e hm).aX
   ((conv=>whnf);repeat' ((first|refine cA (Q2 hG (p:=fun x=>p.aX.any fun y=>decide (x=y)) XM (fun x _ K hK=>portsf_ok hG hp rfl hK)) ?_|refine ye (aG (by simp) he) ?_|refine zz ?_|refine aH.ds (fun _=>?_) (fun _=>?_)|refine aH.ns (fun _=>?_) (fun _=>?_)|refine aH.mk (fun _=>?_) (fun _=>?_)|(intro r hr;cases r))<;>(conv=>whnf)))
   all_goals first
    |(refine hR (s.aF.length - (i+1)) _ _ (by omega) ⟨_,_,?_,i+1,by omega,rfl,dZ.succ he (by simp_all),rfl,rfl⟩;exact tG [0] [0])
    |(refine aE rfl ?_;simp only [DX];rw [any_some he (by simp_all)];rfl)
 · (refine zr ?_)
   refine aE rfl ?_
   simp only [DX]
   rw [any_none (dZ.all (by omega))]
   rfl
theorem wants_ok (p:aO) (n:cI) (hp:p.ok) (hn:n.ok):Pure P 93 [.agg (aJ p),.agg (aS n)] (·=.b (Lq p n)):=by
 refine aM (hG _ AF.f93 rfl) rfl ?_
 (refine cJ (match_ok hG p.lR n.labels hp.lR.each hp.lR.len hn.labels) ?_)
 exact aE rfl rfl
theorem borne_ok (p:aO) (n:cI) (hp:p.ok) (hn:n.ok):Pure P 94 [.agg (aJ p),.agg (aS n)] (·=.b (Lr p n)):=by
 refine aM (hG _ AF.f94 rfl) rfl ?_
 (refine cJ (all_ok hG p.b8 n.eW hp.b8 hn.eW) ?_)
 exact aE rfl rfl
end
end Go.Eng
