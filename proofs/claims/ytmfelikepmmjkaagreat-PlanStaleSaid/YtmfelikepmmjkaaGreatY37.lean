/-
Who is on a node, in a row that is written to; what Victims asks of two pods.
-/
import Derived.Test.YtmfelikepmmjkaaGreatY36
import Derived.Test.YtmfelikepmmjkaaGreatY34
import Derived.Test.YtmfelikepmmjkaaGreatY33
import Derived.Test.YtmfelikepmmjkaaGreatY25
set_option linter.unusedVariables false
set_option linter.unusedSimpArgs false
set_option maxHeartbeats 16000000
set_option maxRecDepth 20000
namespace Go.Eng
open Go
theorem Made.row {P:Program} {f:Nat} {args:List V} {es:List aO} (h0:aB P f args gZ (A9 fun u sz rs=>u=.ms (.g 0) 16 0 es.length/\sz=16/\rs=es.map aJ)) (ha:args.all V.free=true) {h:aA} {K:V->aA->Prop}
 (hK:K (.ms (.g h.next) 16 0 es.length) (h.push (.arr 16 (es.map aJ)))):aB P f args h K:=
 h0.made ha fun u sz rs ⟨h1,h2,h3⟩=>by subst h1;subst h2;subst h3;exact hK
section
variable {P:Program} (hG:bN P AF.fns.get)
include hG
theorem TB (s:eG) (node:aU) (hs:s.ok) (hr:∀ q∈s.aF,iP q) (dM:HC s node≠[]):
 aB P 69 [lT s,.s node] gZ (A9 fun u sz rs=>u=.ms (.g 0) 16 0 (HC s node).length/\sz=16/\rs=(HC s node).map aJ):=by
 have iO:(s.aF.map aJ).length=s.aF.length:=List.length_map _
 have hl:=hs.aF
 have y5:=hs.some
 unfold bP at hl
 obtain ⟨f,hf⟩:∃ f:aO->Bool,f=fun p=>p.node==node&&!(node==[]):=⟨_,rfl⟩
 refine UU (hG _ AF.f69 rfl) rfl ?_
 (refine zr ?_)
 refine bC.by (fun q fr st=>∃ (i:Nat) (b:Bool) (es:List aO) (n:Nat),i<=s.aF.length/\q=s.aF.length - i/\es=(s.aF.take i).filter f/\(b=false->es=[])/\n=es.length/\
  fr=[(11,.i .i64 i),(10,.i .i64 (s.aF.map aJ).length),(9,.sl none 16 (s.aF.map aJ)),(5,Wo b 16 n),(1,.s node)]/\st=⟨Wp b 16 (es.map aJ),Ia⟩)
  s.aF.length ⟨_,_,?_,0,false,[],0,Nat.zero_le _,rfl,rfl,fun _=>rfl,rfl,rfl,rfl⟩ ?_
 · exact yN
 rintro q fr st ⟨i,b,es,n,hi,rfl,nR,hb,hn,rfl,rfl⟩ R hR
 have DW:es.length<=i:=by
  rw [nR]
  exact Nat.le_trans (List.length_filter_le _ _) (List.length_take_le _ _)
 have BA:(es.map aJ).length=es.length:=List.length_map _
 (conv=>whnf)
 refine aH.ds (fun cL=>?_) (fun fC=>?_)
 · have cZ:i<s.aF.length:=by omega
   have he:=List.getElem?_eq_getElem cZ
   have QZ:=hr _ (List.getElem_mem cZ)
   generalize s.aF[i]=e at he QZ
   have hc:=copyPod_ok hG e QZ
   have h1:f e=true->es++[e]=(s.aF.take (i+1)).filter f:=fun h=>by
    rw [cG he,List.filter_append,<-nR]
    simp [h]
   have h0:f e=false->es=(s.aF.take (i+1)).filter f:=fun h=>by
    rw [cG he,List.filter_append,<-nR]
    simp [h]
   cases b
   · obtain rfl:es=[]:=hb rfl
     ((conv=>whnf);repeat' ((first|refine cA (Pure.go hc rfl) ?_|refine ye (aG (by omega) he) ?_|refine zz ?_|refine aH.ds (fun _=>?_) (fun _=>?_)|refine aH.ns (fun _=>?_) (fun _=>?_)|refine aH.mk (fun _=>?_) (fun _=>?_)|(intro r hr;cases r))<;>(conv=>whnf)))
     · have pR:f e=true:=by rw [hf];simp_all
       refine hR (s.aF.length - (i+1)) _ _ (by omega) ⟨_,_,?_,i+1,true,[]++[e],1,by omega,rfl,h1 pR,(fun h=>by cases h),rfl,rfl,rfl⟩
       exact tG [1] []
     all_goals
      have pR:f e=false:=by rw [hf];simp_all
      refine hR (s.aF.length - (i+1)) _ _ (by omega) ⟨_,_,?_,i+1,false,[],0,by omega,rfl,h0 pR,(fun _=>rfl),rfl,rfl,rfl⟩
      exact yN
   · ((conv=>whnf);repeat' ((first|refine cA (Pure.go hc rfl) ?_|refine aK.mk (by simp [bR];omega) ?_|refine aH.df (by simp only [List.length_cons,List.length_nil,List.length_map];omega) ?_|refine ye (aG (by omega) he) ?_|refine zz ?_|refine aH.ds (fun _=>?_) (fun _=>?_)|refine aH.ns (fun _=>?_) (fun _=>?_)|refine aH.mk (fun _=>?_) (fun _=>?_)|(intro r hr;cases r))<;>(conv=>whnf)))
     · have pR:f e=true:=by rw [hf];simp_all
       refine hR (s.aF.length - (i+1)) _ _ (by omega) ⟨_,_,?_,i+1,true,es++[e],n+1,by omega,rfl,h1 pR,(fun h=>by cases h),by simp [hn],rfl,rfl⟩
       exact tG [2] []
     all_goals
      have pR:f e=false:=by rw [hf];simp_all
      refine hR (s.aF.length - (i+1)) _ _ (by omega) ⟨_,_,?_,i+1,true,es,n,by omega,rfl,h0 pR,(fun h=>by cases h),hn,rfl,rfl⟩
      exact tG [0] []
 · have eV:es=HC s node:=by
    rw [nR,List.take_of_length_le (by omega),hf]
    rfl
   cases b
   · exact absurd ((hb rfl).symm.trans eV).symm dM
   · (refine zr ?_)
     rw [hn,eV]
     refine A9.of (u:=.ms (.g 0) 16 0 (HC s node).length) (sz:=16) (es:=(HC s node).map aJ) ?_ rfl (fun e he=>by obtain ⟨q,_,rfl⟩:=List.mem_map.1 he;rfl) ⟨rfl,rfl,rfl⟩
     exact tG [0] []
theorem prioGe_ok {e p:aO} {h:aA} {k:Nat} (hc:h.get k=some (.cs (aJ p))) {K:V->aA->Prop} (hK:K (.b (decide (p.prio<=e.prio))) h):aB P 73 [.agg (aJ e),.p (.g k) 0] h K:=by
 refine aN (hG _ AF.f73 rfl) rfl ?_
 ((conv=>whnf);repeat ((first|refine aH.ff rfl ?_|refine aH.tt rfl ?_|refine aZ.of rfl ?_|refine aK.mk rfl ?_|refine aP.mk rfl ?_|refine cD.of (hc) ?_|refine cD.of rfl ?_)<;>(conv=>whnf)))
 exact hK
theorem nameIs_ok {n:aU} {q:aO} {h:aA} {k:Nat} (hc:h.get k=some (.cs (aJ q))) {K:V->aA->Prop} (hK:K (.b (n==q.name)) h):aB P 80 [.s n,.p (.g k) 0] h K:=by
 refine aN (hG _ AF.f80 rfl) rfl ?_
 ((conv=>whnf);repeat ((first|refine aH.ff rfl ?_|refine aH.tt rfl ?_|refine aZ.of rfl ?_|refine aK.mk rfl ?_|refine aP.mk rfl ?_|refine cD.of (hc) ?_|refine cD.of rfl ?_)<;>(conv=>whnf)))
 exact hK
theorem cmpV_ok (kJ:qC P) (a b:aO):Pure P 75 [.agg (aJ a),.agg (aJ b)] (·=.i .i64 (Q8 a b)):=by
 have h1:=cmpInt_ok hG b.prio a.prio
 have h2:=compare_ok hG kJ a.name b.name
 unfold Q8
 generalize Be b.prio a.prio=u at h1
 generalize mF a.name b.name=v at h2
 refine aM (hG _ AF.f75 rfl) rfl ?_
 by_cases h:u=0
 · subst h
   (refine iU @h1 @h2 ?_)
   exact aE rfl rfl
 · (refine iU @h1 @h2 ?_)
   refine aE rfl ?_
   rw [if_neg h]
end
open Go
def Al (P:Program) (f g:Nat):Prop:=
 ∀ (l:List aU) (r:Nat) (h:aA) (K:V->aA->Prop),l.length<=1000->h.get r=some (.arr 1 (l.map bG))->K (.bY []) (h.set r (.arr 1 ((rL l).map bG)))->aB P f [.ms (.g r) 1 0 l.length,.fn g [] []] h K
def ZA (o:Option (List aU)):V:=
 match o with
 |some l=>.bY [.sl none 1 (l.map bG),.b true]
 |none=>.bY [.sl none 1 [],.b false]
theorem Ob {Q:V->Prop} {k sz a n:Nat} {b:Bool} {es ds:List (List V)} {h':aA} (h:h'.get k=some (.arr sz es)) (hd:dR es=some ds) (hn:a+n<=ds.length) (hq:Q (.bY [.sl none sz ((ds.drop a).take n),.b b])):pH Q (.bY [.ms (.g k) sz a n,.b b]) h':=
 vZ (u:=.bY [.sl none sz ((ds.drop a).take n),.b b]) (Sq k sz ds) (Hy h hd) (.inr ⟨_,_,rfl,rfl,.inl (.XI (by simp [Sq]) hn rfl),rG rfl,trivial⟩) rfl hq
theorem rM {Q:V->Prop} {sz:Nat} {b:Bool} {h':aA} (hq:Q (.bY [.sl none sz [],.b b])):pH Q (.bY [.aV,.b b]) h':=
 vZ (u:=.bY [.sl none sz [],.b b]) gA lD (.inr ⟨_,_,rfl,rfl,.inl .nil,rG rfl,trivial⟩) rfl hq
def aeQ (b:Bool) (n:Nat):V:=
 match b with
 |true=>.ms (.g 2) 1 0 n
 |false=>.aV
def ZB (b:Bool) (p:aO) (lo:List aO) (gs:List aU):aA:=
 match b with
 |true=>⟨3,[(2,.arr 1 (gs.map bG)),(1,.arr 16 (lo.map aJ)),(0,.cs (aJ p))]⟩
 |false=>⟨2,[(1,.arr 16 (lo.map aJ)),(0,.cs (aJ p))]⟩
theorem eG.ok.Mc {s:eG} (h:s.ok) (gs:List aU):(cH s gs).ok:=by
 have hl:(cH s gs).aF.length<=s.aF.length:=List.length_filter_le _ _
 exact ⟨h.nodes,Nat.le_trans hl h.aF,h.node,fun q hq=>h.uT q (List.mem_filter.1 hq).1,Nat.le_trans (Nat.mul_le_mul_right _ hl) h.some⟩
section
variable {P:Program} (hG:bN P AF.fns.get)
include hG
theorem vict_ok (kJ:qC P) (hS:Al P 81 61)
 (s:eG) (p:aO) (node:aU) (hs:s.ok) (hp:p.fit) (y5:Small s) (h6:s.nodes.length<=1000) (h19:s.aF.length<=19) (hr:∀ q∈s.aF,iP q):
 Pure P 24 [lT s,.agg (aJ p),.s node] (·=ZA (lI s p node)):=by
 have Lv:(HC s node).length<=19:=Nat.le_trans (List.length_filter_le _ _) h19
 have pR:=fun gs=>feas_ok hG (cH s gs) p node (hs.Mc gs) hp (show Small (cH s gs) from y5)
 have Sj:=without_ok hG s [] h6 hs y5 hr (Nat.zero_le _)
 refine aM (hG _ AF.f24 rfl) rfl ?_
 cases fD:HC s node with
 |nil=>
  have ho:=on_ok hG s node hs hr
  rw [fD] at ho
  have hv:lI s p node=if hY (cH s []) p node then some [] else none:=by
   unfold lI lH
   rw [fD]
   simp [gW,gO,rL]
  rw [hv]
  have hf:=pR []
  generalize hY (cH s []) p node=x at hf
  cases x
  · ((conv=>whnf);repeat ((first|refine cA (Pure.go ho rfl) ?_|refine cA (Pure.DP Sj Wj rfl) ?_|refine cA (Pure.go hf rfl) ?_|refine cA (jU (hG _ _ rfl) rfl) ?_|refine sL.un rfl ?_|refine zz ?_|refine bC.un rfl ?_)<;>(conv=>whnf)))
    exact rM (sz:=1) rfl
  · ((conv=>whnf);repeat ((first|refine cA (Pure.go ho rfl) ?_|refine cA (Pure.DP Sj Wj rfl) ?_|refine cA (Pure.go hf rfl) ?_|refine cA (jU (hG _ _ rfl) rfl) ?_|refine sL.un rfl ?_|refine aQ.of (by decide) (by decide) ?_|refine zz ?_|refine bC.un rfl ?_)<;>(conv=>whnf)))
    exact rM (sz:=1) rfl
 |cons q0 r0=>
  have hm:=TB hG s node hs hr (by rw [fD];exact List.cons_ne_nil _ _)
  clear fD
  obtain ⟨on,iD⟩:∃ on,on=HC s node:=⟨_,rfl⟩
  rw [<-iD] at hm Lv
  obtain ⟨lo,PI⟩:∃ lo,lo=lH s p node:=⟨_,rfl⟩
  have ZC:gW (fun a b=>decide (Q8 a b<0)) (on.filter fun q=>!decide (p.prio<=q.prio))=lo:=by rw [PI,iD];rfl
  have vL:(on.filter fun q=>!decide (p.prio<=q.prio)).length<=19:=Nat.le_trans (List.length_filter_le _ _) Lv
  have aeS:lo.length=(on.filter fun q=>!decide (p.prio<=q.prio)).length:=by rw [<-ZC,gW,sO];simp
  have Fq:∀ (h:aA) (K:V->aA->Prop),h.get 1=some (.arr 16 (on.map aJ))->h.get 0=some (.cs (aJ p))->K (.ms (.g 1) 16 0 (on.filter fun q=>!decide (p.prio<=q.prio)).length) (h.set 1 (.arr 16 ((on.filter fun q=>!decide (p.prio<=q.prio)).map aJ)))->
   aB P 72 [.ms (.g 1) 16 0 on.length,.fn 73 [] [.p (.g 0) 0]] h K:=fun h K h1 h0 hK=>
   Oa hG (p:=fun q=>decide (p.prio<=q.prio)) (by omega) h1 (fun e _ rows K hK=>prioGe_ok hG (by rw [aA.pI (by decide)];exact h0) hK) hK
  have Rc:∀ (h:aA) (K:V->aA->Prop),h.get 1=some (.arr 16 ((on.filter fun q=>!decide (p.prio<=q.prio)).map aJ))->K (.bY []) (h.set 1 (.arr 16 (lo.map aJ)))->
   aB P 74 [.ms (.g 1) 16 0 (on.filter fun q=>!decide (p.prio<=q.prio)).length,.fn 75 [] []] h K:=fun h K h1 hK=>
   Lw hG Q8 _ (fun a b=>cmpV_ok hG kJ a b) _ vL h1 (by rw [ZC];exact hK)
  ((conv=>whnf);repeat ((first|refine cA (Made.row hm rfl) ?_|refine cA (Fq _ _ rfl rfl) ?_|refine cA (Rc _ _ rfl) ?_|refine zz ?_)<;>(conv=>whnf)))
  have iO:(lo.map aJ).length=lo.length:=List.length_map _
  rw [<-aeS]
  refine bC.by (fun q fr st=>∃ (i:Nat) (b:Bool) (es:List aU) (n:Nat),i<=lo.length/\q=lo.length - i/\es=(lo.take i).map (·.name)/\(b=false->es=[])/\n=es.length/\
   fr=[(24,.i .i64 i),(23,.i .i64 lo.length),(22,.ms (.g 1) 16 0 lo.length),(9,aeQ b n),(8,.ms (.g 1) 16 0 lo.length),(4,.p (.g 0) 0),(3,.p (.l 0) 0),(2,.s node)]/\
   st=⟨ZB b p lo es,⟨1,[(0,.cs [.sl none 6 (s.nodes.map aS),.sl none 16 (s.aF.map aJ)])]⟩⟩)
   lo.length ⟨_,_,?_,0,false,[],0,Nat.zero_le _,rfl,rfl,fun _=>rfl,rfl,rfl,rfl⟩ ?_
  · exact tG [0,1] [0]
  rintro q fr st ⟨i,b,es,n,hi,rfl,nR,hb,hn,rfl,rfl⟩ R hR
  have DW:es.length=i:=by rw [nR,List.length_map,List.length_take];omega
  (conv=>whnf)
  refine aH.ds (fun cL=>?_) (fun fC=>?_)
  · have cZ:i<lo.length:=by omega
    have he:=List.getElem?_eq_getElem cZ
    generalize lo[i]=e at he
    have h1:es++[e.name]=(lo.take (i+1)).map (·.name):=by rw [cG he,List.map_append,<-nR];rfl
    cases b
    · obtain rfl:es=[]:=hb rfl
      (refine cJ @he ?_)
      refine hR (lo.length - (i+1)) _ _ (by omega) ⟨_,_,?_,i+1,true,[]++[e.name],1,by omega,rfl,h1,(fun h=>by cases h),rfl,rfl,rfl⟩
      exact tG [0,1,3] [0]
    · have BA:(es.map bG).length=es.length:=List.length_map _
      have hint:List.drop 0 (List.take (0+n) (es.map bG))++[bG e.name]=(es++[e.name]).map bG:=by
       rw [Nat.zero_add,List.drop_zero,List.take_of_length_le (by omega),List.map_append];rfl
      (refine XL (congrArg some hint) @he ?_)
      refine hR (lo.length - (i+1)) _ _ (by omega) ⟨_,_,?_,i+1,true,es++[e.name],n+1,by omega,rfl,h1,(fun h=>by cases h),by simp [hn],rfl,rfl⟩
      exact tG [0,1,4] [0]
  clear hR
  have eV:es=lo.map (·.name):=by rw [nR,List.take_of_length_le (by omega)]
  have hv:lI s p node=if hY (cH s es) p node then some (rL (gO s p node lo es)) else none:=by
   unfold lI
   rw [<-PI,eV]
  rw [hv]
  have hf:=pR es
  cases b
  · obtain rfl:es=[]:=hb rfl
    have aeT:lo=[]:=List.map_eq_nil_iff.1 eV.symm
    subst aeT
    have Lh:rL (gO s p node [] [])=[]:=by simp [gO,rL]
    rw [Lh]
    generalize hY (cH s []) p node=x at hf
    cases x
    · ((conv=>whnf);repeat ((first|refine cA (Pure.DP Sj Wj rfl) ?_|refine cA (Pure.go hf rfl) ?_|refine zz ?_|refine bC.un rfl ?_)<;>(conv=>whnf)))
      exact rM (sz:=1) rfl
    · ((conv=>whnf);repeat ((first|refine cA (Pure.DP Sj Wj rfl) ?_|refine cA (Pure.go hf rfl) ?_|refine cA (jU (hG _ _ rfl) rfl) ?_|refine sL.un rfl ?_|refine aQ.of (by decide) (by decide) ?_|refine zz ?_|refine bC.un rfl ?_)<;>(conv=>whnf)))
      exact rM (sz:=1) rfl
  · have Bf:∀ (gs:List aU) (k:Nat) (h:aA) (K:V->aA->Prop),gs.length<=1000->h.get k=some (.arr 1 (gs.map bG))->K (lT (cH s gs)) h->aB P 77 [lT s,.ms (.g k) 1 0 gs.length] h K:=fun gs k h K HZ hk hK=>HG hG s gs HZ h6 hs y5 hr hk hK
    have ZD:es.length<=19:=by omega
    subst hn
    generalize hY (cH s es) p node=x at hf
    cases x
    · ((conv=>whnf);repeat ((first|refine cA (Bf es 2 _ _ (by omega) rfl) ?_|refine cA (Pure.go hf rfl) ?_|refine zz ?_)<;>(conv=>whnf)))
      exact rM (sz:=1) rfl
    · ((conv=>whnf);repeat ((first|refine cA (Bf es 2 _ _ (by omega) rfl) ?_|refine cA (Pure.go hf rfl) ?_|refine zz ?_)<;>(conv=>whnf)))
      clear eV hv nR
      refine bC.by (fun q fr st=>∃ (i:Nat) (G:List aU),i<=lo.length/\q=lo.length - i/\G.length<=19/\gO s p node lo es=gO s p node (lo.drop i) G/\
       fr=[(43,.i .i64 i),(42,.i .i64 lo.length),(41,.ms (.g 1) 16 0 lo.length),(9,.ms (.g 2) 1 0 G.length),(4,.p (.g 0) 0),(3,.p (.l 0) 0),(2,.s node)]/\
       st=⟨ZB true p lo G,⟨1,[(0,.cs [.sl none 6 (s.nodes.map aS),.sl none 16 (s.aF.map aJ)])]⟩⟩)
        lo.length ⟨_,_,?_,0,es,Nat.zero_le _,rfl,ZD,rfl,rfl,rfl⟩ ?_
      · exact tG [0,1,2] [0]
      clear hf ZD
      generalize gO s p node lo es=KK
      rintro q fr st ⟨i,G,hi,rfl,hGl,hK,rfl,rfl⟩ R hR
      (conv=>whnf)
      refine aH.ds (fun cL=>?_) (fun fC=>?_)
      · have cZ:i<lo.length:=by omega
        have he:=List.getElem?_eq_getElem cZ
        have y6:lo.drop i=lo[i]::lo.drop (i+1):=List.drop_eq_getElem_cons cZ
        rw [y6,gO] at hK
        generalize lo[i]=e at he hK
        have hf:=pR (D9 G e)
        have OQ:(D9 G e).length<=19:=Nat.le_trans (List.length_filter_le _ _) hGl
        have Fq:∀ (c:Nat) (h:aA) (K:V->aA->Prop),c≠3->h.get c=some (.arr 1 (G.map bG))->h.get 3=some (.cs (aJ e))->K (.ms (.g c) 1 0 (D9 G e).length) (h.set c (.arr 1 ((D9 G e).map bG)))->
         aB P 78 [.ms (.g c) 1 0 G.length,.fn 80 [] [.p (.g 3) 0]] h K:=fun c h K hc h1 h0 hK=>
         N9 hG (p:=fun n=>n==e.name) (by omega) h1 (fun n _ rows K hK=>nameIs_ok hG (by rw [aA.pI (Ne.symm hc)];exact h0) hK) hK
        generalize D9 G e=L at hf OQ Fq hK
        generalize hY (cH s L) p node=y at hf hK
        cases G with
        |nil=>
         cases y
         · ((conv=>whnf);repeat ((first|refine cA (BN hG (Nat.ne_of_beq_eq_false rfl) rfl) ?_|refine cA (Fq 4 _ _ (by decide) rfl rfl) ?_|refine cA (Bf L 4 _ _ (by omega) rfl) ?_|refine cA (Pure.go hf rfl) ?_|refine ye (aG (by omega) he) ?_|refine zz ?_)<;>(conv=>whnf)))
           refine hR (lo.length - (i+1)) _ _ (by omega) ⟨_,_,?_,i+1,[],by omega,rfl,by simp,hK,rfl,rfl⟩
           exact tG [0,1,2] [0]
         · ((conv=>whnf);repeat ((first|refine cA (BN hG (Nat.ne_of_beq_eq_false rfl) rfl) ?_|refine cA (Fq 4 _ _ (by decide) rfl rfl) ?_|refine cA (Bf L 4 _ _ (by omega) rfl) ?_|refine cA (Pure.go hf rfl) ?_|refine ye (aG (by omega) he) ?_|refine zz ?_)<;>(conv=>whnf)))
           refine hR (lo.length - (i+1)) _ _ (by omega) ⟨_,_,?_,i+1,L,by omega,rfl,OQ,hK,rfl,rfl⟩
           exact tG [0,1,4] [0]
        |cons g0 gr=>
         cases y
         · ((conv=>whnf);repeat ((first|refine cA (Ak hG g0 gr (by omega) (Nat.ne_of_beq_eq_false rfl) rfl) ?_|refine cA (Fq 5 _ _ (by decide) rfl rfl) ?_|refine cA (Bf L 5 _ _ (by omega) rfl) ?_|refine cA (Pure.go hf rfl) ?_|refine ye (aG (by omega) he) ?_|refine zz ?_)<;>(conv=>whnf)))
           refine hR (lo.length - (i+1)) _ _ (by omega) ⟨_,_,?_,i+1,g0::gr,by omega,rfl,hGl,hK,rfl,rfl⟩
           exact tG [0,1,2] [0]
         · ((conv=>whnf);repeat ((first|refine cA (Ak hG g0 gr (by omega) (Nat.ne_of_beq_eq_false rfl) rfl) ?_|refine cA (Fq 5 _ _ (by decide) rfl rfl) ?_|refine cA (Bf L 5 _ _ (by omega) rfl) ?_|refine cA (Pure.go hf rfl) ?_|refine ye (aG (by omega) he) ?_|refine zz ?_)<;>(conv=>whnf)))
           refine hR (lo.length - (i+1)) _ _ (by omega) ⟨_,_,?_,i+1,L,by omega,rfl,OQ,hK,rfl,rfl⟩
           exact tG [0,1,5] [0]
      · have Wu:lo.drop i=[]:=List.drop_of_length_le (by omega)
        rw [Wu,gO] at hK
        rw [hK]
        ((conv=>whnf);repeat ((first|refine cA (hS G 2 _ _ (by omega) rfl) ?_|refine zz ?_)<;>(conv=>whnf)))
        have VD:(rL G).length=G.length:=(List.mergeSort_perm G _).length_eq
        refine Ob rfl (fP (fun _=>rfl) (rL G)) (by rw [List.length_map];omega) ?_
        rw [List.drop_zero,List.take_of_length_le (by rw [List.length_map];omega)]
        rfl
end
end Go.Eng
