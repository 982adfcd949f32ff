/-
Where the fewest go: what it costs, and the least of it.
-/
import Derived.Test.YtmfelikepmmjkaaGreatY37
import Derived.Test.YtmfelikepmmjkaaGreatY38
import Derived.Test.YtmfelikepmmjkaaGreatY39
import Derived.Test.YtmfelikepmmjkaaGreatY40
import Derived.Test.YtmfelikepmmjkaaGreatY33
import Derived.Test.YtmfelikepmmjkaaGreatY35
import Derived.Test.YtmfelikepmmjkaaGreatY24
import Derived.Test.YtmfelikepmmjkaaGreatY23
set_option linter.unusedVariables false
set_option linter.unusedSimpArgs false
set_option maxHeartbeats 16000000
set_option maxRecDepth 20000
namespace Go.Eng
open Go
def yO (s:eG):List aU->Int->Int->Int×Int
 |[],m,u=>(m,u)
 |n::r,m,u=>yO s r (lU m ((s.aF.find? fun q=>q.name==n).getD Jp).prio) (IntKind.i64.wrap (u+((s.aF.find? fun q=>q.name==n).getD Jp).prio))
def F7 (s:eG) (l:List aU):Int×Int×Int:=((yO s l (-1) 0).1,l.length,(yO s l (-1) 0).2)
def MH (c:Int×Int×Int):V:=.agg [.i .i64 c.1,.i .i64 c.2.1,.i .i64 c.2.2]
def MI (a b:Int×Int×Int):Bool:=
 decide ((if Be a.1 b.1=0 then if Be a.2.1 b.2.1=0 then Be a.2.2 b.2.2 else Be a.2.1 b.2.1 else Be a.1 b.1)<0)
abbrev Am:=Option (aU×List aU×(Int×Int×Int))
def gP (s:eG) (p:aO) (b:Am) (n:cI):Am:=
 match lI s p n.name with
 |none=>b
 |some l=>match b with
  |none=>some (n.name,l,F7 s l)
  |some d=>if MI (F7 s l) d.2.2 then some (n.name,l,F7 s l) else some d
def yP (s:eG) (p:aO):Am:=s.nodes.foldl (gP s p) none
section
variable {P:Program} (hG:bN P AF.fns.get)
include hG
theorem Lz (l:List cI) (hl:l.length<=1000):Pure P 118 [.sl none 6 (l.map aS)] (·=.sl none 6 (l.map aS)):=by
 refine aM (hG _ AF.f118 rfl) rfl ?_
 cases l with
 |nil=>
  (refine zr ?_)
  refine A2.mk fun b=>?_
  cases b
  · (refine zr ?_)
    exact sM (ds:=[]) rfl rfl (Nat.le_refl _) rfl
  · (refine zr ?_)
    exact pure_nil rfl
 |cons x r=>
  have hr:bR (0+((x::r).map aS).length) 88=true:=by
   rw [List.length_map,Nat.zero_add]
   unfold bR
   exact decide_eq_true (by omega)
  ((conv=>whnf);repeat ((first|refine ye (Ae (fun _=>rfl) (x::r)) ?_|refine aK.mk hr ?_|refine zz ?_)<;>(conv=>whnf)))
  refine sM rfl (fP (fun _=>rfl) (x::r)) (by simp) ?_
  simp [List.take_of_length_le]
theorem cmpN_ok (kJ:qC P) (a b:cI):Pure P 120 [.agg (aS a),.agg (aS b)] (·=.i .i64 (mF a.name b.name)):=by
 have h2:=compare_ok hG kJ a.name b.name
 generalize mF a.name b.name=v at h2
 refine aM (hG _ AF.f120 rfl) rfl ?_
 (refine cJ @h2 ?_)
 exact aE rfl rfl
theorem isortn_ok (kJ:qC P) (es:List cI) (hl:es.length<=19) (hs:es.Pairwise fun a b=>cC a.name b.name):
 Pure P 234 [.sl none 6 (es.map aS),.i .i64 0,.i .i64 es.length,.fn 120 [] []] (·=.bY []):=by
 have iO:(es.map aS).length=es.length:=List.length_map _
 refine aM (hG _ AF.f234 rfl) rfl ?_
 (refine zr ?_)
 refine bC.by (fun q fr st=>∃ i:Nat,1<=i/\i<=es.length+1/\q=es.length+1 - i/\
  fr=[(8,.i .i64 i),(3,.fn 120 [] []),(2,.i .i64 es.length),(1,.i .i64 0),(0,.sl none 6 (es.map aS))]/\st=dG gZ)
  es.length ⟨_,_,?_,1,by omega,by omega,by omega,rfl,rfl⟩ ?_
 · exact yN
 rintro q fr st ⟨i,hi1,hi,rfl,rfl,rfl⟩ R hR
 (conv=>whnf)
 refine aH.ds (fun cL=>?_) (fun fC=>?_)
 · have cZ:i<es.length:=by omega
   have Kb:i - 1<es.length:=by omega
   have he:=List.getElem?_eq_getElem cZ
   have hf:=List.getElem?_eq_getElem Kb
   generalize es[i]=e at he
   generalize es[i - 1]=f at hf
   have pR:=lG (Ag hs (by omega:i - 1<i) hf he)
   have hc:=cmpN_ok hG kJ e f
   generalize mF e.name f.name=c at pR hc
   ((conv=>whnf);repeat ((first|refine cA (Pure.go hc rfl) ?_|refine ye (aG (by omega) he) ?_|refine ye (aG (by omega) hf) ?_|refine zz ?_|refine bC.un rfl ?_)<;>(conv=>whnf)))
   refine hR (es.length+1 - (i+1)) _ _ (by omega) ⟨_,_,?_,i+1,by omega,by omega,rfl,rfl,rfl⟩
   exact yN
 · (refine zr ?_)
   exact aE rfl rfl
theorem stablecn_ok (kJ:qC P) (es:List cI) (hl:es.length<=19) (hs:es.Pairwise fun a b=>cC a.name b.name):
 Pure P 216 [.sl none 6 (es.map aS),.i .i64 es.length,.fn 120 [] []] (·=.bY []):=by
 have h:=isortn_ok hG kJ es hl hs
 refine aM (hG _ AF.f216 rfl) rfl ?_
 ((conv=>whnf);repeat ((first|refine cA (Pure.go h rfl) ?_|refine zz ?_|refine bC.un rfl ?_)<;>(conv=>whnf)))
 exact aE rfl rfl
theorem stablen_ok (kJ:qC P) (es:List cI) (hl:es.length<=19) (hs:es.Pairwise fun a b=>cC a.name b.name):
 Pure P 119 [.sl none 6 (es.map aS),.fn 120 [] []] (·=.bY []):=by
 have h:=stablecn_ok hG kJ es hl hs
 have iO:(es.map aS).length=es.length:=List.length_map _
 refine aM (hG _ AF.f119 rfl) rfl ?_
 (refine zr ?_)
 rw [iO]
 (refine cJ @h ?_)
 exact aE rfl rfl
theorem lessC_ok (a b:Int×Int×Int):Pure P 122 [MH a,MH b] (·=.b (MI a b)):=by
 obtain ⟨a1,a2,a3⟩:=a
 obtain ⟨b1,b2,b3⟩:=b
 have h1:=cmpInt_ok hG a1 b1
 have h2:=cmpInt_ok hG a2 b2
 have h3:=cmpInt_ok hG a3 b3
 unfold MI
 dsimp only
 generalize Be a1 b1=x at h1
 generalize Be a2 b2=y at h2
 generalize Be a3 b3=z at h3
 refine aM (hG _ AF.f122 rfl) rfl ?_
 by_cases hx:x=0<;>by_cases hy:y=0<;>by_cases hz:z=0
 all_goals (try subst hx)
 all_goals (try subst hy)
 all_goals (try subst hz)
 all_goals ((conv=>whnf);repeat ((first|refine cA (Pure.go h1 rfl) ?_|refine cA (Pure.go h2 rfl) ?_|refine cA (Pure.go h3 rfl) ?_|refine cA (jU (hG _ _ rfl) rfl) ?_|refine sL.un rfl ?_|refine zz ?_|refine bC.un rfl ?_)<;>(conv=>whnf)))
 all_goals (refine aE rfl ?_)
 all_goals first|rfl|(simp [*];done)
theorem costs_ok (s:eG) (l:List aU) (hs:s.ok) (hr:∀ q∈s.aF,iP q) (hl:l.length<=1000):Pure P 121 [lT s,.sl none 1 (l.map bG)] (·=MH (F7 s l)):=by
 have iO:(l.map bG).length=l.length:=List.length_map _
 refine aM (hG _ AF.f121 rfl) rfl ?_
 (refine zr ?_)
 refine bC.by (fun q fr st=>∃ (i:Nat) (m u:Int),i<=l.length/\q=l.length - i/\yO s l (-1) 0=yO s (l.drop i) m u/\
  fr=[(15,.i .i64 i),(14,.i .i64 (l.map bG).length),(13,.sl none 1 (l.map bG)),(5,.p (.l 2) 0),(4,.p (.l 1) 0),(2,.p (.l 0) 0)]/\
  st=⟨gZ,⟨3,[(2,.cs [.i .i64 m,.i .i64 (l.map bG).length,.i .i64 u]),(1,.cs [.i .i64 0,.i .i64 0,.i .i64 0]),(0,.cs [.sl none 6 (s.nodes.map aS),.sl none 16 (s.aF.map aJ)])]⟩⟩)
  l.length ⟨_,_,?_,0,-1,0,Nat.zero_le _,rfl,rfl,rfl,rfl⟩ ?_
 · exact tL [0,1,2]
 rintro q fr st ⟨i,m,u,hi,rfl,hc,rfl,rfl⟩ R hR
 (conv=>whnf)
 refine aH.ds (fun cL=>?_) (fun fC=>?_)
 · have cZ:i<l.length:=by omega
   have he:=List.getElem?_eq_getElem cZ
   have y6:l.drop i=l[i]::l.drop (i+1):=List.drop_eq_getElem_cons cZ
   rw [y6,yO] at hc
   generalize l[i]=e at he hc
   have hg:=statePod_ok hG s e hs.aF hr
   obtain ⟨z,hz⟩:∃ z,z=(s.aF.find? fun q=>q.name==e).getD Jp:=⟨_,rfl⟩
   have UC:∃ b:Bool,Tx (s.aF.find? fun q=>q.name==e)=.bY [.agg (aJ z),.b b]:=by
    rw [hz]
    cases s.aF.find? fun q=>q.name==e with
    |none=>exact ⟨_,rfl⟩
    |some q=>exact ⟨_,rfl⟩
   obtain ⟨b,hb⟩:=UC
   rw [hb] at hg
   rw [<-hz] at hc
   ((conv=>whnf);repeat ((first|refine cA (Pure.go hg rfl) ?_|refine aZ.of (Tt (z:=lU m z.prio) rfl) ?_|refine aQ.gS (by omega) (by omega) ?_|refine aQ.mk ?_|refine ye (aG (by omega) he) ?_|refine zz ?_)<;>(conv=>whnf)))
   refine hR (l.length - (i+1)) _ _ (by omega) ⟨_,_,?_,i+1,lU m z.prio,_,by omega,rfl,hc,rfl,rfl⟩
   exact tL [0,1,2]
 · have Wu:l.drop i=[]:=List.drop_of_length_le (by omega)
   rw [Wu,yO] at hc
   (refine zr ?_)
   refine aE rfl ?_
   unfold MH F7
   rw [hc,iO]
end
open Go
def ZE (b:Am):List V:=
 match b with
 |none=>[.i .i64 0,.i .i64 0,.i .i64 0]
 |some d=>[.i .i64 d.2.2.1,.i .i64 d.2.2.2.1,.i .i64 d.2.2.2.2]
def doC (uT:aU) (b:Am):List V:=
 match b with
 |none=>[.s [],.s [],.sl none 1 []]
 |some d=>[.s uT,.s d.1,.sl none 1 (d.2.1.map bG)]
section
variable {P:Program} (hG:bN P AF.fns.get)
include hG
theorem evbest_ok (kJ:qC P) (hS:Al P 81 61)
 (s:eG) (p:aO) (hs:s.ok) (hp:p.fit) (y5:Small s) (h6:s.nodes.length<=6) (h19:s.aF.length<=19) (hr:∀ q∈s.aF,iP q) (U3:s.nodes.Pairwise fun a b=>cC a.name b.name):
 Pure P 50 [lT s,.agg (aJ p)] (·=.bY [.agg (doC p.name (yP s p)),.b (yP s p).isSome]):=by
 have iO:(s.nodes.map aS).length=s.nodes.length:=List.length_map _
 have hc:=Lz hG s.nodes (by omega)
 have vO:=stablen_ok hG kJ s.nodes (by omega) U3
 refine aM (hG _ AF.f50 rfl) rfl ?_
 (refine iU @hc @vO ?_)
 refine bC.by (fun q fr st=>∃ (i:Nat) (b:Am),i<=s.nodes.length/\q=s.nodes.length - i/\yP s p=(s.nodes.drop i).foldl (gP s p) b/\
  fr=[(22,.i .i64 i),(21,.i .i64 (s.nodes.map aS).length),(20,.sl none 6 (s.nodes.map aS)),(8,.b b.isSome),(7,.p (.l 4) 0),(6,.p (.l 3) 0),(4,.p (.l 2) 0),(3,.p (.l 1) 0),(2,.p (.l 0) 0)]/\
  st=⟨gZ,⟨5,[(4,.cs (ZE b)),(3,.cs (doC p.name b)),(2,.cs [.s [],.s [],.sl none 1 []]),(1,.cs (aJ p)),(0,.cs [.sl none 6 (s.nodes.map aS),.sl none 16 (s.aF.map aJ)])]⟩⟩)
  s.nodes.length ⟨_,_,?_,0,none,Nat.zero_le _,rfl,rfl,rfl,rfl⟩ ?_
 · exact tL [0,1,2,3,4]
 rintro q fr st ⟨i,b,hi,rfl,hb,rfl,rfl⟩ R hR
 generalize yP s p=E at hb hR ⊢
 (conv=>whnf)
 refine aH.ds (fun cL=>?_) (fun fC=>?_)
 · have cZ:i<s.nodes.length:=by omega
   have he:=List.getElem?_eq_getElem cZ
   have y6:s.nodes.drop i=s.nodes[i]::s.nodes.drop (i+1):=List.drop_eq_getElem_cons cZ
   rw [y6,List.foldl_cons] at hb
   generalize s.nodes[i]=e at he hb
   have hv:=vict_ok hG kJ hS s p e.name hs hp y5 (by omega) h19 hr
   cases GP:lI s p e.name with
   |none=>
    rw [GP] at hv
    have h1:gP s p b e=b:=by unfold gP;rw [GP]
    rw [h1] at hb
    cases b
    all_goals (refine iU @hv @he ?_)
    all_goals refine hR (s.nodes.length - (i+1)) _ _ (by omega) ⟨_,_,?_,i+1,_,by omega,rfl,hb,rfl,rfl⟩
    all_goals exact tL [0,1,2,3,4]
   |some l=>
    rw [GP] at hv
    have OQ:=Jx GP
    have hco:=costs_ok hG s l hs hr (by omega)
    obtain ⟨cc,Cw⟩:∃ cc,cc=F7 s l:=⟨_,rfl⟩
    rw [<-Cw] at hco
    cases b with
    |none=>
     have h1:gP s p none e=some (e.name,l,cc):=by unfold gP;rw [GP,Cw]
     rw [h1] at hb
     (refine pU @hv @hco @he ?_)
     refine hR (s.nodes.length - (i+1)) _ _ (by omega) ⟨_,_,?_,i+1,some (e.name,l,cc),by omega,rfl,hb,rfl,rfl⟩
     exact tL [0,1,2,3,4]
    |some d=>
     obtain ⟨d1,d2,dc⟩:=d
     have hle:=lessC_ok hG cc dc
     cases OV:MI cc dc with
     |true=>
      have h1:gP s p (some (d1,d2,dc)) e=some (e.name,l,cc):=by unfold gP;rw [GP];dsimp only;rw [<-Cw,if_pos OV]
      rw [h1] at hb
      rw [OV] at hle
      (refine O0 @hv @hco @hle @he ?_)
      refine hR (s.nodes.length - (i+1)) _ _ (by omega) ⟨_,_,?_,i+1,some (e.name,l,cc),by omega,rfl,hb,rfl,rfl⟩
      exact tL [0,1,2,3,4]
     |false=>
      have h1:gP s p (some (d1,d2,dc)) e=some (d1,d2,dc):=by unfold gP;rw [GP];dsimp only;rw [<-Cw,if_neg (by rw [OV];decide)]
      rw [h1] at hb
      rw [OV] at hle
      (refine O0 @hv @hco @hle @he ?_)
      refine hR (s.nodes.length - (i+1)) _ _ (by omega) ⟨_,_,?_,i+1,some (d1,d2,dc),by omega,rfl,hb,rfl,rfl⟩
      exact tL [0,1,2,3,4]
 · have Wu:s.nodes.drop i=[]:=List.drop_of_length_le (by omega)
   rw [Wu,List.foldl_nil] at hb
   subst hb
   cases E
   all_goals (refine zr ?_)
   all_goals exact aE rfl rfl
end
open Go
theorem Oh {s:eG} {p:aO} {b:Am} {n:cI} (h:∀ d,b=some d->lI s p d.1=some d.2.1):∀ d,gP s p b n=some d->lI s p d.1=some d.2.1:=by
 intro d hd
 unfold gP at hd
 cases hv:lI s p n.name with
 |none=>rw [hv] at hd;exact h d hd
 |some l=>
  rw [hv] at hd
  cases b with
  |none=>cases hd;exact hv
  |some e=>
   dsimp only at hd
   split at hd
   · cases hd;exact hv
   · exact h d hd
theorem Ga {s:eG} {p:aO}:∀ (N:List cI) (b:Am),(∀ d,b=some d->lI s p d.1=some d.2.1)->∀ d,N.foldl (gP s p) b=some d->lI s p d.1=some d.2.1
 |[],_,h=>h
 |n::r,b,h=>by
  rw [List.foldl_cons]
  exact Ga r _ (Oh h)
theorem LD {s:eG} {p:aO} {d:aU×List aU×(Int×Int×Int)} (h:yP s p=some d):lI s p d.1=some d.2.1:=Ga s.nodes none (fun d hd=>by cases hd) d h
open Go
theorem LF {s:eG} {p:aO} {pack:Bool}:(iG s p=[]->decide ((xU s p pack).1>=0)=false)/\(iG s p≠[]->decide ((xU s p pack).1>=0)=true/\(xU s p pack).2∈iG s p):=by
 constructor
 · intro h
   unfold xU
   rw [h]
   rfl
 · intro h
   cases hw:iG s p with
   |nil=>exact absurd hw h
   |cons x r=>
    have hx:x∈iG s p:=by rw [hw];exact .head _
    have h1:=(Rk (pack:=pack) (F4 hx)).1
    have h2:=(HL (s:=s) (p:=p) (pack:=pack) (L:=iG s p) (b:=-1) (a:=[])).2 x hx
    have h3:=HM (s:=s) (p:=p) (pack:=pack) (L:=iG s p) (b:=-1) (a:=[])
    rw [hw] at h2 h3
    unfold xU
    rw [hw]
    have h4:0<=(jH s p pack (x::r) (-1) []).1:=by omega
    refine ⟨decide_eq_true h4,?_⟩
    rcases h3 with h3|⟨h3,_⟩
    · rw [h3] at h4
      exact absurd h4 (by decide)
    · exact h3
section
variable {P:Program} (hG:bN P AF.fns.get)
include hG
theorem plan_ok (s:eG) (p:aO) (pack:Bool) (n:aU) (x:Bool) (E:Am) (h1:Pure P 29 [lT s,.agg (aJ p),.b pack] (·=.bY [.s n,.b x])) (h2:Pure P 50 [lT s,.agg (aJ p)] (·=.bY [.agg (doC p.name E),.b E.isSome])):
 Pure P 13 [lT s,.agg (aJ p),.b pack] (·=if x then .bY [.agg [.s p.name,.s n,.sl none 1 []],.b true] else .bY [.agg (doC p.name E),.b E.isSome]):=by
 refine aM (hG _ AF.f13 rfl) rfl ?_
 cases x
 · cases E
   all_goals (refine iU @h1 @h2 ?_)
   all_goals exact aE rfl rfl
 · (refine iU @h1 @h2 ?_)
   exact rJ (ds:=[.s p.name,.s n,.sl none 1 []]) yM rfl rfl
end
end Go.Eng
