/-
Where the fewest go: what it costs, and the least of it.
-/
import Derived.Test.YtmfelikepmmjkaaGreatX26
import Derived.Test.YtmfelikepmmjkaaGreatX25
set_option linter.unusedVariables false
set_option linter.unusedSimpArgs false
set_option maxHeartbeats 16000000
set_option maxRecDepth 20000
namespace Go.Eng
open Go
def Am (s:dY):List aU->Int->Int->Int×Int
 |[],m,u=>(m,u)
 |n::r,m,u=>Am s r (mW m ((s.aE.find? fun q=>q.name==n).getD KA).prio) (IntKind.i64.wrap (u+((s.aE.find? fun q=>q.name==n).getD KA).prio))
def Hd (s:dY) (l:List aU):Int×Int×Int:=((Am s l (-1) 0).1,l.length,(Am s l (-1) 0).2)
def Od (c:Int×Int×Int):V:=.agg [.i .i64 c.1,.i .i64 c.2.1,.i .i64 c.2.2]
def Oe (a b:Int×Int×Int):Bool:=
 decide ((if Cl a.1 b.1=0 then if Cl a.2.1 b.2.1=0 then Cl a.2.2 b.2.2 else Cl a.2.1 b.2.1 else Cl a.1 b.1)<0)
abbrev Be:=Option (aU×List aU×(Int×Int×Int))
def iE (s:dY) (p:aL) (b:Be) (n:bK):Be:=
 match mJ s p n.name with
 |none=>b
 |some l=>match b with
  |none=>some (n.name,l,Hd s l)
  |some d=>if Oe (Hd s l) d.2.2 then some (n.name,l,Hd s l) else some d
def An (s:dY) (p:aL):Be:=s.nodes.foldl (iE s p) none
section
variable {P:Program} (hG:bP P AF.fns.get)
include hG
theorem MX (l:List bK) (hl:l.length<=1000):Pure P 118 [.sl none 6 (l.map aK)] (·=.sl none 6 (l.map aK)):=by
 refine aP (hG _ AF.f118 rfl) rfl ?_
 cases l with
 |nil=>
  (refine zr ?_)
  refine B0.mk fun b=>?_
  cases b
  · (refine zr ?_)
    exact uE (ds:=[]) rfl rfl (Nat.le_refl _) rfl
  · (refine zr ?_)
    exact pure_nil rfl
 |cons x r=>
  have hr:bT (0+((x::r).map aK).length) 88=true:=by
   rw [List.length_map,Nat.zero_add]
   unfold bT
   exact decide_eq_true (by omega)
  ((conv=>whnf);repeat ((first|refine ye (A8 (fun _=>rfl) (x::r)) ?_|refine aM.mk hr ?_|refine zz ?_)<;>(conv=>whnf)))
  refine uE rfl (gI (fun _=>rfl) (x::r)) (by simp) ?_
  simp [List.take_of_length_le]
theorem cmpN_ok (eK:gZ P) (a b:bK):Pure P 120 [.agg (aK a),.agg (aK b)] (·=.i .i64 (jV a.name b.name)):=by
 have h2:=compare_ok hG eK a.name b.name
 generalize jV a.name b.name=v at h2
 refine aP (hG _ AF.f120 rfl) rfl ?_
 (refine cD @h2 ?_)
 exact aG rfl rfl
theorem isortn_ok (eK:gZ P) (es:List bK) (hl:es.length<=19) (hs:es.Pairwise fun a b=>bR a.name b.name):
 Pure P 234 [.sl none 6 (es.map aK),.i .i64 0,.i .i64 es.length,.fn 120 [] []] (·=.bY []):=by
 have gK:(es.map aK).length=es.length:=List.length_map _
 refine aP (hG _ AF.f234 rfl) rfl ?_
 (refine zr ?_)
 refine bD.by (fun q fr st=>∃ i:Nat,1<=i/\i<=es.length+1/\q=es.length+1 - i/\
  fr=[(8,.i .i64 i),(3,.fn 120 [] []),(2,.i .i64 es.length),(1,.i .i64 0),(0,.sl none 6 (es.map aK))]/\st=dP iJ)
  es.length ⟨_,_,?_,1,by omega,by omega,by omega,rfl,rfl⟩ ?_
 · exact Ak
 rintro q fr st ⟨i,Uv,hi,rfl,rfl,rfl⟩ R hR
 (conv=>whnf)
 refine aH.ds (fun cO=>?_) (fun fE=>?_)
 · have cZ:i<es.length:=by omega
   have GG:i - 1<es.length:=by omega
   have he:=List.getElem?_eq_getElem cZ
   have hf:=List.getElem?_eq_getElem GG
   generalize es[i]=e at he
   generalize es[i - 1]=f at hf
   have jE:=fW (lF hs (by omega:i - 1<i) hf he)
   have hc:=cmpN_ok hG eK e f
   generalize jV e.name f.name=c at jE hc
   ((conv=>whnf);repeat ((first|refine cA (Pure.go hc rfl) ?_|refine ye (aF (by omega) he) ?_|refine ye (aF (by omega) hf) ?_|refine zz ?_|refine bD.un rfl ?_)<;>(conv=>whnf)))
   refine hR (es.length+1 - (i+1)) _ _ (by omega) ⟨_,_,?_,i+1,by omega,by omega,rfl,rfl,rfl⟩
   exact Ak
 · (refine zr ?_)
   exact aG rfl rfl
theorem stablecn_ok (eK:gZ P) (es:List bK) (hl:es.length<=19) (hs:es.Pairwise fun a b=>bR a.name b.name):
 Pure P 216 [.sl none 6 (es.map aK),.i .i64 es.length,.fn 120 [] []] (·=.bY []):=by
 have h:=isortn_ok hG eK es hl hs
 refine aP (hG _ AF.f216 rfl) rfl ?_
 ((conv=>whnf);repeat ((first|refine cA (Pure.go h rfl) ?_|refine zz ?_|refine bD.un rfl ?_)<;>(conv=>whnf)))
 exact aG rfl rfl
theorem stablen_ok (eK:gZ P) (es:List bK) (hl:es.length<=19) (hs:es.Pairwise fun a b=>bR a.name b.name):
 Pure P 119 [.sl none 6 (es.map aK),.fn 120 [] []] (·=.bY []):=by
 have h:=stablecn_ok hG eK es hl hs
 have gK:(es.map aK).length=es.length:=List.length_map _
 refine aP (hG _ AF.f119 rfl) rfl ?_
 (refine zr ?_)
 rw [gK]
 (refine cD @h ?_)
 exact aG rfl rfl
theorem lessC_ok (a b:Int×Int×Int):Pure P 122 [Od a,Od b] (·=.b (Oe a b)):=by
 obtain ⟨a1,a2,a3⟩:=a
 obtain ⟨b1,b2,b3⟩:=b
 have h1:=cmpInt_ok hG a1 b1
 have h2:=cmpInt_ok hG a2 b2
 have h3:=cmpInt_ok hG a3 b3
 unfold Oe
 dsimp only
 generalize Cl a1 b1=x at h1
 generalize Cl a2 b2=y at h2
 generalize Cl a3 b3=z at h3
 refine aP (hG _ AF.f122 rfl) rfl ?_
 by_cases hx:x=0<;>by_cases hy:y=0<;>by_cases hz:z=0
 all_goals (try subst hx)
 all_goals (try subst hy)
 all_goals (try subst hz)
 all_goals ((conv=>whnf);repeat ((first|refine cA (Pure.go h1 rfl) ?_|refine cA (Pure.go h2 rfl) ?_|refine cA (Pure.go h3 rfl) ?_|refine cA (jX (hG _ _ rfl) rfl) ?_|refine sI.un rfl ?_|refine zz ?_|refine bD.un rfl ?_)<;>(conv=>whnf)))
 all_goals (refine aG rfl ?_)
 all_goals first|rfl|(simp [*];done)
theorem costs_ok (s:dY) (l:List aU) (hs:s.ok) (hr:∀ q∈s.aE,iM q) (hl:l.length<=1000):Pure P 121 [kS s,.sl none 1 (l.map bE)] (·=Od (Hd s l)):=by
 have gK:(l.map bE).length=l.length:=List.length_map _
 refine aP (hG _ AF.f121 rfl) rfl ?_
 (refine zr ?_)
 refine bD.by (fun q fr st=>∃ (i:Nat) (m u:Int),i<=l.length/\q=l.length - i/\Am s l (-1) 0=Am s (l.drop i) m u/\
  fr=[(15,.i .i64 i),(14,.i .i64 (l.map bE).length),(13,.sl none 1 (l.map bE)),(5,.p (.l 2) 0),(4,.p (.l 1) 0),(2,.p (.l 0) 0)]/\
  st=⟨iJ,⟨3,[(2,.cs [.i .i64 m,.i .i64 (l.map bE).length,.i .i64 u]),(1,.cs [.i .i64 0,.i .i64 0,.i .i64 0]),(0,.cs [.sl none 6 (s.nodes.map aK),.sl none 16 (s.aE.map aI)])]⟩⟩)
  l.length ⟨_,_,?_,0,-1,0,Nat.zero_le _,rfl,rfl,rfl,rfl⟩ ?_
 · exact tL [0,1,2]
 rintro q fr st ⟨i,m,u,hi,rfl,hc,rfl,rfl⟩ R hR
 (conv=>whnf)
 refine aH.ds (fun cO=>?_) (fun fE=>?_)
 · have cZ:i<l.length:=by omega
   have he:=List.getElem?_eq_getElem cZ
   have AB:l.drop i=l[i]::l.drop (i+1):=List.drop_eq_getElem_cons cZ
   rw [AB,Am] at hc
   generalize l[i]=e at he hc
   have hg:=statePod_ok hG s e hs.aE hr
   obtain ⟨z,hz⟩:∃ z,z=(s.aE.find? fun q=>q.name==e).getD KA:=⟨_,rfl⟩
   have RK:∃ b:Bool,Vo (s.aE.find? fun q=>q.name==e)=.bY [.agg (aI z),.b b]:=by
    rw [hz]
    cases s.aE.find? fun q=>q.name==e with
    |none=>exact ⟨_,rfl⟩
    |some q=>exact ⟨_,rfl⟩
   obtain ⟨b,hb⟩:=RK
   rw [hb] at hg
   rw [<-hz] at hc
   ((conv=>whnf);repeat ((first|refine cA (Pure.go hg rfl) ?_|refine bC.of (Vk (z:=mW m z.prio) rfl) ?_|refine aR.gA (by omega) (by omega) ?_|refine aR.mk ?_|refine ye (aF (by omega) he) ?_|refine zz ?_)<;>(conv=>whnf)))
   refine hR (l.length - (i+1)) _ _ (by omega) ⟨_,_,?_,i+1,mW m z.prio,_,by omega,rfl,hc,rfl,rfl⟩
   exact tL [0,1,2]
 · have Yu:l.drop i=[]:=List.drop_of_length_le (by omega)
   rw [Yu,Am] at hc
   (refine zr ?_)
   refine aG rfl ?_
   unfold Od Hd
   rw [hc,gK]
end
open Go
theorem Of {s:dY} {p:aL} {node:aU}:∀ {lo:List aL} {gone:List aU},(iD s p node lo gone).length<=gone.length
 |[],_=>Nat.le_refl _
 |q::r,gone=>by
  rw [iD]
  refine Nat.le_trans Of ?_
  split
  · exact List.length_filter_le _ _
  · exact Nat.le_refl _
theorem KJ {s:dY} {p:aL} {node:aU} {l:List aU} (h:mJ s p node=some l):l.length<=s.aE.length:=by
 unfold mJ at h
 split at h
 · cases h
   have h1:(tH (iD s p node (mI s p node) ((mI s p node).map (·.name)))).length=_:=(List.mergeSort_perm _ _).length_eq
   have h2:=Of (s:=s) (p:=p) (node:=node) (lo:=mI s p node) (gone:=(mI s p node).map (·.name))
   have h3:(mI s p node).length<=s.aE.length:=by
    unfold mI iN
    rw [uG]
    simp only [List.length_nil,Nat.zero_add]
    exact Nat.le_trans (List.length_filter_le _ _) (List.length_filter_le _ _)
   rw [List.length_map] at h2
   omega
 · cases h
open Go
def acS (b:Be):List V:=
 match b with
 |none=>[.i .i64 0,.i .i64 0,.i .i64 0]
 |some d=>[.i .i64 d.2.2.1,.i .i64 d.2.2.2.1,.i .i64 d.2.2.2.2]
def doC (pT:aU) (b:Be):List V:=
 match b with
 |none=>[.s [],.s [],.sl none 1 []]
 |some d=>[.s pT,.s d.1,.sl none 1 (d.2.1.map bE)]
section
variable {P:Program} (hG:bP P AF.fns.get)
include hG
theorem evbest_ok (eK:gZ P) (hS:Bd P 81 61)
 (s:dY) (p:aL) (hs:s.ok) (hp:p.fit) (wO:Small s) (h6:s.nodes.length<=6) (h19:s.aE.length<=19) (hr:∀ q∈s.aE,iM q) (PL:s.nodes.Pairwise fun a b=>bR a.name b.name):
 Pure P 50 [kS s,.agg (aI p)] (·=.bY [.agg (doC p.name (An s p)),.b (An s p).isSome]):=by
 have gK:(s.nodes.map aK).length=s.nodes.length:=List.length_map _
 have hc:=MX hG s.nodes (by omega)
 have mY:=stablen_ok hG eK s.nodes (by omega) PL
 refine aP (hG _ AF.f50 rfl) rfl ?_
 (refine iG @hc @mY ?_)
 refine bD.by (fun q fr st=>∃ (i:Nat) (b:Be),i<=s.nodes.length/\q=s.nodes.length - i/\An s p=(s.nodes.drop i).foldl (iE s p) b/\
  fr=[(22,.i .i64 i),(21,.i .i64 (s.nodes.map aK).length),(20,.sl none 6 (s.nodes.map aK)),(8,.b b.isSome),(7,.p (.l 4) 0),(6,.p (.l 3) 0),(4,.p (.l 2) 0),(3,.p (.l 1) 0),(2,.p (.l 0) 0)]/\
  st=⟨iJ,⟨5,[(4,.cs (acS b)),(3,.cs (doC p.name b)),(2,.cs [.s [],.s [],.sl none 1 []]),(1,.cs (aI p)),(0,.cs [.sl none 6 (s.nodes.map aK),.sl none 16 (s.aE.map aI)])]⟩⟩)
  s.nodes.length ⟨_,_,?_,0,none,Nat.zero_le _,rfl,rfl,rfl,rfl⟩ ?_
 · exact tL [0,1,2,3,4]
 rintro q fr st ⟨i,b,hi,rfl,hb,rfl,rfl⟩ R hR
 generalize An s p=E at hb hR ⊢
 (conv=>whnf)
 refine aH.ds (fun cO=>?_) (fun fE=>?_)
 · have cZ:i<s.nodes.length:=by omega
   have he:=List.getElem?_eq_getElem cZ
   have AB:s.nodes.drop i=s.nodes[i]::s.nodes.drop (i+1):=List.drop_eq_getElem_cons cZ
   rw [AB,List.foldl_cons] at hb
   generalize s.nodes[i]=e at he hb
   have hv:=vict_ok hG eK hS s p e.name hs hp wO (by omega) h19 hr
   cases H3:mJ s p e.name with
   |none=>
    rw [H3] at hv
    have h1:iE s p b e=b:=by unfold iE;rw [H3]
    rw [h1] at hb
    cases b
    all_goals (refine iG @hv @he ?_)
    all_goals refine hR (s.nodes.length - (i+1)) _ _ (by omega) ⟨_,_,?_,i+1,_,by omega,rfl,hb,rfl,rfl⟩
    all_goals exact tL [0,1,2,3,4]
   |some l=>
    rw [H3] at hv
    have L8:=KJ H3
    have hco:=costs_ok hG s l hs hr (by omega)
    obtain ⟨cc,Dv⟩:∃ cc,cc=Hd s l:=⟨_,rfl⟩
    rw [<-Dv] at hco
    cases b with
    |none=>
     have h1:iE s p none e=some (e.name,l,cc):=by unfold iE;rw [H3,Dv]
     rw [h1] at hb
     (refine qR @hv @hco @he ?_)
     refine hR (s.nodes.length - (i+1)) _ _ (by omega) ⟨_,_,?_,i+1,some (e.name,l,cc),by omega,rfl,hb,rfl,rfl⟩
     exact tL [0,1,2,3,4]
    |some d=>
     obtain ⟨d1,d2,dc⟩:=d
     have hle:=lessC_ok hG cc dc
     cases QB:Oe cc dc with
     |true=>
      have h1:iE s p (some (d1,d2,dc)) e=some (e.name,l,cc):=by unfold iE;rw [H3];dsimp only;rw [<-Dv,if_pos QB]
      rw [h1] at hb
      rw [QB] at hle
      (refine N9 @hv @hco @hle @he ?_)
      refine hR (s.nodes.length - (i+1)) _ _ (by omega) ⟨_,_,?_,i+1,some (e.name,l,cc),by omega,rfl,hb,rfl,rfl⟩
      exact tL [0,1,2,3,4]
     |false=>
      have h1:iE s p (some (d1,d2,dc)) e=some (d1,d2,dc):=by unfold iE;rw [H3];dsimp only;rw [<-Dv,if_neg (by rw [QB];decide)]
      rw [h1] at hb
      rw [QB] at hle
      (refine N9 @hv @hco @hle @he ?_)
      refine hR (s.nodes.length - (i+1)) _ _ (by omega) ⟨_,_,?_,i+1,some (d1,d2,dc),by omega,rfl,hb,rfl,rfl⟩
      exact tL [0,1,2,3,4]
 · have Yu:s.nodes.drop i=[]:=List.drop_of_length_le (by omega)
   rw [Yu,List.foldl_nil] at hb
   subst hb
   cases E
   all_goals (refine zr ?_)
   all_goals exact aG rfl rfl
end
open Go
structure Bf (s:dY) (ns:List bK):Prop where
 len:ns.length<=6
 sub:∀ n∈ns,n∈s.nodes/\n.labels.length<=6/\n.cR.length<=6/\n.name≠Kz/\1<=n.name.length/\wQ n.cap
 names:ns.Pairwise fun a b=>a.name≠b.name
 so:ns.Pairwise fun a b=>bR a.name b.name
structure acT (s w:dY):Prop where
 nodes:Bf s w.nodes
 Yv:w.aE.length<=16
 Yw:∀ p∈w.aE,p∈s.aE
 aiF:∀ p∈w.aE,IY p
 aoT:w.aE.Pairwise fun a b=>a.name≠b.name
theorem PM {l:List bK} {k:Nat} {f e:bK} (h:l.Pairwise fun a b=>bR a.name b.name) (hf:l[k]? =some f) (hef:bR e.name f.name):∀ x∈l.drop k,bR e.name x.name:=by
 intro x hx
 obtain ⟨j,hj⟩:=List.mem_iff_getElem?.1 hx
 rw [List.getElem?_drop] at hj
 cases j with
 |zero=>
  rw [Nat.add_zero,hf] at hj
  cases hj
  exact hef
 |succ j=>exact jY hef (lF h (by omega) hf hj)
theorem Bf.ins {s:dY} {A B:List bK} {e:bK} (h:Bf s (A++B)) (hl:(A++B).length<6) (he:e∈s.nodes/\e.labels.length<=6/\e.cR.length<=6/\e.name≠Kz/\1<=e.name.length/\wQ e.cap) (hn:∀ x∈A++B,(x.name==e.name)=false) (hA:∀ x∈A,bR x.name e.name) (hB:∀ x∈B,bR e.name x.name):Bf s (A++[e]++B):=by
 refine ⟨by simp at hl ⊢;omega,fun n hm=>?_,?_,?_⟩
 · simp only [List.append_assoc,List.mem_append,List.mem_singleton] at hm
   rcases hm with hm|hm|hm
   · exact h.sub n (List.mem_append.2 (.inl hm))
   · rw [hm];exact he
   · exact h.sub n (List.mem_append.2 (.inr hm))
 · have hp:=h.names
   rw [List.pairwise_append] at hp
   have ne:∀ x∈A++B,x.name≠e.name:=fun x hx h=>by have:=hn x hx;simp [h] at this
   rw [List.append_assoc,List.pairwise_append]
   refine ⟨hp.1,?_,?_⟩
   · show List.Pairwise _ (e::B)
     rw [List.pairwise_cons]
     exact ⟨fun b hb=>(ne b (List.mem_append.2 (.inr hb))).symm,hp.2.1⟩
   · intro a ha b hb
     simp only [List.mem_append,List.mem_singleton] at hb
     rcases hb with hb|hb
     · rw [hb];exact ne a (List.mem_append.2 (.inl ha))
     · exact hp.2.2 a ha b hb
 · have hp:=h.so
   rw [List.pairwise_append] at hp
   rw [List.append_assoc,List.pairwise_append]
   refine ⟨hp.1,?_,?_⟩
   · show List.Pairwise _ (e::B)
     rw [List.pairwise_cons]
     exact ⟨hB,hp.2.1⟩
   · intro a ha b hb
     simp only [List.mem_append,List.mem_singleton] at hb
     rcases hb with hb|hb
     · rw [hb];exact hA a ha
     · exact hp.2.2 a ha b hb
theorem Pure.state {P:Program} {f:Nat} {args:List V} {φ:dY->Prop} (h0:Pure P f args (fun u=>∃ w,u=kS w/\φ w)) (ha:args.all V.qI=true) {h:aA} {K:V->aA->Prop} (hK:∀ w,φ w->K (kS w) h):aC P f args h K:=
 h0.use (EW ha) fun _ _ ⟨w,hu,hw⟩=>hu▸hK w hw
end Go.Eng
