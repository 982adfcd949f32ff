/-
Arguments that are pods, nodes, states, by their shapes.
-/
import Derived.Test.YtmfelikepmmjkaaGreatX28
import Derived.Test.YtmfelikepmmjkaaGreatX25
import Derived.Test.YtmfelikepmmjkaaGreatX24
import Derived.Test.YtmfelikepmmjkaaGreatX23
import Derived.Test.YtmfelikepmmjkaaGreatX27
import Derived.Test.YtmfelikepmmjkaaGreatX11
import Derived.Test.YtmfelikepmmjkaaGreatX09
set_option linter.unusedVariables false
set_option linter.unusedSimpArgs false
set_option maxHeartbeats 8000000
set_option maxRecDepth 20000
namespace Go.Eng
open Go
theorem Oi {α:Type} {R:α->List V} {sh:List Sh} {ok:α->Prop} (h:∀ e,Sh.rP sh e->∃ x,e=R x/\ok x):∀ {es:List (List V)},(∀ e∈es,Sh.rP sh e)->∃ l:List α,es=l.map R/\∀ x∈l,ok x
 |[],_=>⟨[],rfl,fun _ h=>by cases h⟩
 |e::r,he=>by
  obtain ⟨x,rfl,hx⟩:=h e (he e (.head _))
  obtain ⟨l,rfl,hl⟩:=Oi h fun e h=>he e (.tail _ h)
  exact ⟨x::l,rfl,fun y hy=>by
   cases hy with
   |head=>exact hx
   |tail _ hy=>exact hl y hy⟩
theorem cC {a:Sh} {r:List Sh} {e:List V} (h:Sh.rP (a::r) e):∃ v q,e=v::q/\a.is v/\Sh.rP r q:=by
 cases e with
 |nil=>simp [Sh.rP] at h
 |cons v q=>exact ⟨v,q,rfl,by simpa [Sh.rP] using h⟩
theorem rT {e:List V} (h:Sh.rP [] e):e=[]:=by
 cases e with
 |nil=>rfl
 |cons v q=>simp [Sh.rP] at h
theorem Gw {v:V} (h:Sh.is .s v):∃ l:aU,v=.s l/\bQ l:=by
 simp only [Sh.is] at h
 obtain ⟨l,rfl,hl⟩:=h
 exact ⟨l,rfl,hl⟩
theorem acX {v:V} (h:Sh.is .b v):∃ b:Bool,v=.b b:=by
 simpa only [Sh.is] using h
theorem Dh {v:V} (h:Sh.is (.i .i64) v):∃ n:Int,v=.i .i64 n/\Kx n:=by
 simp only [Sh.is] at h
 obtain ⟨n,rfl,h1,h2⟩:=h
 exact ⟨n,rfl,by simpa [IntKind.min,IntKind.bits,IntKind.signed] using h1,by simpa [IntKind.max,IntKind.bits,IntKind.signed] using h2⟩
theorem wV {α:Type} {R:α->List V} {sh:List Sh} {ok:α->Prop} (h:∀ e,Sh.rP sh e->∃ x,e=R x/\ok x) {v:V} (hv:Sh.is (.sl sh) v):∃ l:List α,v=.sl none sh.length (l.map R)/\bQ l/\∀ x∈l,ok x:=by
 simp only [Sh.is] at hv
 obtain ⟨es,rfl,h1,h2⟩:=hv
 obtain ⟨l,rfl,h3⟩:=Oi h h2
 exact ⟨l,rfl,by simpa [bQ] using h1,h3⟩
theorem Vv (e:List V) (h:Sh.rP [.s] e):∃ x:aU,e=bE x/\bQ x:=by
 obtain ⟨v,q,rfl,h1,h⟩:=cC h
 obtain rfl:=rT h
 obtain ⟨l,rfl,hl⟩:=Gw h1
 exact ⟨l,rfl,hl⟩
theorem Vw (e:List V) (h:Sh.rP [.i .i64] e):∃ x:Int,e=fA x/\Kx x:=by
 obtain ⟨v,q,rfl,h1,h⟩:=cC h
 obtain rfl:=rT h
 obtain ⟨n,rfl,hn⟩:=Dh h1
 exact ⟨n,rfl,hn⟩
theorem Fo (e:List V) (h:Sh.rP [.s,.s] e):∃ x:cX,e=aY x/\x.Ba:=by
 obtain ⟨v,q,rfl,h1,h⟩:=cC h
 obtain ⟨u,q,rfl,h2,h⟩:=cC h
 obtain rfl:=rT h
 obtain ⟨a,rfl,ha⟩:=Gw h1
 obtain ⟨b,rfl,hb⟩:=Gw h2
 exact ⟨⟨a,b⟩,rfl,ha,hb⟩
abbrev I2:List Sh:=[.s,.i .i64,.sl [.s]]
theorem Fp (e:List V) (h:Sh.rP I2 e):∃ x:cM,e=bA x/\x.ok/\x.Ba:=by
 obtain ⟨v,q,rfl,h1,h⟩:=cC h
 obtain ⟨u,q,rfl,h2,h⟩:=cC h
 obtain ⟨w,q,rfl,h3,h⟩:=cC h
 obtain rfl:=rT h
 obtain ⟨a,rfl,ha⟩:=Gw h1
 obtain ⟨b,rfl,_⟩:=Dh h2
 obtain ⟨c,rfl,hc,hs⟩:=wV Vv h3
 exact ⟨⟨a,b,c⟩,rfl,hc,ha,hs⟩
theorem Vx (e:List V) (h:Sh.rP [.s,.s,.b] e):∃ x:lC,e=eP x/\x.Ba:=by
 obtain ⟨v,q,rfl,h1,h⟩:=cC h
 obtain ⟨u,q,rfl,h2,h⟩:=cC h
 obtain ⟨w,q,rfl,h3,h⟩:=cC h
 obtain rfl:=rT h
 obtain ⟨a,rfl,ha⟩:=Gw h1
 obtain ⟨b,rfl,hb⟩:=Gw h2
 obtain ⟨c,rfl⟩:=acX h3
 exact ⟨⟨a,b,c⟩,rfl,ha,hb⟩
abbrev M0:List Sh:=[.s,.i .i64,.i .i64,.i .i64,.sl [.s,.s],.sl [.s,.s]]
structure bK.fit (n:bK):Prop extends E3:n.ok where
 cap:n.cap.ok
theorem Tf (e:List V) (h:Sh.rP M0 e):∃ x:bK,e=aK x/\x.fit/\x.Ba:=by
 obtain ⟨v1,q,rfl,h1,h⟩:=cC h
 obtain ⟨v2,q,rfl,h2,h⟩:=cC h
 obtain ⟨v3,q,rfl,h3,h⟩:=cC h
 obtain ⟨v4,q,rfl,h4,h⟩:=cC h
 obtain ⟨v5,q,rfl,h5,h⟩:=cC h
 obtain ⟨v6,q,rfl,h6,h⟩:=cC h
 obtain rfl:=rT h
 obtain ⟨a,rfl,ha⟩:=Gw h1
 obtain ⟨c1,rfl,k1⟩:=Dh h2
 obtain ⟨c2,rfl,k2⟩:=Dh h3
 obtain ⟨c3,rfl,k3⟩:=Dh h4
 obtain ⟨l1,rfl,k4,s4⟩:=wV Fo h5
 obtain ⟨l2,rfl,k5,s5⟩:=wV Fo h6
 exact ⟨⟨a,⟨c1,c2,c3⟩,l1,l2⟩,rfl,⟨⟨k4,k5⟩,k1,k2,k3⟩,ha,s4,s5⟩
abbrev KQ:List Sh:=[.s,.i .i64,.i .i64,.i .i64,.i .i64,.i .i64,.sl [.i .i64],.sl [.s,.s],.sl I2,.sl [.s,.s,.b],.s,.sl I2,.i .i64,.sl I2,.s,.i .i64]
theorem Oj (e:List V) (h:Sh.rP KQ e):∃ x:aL,e=aI x/\(x.fit/\x.Ba)/\x.term<=9223372036854775807:=by
 obtain ⟨v1,q,rfl,h1,h⟩:=cC h
 obtain ⟨v2,q,rfl,h2,h⟩:=cC h
 obtain ⟨v3,q,rfl,h3,h⟩:=cC h
 obtain ⟨v4,q,rfl,h4,h⟩:=cC h
 obtain ⟨v5,q,rfl,h5,h⟩:=cC h
 obtain ⟨v6,q,rfl,h6,h⟩:=cC h
 obtain ⟨v7,q,rfl,h7,h⟩:=cC h
 obtain ⟨v8,q,rfl,h8,h⟩:=cC h
 obtain ⟨v9,q,rfl,h9,h⟩:=cC h
 obtain ⟨v10,q,rfl,GM,h⟩:=cC h
 obtain ⟨v11,q,rfl,LI,h⟩:=cC h
 obtain ⟨v12,q,rfl,Jx,h⟩:=cC h
 obtain ⟨v13,q,rfl,Vy,h⟩:=cC h
 obtain ⟨v14,q,rfl,ZM,h⟩:=cC h
 obtain ⟨v15,q,rfl,h15,h⟩:=cC h
 obtain ⟨v16,q,rfl,Vz,h⟩:=cC h
 obtain rfl:=rT h
 obtain ⟨a1,rfl,s1⟩:=Gw h1
 obtain ⟨a2,rfl,_⟩:=Dh h2
 obtain ⟨a3,rfl,_⟩:=Dh h3
 obtain ⟨a4,rfl,k4⟩:=Dh h4
 obtain ⟨a5,rfl,k5⟩:=Dh h5
 obtain ⟨a6,rfl,k6⟩:=Dh h6
 obtain ⟨a7,rfl,k7,_⟩:=wV Vw h7
 obtain ⟨a8,rfl,k8,s8⟩:=wV Fo h8
 obtain ⟨a9,rfl,k9,m9⟩:=wV Fp h9
 obtain ⟨a10,rfl,k10,s10⟩:=wV Vx GM
 obtain ⟨a11,rfl,s11⟩:=Gw LI
 obtain ⟨a12,rfl,VA,m12⟩:=wV Fp Jx
 obtain ⟨a13,rfl,_⟩:=Dh Vy
 obtain ⟨a14,rfl,VB,m14⟩:=wV Fp ZM
 obtain ⟨a15,rfl,s15⟩:=Gw h15
 obtain ⟨a16,rfl,k16⟩:=Dh Vz
 exact ⟨⟨a1,a2,a3,⟨a4,a5,a6⟩,a7,a8,a9,a10,a11,a12,a13,a14,a15,a16⟩,rfl,⟨⟨⟨k7,k8,k10,⟨k9,fun x h=>(m9 x h).1⟩,⟨VA,fun x h=>(m12 x h).1⟩,⟨VB,fun x h=>(m14 x h).1⟩⟩,k4,k5,k6⟩,⟨s1,s11,s15,s8,fun x h=>(m9 x h).2,s10,fun x h=>(m12 x h).2,fun x h=>(m14 x h).2⟩⟩,by have:=k16.2;exact this⟩
theorem Tg {v:V} (h:rQ.Is (false,[.b]) v):∃ b:Bool,v=.b b:=acX (by simpa [rQ.Is,Sh.rP] using h)
theorem VC {v:V} (h:rQ.Is (true,KQ) v):∃ p:aL,v=.agg (aI p)/\p.fit/\p.Ba:=by
 obtain ⟨row,rfl,h⟩:=h
 obtain ⟨p,rfl,hp⟩:=Oj row h
 exact ⟨p,rfl,hp.1⟩
structure dY.arg (s:dY):Prop where
 nodes:bQ s.nodes
 aE:bQ s.aE
 node:∀ n∈s.nodes,n.fit/\n.Ba
 pT:∀ p∈s.aE,p.fit/\p.Ba
 term:∀ p∈s.aE,p.term<=9223372036854775807
theorem PO {v:V} (h:rQ.Is (true,[.sl M0,.sl KQ]) v):∃ s:dY,v=kS s/\s.arg:=by
 obtain ⟨row,rfl,h⟩:=h
 obtain ⟨v1,q,rfl,h1,h⟩:=cC h
 obtain ⟨v2,q,rfl,h2,h⟩:=cC h
 obtain rfl:=rT h
 obtain ⟨a1,rfl,k1,m1⟩:=wV Tf h1
 obtain ⟨a2,rfl,k2,m2⟩:=wV Oj h2
 exact ⟨⟨a1,a2⟩,rfl,k1,k2,m1,fun p hp=>(m2 p hp).1,fun p hp=>(m2 p hp).2⟩
open Go
section
variable {P:Program} (hG:bP P AF.fns.get)
include hG
theorem isort_ok (eK:gZ P) (es:List aU) (hl:es.length<=6) (hs:es.Pairwise bR):
 Pure P 246 [.sl none 1 (es.map bE),.i .i64 0,.i .i64 es.length,.fn 61 [] []] (·=.bY []):=by
 have gK:(es.map bE).length=es.length:=List.length_map _
 refine aP (hG _ AF.f246 rfl) rfl ?_
 (refine zr ?_)
 refine bD.by (fun q fr st=>∃ i:Nat,1<=i/\i<=es.length+1/\q=es.length+1 - i/\
  fr=[(8,.i .i64 i),(3,.fn 61 [] []),(2,.i .i64 es.length),(1,.i .i64 0),(0,.sl none 1 (es.map bE))]/\st=dP iJ)
  es.length ⟨_,_,?_,1,by omega,by omega,by omega,rfl,rfl⟩ ?_
 · exact Ak
 rintro q fr st ⟨i,Uv,hi,rfl,rfl,rfl⟩ R hR
 (conv=>whnf)
 refine aH.ds (fun cO=>?_) (fun fE=>?_)
 · have cZ:i<es.length:=by omega
   have GG:i - 1<es.length:=by omega
   have he:=List.getElem?_eq_getElem cZ
   have hf:=List.getElem?_eq_getElem GG
   generalize es[i]=e at he
   generalize es[i - 1]=f at hf
   have jE:=fW (lF hs (by omega:i - 1<i) hf he)
   have hc:=compare_ok hG eK e f
   generalize jV e f=c at jE hc
   ((conv=>whnf);repeat ((first|refine cA (Pure.go hc rfl) ?_|refine ye (aF (by omega) he) ?_|refine ye (aF (by omega) hf) ?_|refine zz ?_|refine bD.un rfl ?_)<;>(conv=>whnf)))
   refine hR (es.length+1 - (i+1)) _ _ (by omega) ⟨_,_,?_,i+1,by omega,by omega,rfl,rfl,rfl⟩
   exact Ak
 · (refine zr ?_)
   exact aG rfl rfl
theorem pdq_ok (eK:gZ P) (es:List aU) (hl:es.length<=6) (hs:es.Pairwise bR) (m:Int):
 Pure P 156 [.sl none 1 (es.map bE),.i .i64 0,.i .i64 es.length,.i .i64 m,.fn 61 [] []] (·=.bY []):=by
 have hc:=isort_ok hG eK es hl hs
 refine aP (hG _ AF.f156 rfl) rfl ?_
 have h0:((es.length:Nat):Int) - 0=es.length:=Int.sub_zero _
 ((conv=>whnf);repeat ((first|refine cA (Pure.go hc rfl) ?_|refine zz ?_|refine bD.un rfl ?_)<;>(conv=>whnf)))
 exact aG rfl rfl
theorem blen_ok (n:Nat) (h:n<=6):∃ r,Pure P 143 [.i .u64 n] (·=.i .i64 r):=by
 have:n=0\/n=1\/n=2\/n=3\/n=4\/n=5\/n=6:=by omega
 rcases this with rfl|rfl|rfl|rfl|rfl|rfl|rfl
 · refine ⟨0,aP (hG _ AF.f143 rfl) rfl ?_⟩
   ((conv=>whnf);repeat ((first|refine cA (jX (hG _ _ rfl) rfl) ?_|refine aR.gA (by decide) (by decide) ?_|refine aR.of (by decide) (by decide) ?_|refine zz ?_|refine bD.un rfl ?_)<;>(conv=>whnf)))
   refine aG ?_ ?_<;>rfl
 · refine ⟨1,aP (hG _ AF.f143 rfl) rfl ?_⟩
   ((conv=>whnf);repeat ((first|refine cA (jX (hG _ _ rfl) rfl) ?_|refine aR.gA (by decide) (by decide) ?_|refine aR.of (by decide) (by decide) ?_|refine zz ?_|refine bD.un rfl ?_)<;>(conv=>whnf)))
   refine aG ?_ ?_<;>rfl
 · refine ⟨2,aP (hG _ AF.f143 rfl) rfl ?_⟩
   ((conv=>whnf);repeat ((first|refine cA (jX (hG _ _ rfl) rfl) ?_|refine aR.gA (by decide) (by decide) ?_|refine aR.of (by decide) (by decide) ?_|refine zz ?_|refine bD.un rfl ?_)<;>(conv=>whnf)))
   refine aG ?_ ?_<;>rfl
 · refine ⟨2,aP (hG _ AF.f143 rfl) rfl ?_⟩
   ((conv=>whnf);repeat ((first|refine cA (jX (hG _ _ rfl) rfl) ?_|refine aR.gA (by decide) (by decide) ?_|refine aR.of (by decide) (by decide) ?_|refine zz ?_|refine bD.un rfl ?_)<;>(conv=>whnf)))
   refine aG ?_ ?_<;>rfl
 · refine ⟨3,aP (hG _ AF.f143 rfl) rfl ?_⟩
   ((conv=>whnf);repeat ((first|refine cA (jX (hG _ _ rfl) rfl) ?_|refine aR.gA (by decide) (by decide) ?_|refine aR.of (by decide) (by decide) ?_|refine zz ?_|refine bD.un rfl ?_)<;>(conv=>whnf)))
   refine aG ?_ ?_<;>rfl
 · refine ⟨3,aP (hG _ AF.f143 rfl) rfl ?_⟩
   ((conv=>whnf);repeat ((first|refine cA (jX (hG _ _ rfl) rfl) ?_|refine aR.gA (by decide) (by decide) ?_|refine aR.of (by decide) (by decide) ?_|refine zz ?_|refine bD.un rfl ?_)<;>(conv=>whnf)))
   refine aG ?_ ?_<;>rfl
 · refine ⟨3,aP (hG _ AF.f143 rfl) rfl ?_⟩
   ((conv=>whnf);repeat ((first|refine cA (jX (hG _ _ rfl) rfl) ?_|refine aR.gA (by decide) (by decide) ?_|refine aR.of (by decide) (by decide) ?_|refine zz ?_|refine bD.un rfl ?_)<;>(conv=>whnf)))
   refine aG ?_ ?_<;>rfl
theorem sortf_ok (eK:gZ P) (es:List aU) (hl:es.length<=6) (hs:es.Pairwise bR):
 Pure P 81 [.sl none 1 (es.map bE),.fn 61 [] []] (·=.bY []):=by
 obtain ⟨r,hr⟩:=blen_ok hG es.length hl
 have hc:=pdq_ok hG eK es hl hs r
 have gK:(es.map bE).length=es.length:=List.length_map _
 rw [<-gK] at hr hc
 refine aP (hG _ AF.f81 rfl) rfl ?_
 (refine zx2 @hr @hc ?_)
 exact aG rfl rfl
theorem where_ok (eK:gZ P) (s:dY) (p:aL) (hs:s.ok) (hp:p.fit) (wO:Small s) (h6:s.nodes.length<=6)
 (PL:s.nodes.Pairwise fun a b=>bR a.name b.name):Pure P 89 [kS s,.agg (aI p)] (·=.sl none 1 ((jA s p).map bE)):=by
 have gK:(s.nodes.map aK).length=s.nodes.length:=List.length_map _
 obtain ⟨f,hf⟩:∃ f:bK->Bool,f=fun n=>gR s p n.name:=⟨_,rfl⟩
 refine aP (hG _ AF.f89 rfl) rfl ?_
 (refine zr ?_)
 refine bD.by (fun q fr st=>∃ (i:Nat) (b:Bool) (es:List aU),i<=s.nodes.length/\q=s.nodes.length - i/\es=((s.nodes.take i).filter f).map (·.name)/\(b=false->es=[])/\
  fr=[(11,.i .i64 i),(10,.i .i64 (s.nodes.map aK).length),(9,.sl none 6 (s.nodes.map aK)),(5,SL b 2 1 (es.map bE)),(3,.p (.l 1) 0),(2,.p (.l 0) 0)]/\
  st=SM b 2 [(1,.cs (aI p)),(0,.cs [.sl none 6 (s.nodes.map aK),.sl none 16 (s.aE.map aI)])])
  s.nodes.length ⟨_,_,?_,0,false,[],Nat.zero_le _,rfl,rfl,fun _=>rfl,rfl,rfl⟩ ?_
 · exact tL [0,1]
 rintro q fr st ⟨i,b,es,hi,rfl,o8,hb,rfl,rfl⟩ R hR
 have E6:es.length<=i:=by
  rw [o8,List.length_map]
  exact Nat.le_trans (List.length_filter_le _ _) (List.length_take_le _ _)
 (conv=>whnf)
 refine aH.ds (fun cO=>?_) (fun fE=>?_)
 · have cZ:i<s.nodes.length:=by omega
   have he:=List.getElem?_eq_getElem cZ
   generalize s.nodes[i]=e at he
   have h1:f e=true->es++[e.name]=((s.nodes.take (i+1)).filter f).map (·.name):=fun h=>by
    rw [cG he,List.filter_append,List.map_append,<-o8]
    simp [h]
   have h0:f e=false->es=((s.nodes.take (i+1)).filter f).map (·.name):=fun h=>by
    rw [cG he,List.filter_append,List.map_append,<-o8]
    simp [h]
   have hint:es.map bE++[bE e.name]=(es++[e.name]).map bE:=by rw [List.map_append];rfl
   have hc:=feas_ok hG s p e.name hs hp wO
   have jE:f e=gR s p e.name:=by rw [hf]
   rw [<-jE] at hc
   generalize f e=c at hc h1 h0
   cases c<;>cases b
   · obtain rfl:es=[]:=hb rfl
     (refine iG @hc @he ?_)
     refine hR (s.nodes.length - (i+1)) _ _ (by omega) ⟨_,_,?_,i+1,false,[],by omega,rfl,h0 rfl,fun _=>rfl,rfl,rfl⟩
     exact tL [0,1]
   · (refine iG @hc @he ?_)
     refine hR (s.nodes.length - (i+1)) _ _ (by omega) ⟨_,_,?_,i+1,true,es,by omega,rfl,h0 rfl,(fun h=>by cases h),rfl,rfl⟩
     exact tL [0,1,2]
   · obtain rfl:es=[]:=hb rfl
     (refine iG @hc @he ?_)
     refine hR (s.nodes.length - (i+1)) _ _ (by omega) ⟨_,_,?_,i+1,true,[]++[e.name],by omega,rfl,h1 rfl,(fun h=>by cases h),rfl,rfl⟩
     exact tL [0,1,4]
   · (refine zx3 @hc (congrArg some hint) @he ?_)
     refine hR (s.nodes.length - (i+1)) _ _ (by omega) ⟨_,_,?_,i+1,true,es++[e.name],by omega,rfl,h1 rfl,(fun h=>by cases h),rfl,rfl⟩
     exact tL [0,1,5]
 · have fH:es=jA s p:=by
    rw [o8,List.take_of_length_le (by omega),hf]
    rfl
   have aiN:es.Pairwise bR:=by
    rw [fH,jA]
    exact List.pairwise_map.2 (PL.filter _)
   have hc:=sortf_ok hG eK es (by omega) aiN
   rw [<-fH]
   cases b
   · obtain rfl:es=[]:=hb rfl
     (refine cD @hc ?_)
     exact pure_nil rfl
   · (refine cD @hc ?_)
     exact iR rfl
end
open Go
def eY (a c:Int):Int:=if c<1\/1000000000<c then 0 else (100*oI (mW a 0) c).tdiv c
theorem WW {a c:Int} (h:1<=c):0<=oI (mW a 0) c/\oI (mW a 0) c<=c:=by unfold oI mW;split<;>split<;>omega
theorem pU (a c:Int):0<=eY a c/\eY a c<=100:=by
 unfold eY
 split
 · omega
 · have h:=WW (a:=a) (c:=c) (by omega)
   rw [Int.tdiv_eq_ediv_of_nonneg (by omega)]
   exact ⟨Int.ediv_nonneg (by omega) (by omega),Int.ediv_le_of_le_mul (by omega) (by omega)⟩
abbrev Acc:=Int×Int×Int
def vE (pack:Bool) (r t:Int) (z:Acc):Acc:=if r<=0 then z else (z.1+(if pack then eY t r else 100 - eY t r),oI z.2.1 (eY t r),mW z.2.2 (eY t r))
def rD (pack:Bool) (c t:gW):Nat->Acc
 |0=>(0,100,0)
 |1=>vE pack c.a t.a (0,100,0)
 |2=>vE pack c.b t.b (vE pack c.a t.a (0,100,0))
 |_=>vE pack c.c t.c (vE pack c.b t.b (vE pack c.a t.a (0,100,0)))
structure rU (i:Nat) (any:Bool) (z:Acc):Prop where
 s0:0<=z.1
 s1:z.1<=100*i
 l0:0<=z.2.1
 l1:z.2.1<=100
 h0:0<=z.2.2
 h1:z.2.2<=100
 le:any=true->z.2.1<=z.2.2
 no:any=false->z.2.1=100/\z.2.2=0
theorem rU.zero:rU 0 false (0,100,0):=⟨by decide,by decide,by decide,by decide,by decide,by decide,(fun h=>by cases h),fun _=>⟨rfl,rfl⟩⟩
theorem rU.pass {i:Nat} {any:Bool} {z:Acc} (h:rU i any z):rU (i+1) any z:=⟨h.s0,by have:=h.s1;omega,h.l0,h.l1,h.h0,h.h1,h.le,h.no⟩
theorem rU.take {i:Nat} {any:Bool} {z:Acc} (h:rU i any z) (pack:Bool) {x:Int} (h0:0<=x) (h1:x<=100):rU (i+1) true (z.1+(if pack then x else 100 - x),oI z.2.1 x,mW z.2.2 x):=by
 have a1:=h.s0
 have a2:=h.s1
 have a3:=h.l0
 have a4:=h.l1
 have a5:=h.h0
 have a6:=h.h1
 refine ⟨?_,?_,?_,?_,?_,?_,fun _=>?_,fun h=>by cases h⟩
 · cases pack<;>simp<;>omega
 · cases pack<;>simp<;>omega
 all_goals (simp only [oI,mW];first|(split<;>omega)|(split<;>split<;>omega))
def Fq (z:Acc) (n:Nat):Int:=z.1+100 - mW (z.2.2 - z.2.1) 0+mW (10 - n) 0
theorem PQ {any:Bool} {z:Acc} (h:rU 3 any z) (n:Nat):0<=Fq z n/\Fq z n<=410:=by
 have a1:=h.s0
 have a2:=h.s1
 have a3:=h.l0
 have a6:=h.h1
 unfold Fq mW
 split<;>split<;>omega
theorem accD_ok (pack:Bool) (c t:gW):∀ i,i<=3->∃ any,rU i any (rD pack c t i):=by
 have st:∀ {i:Nat} {any:Bool} {z:Acc} (r t:Int),rU i any z->∃ aiO,rU (i+1) aiO (vE pack r t z):=fun r t h=>by
  unfold vE
  split
  · exact ⟨_,h.pass⟩
  · exact ⟨_,h.take pack (pU t r).1 (pU t r).2⟩
 have h0:rU 0 false (rD pack c t 0):=.zero
 obtain ⟨a1,h1⟩:=st c.a t.a h0
 obtain ⟨a2,h2⟩:=st c.b t.b h1
 obtain ⟨a3,h3⟩:=st c.c t.c h2
 intro i hi
 match i,hi with
 |0,_=>exact ⟨_,h0⟩
 |1,_=>exact ⟨_,h1⟩
 |2,_=>exact ⟨_,h2⟩
 |3,_=>exact ⟨_,h3⟩
def kU (s:dY) (p:aL) (node:aU) (pack:Bool):Int:=
 if gR s p node then
  match s.nodes.find? (fun n=>n.name==node),rO s node with
  |some n,some u=>match y5 u p.fQ with
   |some t=>Fq (rD pack n.cap t 3) (oJ s node).length
   |none=>-1
  |_,_=>-1
 else -1
theorem Fs {s:dY} {p:aL} {node:aU} (h:gR s p node=true):∃ n u t,s.nodes.find? (fun n=>n.name==node)=some n/\rO s node=some u/\y5 u p.fQ=some t:=by
 unfold gR at h
 cases hf:s.nodes.find? (fun n=>n.name==node) with
 |none=>rw [hf] at h;cases h
 |some n=>
  rw [hf] at h
  have hn:n.name=node:=by simpa using List.find?_some hf
  dsimp only at h
  simp only [KC,Bool.and_eq_true] at h
  have h1:=h.2.1
  unfold A9 at h1
  rw [hn] at h1
  cases hu:rO s node with
  |none=>rw [hu] at h1;cases h1
  |some u=>
   rw [hu] at h1
   dsimp only at h1
   cases ht:y5 u p.fQ with
   |none=>rw [ht] at h1;cases h1
   |some t=>exact ⟨n,u,t,rfl,rfl,ht⟩
theorem Th {s:dY} {p:aL} {node:aU} {pack:Bool} (h:gR s p node=false):kU s p node pack=-1:=by
 unfold kU
 rw [h]
 rfl
theorem Ti {s:dY} {p:aL} {node:aU} {pack:Bool} (h:gR s p node=true):0<=kU s p node pack/\kU s p node pack<=410:=by
 obtain ⟨n,u,t,h1,h2,h3⟩:=Fs h
 unfold kU
 rw [if_pos h,h1,h2]
 dsimp only
 rw [h3]
 obtain ⟨any,hz⟩:=accD_ok pack n.cap t 3 (Nat.le_refl _)
 exact PQ hz _
section
variable {P:Program} (hG:bP P AF.fns.get)
include hG
theorem PR (a c:Int):Pure P 170 [.i .i64 a,.i .i64 c] (·=.i .i64 (eY a c)):=by
 refine aP (hG _ AF.f170 rfl) rfl ?_
 by_cases h1:c<1
 · (refine zr ?_)
   exact aG rfl (by rw [eY,if_pos (.inl h1)])
 by_cases h2:1000000000<c
 · (refine zr ?_)
   exact aG rfl (by rw [eY,if_pos (.inr h2)])
 have hm:=WW (a:=a) (c:=c) (by omega)
 have hq:=pU a c
 have hs:eY a c=(100*oI (mW a 0) c).tdiv c:=by rw [eY,if_neg (by omega)]
 rw [hs] at hq ⊢
 obtain ⟨m,hmd⟩:∃ m,oI (mW a 0) c=m:=⟨_,rfl⟩
 rw [hmd] at hm hq ⊢
 ((conv=>whnf);repeat ((first|refine bC.of (Vk (z:=mW a 0) rfl) ?_|refine bC.of (WO (z:=m) hmd) ?_|refine aM.mk (by simp;omega) ?_|refine aR.gA (by exact Int.le_trans (by decide) hq.1) (by exact Int.le_trans hq.2 (by decide)) ?_|refine zz ?_)<;>(conv=>whnf)))
 exact aG rfl rfl
end
open Go
section
variable {P:Program} (hG:bP P AF.fns.get)
include hG
theorem PS (s:dY) (p:aL) (node:aU) (pack:Bool) (hs:s.ok) (hp:p.fit) (wO:Small s) (hr:∀ q∈s.aE,iM q):Pure P 90 [kS s,.agg (aI p),.s node,.b pack] (·=.i .i64 (kU s p node pack)):=by
 have a1:=feas_ok hG s p node hs hp wO
 refine aP (hG _ AF.f90 rfl) rfl ?_
 cases hf:gR s p node
 · rw [hf] at a1
   rw [Th hf]
   (refine cD @a1 ?_)
   exact aG rfl rfl
 rw [hf] at a1
 obtain ⟨n,u,t,h1,h2,h3⟩:=Fs hf
 have a2:=getnode_ok hG s node hs.nodes wO
 have a3:=used_ok hG s node hs.aE (by have:=hs.some;omega) (fun q hq=>(hs.pT q hq).fQ)
 rw [h2] at a3
 have a4:=add_ok hG u p.fQ (sumD_ok (by decide) h2) hp.fQ
 have a5:=on_ok hG s node hs hr
 have hsc:kU s p node pack=Fq (rD pack n.cap t 3) (oJ s node).length:=by
  unfold kU
  rw [if_pos hf,h1,h2]
  dsimp only
  rw [h3]
 have hol:(oJ s node).length<=s.aE.length:=List.length_filter_le _ _
 have hl:=hs.aE
 have GP:=hs.some
 unfold bQ at hl
 rw [h1] at a2
 rw [h3] at a4
 rw [hsc]
 generalize oJ s node=l at a5 hol
 have gK:(l.map aI).length=l.length:=List.length_map _
 (refine N9 @a1 @a2 @a3 @a4 ?_)
 refine bD.by (fun q fr st=>∃ (i:Nat) (z1 z2 z3:Int) (any:Bool),i<=3/\q=3 - i/\(z1,z2,z3)=rD pack n.cap t i/\rU i any (z1,z2,z3)/\
  fr=[(47,.i .i64 i),(46,.agg (Aj n.cap)),(17,.i .i64 z3),(16,.i .i64 z2),(15,.i .i64 z1),(13,.p (.l 1) 0),(4,.p (.l 0) 0),(3,.b pack),(2,.s node)]/\
  st=⟨iJ,⟨2,[(1,.cs (Aj t)),(0,.cs [.sl none 6 (s.nodes.map aK),.sl none 16 (s.aE.map aI)])]⟩⟩)
  3 ⟨_,_,?_,0,0,100,0,false,Nat.zero_le _,rfl,rfl,.zero,rfl,rfl⟩ ?_
 · exact tL [0,4]
 rintro q fr st ⟨i,z1,z2,z3,any,hi,rfl,hz,dW,rfl,rfl⟩ R hR
 have b1:=dW.s0
 have b2:=dW.s1
 have b3:=dW.l0
 have b4:=dW.l1
 have b5:=dW.h0
 have b6:=dW.h1
 dsimp only at b1 b2 b3 b4 b5 b6
 rcases (show i=3\/i<3 by omega) with rfl|hi3
 · rw [<-hz]
   obtain ⟨d,hd⟩:∃ d,mW (z3 - z2) 0=d:=⟨_,rfl⟩
   have F6:0<=d/\d<=100:=by rw [<-hd];unfold mW;split<;>omega
   obtain ⟨k,hk⟩:∃ k,mW (10 - (((l.map aI).length:Nat):Int)) 0=k:=⟨_,rfl⟩
   have BP:0<=k/\k<=10:=by rw [<-hk];unfold mW;split<;>omega
   ((conv=>whnf);repeat ((first|refine bC.of (Vk (z:=d) hd) ?_|refine bC.of (Vk (z:=k) hk) ?_|refine cA (Pure.go a5 rfl) ?_|refine zz ?_)<;>(conv=>whnf)))
   refine aG rfl (congrArg (V.i .i64) ?_)
   show _=z1+100 - mW (z3 - z2) 0+mW (10 - (l.length:Int)) 0
   rw [gK] at hk
   rw [hd,hk]
 · have step:∀ (r x:Int),(¬r<=0->Pure P 170 [.i .i64 x,.i .i64 r] (·=.i .i64 (eY x r))):=fun r x _=>PR hG x r
   rcases (show i=0\/i=1\/i=2 by omega) with rfl|rfl|rfl
   · by_cases hc:n.cap.a<=0
     · have hn:(z1,z2,z3)=rD pack n.cap t 1:=by rw [hz];simp [rD,vE,hc]
       (refine zr ?_)
       refine hR 2 _ _ (by omega) ⟨_,_,?_,1,z1,z2,z3,any,by omega,rfl,hn,dW.pass,rfl,rfl⟩
       exact tL [0,1]
     · have zI:=step n.cap.a t.a hc
       have hx:=pU t.a n.cap.a
       have hn:(z1+(if pack then eY t.a n.cap.a else 100 - eY t.a n.cap.a),oI z2 (eY t.a n.cap.a),mW z3 (eY t.a n.cap.a))=rD pack n.cap t 1:=by
        have e:rD pack n.cap t 0=(0,100,0):=rfl
        rw [e] at hz
        cases hz
        simp [rD,vE,hc]
       generalize eY t.a n.cap.a=x at zI hx hn
       have sW:=dW.take pack hx.1 hx.2
       cases pack
       all_goals ((conv=>whnf);repeat ((first|refine cA (Pure.go zI rfl) ?_|refine bC.of (WO (z:=oI z2 x) rfl) ?_|refine bC.of (Vk (z:=mW z3 x) rfl) ?_|refine zz ?_)<;>(conv=>whnf)))
       all_goals
        refine hR 2 _ _ (by omega) ⟨_,_,?_,1,_,_,_,true,by omega,rfl,hn,sW,rfl,rfl⟩
        exact tL [0,1]
   · by_cases hc:n.cap.b<=0
     · have hn:(z1,z2,z3)=rD pack n.cap t 2:=by
        have e:rD pack n.cap t 2=vE pack n.cap.b t.b (rD pack n.cap t 1):=rfl
        rw [e,<-hz]
        simp [vE,hc]
       (refine zr ?_)
       refine hR 1 _ _ (by omega) ⟨_,_,?_,2,z1,z2,z3,any,by omega,rfl,hn,dW.pass,rfl,rfl⟩
       exact tL [0,1]
     · have zI:=step n.cap.b t.b hc
       have hx:=pU t.b n.cap.b
       have hn:(z1+(if pack then eY t.b n.cap.b else 100 - eY t.b n.cap.b),oI z2 (eY t.b n.cap.b),mW z3 (eY t.b n.cap.b))=rD pack n.cap t 2:=by
        have e:rD pack n.cap t 2=vE pack n.cap.b t.b (rD pack n.cap t 1):=rfl
        rw [e,<-hz]
        simp [vE,hc]
       generalize eY t.b n.cap.b=x at zI hx hn
       have sW:=dW.take pack hx.1 hx.2
       cases pack
       all_goals ((conv=>whnf);repeat ((first|refine cA (Pure.go zI rfl) ?_|refine bC.of (WO (z:=oI z2 x) rfl) ?_|refine bC.of (Vk (z:=mW z3 x) rfl) ?_|refine zz ?_)<;>(conv=>whnf)))
       all_goals
        refine hR 1 _ _ (by omega) ⟨_,_,?_,2,_,_,_,true,by omega,rfl,hn,sW,rfl,rfl⟩
        exact tL [0,1]
   · by_cases hc:n.cap.c<=0
     · have hn:(z1,z2,z3)=rD pack n.cap t 3:=by
        have e:rD pack n.cap t 3=vE pack n.cap.c t.c (rD pack n.cap t 2):=rfl
        rw [e,<-hz]
        simp [vE,hc]
       (refine zr ?_)
       refine hR 0 _ _ (by omega) ⟨_,_,?_,3,z1,z2,z3,any,by omega,rfl,hn,dW.pass,rfl,rfl⟩
       exact tL [0,1]
     · have zI:=step n.cap.c t.c hc
       have hx:=pU t.c n.cap.c
       have hn:(z1+(if pack then eY t.c n.cap.c else 100 - eY t.c n.cap.c),oI z2 (eY t.c n.cap.c),mW z3 (eY t.c n.cap.c))=rD pack n.cap t 3:=by
        have e:rD pack n.cap t 3=vE pack n.cap.c t.c (rD pack n.cap t 2):=rfl
        rw [e,<-hz]
        simp [vE,hc]
       generalize eY t.c n.cap.c=x at zI hx hn
       have sW:=dW.take pack hx.1 hx.2
       cases pack
       all_goals ((conv=>whnf);repeat ((first|refine cA (Pure.go zI rfl) ?_|refine bC.of (WO (z:=oI z2 x) rfl) ?_|refine bC.of (Vk (z:=mW z3 x) rfl) ?_|refine zz ?_)<;>(conv=>whnf)))
       all_goals
        refine hR 0 _ _ (by omega) ⟨_,_,?_,3,_,_,_,true,by omega,rfl,hn,sW,rfl,rfl⟩
        exact tL [0,1]
end
open Go
def j0 (s:dY) (p:aL) (pack:Bool):List aU->Int->aU->Int×aU
 |[],b,a=>(b,a)
 |n::r,b,a=>if b<kU s p n pack then j0 s p pack r (kU s p n pack) n else j0 s p pack r b a
def zQ (s:dY) (p:aL) (pack:Bool):Int×aU:=j0 s p pack (jA s p) (-1) []
section
variable {s:dY} {p:aL} {pack:Bool}
theorem I3:∀ {L:List aU} {b:Int} {a:aU},b<=(j0 s p pack L b a).1/\∀ x∈L,kU s p x pack<=(j0 s p pack L b a).1
 |[],b,a=>⟨Int.le_refl _,fun _ h=>by cases h⟩
 |n::r,b,a=>by
  rw [j0]
  split
  · rename_i h
    have ih:=I3 (L:=r) (b:=kU s p n pack) (a:=n)
    refine ⟨by omega,fun x hx=>?_⟩
    cases hx with
    |head=>exact ih.1
    |tail _ hx=>exact ih.2 x hx
  · rename_i h
    have ih:=I3 (L:=r) (b:=b) (a:=a)
    refine ⟨ih.1,fun x hx=>?_⟩
    cases hx with
    |head=>omega
    |tail _ hx=>exact ih.2 x hx
theorem I4:∀ {L:List aU} {b:Int} {a:aU},j0 s p pack L b a=(b,a)\/((j0 s p pack L b a).2∈L/\(j0 s p pack L b a).1=kU s p (j0 s p pack L b a).2 pack/\b<(j0 s p pack L b a).1)
 |[],b,a=>.inl rfl
 |n::r,b,a=>by
  rw [j0]
  split
  · rename_i h
    rcases I4 (L:=r) (b:=kU s p n pack) (a:=n) with ih|⟨h1,h2,h3⟩
    · rw [ih]
      exact .inr ⟨.head _,rfl,h⟩
    · exact .inr ⟨.tail _ h1,h2,by omega⟩
  · rcases I4 (L:=r) (b:=b) (a:=a) with ih|⟨h1,h2,h3⟩
    · exact .inl ih
    · exact .inr ⟨.tail _ h1,h2,h3⟩
end
section
variable {P:Program} (hG:bP P AF.fns.get)
include hG
theorem best_ok (s:dY) (p:aL) (pack:Bool) (CS:(jA s p).length<=6) (hw:Pure P 89 [kS s,.agg (aI p)] (·=.sl none 1 ((jA s p).map bE))) (hsc:∀ node:aU,Pure P 90 [kS s,.agg (aI p),.s node,.b pack] (·=.i .i64 (kU s p node pack))):
 Pure P 29 [kS s,.agg (aI p),.b pack] (·=.bY [.s (zQ s p pack).2,.b (decide ((zQ s p pack).1>=0))]):=by
 rw [zQ]
 generalize jA s p=l at hw CS
 have gK:(l.map bE).length=l.length:=List.length_map _
 refine aP (hG _ AF.f29 rfl) rfl ?_
 (refine cD @hw ?_)
 refine bD.by (fun q fr st=>∃ (i:Nat) (b:Int) (a:aU),i<=l.length/\q=l.length - i/\j0 s p pack l (-1) []=j0 s p pack (l.drop i) b a/\
  fr=[(17,.i .i64 i),(16,.i .i64 (l.map bE).length),(15,.sl none 1 (l.map bE)),(9,.s a),(8,.i .i64 b),(4,.p (.l 1) 0),(3,.p (.l 0) 0),(2,.b pack)]/\
  st=⟨iJ,⟨2,[(1,.cs (aI p)),(0,.cs [.sl none 6 (s.nodes.map aK),.sl none 16 (s.aE.map aI)])]⟩⟩)
  l.length ⟨_,_,?_,0,-1,[],Nat.zero_le _,rfl,rfl,rfl,rfl⟩ ?_
 · exact tL [0,1]
 rintro q fr st ⟨i,b,a,hi,rfl,pK,rfl,rfl⟩ R hR
 (conv=>whnf)
 refine aH.ds (fun cO=>?_) (fun fE=>?_)
 · have cZ:i<l.length:=by omega
   have he:=List.getElem?_eq_getElem cZ
   rw [List.drop_eq_getElem_cons cZ,j0] at pK
   generalize l[i]=e at he pK
   have hc:=hsc e
   generalize kU s p e pack=x at hc pK
   by_cases hbx:b<x
   · rw [if_pos hbx] at pK
     (refine iG @hc @he ?_)
     refine hR (l.length - (i+1)) _ _ (by omega) ⟨_,_,?_,i+1,x,e,by omega,rfl,pK,rfl,rfl⟩
     exact tL [0,1]
   · rw [if_neg hbx] at pK
     (refine iG @hc @he ?_)
     refine hR (l.length - (i+1)) _ _ (by omega) ⟨_,_,?_,i+1,b,a,by omega,rfl,pK,rfl,rfl⟩
     exact tL [0,1]
 · rw [List.drop_eq_nil_of_le (by omega),j0] at pK
   rw [pK]
   (refine zr ?_)
   exact aG rfl rfl
end
open Go
theorem PT {s:dY} {p:aL} {b:Be} {n:bK} (h:∀ d,b=some d->mJ s p d.1=some d.2.1):∀ d,iE s p b n=some d->mJ s p d.1=some d.2.1:=by
 intro d hd
 unfold iE at hd
 cases hv:mJ s p n.name with
 |none=>rw [hv] at hd;exact h d hd
 |some l=>
  rw [hv] at hd
  cases b with
  |none=>cases hd;exact hv
  |some e=>
   dsimp only at hd
   split at hd
   · cases hd;exact hv
   · exact h d hd
theorem Hh {s:dY} {p:aL}:∀ (N:List bK) (b:Be),(∀ d,b=some d->mJ s p d.1=some d.2.1)->∀ d,N.foldl (iE s p) b=some d->mJ s p d.1=some d.2.1
 |[],_,h=>h
 |n::r,b,h=>by
  rw [List.foldl_cons]
  exact Hh r _ (PT h)
theorem M1 {s:dY} {p:aL} {d:aU×List aU×(Int×Int×Int)} (h:An s p=some d):mJ s p d.1=some d.2.1:=Hh s.nodes none (fun d hd=>by cases hd) d h
open Go
theorem PU {s:dY} {p:aL} {x:aU} (h:gR s p x=true):p.node=[]:=by
 unfold gR at h
 cases hf:s.nodes.find? (fun n=>n.name==x) with
 |none=>rw [hf] at h;cases h
 |some n=>
  rw [hf] at h
  dsimp only at h
  simp only [KC,Bool.and_eq_true] at h
  simpa using h.1
theorem M3 {s:dY} {p:aL} {pack:Bool}:(jA s p=[]->decide ((zQ s p pack).1>=0)=false)/\(jA s p≠[]->decide ((zQ s p pack).1>=0)=true/\(zQ s p pack).2∈jA s p):=by
 constructor
 · intro h
   unfold zQ
   rw [h]
   rfl
 · intro h
   cases hw:jA s p with
   |nil=>exact absurd hw h
   |cons x r=>
    have hx:x∈jA s p:=by rw [hw];exact .head _
    have h1:=(Ti (pack:=pack) (Ha hx)).1
    have h2:=(I3 (s:=s) (p:=p) (pack:=pack) (L:=jA s p) (b:=-1) (a:=[])).2 x hx
    have h3:=I4 (s:=s) (p:=p) (pack:=pack) (L:=jA s p) (b:=-1) (a:=[])
    rw [hw] at h2 h3
    unfold zQ
    rw [hw]
    have h4:0<=(j0 s p pack (x::r) (-1) []).1:=by omega
    refine ⟨decide_eq_true h4,?_⟩
    rcases h3 with h3|⟨h3,_⟩
    · rw [h3] at h4
      exact absurd h4 (by decide)
    · exact h3
section
variable {P:Program} (hG:bP P AF.fns.get)
include hG
theorem plan_ok (s:dY) (p:aL) (pack:Bool) (n:aU) (x:Bool) (E:Be) (h1:Pure P 29 [kS s,.agg (aI p),.b pack] (·=.bY [.s n,.b x])) (h2:Pure P 50 [kS s,.agg (aI p)] (·=.bY [.agg (doC p.name E),.b E.isSome])):
 Pure P 13 [kS s,.agg (aI p),.b pack] (·=if x then .bY [.agg [.s p.name,.s n,.sl none 1 []],.b true] else .bY [.agg (doC p.name E),.b E.isSome]):=by
 refine aP (hG _ AF.f13 rfl) rfl ?_
 cases x
 · cases E
   all_goals (refine iG @h1 @h2 ?_)
   all_goals exact aG rfl rfl
 · (refine iG @h1 @h2 ?_)
   exact tE (ds:=[.s p.name,.s n,.sl none 1 []]) yZ rfl rfl
end
open Go
def hM (n:Int):List V:=[.i .u8 n]
section
variable {P:Program} (hG:bP P AF.fns.get)
include hG
theorem uJ (l:List Int) (hl:l.length*1<=140737488355328):Pure P 105 [.sl none 1 (l.map hM)] (·=.sl none 1 (l.map hM)):=by
 refine aP (hG _ AF.f105 rfl) rfl ?_
 cases l with
 |nil=>
  (refine zr ?_)
  refine B0.mk fun b=>?_
  cases b
  · (refine zr ?_)
    exact iR rfl
  · (refine zr ?_)
    exact pure_nil rfl
 |cons x r=>
  ((conv=>whnf);repeat ((first|refine ye (gI (fun _=>rfl) (x::r)) ?_|refine aM.mk (by first|(simp [bT];done)|simpa [bT] using hl) ?_|refine zz ?_)<;>(conv=>whnf)))
  exact iR rfl
end
open Go
def eM (c:Nat):Nat:=if 97<=c/\c<123 then c - 96 else if 48<=c/\c<58 then c - 21 else if c=45 then 37 else 0
def CT (d:Nat):Nat:=if 1<=d/\d<=26 then d+96 else if 27<=d/\d<=36 then d+21 else if d=37 then 45 else 0
theorem KR {c:Nat} (h:0<eM c):c<256:=by
 unfold eM at h
 split at h
 · omega
 · split at h
   · omega
   · split at h<;>omega
theorem Aq (c:Nat) (h:0<eM c):CT (eM c)=c:=
 (show ∀ c,c<256->0<eM c->CT (eM c)=c by decide) c (KR h) h
theorem Ol {α:Type} {A B C:List α} {n k:Nat} {v:α} (hn:n=A.length+k) (hk:k<B.length):(A++(B++C)).set n v=A++(B.set k v++C):=by
 subst hn
 rw [List.set_append_right _ _ (by omega),List.set_append_left _ _ (by omega),Nat.add_sub_cancel_left]
theorem Bh (c:Nat):eM c<=37:=by
 unfold eM
 split
 · omega
 · split
   · omega
   · split<;>omega
def Hi (n c:Nat):Nat:=if eM c<=n then eM c else 0
def yF (n d:Nat):Nat:=if d<=n then CT d else 0
def pM (d l:Int) (n:Nat):List V:=[.i .u32 d,.i .i32 l,.i .u32 0]++((List.range 256).map fun c=>V.i .u64 (Hi n c))++((List.range 38).map fun j=>V.i .u8 (yF n j))
theorem KS (d l:Int) (n:Nat):(pM d l n).length=297:=by simp [pM]
theorem Hj {α:Type} (f g:Nat->α) (n i:Nat) (v:α) (hv:i<n->g i=v) (h:∀ j,j≠i->g j=f j):((List.range n).map f).set i v=(List.range n).map g:=by
 apply List.ext_getElem?
 intro j
 rw [List.getElem?_set]
 split
 · rename_i Ry
   subst Ry
   by_cases hi:i<n
   · simp [hi,hv hi]
   · simp [hi]
 · rename_i Ry
   by_cases hj:j<n
   · simp [hj,h j (Ne.symm Ry)]
   · simp [hj]
theorem VD (d l:Int) (m b:Nat) (R:List V) (hb:b<256) (hd:eM b=m+1):((pM d l m++R).set (3+b) (.i .u64 ((m+1:Nat):Int))).set (259+(m+1)) (.i .u8 (b:Int))=pM d l (m+1)++R:=by
 have hm:m+1<=37:=by have:=Bh b;omega
 have Du:CT (m+1)=b:=by rw [<-hd];exact Aq b (by omega)
 have e1:((List.range 256).map fun c=>V.i .u64 (Hi m c)).set b (.i .u64 ((m+1:Nat):Int))=(List.range 256).map fun c=>V.i .u64 (Hi (m+1) c):=by
  refine Hj _ _ _ _ _ (fun _=>?_) (fun j hj=>?_)
  · show V.i .u64 (((if eM b<=m+1 then eM b else 0:Nat)):Int)=_
    rw [if_pos (by omega),hd]
  · have dJ:eM j≠m+1:=by
     intro hc
     have h1:=Aq j (by omega)
     rw [hc,Du] at h1
     exact hj h1.symm
    show V.i .u64 _=V.i .u64 _
    congr 2
    unfold Hi
    by_cases h1:eM j<=m
    · rw [if_pos h1,if_pos (by omega)]
    · rw [if_neg h1,if_neg (by omega)]
 have e2:((List.range 38).map fun j=>V.i .u8 (yF m j)).set (m+1) (.i .u8 (b:Int))=(List.range 38).map fun j=>V.i .u8 (yF (m+1) j):=by
  refine Hj _ _ _ _ _ (fun _=>?_) (fun j hj=>?_)
  · show V.i .u8 (((if m+1<=m+1 then CT (m+1) else 0:Nat)):Int)=_
    rw [if_pos (Nat.le_refl _),Du]
  · show V.i .u8 _=V.i .u8 _
    congr 2
    unfold yF
    by_cases h1:j<=m
    · rw [if_pos h1,if_pos (by omega)]
    · rw [if_neg h1,if_neg (by omega)]
 unfold pM
 rw [<-e1,<-e2]
 generalize hB:((List.range 256).map fun c=>V.i .u64 (Hi m c))=B
 generalize hC:((List.range 38).map fun j=>V.i .u8 (yF m j))=C
 have hBl:B.length=256:=by rw [<-hB];simp
 have hCl:C.length=38:=by rw [<-hC];simp
 rw [List.append_assoc,List.append_assoc,Ol (k:=b) (by first|(simp;done)|(simp;omega)) (by omega),<-List.append_assoc,Ol (k:=m+1) (by first|(simp [hBl];done)|(simp [hBl];omega)) (by omega)]
 simp only [List.append_assoc]
open Go
theorem aA.aJ.in3 {b:Nat->Prop} {h:aA} {x y z:Nat} (hx:b x) (hy:b y) (hz:b z) (o o2 o3:Obj):aA.aJ b h (((h.set x o).set y o2).set z o3):=
 aA.aJ.set (b:=b) (aA.aJ.set (b:=b) (aA.aJ.set (b:=b) (.refl _ _) (.inl hx) o) (.inl hy) o2) (.inl hz) o3
section
variable {P:Program} (hG:bP P AF.fns.get)
include hG
theorem tadd_at {h:aA} {kn kv a m b:Nat} {d l:Int} {R:List V} (h1:h.get kn=some (.cs [.i .u64 (m:Nat)])) (h2:h.get kv=some (.cs [.p (.g a) 0])) (h3:h.get a=some (.cs (pM d l m++R))) (ZG:kn≠a) (YC:kv≠a) (hnv:kn≠kv)
 (hb:b<256) (hd:eM b=m+1) {K:V->aA->Prop}
 (hK:∀ h',h'.get kn=some (.cs [.i .u64 ((m+1:Nat):Int)])->h'.get a=some (.cs (pM d l (m+1)++R))->aA.aJ (fun n=>n=kn\/n=a) h h'->K (.bY []) h'):aC P 287 [.i .u8 (b:Nat),.p (.g kn) 0,.p (.g kv) 0] h K:=by
 have hm:m+1<=37:=by have:=Bh b;omega
 refine aQ (hG _ AF.f287 rfl) rfl ?_
 have g1:∀ o,(h.set kn o).get kv=some (.cs [.p (.g a) 0]):=fun o=>aA.gs (Ne.symm hnv) h2
 have g2:∀ o,(h.set kn o).get a=some (.cs (pM d l m++R)):=fun o=>aA.gs (Ne.symm ZG) h3
 have g3:∀ o,(h.set kn o).get kn=some o:=fun o=>aA.aD h1
 have g4:∀ o o2,((h.set kn o).set a o2).get a=some o2:=fun o o2=>aA.aD (g2 _)
 have g5:∀ o o2,((h.set kn o).set a o2).get kv=some (.cs [.p (.g a) 0]):=fun o o2=>aA.gs YC (g1 _)
 have g6:∀ o o2,((h.set kn o).set a o2).get kn=some o:=fun o o2=>aA.gs ZG (g3 _)
 have g7:∀ o o2 o3,(((h.set kn o).set a o2).set a o3).get kn=some o:=fun o o2 o3=>aA.gs ZG (g6 _ _)
 have g8:∀ o o2 o3,(((h.set kn o).set a o2).set a o3).get a=some o3:=fun o o2 o3=>aA.aD (g4 _ _)
 have hlen:(pM d l m++R).length=297+R.length:=by rw [List.length_append,KS]
 have e1:dT (pM d l m++R) (0+3+((b:Nat):Int).toNat*1) [.i .u64 ((m:Int)+1)]=(pM d l m++R).set (3+b) (.i .u64 ((m+1:Nat):Int)):=by
  show (pM d l m++R).set _ _=_
  rw [show 0+3+((b:Nat):Int).toNat*1=3+b by omega];rfl
 have e2:dT ((pM d l m++R).set (3+b) (.i .u64 ((m+1:Nat):Int))) (0+259+((m:Int)+1).toNat*1) [.i .u8 (b:Nat)]=pM d l (m+1)++R:=by
  rw [<-VD d l m b R hb hd]
  show List.set _ _ _=_
  rw [show 0+259+((m:Int)+1).toNat*1=259+(m+1) by omega]
 ((conv=>whnf);repeat ((first|refine aR.wu (by omega) (by omega) ?_|refine aM.ix (by omega) (by omega) ?_|refine aM.mk (decide_eq_true (by rw [hlen];show 0+3+((b:Nat):Int).toNat*1+1<=_;omega)) ?_|refine aM.mk (decide_eq_true (by rw [List.length_set,hlen];show 0+259+((m:Int)+1).toNat*1+1<=_;omega)) ?_|refine ye (congrArg some e1) ?_|refine ye (congrArg some e2) ?_|refine ye (h1) ?_|refine ye (g1 _) ?_|refine ye (g2 _) ?_|refine ye (g3 _) ?_|refine ye (g4 _ _) ?_|refine ye (g5 _ _) ?_|refine ye (g6 _ _) ?_|refine zz ?_)<;>(conv=>whnf)))
 exact hK _ (g7 _ _ _) (g8 _ _ _) (aA.aJ.in3 (.inl rfl) (.inr rfl) (.inr rfl) _ _ _)
theorem tmake1_at {h:aA} {kv a:Nat} {d l:Int} {R:List V} (h2:h.get kv=some (.cs [.p (.g a) 0])) (h3:h.get a=some (.cs (pM d l 0++R))) (hv:kv<h.next) (ha:a<h.next) (YC:kv≠a) {K:V->aA->Prop}
 (hK:∀ h',h'.get a=some (.cs (pM d l 37++R))->aA.aJ (fun n=>n=a) h h'->K (.bY []) h'):aC P 286 [.p (.g kv) 0] h K:=by
 refine aQ (hG _ AF.f286 rfl) rfl ?_
 (refine cD @aA.aB ?_)
 refine b8.by (fun q fr st=>∃ (i:Nat) (hh lo:aA),i<=26/\q=26 - i/\h.next<hh.next/\hh.get h.next=some (.cs [.i .u64 (i:Nat)])/\hh.get a=some (.cs (pM d l i++R))/\aA.aJ (fun n=>n=a\/n=h.next) h hh/\
  Fr.le [(6,.i .u8 i),(2,.fn 287 [] [.p (.g h.next) 0,.p (.g kv) 0])] fr/\st=⟨hh,lo⟩)
  26 ⟨0,_,_,by omega,rfl,Nat.lt_succ_self _,aA.aD (aA.aB _ _),aA.gs (by omega) (aA.gp (by omega) h3),.set (.push (.refl _ _) _) (.inr (Nat.le_refl _)) _,cT,rfl⟩ ?_
 rintro q fr st ⟨i,hh,lo,hi,rfl,hn,g1,g3,hk,dE,rfl⟩
 refine ⟨_,dE,fun R1 hR=>?_⟩
 have g2:hh.get kv=some (.cs [.p (.g a) 0]):=by rw [hk.2 kv hv (by rintro (h|h)<;>omega)];exact h2
 by_cases cY:i<26
 · have uC:=fun K hK=>tadd_at (K:=K) hG g1 g2 g3 (by omega) YC (by omega) (show 97+i<256 by omega) (show eM (97+i)=i+1 by unfold eM;rw [if_pos (by omega)];omega) hK
   have hb:((97+i:Nat):Int)=97+(i:Int):=by omega
   rw [hb] at uC
   ((conv=>whnf);repeat ((first|refine aH.dt (show (i:Int)<26 by omega) ?_|refine aR.of (by show (0:Int)<=_;omega) (by show _<=(255:Int);omega) ?_|refine cA (uC _) ?_|refine zz ?_)<;>(conv=>whnf)))
   intro h' q1 q2 q3
   ((conv=>whnf);repeat ((first|refine aR.of (by show (0:Int)<=_;omega) (by show _<=(255:Int);omega) ?_|refine zz ?_)<;>(conv=>whnf)))
   exact hR (26 - (i+1)) _ _ (by omega) ⟨i+1,h',lo,by omega,rfl,Nat.lt_of_lt_of_le hn q3.1,q1,q2,hk.trans (q3.mono fun n _ e=>e.symm),cT,rfl⟩
 · obtain rfl:i=26:=by omega
   (refine cD (show ¬((26:Nat):Int)<26 by omega) ?_)
   refine b8.by (fun q fr st=>∃ (i:Nat) (hh lo:aA),i<=10/\q=10 - i/\h.next<hh.next/\hh.get h.next=some (.cs [.i .u64 ((26+i:Nat):Int)])/\hh.get a=some (.cs (pM d l (26+i)++R))/\aA.aJ (fun n=>n=a\/n=h.next) h hh/\
    Fr.le [(14,.i .u8 i),(2,.fn 287 [] [.p (.g h.next) 0,.p (.g kv) 0])] fr/\st=⟨hh,lo⟩)
    10 ⟨0,hh,_,by omega,rfl,hn,g1,g3,hk,cT,rfl⟩ ?_
   rintro q fr st ⟨i,hh,lo,hi,rfl,hn,g1,g3,hk,dE,rfl⟩
   refine ⟨_,dE,fun R1 hR=>?_⟩
   have g2:hh.get kv=some (.cs [.p (.g a) 0]):=by rw [hk.2 kv hv (by rintro (h|h)<;>omega)];exact h2
   by_cases cY:i<10
   · have uC:=fun K hK=>tadd_at (K:=K) hG g1 g2 g3 (by omega) YC (by omega) (show 48+i<256 by omega) (show eM (48+i)=26+i+1 by unfold eM;rw [if_neg (by omega),if_pos (by omega)];omega) hK
     have hb:((48+i:Nat):Int)=48+(i:Int):=by omega
     rw [hb] at uC
     ((conv=>whnf);repeat ((first|refine aH.dt (show (i:Int)<10 by omega) ?_|refine aR.of (by show (0:Int)<=_;omega) (by show _<=(255:Int);omega) ?_|refine cA (uC _) ?_|refine zz ?_)<;>(conv=>whnf)))
     intro h' q1 q2 q3
     ((conv=>whnf);repeat ((first|refine aR.of (by show (0:Int)<=_;omega) (by show _<=(255:Int);omega) ?_|refine zz ?_)<;>(conv=>whnf)))
     exact hR (10 - (i+1)) _ _ (by omega) ⟨i+1,h',lo,by omega,rfl,Nat.lt_of_lt_of_le hn q3.1,q1,q2,hk.trans (q3.mono fun n _ e=>e.symm),cT,rfl⟩
   · obtain rfl:i=10:=by omega
     have uC:=fun K hK=>tadd_at (K:=K) hG g1 g2 g3 (by omega) YC (by omega) (show 45<256 by omega) (show eM 45=26+10+1 by rfl) hK
     (refine iG (show ¬((10:Nat):Int)<10 by omega) @uC ?_)
     intro h' q1 q2 q3
     (refine zr ?_)
     exact hK h' q2 ((hk.trans (q3.mono fun n _ e=>e.symm)).mono fun n LD e=>by rcases e with e|e;exact e;omega)
end
open Go
def tv:Bool->List V
 |true=>pM 1 0 37
 |false=>pM 0 0 0
theorem pB (m:Bool):(tv m).length=297:=by cases m<;>exact KS _ _ _
theorem ac2 (m:Bool) (x:V) (r:List V):(tv m++x::r)[0+297]? =some x:=by
 rw [List.getElem?_append_right (by rw [pB];omega),pB];rfl
theorem mL (m:Bool) (x:V) (r:List V):dS (tv m++x::r) (0+297) none=some x:=ac2 m x r
theorem Hk (m:Bool) (x y:V) (r:List V):dT (tv m++x::r) (0+297) [y]=tv m++y::r:=by
 show List.set _ _ _=_
 rw [List.set_append_right _ _ (by rw [pB];omega),pB];rfl
theorem yG (m:Bool) (x y:V) (r:List V):pV (tv m++x::r) (0+297) [y]=true:=decide_eq_true (by rw [List.length_append,pB];simp;omega)
def j3 (h:aA) (lo a:Nat) (m:Bool) (B:List Int):Prop:=
 lo<=a/\a<h.next/\((B=[]/\h.get a=some (.cs (tv m++[.aS])))\/∃ k,lo<=k/\k≠a/\k<h.next/\h.get k=some .spare/\h.get a=some (.cs (tv m++[.sl (some (.g k)) 1 (B.map hM)])))
def Hl (n:Int) (s:Int):Int:=IntKind.u8.wrap (n.fdiv (2 ^ (min s.toNat IntKind.i64.bits)))
def dI (n:Int) (size:Nat):List Int:=(List.range size).map fun (i:Nat)=>Hl n (8*(((size:Int) - 1) - (i:Int)))
theorem Tj (n:Int) {size i:Nat} (h:i<size):(dI n size)[i]? =some (Hl n (8*(((size:Int) - 1) - i))):=by simp [dI,h]
section
variable {P:Program} (hG:bP P AF.fns.get)
include hG
theorem tmake_at (eN:dQ P 285) {h:aA} {a:Nat} {m:Bool} {R:List V} (ha:a<h.next) (h1:h.get a=some (.cs (tv m++R))) {K:V->aA->Prop}
 (hK:∀ h',h'.get a=some (.cs (tv true++R))->aA.aJ (fun n=>n=a) h h'->K (.bY []) h'):aC P 211 [.p (.g a) 0] h K:=by
 have g1:∀ o,(h.push o).get a=some (.cs (tv m++R)):=fun o=>aA.gp (by omega) h1
 have g2:∀ o,(h.push o).get h.next=some o:=fun o=>aA.aB _ _
 cases m
 · have ZI:=fun (K:V->aA->Prop) hc=>eN.first a 0 286 [] [.p (.g h.next) 0] (tv false++R) (h.push (.cs [.p (.g a) 0])) K (g1 _) rfl rfl hc
   refine aQ (hG _ AF.f211 rfl) rfl ?_
   (refine qR @ZI @g1 @g2 ?_)
   have c1:(tv false++R).set (0+1) (.i .i32 1)=pM 0 1 0++R:=rfl
   rw [c1]
   refine tmake1_at hG (kv:=h.next) (a:=a) (d:=0) (l:=1) (R:=R) (aA.gs (by omega) (g2 _)) (aA.aD (g1 _)) (Nat.lt_succ_self _) (Nat.lt_succ_of_lt ha) (by omega) fun h' q1 q2=>?_
   refine ⟨_,q1,rfl,rfl,?_⟩
   have c2:((pM 0 1 37++R).set 0 (.i .u32 1)).set (0+1) (.i .i32 0)=tv true++R:=rfl
   rw [c2]
   (refine zr ?_)
   exact hK _ (aA.aD q1) (aA.aJ.set (b:=fun n=>n=a) (aA.aJ.trans (b:=fun n=>n=a) (aA.aJ.set (b:=fun n=>n=a) (.push (.refl _ _) _) (.inl rfl) _) q2) (.inl rfl) _)
 · have ZI:=fun (K:V->aA->Prop) hc=>eN.done a 0 286 [] [.p (.g h.next) 0] (tv true++R) 1 (h.push (.cs [.p (.g a) 0])) K (g1 _) rfl (by decide) hc
   refine aQ (hG _ AF.f211 rfl) rfl ?_
   (refine qR @ZI @g1 @g2 ?_)
   exact hK _ (g1 _) (.push (.refl _ _) _)
theorem wnum_at {h:aA} {lo a:Nat} {m:Bool} {B:List Int} (hw:j3 h lo a m B) (hB:B.length<=100000000) (n:Int) (size:Nat) (hs:size<=8) {K:V->aA->Prop}
 (hK:∀ h',j3 h' lo a m (B++dI n size)->aA.aJ (fun n=>lo<=n) h h'->K (.bY []) h'):aC P 46 [.p (.g a) 0,.i .i64 n,.i .i64 size] h K:=by
 refine aQ (hG _ AF.f46 rfl) rfl ?_
 have tO:(dI n size).length=size:=by simp [dI]
 (refine zr ?_)
 refine b8.by (fun q fr st=>∃ (i:Nat) (hh l:aA),i<=size/\q=size - i/\j3 hh lo a m (B++(dI n size).take i)/\aA.aJ (fun n=>lo<=n) h hh/\
  Fr.le [(8,.i .i64 i),(7,.i .i64 size),(2,.i .i64 size),(1,.i .i64 n),(0,.p (.g a) 0)] fr/\st=⟨hh,l⟩)
  size ⟨0,h,_,Nat.zero_le _,rfl,(by rw [List.take_zero,List.append_nil];exact hw),.refl _ _,cT,rfl⟩ ?_
 rintro q fr st ⟨i,hh,l,hi,rfl,CU,hk,dE,rfl⟩
 refine ⟨_,dE,fun R hR=>?_⟩
 by_cases cY:i<size
 · have fU:=Tj n cY
   have jM:(dI n size).take (i+1)=(dI n size).take i++[Hl n (8*(((size:Int) - 1) - i))]:=by rw [List.take_add_one,fU];rfl
   obtain ⟨hla,WX,hb⟩:=CU
   have hlen:(B++(dI n size).take i).length<=100000008:=by simp;omega
   have g0:∀ o,(hh.push o).get hh.next=some o:=fun o=>aA.aB _ _
   rcases hb with ⟨uH,ga⟩|⟨k,GC,hka,Tk,gk,ga⟩
   · have g1:∀ o,(hh.push o).get a=some (.cs (tv m++[.aS])):=fun o=>aA.gp (by omega) ga
     have g2:∀ o o2,((hh.push o).push o2).get a=some (.cs (tv m++[.aS])):=fun o o2=>aA.gp (by show a≠hh.next+1;omega) (g1 o)
     ((conv=>whnf);repeat ((first|refine aH.dt (show (i:Int)<(size:Nat) by omega) ?_|refine aR.gA (by omega) (by omega) ?_|refine aM.mk (decide_eq_true (show (0:Int)<=8*((size:Int) - 1 - (i:Int)) by omega)) ?_|refine aR.mk ?_|refine aM.mk (yG _ _ _ _) ?_|refine bC.of (mL _ _ _) ?_|refine ye (congrArg some (Hk _ _ _ _)) ?_|refine ye (ga) ?_|refine ye (g1 _) ?_|refine ye (g2 _ _) ?_|refine zz ?_)<;>(conv=>whnf)))
     dsimp only
     rw [mL]
     ((conv=>whnf);repeat ((first|refine aH.dt (show (i:Int)<(size:Nat) by omega) ?_|refine aR.gA (by omega) (by omega) ?_|refine aM.mk (decide_eq_true (show (0:Int)<=8*((size:Int) - 1 - (i:Int)) by omega)) ?_|refine aR.mk ?_|refine aM.mk (yG _ _ _ _) ?_|refine bC.of (mL _ _ _) ?_|refine ye (congrArg some (Hk _ _ _ _)) ?_|refine ye (ga) ?_|refine ye (g1 _) ?_|refine ye (g2 _ _) ?_|refine zz ?_)<;>(conv=>whnf)))
     have sW:∀ o o2 o3,aA.aJ (fun n=>lo<=n) h (((hh.push o).push o2).set a o3):=fun o o2 o3=>aA.aJ.set (b:=fun n=>lo<=n) (.push (.push hk _) _) (.inl hla) _
     exact hR (size - (i+1)) _ _ (by omega) ⟨i+1,_,_,by omega,rfl,⟨hla,(by show a<hh.next+1+1;omega),.inr ⟨hh.next+1,by omega,by omega,Nat.lt_succ_self _,aA.gs (by omega) (aA.aB _ _),(aA.aD (g2 _ _)).trans (by rw [jM,<-List.append_assoc,uH];rfl)⟩⟩,sW _ _ _,cT,rfl⟩
   · have g1:∀ o,(hh.push o).get a=some (.cs (tv m++[.sl (some (.g k)) 1 ((B++(dI n size).take i).map hM)])):=fun o=>aA.gp (by omega) ga
     have g3:∀ o,(hh.push o).get k=some .spare:=fun o=>aA.gp (by omega) gk
     have g2:∀ o o2,(((hh.push o).remove k).push o2).get a=some (.cs (tv m++[.sl (some (.g k)) 1 ((B++(dI n size).take i).map hM)])):=fun o o2=>aA.gp (by show a≠hh.next+1;omega) (aA.gr (Ne.symm hka) (g1 o))
     have gK:((B++(dI n size).take i).map hM).length=(B++(dI n size).take i).length:=List.length_map _
     ((conv=>whnf);repeat ((first|refine aH.dt (show (i:Int)<(size:Nat) by omega) ?_|refine aR.gA (by omega) (by omega) ?_|refine aM.mk (decide_eq_true (show (0:Int)<=8*((size:Int) - 1 - (i:Int)) by omega)) ?_|refine aR.mk ?_|refine aM.mk (yG _ _ _ _) ?_|refine bC.of (mL _ _ _) ?_|refine ye (congrArg some (Hk _ _ _ _)) ?_|refine aM.mk (by simp only [bT,gK];exact decide_eq_true (by simp at hlen ⊢;omega)) ?_|refine ye (ga) ?_|refine ye (g1 _) ?_|refine ye (g2 _ _) ?_|refine ye (g3 _) ?_|refine zz ?_)<;>(conv=>whnf)))
     dsimp only
     rw [mL]
     ((conv=>whnf);repeat ((first|refine aH.dt (show (i:Int)<(size:Nat) by omega) ?_|refine aR.gA (by omega) (by omega) ?_|refine aM.mk (decide_eq_true (show (0:Int)<=8*((size:Int) - 1 - (i:Int)) by omega)) ?_|refine aR.mk ?_|refine aM.mk (yG _ _ _ _) ?_|refine bC.of (mL _ _ _) ?_|refine ye (congrArg some (Hk _ _ _ _)) ?_|refine aM.mk (by simp only [bT,gK];exact decide_eq_true (by simp at hlen ⊢;omega)) ?_|refine ye (ga) ?_|refine ye (g1 _) ?_|refine ye (g2 _ _) ?_|refine ye (g3 _) ?_|refine zz ?_)<;>(conv=>whnf)))
     have sW:∀ o o2 o3,aA.aJ (fun n=>lo<=n) h ((((hh.push o).remove k).push o2).set a o3):=fun o o2 o3=>aA.aJ.set (b:=fun n=>lo<=n) (.push (aA.aJ.remove (b:=fun n=>lo<=n) (.push hk _) (.inl GC)) _) (.inl hla) _
     exact hR (size - (i+1)) _ _ (by omega) ⟨i+1,_,_,by omega,rfl,⟨hla,(by show a<hh.next+1+1;omega),.inr ⟨hh.next+1,by omega,by omega,Nat.lt_succ_self _,aA.gs (by omega) (aA.aB _ _),(aA.aD (g2 _ _)).trans (by rw [jM,<-List.append_assoc,List.map_append (f:=hM) (l₂:=[_])];rfl)⟩⟩,sW _ _ _,cT,rfl⟩
 · obtain rfl:i=size:=by omega
   rw [show (dI n i).take i=dI n i from List.take_of_length_le (by omega)] at CU
   (refine cD (show ¬(i:Int)<(i:Nat) by omega) ?_)
   exact hK hh CU hk
end
end Go.Eng
