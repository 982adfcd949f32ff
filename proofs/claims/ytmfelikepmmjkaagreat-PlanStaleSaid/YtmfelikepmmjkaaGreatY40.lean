/-
Arguments that are pods, nodes, states, by their shapes.
-/
import Derived.Test.YtmfelikepmmjkaaGreatY23
import Derived.Test.YtmfelikepmmjkaaGreatY32
import Derived.Test.YtmfelikepmmjkaaGreatY22
set_option linter.unusedVariables false
set_option linter.unusedSimpArgs false
set_option maxHeartbeats 8000000
set_option maxRecDepth 20000
namespace Go.Eng
open Go
theorem MN {α:Type} {R:α->List V} {sh:List Sh} {ok:α->Prop} (h:∀ e,Sh.nT sh e->∃ x,e=R x/\ok x):∀ {es:List (List V)},(∀ e∈es,Sh.nT sh e)->∃ l:List α,es=l.map R/\∀ x∈l,ok x
 |[],_=>⟨[],rfl,fun _ h=>by cases h⟩
 |e::r,he=>by
  obtain ⟨x,rfl,hx⟩:=h e (he e (.head _))
  obtain ⟨l,rfl,hl⟩:=MN h fun e h=>he e (.tail _ h)
  exact ⟨x::l,rfl,fun y hy=>by
   cases hy with
   |head=>exact hx
   |tail _ hy=>exact hl y hy⟩
theorem bX {a:Sh} {r:List Sh} {e:List V} (h:Sh.nT (a::r) e):∃ v q,e=v::q/\a.is v/\Sh.nT r q:=by
 cases e with
 |nil=>simp [Sh.nT] at h
 |cons v q=>exact ⟨v,q,rfl,by simpa [Sh.nT] using h⟩
theorem qD {e:List V} (h:Sh.nT [] e):e=[]:=by
 cases e with
 |nil=>rfl
 |cons v q=>simp [Sh.nT] at h
theorem Fu {v:V} (h:Sh.is .s v):∃ l:aU,v=.s l/\bP l:=by
 simp only [Sh.is] at h
 obtain ⟨l,rfl,hl⟩:=h
 exact ⟨l,rfl,hl⟩
theorem ae1 {v:V} (h:Sh.is .b v):∃ b:Bool,v=.b b:=by
 simpa only [Sh.is] using h
theorem Cl {v:V} (h:Sh.is (.i .i64) v):∃ n:Int,v=.i .i64 n/\Jl n:=by
 simp only [Sh.is] at h
 obtain ⟨n,rfl,h1,h2⟩:=h
 exact ⟨n,rfl,by simpa [IntKind.min,IntKind.bits,IntKind.signed] using h1,by simpa [IntKind.max,IntKind.bits,IntKind.signed] using h2⟩
theorem uY {α:Type} {R:α->List V} {sh:List Sh} {ok:α->Prop} (h:∀ e,Sh.nT sh e->∃ x,e=R x/\ok x) {v:V} (hv:Sh.is (.sl sh) v):∃ l:List α,v=.sl none sh.length (l.map R)/\bP l/\∀ x∈l,ok x:=by
 simp only [Sh.is] at hv
 obtain ⟨es,rfl,h1,h2⟩:=hv
 obtain ⟨l,rfl,h3⟩:=MN h h2
 exact ⟨l,rfl,by simpa [bP] using h1,h3⟩
theorem TH (e:List V) (h:Sh.nT [.s] e):∃ x:aU,e=bG x/\bP x:=by
 obtain ⟨v,q,rfl,h1,h⟩:=bX h
 obtain rfl:=qD h
 obtain ⟨l,rfl,hl⟩:=Fu h1
 exact ⟨l,rfl,hl⟩
theorem TI (e:List V) (h:Sh.nT [.i .i64] e):∃ x:Int,e=fV x/\Jl x:=by
 obtain ⟨v,q,rfl,h1,h⟩:=bX h
 obtain rfl:=qD h
 obtain ⟨n,rfl,hn⟩:=Cl h1
 exact ⟨n,rfl,hn⟩
theorem Eg (e:List V) (h:Sh.nT [.s,.s] e):∃ x:dE,e=bJ x/\x.Af:=by
 obtain ⟨v,q,rfl,h1,h⟩:=bX h
 obtain ⟨u,q,rfl,h2,h⟩:=bX h
 obtain rfl:=qD h
 obtain ⟨a,rfl,ha⟩:=Fu h1
 obtain ⟨b,rfl,hb⟩:=Fu h2
 exact ⟨⟨a,b⟩,rfl,ha,hb⟩
abbrev HJ:List Sh:=[.s,.i .i64,.sl [.s]]
theorem Eh (e:List V) (h:Sh.nT HJ e):∃ x:cM,e=bD x/\x.ok/\x.Af:=by
 obtain ⟨v,q,rfl,h1,h⟩:=bX h
 obtain ⟨u,q,rfl,h2,h⟩:=bX h
 obtain ⟨w,q,rfl,h3,h⟩:=bX h
 obtain rfl:=qD h
 obtain ⟨a,rfl,ha⟩:=Fu h1
 obtain ⟨b,rfl,_⟩:=Cl h2
 obtain ⟨c,rfl,hc,hs⟩:=uY TH h3
 exact ⟨⟨a,b,c⟩,rfl,hc,ha,hs⟩
theorem TJ (e:List V) (h:Sh.nT [.s,.s,.b] e):∃ x:j8,e=eO x/\x.Af:=by
 obtain ⟨v,q,rfl,h1,h⟩:=bX h
 obtain ⟨u,q,rfl,h2,h⟩:=bX h
 obtain ⟨w,q,rfl,h3,h⟩:=bX h
 obtain rfl:=qD h
 obtain ⟨a,rfl,ha⟩:=Fu h1
 obtain ⟨b,rfl,hb⟩:=Fu h2
 obtain ⟨c,rfl⟩:=ae1 h3
 exact ⟨⟨a,b,c⟩,rfl,ha,hb⟩
abbrev LC:List Sh:=[.s,.i .i64,.i .i64,.i .i64,.sl [.s,.s],.sl [.s,.s]]
structure cI.fit (n:cI):Prop extends DV:n.ok where
 cap:n.cap.ok
theorem Rh (e:List V) (h:Sh.nT LC e):∃ x:cI,e=aS x/\x.fit/\x.Af:=by
 obtain ⟨v1,q,rfl,h1,h⟩:=bX h
 obtain ⟨v2,q,rfl,h2,h⟩:=bX h
 obtain ⟨v3,q,rfl,h3,h⟩:=bX h
 obtain ⟨v4,q,rfl,h4,h⟩:=bX h
 obtain ⟨v5,q,rfl,h5,h⟩:=bX h
 obtain ⟨v6,q,rfl,h6,h⟩:=bX h
 obtain rfl:=qD h
 obtain ⟨a,rfl,ha⟩:=Fu h1
 obtain ⟨c1,rfl,k1⟩:=Cl h2
 obtain ⟨c2,rfl,k2⟩:=Cl h3
 obtain ⟨c3,rfl,k3⟩:=Cl h4
 obtain ⟨l1,rfl,k4,s4⟩:=uY Eg h5
 obtain ⟨l2,rfl,k5,s5⟩:=uY Eg h6
 exact ⟨⟨a,⟨c1,c2,c3⟩,l1,l2⟩,rfl,⟨⟨k4,k5⟩,k1,k2,k3⟩,ha,s4,s5⟩
abbrev JD:List Sh:=[.s,.i .i64,.i .i64,.i .i64,.i .i64,.i .i64,.sl [.i .i64],.sl [.s,.s],.sl HJ,.sl [.s,.s,.b],.s,.sl HJ,.i .i64,.sl HJ,.s,.i .i64]
theorem MO (e:List V) (h:Sh.nT JD e):∃ x:aO,e=aJ x/\(x.fit/\x.Af)/\x.term<=9223372036854775807:=by
 obtain ⟨v1,q,rfl,h1,h⟩:=bX h
 obtain ⟨v2,q,rfl,h2,h⟩:=bX h
 obtain ⟨v3,q,rfl,h3,h⟩:=bX h
 obtain ⟨v4,q,rfl,h4,h⟩:=bX h
 obtain ⟨v5,q,rfl,h5,h⟩:=bX h
 obtain ⟨v6,q,rfl,h6,h⟩:=bX h
 obtain ⟨v7,q,rfl,h7,h⟩:=bX h
 obtain ⟨v8,q,rfl,h8,h⟩:=bX h
 obtain ⟨v9,q,rfl,h9,h⟩:=bX h
 obtain ⟨v10,q,rfl,EZ,h⟩:=bX h
 obtain ⟨v11,q,rfl,HK,h⟩:=bX h
 obtain ⟨v12,q,rfl,Ei,h⟩:=bX h
 obtain ⟨v13,q,rfl,XR,h⟩:=bX h
 obtain ⟨v14,q,rfl,ZK,h⟩:=bX h
 obtain ⟨v15,q,rfl,h15,h⟩:=bX h
 obtain ⟨v16,q,rfl,TK,h⟩:=bX h
 obtain rfl:=qD h
 obtain ⟨a1,rfl,s1⟩:=Fu h1
 obtain ⟨a2,rfl,_⟩:=Cl h2
 obtain ⟨a3,rfl,_⟩:=Cl h3
 obtain ⟨a4,rfl,k4⟩:=Cl h4
 obtain ⟨a5,rfl,k5⟩:=Cl h5
 obtain ⟨a6,rfl,k6⟩:=Cl h6
 obtain ⟨a7,rfl,k7,_⟩:=uY TI h7
 obtain ⟨a8,rfl,k8,s8⟩:=uY Eg h8
 obtain ⟨a9,rfl,k9,m9⟩:=uY Eh h9
 obtain ⟨a10,rfl,ZL,s10⟩:=uY TJ EZ
 obtain ⟨a11,rfl,s11⟩:=Fu HK
 obtain ⟨a12,rfl,TL,m12⟩:=uY Eh Ei
 obtain ⟨a13,rfl,_⟩:=Cl XR
 obtain ⟨a14,rfl,WC,m14⟩:=uY Eh ZK
 obtain ⟨a15,rfl,s15⟩:=Fu h15
 obtain ⟨a16,rfl,ZM⟩:=Cl TK
 exact ⟨⟨a1,a2,a3,⟨a4,a5,a6⟩,a7,a8,a9,a10,a11,a12,a13,a14,a15,a16⟩,rfl,⟨⟨⟨k7,k8,ZL,⟨k9,fun x h=>(m9 x h).1⟩,⟨TL,fun x h=>(m12 x h).1⟩,⟨WC,fun x h=>(m14 x h).1⟩⟩,k4,k5,k6⟩,⟨s1,s11,s15,s8,fun x h=>(m9 x h).2,s10,fun x h=>(m12 x h).2,fun x h=>(m14 x h).2⟩⟩,by have:=ZM.2;exact this⟩
theorem TM {v:V} (h:pJ.Is (true,JD) v):∃ p:aO,v=.agg (aJ p)/\p.fit/\p.Af:=by
 obtain ⟨row,rfl,h⟩:=h
 obtain ⟨p,rfl,hp⟩:=MO row h
 exact ⟨p,rfl,hp.1⟩
structure eG.arg (s:eG):Prop where
 nodes:bP s.nodes
 aF:bP s.aF
 node:∀ n∈s.nodes,n.fit/\n.Af
 uT:∀ p∈s.aF,p.fit/\p.Af
 term:∀ p∈s.aF,p.term<=9223372036854775807
theorem Od {v:V} (h:pJ.Is (true,[.sl LC,.sl JD]) v):∃ s:eG,v=lT s/\s.arg:=by
 obtain ⟨row,rfl,h⟩:=h
 obtain ⟨v1,q,rfl,h1,h⟩:=bX h
 obtain ⟨v2,q,rfl,h2,h⟩:=bX h
 obtain rfl:=qD h
 obtain ⟨a1,rfl,k1,m1⟩:=uY Rh h1
 obtain ⟨a2,rfl,k2,m2⟩:=uY MO h2
 exact ⟨⟨a1,a2⟩,rfl,k1,k2,m1,fun p hp=>(m2 p hp).1,fun p hp=>(m2 p hp).2⟩
theorem Ri {v:V} (h:pJ.Is (false,[.i .u8]) v):∃ n:Int,v=.i .u8 n:=by
 simp only [pJ.Is,Sh.nT,Sh.is] at h
 obtain ⟨⟨n,rfl,_⟩,_⟩:=h
 exact ⟨n,rfl⟩
open Go
def mK (t:Bool) (p:aO):Bool->List aO->List aO
 |d,[]=>if d then [] else [p]
 |d,e::r=>if e.name==p.name then (if d then mK t p d r else p::mK t p true r) else if !t&&(!d&&!Op.bytesLess e.name p.name) then p::e::mK t p true r else e::mK t p d r
def sU (s:eG) (p:aO):eG:=⟨s.nodes,mK (s.aF.any fun q=>q.name==p.name) p false s.aF⟩
theorem JK {α:Type} {f:α->Bool}:∀ {l:List α},(l.find? f).isSome=l.any f
 |[]=>rfl
 |a::r=>by
  rw [List.find?_cons,List.any_cons]
  cases f a
  · simpa using JK
  · rfl
section
variable {P:Program} (hG:bN P AF.fns.get)
include hG
theorem rwithX_ok (s:eG) (p:aO) (hs:s.aF.length*248+1000<=140737488355328):Pure P 8 [lT s,.agg (aJ p)] (·=lT (sU s p)):=by
 have iO:(s.aF.map aJ).length=s.aF.length:=List.length_map _
 have hg:=rgetpod_ok hG s p.name (by unfold bP;omega)
 obtain ⟨o,ho⟩:∃ o,o=(s.aF.find? fun q=>q.name==p.name):=⟨_,rfl⟩
 rw [<-ho] at hg
 refine aM (hG _ AF.f8 rfl) rfl ?_
 obtain ⟨z,t,hz,ht⟩:∃ (z:aO) (t:Bool),Tx o=.bY [.agg (aJ z),.b t]/\t=o.isSome:=by cases o<;>exact ⟨_,_,rfl,rfl⟩
 have Z1:sU s p=⟨s.nodes,mK t p false s.aF⟩:=by unfold sU;rw [ht,ho,JK]
 rw [Z1]
 obtain ⟨G,hGG⟩:∃ G,G=mK t p false s.aF:=⟨_,rfl⟩
 rw [<-hGG]
 clear ht Z1
 rw [hz] at hg
 (refine cJ @hg ?_)
 refine bC.by (fun q fr st=>∃ (i:Nat) (d b:Bool) (es:List aO),i<=s.aF.length/\q=s.aF.length - i/\es++mK t p d (s.aF.drop i)=G/\es.length<=i+d.toNat/\(b=false->es=[])/\
  fr=[(23,.i .i64 i),(22,.i .i64 (s.aF.map aJ).length),(8,.b d),(7,.b t),(5,.p (.l 3) 0),(4,.p (.l 2) 0),(3,.p (.l 1) 0),(2,.p (.l 0) 0)]/\
  st=QY b 4 [(3,.cs [.sl none 6 (s.nodes.map aS),QX b 4 16 (es.map aJ)]),(2,.cs [.aV,.aV]),(1,.cs (aJ p)),(0,.cs [.sl none 6 (s.nodes.map aS),.sl none 16 (s.aF.map aJ)])])
  s.aF.length ⟨_,_,?_,0,false,false,[],Nat.zero_le _,rfl,hGG.symm,Nat.zero_le _,fun _=>rfl,rfl,rfl⟩ ?_
 · exact tL [0,1,2,3]
 rintro q fr st ⟨i,d,b,es,hi,rfl,hg,mN,hb,rfl,rfl⟩ R hR
 clear hGG
 have DW:es.length<=i+1:=by cases d<;>simp at mN<;>omega
 (conv=>whnf)
 refine aH.ds (fun cL=>?_) (fun fC=>?_)
 · have cZ:i<s.aF.length:=by omega
   have he:=List.getElem?_eq_getElem cZ
   have y6:=List.drop_eq_getElem_cons cZ
   generalize s.aF[i]=e at he y6
   rw [y6] at hg
   clear y6
   have RA:es.map aJ++[aJ p]=(es++[p]).map aJ:=by rw [List.map_append];rfl
   have Vd:es.map aJ++[aJ e]=(es++[e]).map aJ:=by rw [List.map_append];rfl
   have Z2:(es++[p]).map aJ++[aJ e]=(es++[p]++[e]).map aJ:=by simp only [List.map_append,List.map_cons,List.map_nil]
   cases b<;>cases d
   · obtain rfl:es=[]:=hb rfl
     ((conv=>whnf);repeat' ((first|refine ye (aG (by omega) he) ?_|refine zz ?_|refine aH.ds (fun _=>?_) (fun _=>?_)|refine aH.ns (fun _=>?_) (fun _=>?_)|refine aH.mk (fun _=>?_) (fun _=>?_)|(intro r hr;cases r))<;>(conv=>whnf)))
     · refine hR (s.aF.length - (i+1)) _ _ (by omega) ⟨_,_,?_,i+1,true,true,[]++[p],by omega,rfl,(by first|(simp_all [mK];done)|(simp only [mK,List.nil_append] at hg;simp_all;done)|(simp only [mK,List.nil_append] at hg;revert hg;simp_all)),(by first|(simp at mN ⊢;done)|(simp at mN ⊢;omega)),(fun h=>by cases h),rfl,rfl⟩
       exact tL [0,1,2,3,5]
     · refine hR (s.aF.length - (i+1)) _ _ (by omega) ⟨_,_,?_,i+1,true,true,[]++[p]++[e],by omega,rfl,(by first|(simp_all [mK];done)|(simp only [mK,List.nil_append] at hg;simp_all;done)|(simp only [mK,List.nil_append] at hg;revert hg;simp_all)),(by first|(simp at mN ⊢;done)|(simp at mN ⊢;omega)),(fun h=>by cases h),rfl,rfl⟩
       exact tL [0,1,2,3,7]
     · refine hR (s.aF.length - (i+1)) _ _ (by omega) ⟨_,_,?_,i+1,false,true,[]++[e],by omega,rfl,(by first|(simp_all [mK];done)|(simp only [mK,List.nil_append] at hg;simp_all;done)|(simp only [mK,List.nil_append] at hg;revert hg;simp_all)),(by first|(simp at mN ⊢;done)|(simp at mN ⊢;omega)),(fun h=>by cases h),rfl,rfl⟩
       exact tL [0,1,2,3,5]
     · refine hR (s.aF.length - (i+1)) _ _ (by omega) ⟨_,_,?_,i+1,false,true,[]++[e],by omega,rfl,(by first|(simp_all [mK];done)|(simp only [mK,List.nil_append] at hg;simp_all;done)|(simp only [mK,List.nil_append] at hg;revert hg;simp_all)),(by first|(simp at mN ⊢;done)|(simp at mN ⊢;omega)),(fun h=>by cases h),rfl,rfl⟩
       exact tL [0,1,2,3,5]
   · obtain rfl:es=[]:=hb rfl
     ((conv=>whnf);repeat' ((first|refine ye (aG (by omega) he) ?_|refine zz ?_|refine aH.ds (fun _=>?_) (fun _=>?_)|refine aH.ns (fun _=>?_) (fun _=>?_)|refine aH.mk (fun _=>?_) (fun _=>?_)|(intro r hr;cases r))<;>(conv=>whnf)))
     · refine hR (s.aF.length - (i+1)) _ _ (by omega) ⟨_,_,?_,i+1,true,false,[],by omega,rfl,(by first|(simp_all [mK];done)|(simp only [mK,List.nil_append] at hg;simp_all;done)|(simp only [mK,List.nil_append] at hg;revert hg;simp_all)),(by first|(simp at mN ⊢;done)|(simp at mN ⊢;omega)),fun _=>rfl,rfl,rfl⟩
       exact tL [0,1,2,3]
     all_goals
      refine hR (s.aF.length - (i+1)) _ _ (by omega) ⟨_,_,?_,i+1,true,true,[]++[e],by omega,rfl,(by first|(simp_all [mK];done)|(simp only [mK,List.nil_append] at hg;simp_all;done)|(simp only [mK,List.nil_append] at hg;revert hg;simp_all)),(by first|(simp at mN ⊢;done)|(simp at mN ⊢;omega)),(fun h=>by cases h),rfl,rfl⟩
      exact tL [0,1,2,3,5]
   · ((conv=>whnf);repeat' ((first|refine ye (congrArg some RA) ?_|refine ye (congrArg some Vd) ?_|refine ye (congrArg some Z2) ?_|refine aK.mk (by simp [bR];omega) ?_|refine ye (aG (by omega) he) ?_|refine zz ?_|refine aH.ds (fun _=>?_) (fun _=>?_)|refine aH.ns (fun _=>?_) (fun _=>?_)|refine aH.mk (fun _=>?_) (fun _=>?_)|(intro r hr;cases r))<;>(conv=>whnf)))
     · refine hR (s.aF.length - (i+1)) _ _ (by omega) ⟨_,_,?_,i+1,true,true,es++[p],by omega,rfl,(by first|(simp_all [mK];done)|(simp only [mK,List.nil_append] at hg;simp_all;done)|(simp only [mK,List.nil_append] at hg;revert hg;simp_all)),(by first|(simp at mN ⊢;done)|(simp at mN ⊢;omega)),(fun h=>by cases h),rfl,rfl⟩
       exact tL [0,1,2,3,6]
     · refine hR (s.aF.length - (i+1)) _ _ (by omega) ⟨_,_,?_,i+1,true,true,es++[p]++[e],by omega,rfl,(by first|(simp_all [mK];done)|(simp only [mK,List.nil_append] at hg;simp_all;done)|(simp only [mK,List.nil_append] at hg;revert hg;simp_all)),(by first|(simp at mN ⊢;done)|(simp at mN ⊢;omega)),(fun h=>by cases h),rfl,rfl⟩
       exact tL [0,1,2,3,8]
     · refine hR (s.aF.length - (i+1)) _ _ (by omega) ⟨_,_,?_,i+1,false,true,es++[e],by omega,rfl,(by first|(simp_all [mK];done)|(simp only [mK,List.nil_append] at hg;simp_all;done)|(simp only [mK,List.nil_append] at hg;revert hg;simp_all)),(by first|(simp at mN ⊢;done)|(simp at mN ⊢;omega)),(fun h=>by cases h),rfl,rfl⟩
       exact tL [0,1,2,3,6]
     · refine hR (s.aF.length - (i+1)) _ _ (by omega) ⟨_,_,?_,i+1,false,true,es++[e],by omega,rfl,(by first|(simp_all [mK];done)|(simp only [mK,List.nil_append] at hg;simp_all;done)|(simp only [mK,List.nil_append] at hg;revert hg;simp_all)),(by first|(simp at mN ⊢;done)|(simp at mN ⊢;omega)),(fun h=>by cases h),rfl,rfl⟩
       exact tL [0,1,2,3,6]
   · ((conv=>whnf);repeat' ((first|refine ye (congrArg some Vd) ?_|refine aK.mk (by simp [bR];omega) ?_|refine ye (aG (by omega) he) ?_|refine zz ?_|refine aH.ds (fun _=>?_) (fun _=>?_)|refine aH.ns (fun _=>?_) (fun _=>?_)|refine aH.mk (fun _=>?_) (fun _=>?_)|(intro r hr;cases r))<;>(conv=>whnf)))
     · refine hR (s.aF.length - (i+1)) _ _ (by omega) ⟨_,_,?_,i+1,true,true,es,by omega,rfl,(by first|(simp_all [mK];done)|(simp only [mK,List.nil_append] at hg;simp_all;done)|(simp only [mK,List.nil_append] at hg;revert hg;simp_all)),(by first|(simp at mN ⊢;done)|(simp at mN ⊢;omega)),(fun h=>by cases h),rfl,rfl⟩
       exact tL [0,1,2,3,4]
     all_goals
      refine hR (s.aF.length - (i+1)) _ _ (by omega) ⟨_,_,?_,i+1,true,true,es++[e],by omega,rfl,(by first|(simp_all [mK];done)|(simp only [mK,List.nil_append] at hg;simp_all;done)|(simp only [mK,List.nil_append] at hg;revert hg;simp_all)),(by first|(simp at mN ⊢;done)|(simp at mN ⊢;omega)),(fun h=>by cases h),rfl,rfl⟩
      exact tL [0,1,2,3,6]
 · have Bf:=mN
   have RA:es.map aJ++[aJ p]=(es++[p]).map aJ:=by rw [List.map_append];rfl
   have h0:s.aF.drop i=[]:=List.drop_of_length_le (by omega)
   rw [h0] at hg
   cases b<;>cases d
   · obtain rfl:es=[]:=hb rfl
     (refine zr ?_)
     exact rK (ds:=[.sl none 6 (s.nodes.map aS),.sl none 16 ((([]++[p])).map aJ)]) yM rfl (by unfold lT;simp_all [mK])
   · obtain rfl:es=[]:=hb rfl
     (refine zr ?_)
     exact rK (ds:=[.sl none 6 (s.nodes.map aS),.sl none 16 (([]).map aJ)]) yM rfl (by unfold lT;simp_all [mK])
   · (refine zx1 (congrArg some RA) ?_)
     exact rK (ds:=[.sl none 6 (s.nodes.map aS),.sl none 16 (((es++[p])).map aJ)]) yM rfl (by unfold lT;simp_all [mK])
   · (refine zr ?_)
     exact rK (ds:=[.sl none 6 (s.nodes.map aS),.sl none 16 ((es).map aJ)]) yM rfl (by unfold lT;simp_all [mK])
end
end Go.Eng
