/-
How even it is.
-/
import Derived.Test.YtmfelikepmmjkaaGreatX24
import Derived.Test.YtmfelikepmmjkaaGreatX23
import Derived.Test.YtmfelikepmmjkaaGreatX11
set_option linter.unusedVariables false
set_option linter.unusedSimpArgs false
set_option maxHeartbeats 8000000
set_option maxRecDepth 10000
namespace Go.Eng
open Go
def yE (s:dY) (p:aL):dY:={ s with aE:=s.aE.filter fun q=>!(q.name==p.name) }
def sJ (o:dY) (p:aL) (here:Int):List bK->Int
 |[]=>here
 |n::r=>sJ o p (if (getD n.labels p.eG).2 then oI here (wP o p.eG (getD n.labels p.eG).1 p.even) else here) r
def Ob (s:dY) (p:aL) (node:aU):Bool:=
 if p.lD<=0 then true else
 if (fK s p.eG node).2 then
  decide ((wP (yE s p) p.eG (fK s p.eG node).1 p.even:Int)+(if (p.even.all fun t=>nI t p.labels) then 1 else 0) - sJ (yE s p) p (wP (yE s p) p.eG (fK s p.eG node).1 p.even) s.nodes<=p.lD)
 else false
theorem dY.ok.others {s:dY} (h:s.ok) (p:aL):(yE s p).ok:=by
 have hl:(yE s p).aE.length<=s.aE.length:=List.length_filter_le _ _
 refine ⟨h.nodes,Nat.le_trans hl h.aE,h.node,fun q hq=>h.pT q (List.mem_filter.1 hq).1,Nat.le_trans (Nat.mul_le_mul_right _ hl) h.some⟩
section
variable {P:Program} (hG:bP P AF.fns.get)
include hG
theorem even_ok (s:dY) (p:aL) (node:aU) (hs:s.ok) (hp:p.ok):Pure P 96 [kS s,.agg (aI p),.s node] (·=.b (Ob s p node)):=by
 have gK:(s.aE.map aI).length=s.aE.length:=List.length_map _
 have acJ:(s.nodes.map aK).length=s.nodes.length:=List.length_map _
 have hl:=hs.aE
 have UX:=hs.nodes
 have wO:=hs.some
 unfold bQ at hl UX
 have hd:=domain_ok hG s p.eG node hs
 refine aP (hG _ AF.f96 rfl) rfl ?_
 simp only [Ob]
 generalize fK s p.eG node=x at hd
 obtain ⟨x1,x2⟩:=x
 (refine zr ?_)
 refine aH.ds (fun h1=>?_) (fun h1=>?_)
 · (refine zr ?_)
   refine aG rfl ?_
   rw [if_pos h1]
 rw [if_neg h1]
 cases x2
 · (refine cD @hd ?_)
   exact aG rfl rfl
 rw [if_pos rfl]
 (refine cD @hd ?_)
 refine bD.by (fun q fr st=>∃ (i:Nat) (b:Bool) (es:List aL),i<=s.aE.length/\q=s.aE.length - i/\es=(s.aE.take i).filter (fun q=>!(q.name==p.name))/\(b=false->es=[])/\
  fr=[(37,.i .i64 i),(36,.i .i64 (s.aE.map aI).length),(35,.sl none 16 (s.aE.map aI)),(9,.p (.l 2) 0),(7,.s x1),(4,.p (.l 1) 0),(3,.p (.l 0) 0)]/\
  st=SM b 3 [(2,.cs [.sl none 6 (s.nodes.map aK),SL b 3 16 (es.map aI)]),(1,.cs (aI p)),(0,.cs [.sl none 6 (s.nodes.map aK),.sl none 16 (s.aE.map aI)])])
  s.aE.length ⟨_,_,?_,0,false,[],Nat.zero_le _,rfl,rfl,fun _=>rfl,rfl,rfl⟩ ?_
 · exact tL [0,1,2]
 rintro q fr st ⟨i,b,es,hi,rfl,o8,hb,rfl,rfl⟩ R hR
 have E6:es.length<=i:=by
  rw [o8]
  exact Nat.le_trans (List.length_filter_le _ _) (List.length_take_le _ _)
 (conv=>whnf)
 refine aH.ds (fun cO=>?_) (fun fE=>?_)
 · have cZ:i<s.aE.length:=by omega
   have he:=List.getElem?_eq_getElem cZ
   generalize s.aE[i]=e at he
   have oC:(s.aE.take (i+1)).filter (fun q=>!(q.name==p.name))=es++(if (!(e.name==p.name))=true then [e] else []):=by
    rw [cG he,List.filter_append,<-o8]
    by_cases h:(!(e.name==p.name))=true<;>simp [h]
   cases b
   · obtain rfl:es=[]:=hb rfl
     (refine cD @he ?_)
     refine aH.mk (fun hc=>?_) (fun hc=>?_)
     all_goals rw [hc] at oC
     · (refine zr ?_)
       refine hR (s.aE.length - (i+1)) _ _ (by omega) ⟨_,_,?_,i+1,true,[]++[e],by omega,rfl,oC.symm,(fun h=>by cases h),rfl,rfl⟩
       exact tL [0,1,2,5]
     · (refine zr ?_)
       refine hR (s.aE.length - (i+1)) _ _ (by omega) ⟨_,_,?_,i+1,false,[],by omega,rfl,oC.symm,fun _=>rfl,rfl,rfl⟩
       exact tL [0,1,2]
   · (refine cD @he ?_)
     refine aH.mk (fun hc=>?_) (fun hc=>?_)
     all_goals rw [hc] at oC
     · ((conv=>whnf);repeat ((first|refine ye (x:=(es++[e]).map aI) (by rw [List.map_append];rfl) ?_|refine aM.mk (by simp [bT];omega) ?_|refine zz ?_)<;>(conv=>whnf)))
       refine hR (s.aE.length - (i+1)) _ _ (by omega) ⟨_,_,?_,i+1,true,es++[e],by omega,rfl,oC.symm,(fun h=>by cases h),rfl,rfl⟩
       exact tL [0,1,2,6]
     · (refine zr ?_)
       refine hR (s.aE.length - (i+1)) _ _ (by omega) ⟨_,_,?_,i+1,true,es++[],by omega,rfl,oC.symm,(fun h=>by cases h),rfl,rfl⟩
       rw [List.append_nil]
       exact tL [0,1,2,3]
 · obtain ⟨o,ho⟩:∃ o,o=yE s p:=⟨_,rfl⟩
   have hoe:es=o.aE:=by
    rw [o8,List.take_of_length_le (by omega),ho]
    rfl
   have eN:o.nodes=s.nodes:=by rw [ho];rfl
   have dW:=ho▸hs.others p
   have mV:∀ v,wP o p.eG v p.even<=s.aE.length:=fun v=>by
    refine Nat.le_trans (List.length_filter_le _ _) ?_
    rw [ho]
    exact List.length_filter_le _ _
   rw [<-ho]
   have NB:=count_ok hG o p.eG x1 p.even dW hp.even
   have hcx:=mV x1
   generalize wP o p.eG x1 p.even=here at NB hcx
   have LH:=match_ok hG p.even p.labels hp.even.each hp.even.len hp.labels
   rw [kS,<-hoe,eN] at NB
   cases b
   · obtain rfl:es=[]:=hb rfl
     (refine cD @NB ?_)
     refine bD.by (fun q fr st=>∃ (i:Nat) (m:Int),i<=s.nodes.length/\q=s.nodes.length - i/\0<=m/\m<=here/\sJ o p here s.nodes=sJ o p m (s.nodes.drop i)/\
      fr=[(64,.i .i64 i),(63,.i .i64 (s.nodes.map aK).length),(62,.sl none 6 (s.nodes.map aK)),(13,.i .i64 m),(12,.i .i64 here),(9,.p (.l 1) 0),(4,.p (.l 0) 0)]/\
      st=⟨iJ,⟨2,[(1,.cs [.sl none 6 (s.nodes.map aK),.sl none 16 (List.map aI ([]:List aL))]),(0,.cs (aI p))]⟩⟩)
      s.nodes.length ⟨_,_,?_,0,here,Nat.zero_le _,rfl,by omega,Int.le_refl _,rfl,rfl,rfl⟩ ?_
     · exact tL [1,2]
     rintro q fr st ⟨i,m,hi,rfl,XB,Qx,BH,rfl,rfl⟩ R hR
     (conv=>whnf)
     refine aH.ds (fun cO=>?_) (fun fE=>?_)
     · have cZ:i<s.nodes.length:=by omega
       have he:=List.getElem?_eq_getElem cZ
       have Gm:=List.getElem_mem cZ
       rw [List.drop_eq_getElem_cons cZ] at BH
       generalize s.nodes[i]=e at he BH Gm
       have hg:=get_ok hG e.labels p.eG (hs.node e Gm).labels
       rw [sJ] at BH
       generalize getD e.labels p.eG=g at hg BH
       obtain ⟨g1,g2⟩:=g
       cases g2
       · (refine iG @hg @he ?_)
         refine hR (s.nodes.length - (i+1)) _ _ (by omega) ⟨_,_,?_,i+1,m,by omega,rfl,XB,Qx,BH,rfl,rfl⟩
         exact tL [0,1]
       · have NH:=count_ok hG o p.eG g1 p.even dW hp.even
         have hcy:=mV g1
         rw [if_pos rfl] at BH
         dsimp only at BH
         generalize wP o p.eG g1 p.even=c at NH hcy BH
         rw [kS,<-hoe,eN] at NH
         have hmi:oI m c<=m/\0<=oI m c:=by unfold oI;split<;>omega
         ((conv=>whnf);repeat ((first|refine cA (Pure.go hg rfl) ?_|refine cA (Pure.go NH rfl) ?_|refine bC.of (WO (z:=oI m c) rfl) ?_|refine ye (aF (by simp) he) ?_|refine zz ?_)<;>(conv=>whnf)))
         refine hR (s.nodes.length - (i+1)) _ _ (by omega) ⟨_,_,?_,i+1,oI m c,by omega,rfl,hmi.2,by omega,BH,rfl,rfl⟩
         exact tL [0,1]
     · rw [List.drop_eq_nil_of_le (by omega),sJ] at BH
       rw [BH]
       generalize (p.even.all fun t=>nI t p.labels)=mt at LH
       cases mt
       all_goals (refine cD @LH ?_)
       · exact aG rfl (by simp)
       · exact aG rfl (by simp)
   · (refine cD @NB ?_)
     refine bD.by (fun q fr st=>∃ (i:Nat) (m:Int),i<=s.nodes.length/\q=s.nodes.length - i/\0<=m/\m<=here/\sJ o p here s.nodes=sJ o p m (s.nodes.drop i)/\
      fr=[(64,.i .i64 i),(63,.i .i64 (s.nodes.map aK).length),(62,.sl none 6 (s.nodes.map aK)),(13,.i .i64 m),(12,.i .i64 here),(9,.p (.l 1) 0),(4,.p (.l 0) 0)]/\
      st=⟨iJ,⟨2,[(1,.cs [.sl none 6 (s.nodes.map aK),.sl none 16 (List.map aI es)]),(0,.cs (aI p))]⟩⟩)
      s.nodes.length ⟨_,_,?_,0,here,Nat.zero_le _,rfl,by omega,Int.le_refl _,rfl,rfl,rfl⟩ ?_
     · exact tL [1,2]
     rintro q fr st ⟨i,m,hi,rfl,XB,Qx,BH,rfl,rfl⟩ R hR
     (conv=>whnf)
     refine aH.ds (fun cO=>?_) (fun fE=>?_)
     · have cZ:i<s.nodes.length:=by omega
       have he:=List.getElem?_eq_getElem cZ
       have Gm:=List.getElem_mem cZ
       rw [List.drop_eq_getElem_cons cZ] at BH
       generalize s.nodes[i]=e at he BH Gm
       have hg:=get_ok hG e.labels p.eG (hs.node e Gm).labels
       rw [sJ] at BH
       generalize getD e.labels p.eG=g at hg BH
       obtain ⟨g1,g2⟩:=g
       cases g2
       · (refine iG @hg @he ?_)
         refine hR (s.nodes.length - (i+1)) _ _ (by omega) ⟨_,_,?_,i+1,m,by omega,rfl,XB,Qx,BH,rfl,rfl⟩
         exact tL [0,1]
       · have NH:=count_ok hG o p.eG g1 p.even dW hp.even
         have hcy:=mV g1
         rw [if_pos rfl] at BH
         dsimp only at BH
         generalize wP o p.eG g1 p.even=c at NH hcy BH
         rw [kS,<-hoe,eN] at NH
         have hmi:oI m c<=m/\0<=oI m c:=by unfold oI;split<;>omega
         ((conv=>whnf);repeat ((first|refine cA (Pure.go hg rfl) ?_|refine cA (Pure.go NH rfl) ?_|refine bC.of (WO (z:=oI m c) rfl) ?_|refine ye (aF (by simp) he) ?_|refine zz ?_)<;>(conv=>whnf)))
         refine hR (s.nodes.length - (i+1)) _ _ (by omega) ⟨_,_,?_,i+1,oI m c,by omega,rfl,hmi.2,by omega,BH,rfl,rfl⟩
         exact tL [0,1]
     · rw [List.drop_eq_nil_of_le (by omega),sJ] at BH
       rw [BH]
       generalize (p.even.all fun t=>nI t p.labels)=mt at LH
       cases mt
       all_goals (refine cD @LH ?_)
       · exact aG rfl (by simp)
       · exact aG rfl (by simp)
end
open Go
def pA (φ:Prop) (u:V):Prop:=∃ r:Bool,u=.b r/\(r=true->φ)
theorem Pure.any {P:Program} {f:Nat} {args:List V} {φ:Prop} (h0:Pure P f args (pA φ)) (ha:args.all V.qI=true) {h:aA} {K:V->aA->Prop} (hK:∀ r:Bool,(r=true->φ)->K (.b r) h):aC P f args h K:=
 h0.use (EW ha) fun _ _ ⟨r,hu,hr⟩=>hu▸hK r hr
def cX.Ba (p:cX):Prop:=bQ p.key/\bQ p.val
def cM.Ba (t:cM):Prop:=bQ t.key/\∀ v∈t.bF,bQ v
def lC.Ba (t:lC):Prop:=bQ t.key/\bQ t.val
structure aL.Ba (p:aL):Prop where
 name:bQ p.name
 eG:bQ p.eG
 node:bQ p.node
 labels:∀ x∈p.labels,x.Ba
 lM:∀ x∈p.lM,x.Ba
 bW:∀ x∈p.bW,x.Ba
 cV:∀ x∈p.cV,x.Ba
 even:∀ x∈p.even,x.Ba
structure bK.Ba (n:bK):Prop where
 name:bQ n.name
 labels:∀ x∈n.labels,x.Ba
 cR:∀ x∈n.cR,x.Ba
open Go
structure wQ (r:gW):Prop where
 a:0<=r.a/\r.a<=1000000000
 b:0<=r.b/\r.b<=1000000000
 c:0<=r.c/\r.c<=1000000000
section
variable {P:Program} (hG:bP P AF.fns.get)
include hG
theorem rmay_ok (r:gW):Pure P 37 [MN r] (pA (wQ r)):=by
 refine aP (hG _ AF.f37 rfl) rfl ?_
 ((conv=>whnf);repeat' ((first|refine zz ?_|refine bD.un rfl ?_|refine aH.ds (fun _=>?_) (fun _=>?_)|refine aH.ns (fun _=>?_) (fun _=>?_)|refine aH.mk (fun _=>?_) (fun _=>?_)|(intro r hr;cases r))<;>(conv=>whnf)))
 all_goals exact aG rfl ⟨_,rfl,fun h=>by first|(cases h;done)|exact ⟨by omega,by omega,by omega⟩⟩
end
open Go
abbrev bR (a b:aU):Prop:=Op.bytesLess a b=true
theorem iS:∀ a:aU,Op.bytesLess a a=false
 |[]=>rfl
 |a::r=>by
  have h:¬a<a:=UInt8.lt_irrefl a
  simp only [Op.bytesLess,iS r,decide_eq_false h,Bool.and_false,Bool.or_false]
theorem oS:∀ {a b:aU},Op.bytesLess a b=false->a≠b->Op.bytesLess b a=true
 |[],[],_,h=>absurd rfl h
 |[],_::_,h,_=>by cases h
 |_::_,[],_,_=>rfl
 |a::r,b::q,h,dJ=>by
  simp only [Op.bytesLess,Bool.or_eq_false_iff,decide_eq_false_iff_not,Bool.and_eq_false_imp,beq_iff_eq] at h
  simp only [Op.bytesLess,Bool.or_eq_true,decide_eq_true_eq,Bool.and_eq_true,beq_iff_eq]
  by_cases PA:a=b
  · subst PA
    exact .inr ⟨rfl,oS (h.2 rfl) fun e=>dJ (by rw [e])⟩
  · refine .inl ?_
    rcases UInt8.lt_or_lt_of_ne PA with cO|cO
    · exact absurd cO h.1
    · exact cO
theorem jY:∀ {a b c:aU},bR a b->bR b c->bR a c
 |_,[],_,h,_=>by unfold bR Op.bytesLess at h;cases h
 |_,_::_,[],_,h=>by unfold bR Op.bytesLess at h;cases h
 |[],_::_,_::_,_,_=>rfl
 |a::r,b::q,c::s,h1,h2=>by
  simp only [bR,Op.bytesLess,Bool.or_eq_true,decide_eq_true_eq,Bool.and_eq_true,beq_iff_eq] at h1 h2 ⊢
  rcases h1 with h1|⟨rfl,h1⟩
  · rcases h2 with h2|⟨rfl,h2⟩
    · exact .inl (UInt8.lt_trans h1 h2)
    · exact .inl h1
  · rcases h2 with h2|⟨rfl,h2⟩
    · exact .inl h2
    · exact .inr ⟨rfl,jY h1 h2⟩
theorem qS {a b:aU} (h:bR a b):Op.bytesLess b a=false:=by
 cases hc:Op.bytesLess b a with
 |false=>rfl
 |true=>have:=jY h hc;rw [bR,iS] at this;cases this
theorem fW:∀ {a b:aU},bR a b->0<jV b a
 |_,[],h=>by unfold bR Op.bytesLess at h;cases h
 |[],_::_,_=>by unfold jV;decide
 |a::r,b::q,h=>by
  simp only [bR,Op.bytesLess,Bool.or_eq_true,decide_eq_true_eq,Bool.and_eq_true,beq_iff_eq] at h
  unfold jV
  by_cases PA:a=b
  · subst PA
    have h1:Nat.blt a.toNat a.toNat=false:=by simp [Nat.blt_eq,<-Bool.not_eq_true]
    rw [h1]
    rcases h with h|⟨_,h⟩
    · exact absurd h (UInt8.lt_irrefl a)
    · exact fW h
  · have cO:a<b:=by
     rcases h with h|⟨h,_⟩
     · exact h
     · exact absurd h PA
    have hn:a.toNat<b.toNat:=UInt8.lt_iff_toNat_lt.1 cO
    have h1:Nat.blt b.toNat a.toNat=false:=by rw [Bool.eq_false_iff];exact fun hc=>by have:=(Nat.blt_eq▸hc:b.toNat<a.toNat);omega
    have h2:Nat.blt a.toNat b.toNat=true:=by rw [Nat.blt_eq];exact hn
    rw [h1,h2]
    exact Int.zero_lt_one
theorem lF {α:Type} {R:α->α->Prop} {l:List α} (h:l.Pairwise R) {i j:Nat} {x y:α} (Ry:i<j) (hx:l[i]? =some x) (hy:l[j]? =some y):R x y:=by
 obtain ⟨h1,rfl⟩:=List.getElem?_eq_some_iff.1 hx
 obtain ⟨h2,rfl⟩:=List.getElem?_eq_some_iff.1 hy
 exact List.pairwise_iff_getElem.1 h i j h1 h2 Ry
theorem jZ {α:Type} {φ:α->Prop} {l:List α} {i:Nat} {e:α} (h:∀ x∈l.take i,φ x) (he:l[i]? =some e) (hp:φ e):∀ x∈l.take (i+1),φ x:=by
 rw [cG he]
 intro x hx
 rcases List.mem_append.1 hx with hx|hx
 · exact h x hx
 · rw [List.mem_singleton.1 hx];exact hp
open Go
structure wR (l:List cM):Prop where
 len:l.length<=6
 each:∀ t∈l,t.bF.length<=6
structure IY (p:aL):Prop where
 aN:p.aN.length<=6
 labels:p.labels.length<=6
 lM:wR p.lM
 bW:p.bW.length<=6
 cV:wR p.cV
 even:wR p.even
 fQ:wQ p.fQ
open Go
section
variable {P:Program} (hG:bP P AF.fns.get)
include hG
def Kz:aU:=[78,79,78,69]
end
open Go
def KA:aL:=⟨[],0,0,⟨0,0,0⟩,[],[],[],[],[],[],0,[],[],0⟩
def KB:bK:=⟨[],⟨0,0,0⟩,[],[]⟩
def Vo (o:Option aL):V:=
 match o with
 |some p=>.bY [.agg (aI p),.b true]
 |none=>.bY [.agg (aI KA),.b false]
def WR (o:Option bK):V:=
 match o with
 |some n=>.bY [.agg (aK n),.b true]
 |none=>.bY [.agg (aK KB),.b false]
section
variable {P:Program} (hG:bP P AF.fns.get)
include hG
theorem rgetpod_ok (s:dY) (name:aU) (hl:bQ s.aE):Pure P 18 [kS s,.s name] (·=Vo (s.aE.find? fun p=>p.name==name)):=by
 have gK:(s.aE.map aI).length=s.aE.length:=List.length_map _
 unfold bQ at hl
 refine aP (hG _ AF.f18 rfl) rfl ?_
 (refine zr ?_)
 refine bD.by (fun q fr st=>∃ i:Nat,i<=s.aE.length/\q=s.aE.length - i/\cJ (fun p=>p.name==name) s.aE i/\
  fr=[(10,.i .i64 i),(9,.i .i64 (s.aE.map aI).length),(4,.p (.l 1) 0),(2,.p (.l 0) 0),(1,.s name)]/\st=⟨iJ,⟨2,[(1,.cs (aI KA)),(0,.cs [.sl none 6 (s.nodes.map aK),.sl none 16 (s.aE.map aI)])]⟩⟩)
  s.aE.length ⟨_,_,?_,0,Nat.zero_le _,rfl,cJ.zero,rfl,rfl⟩ ?_
 · exact tL [0,1]
 rintro q fr st ⟨i,hi,rfl,dW,rfl,rfl⟩ R hR
 (conv=>whnf)
 refine aH.ds (fun cO=>?_) (fun fE=>?_)
 · have cZ:i<s.aE.length:=by omega
   have he:=List.getElem?_eq_getElem cZ
   generalize s.aE[i]=e at he
   (refine cD @he ?_)
   refine aH.mk (fun hp=>?_) (fun hp=>?_)
   · (refine cD @he ?_)
     rw [pR he hp dW]
     exact aG rfl rfl
   · (refine zr ?_)
     refine hR (s.aE.length - (i+1)) _ _ (by omega) ⟨_,_,?_,i+1,by omega,rfl,dW.succ he hp,rfl,rfl⟩
     exact tL [0,1]
 · (refine zr ?_)
   rw [pS (dW.all (by omega))]
   exact tE (ds:=aI KA) yZ rfl rfl
theorem rgetnode_ok (s:dY) (name:aU) (hl:bQ s.nodes):Pure P 35 [kS s,.s name] (·=WR (s.nodes.find? fun p=>p.name==name)):=by
 have gK:(s.nodes.map aK).length=s.nodes.length:=List.length_map _
 unfold bQ at hl
 refine aP (hG _ AF.f35 rfl) rfl ?_
 (refine zr ?_)
 refine bD.by (fun q fr st=>∃ i:Nat,i<=s.nodes.length/\q=s.nodes.length - i/\cJ (fun p=>p.name==name) s.nodes i/\
  fr=[(10,.i .i64 i),(9,.i .i64 (s.nodes.map aK).length),(4,.p (.l 1) 0),(2,.p (.l 0) 0),(1,.s name)]/\st=⟨iJ,⟨2,[(1,.cs (aK KB)),(0,.cs [.sl none 6 (s.nodes.map aK),.sl none 16 (s.aE.map aI)])]⟩⟩)
  s.nodes.length ⟨_,_,?_,0,Nat.zero_le _,rfl,cJ.zero,rfl,rfl⟩ ?_
 · exact tL [0,1]
 rintro q fr st ⟨i,hi,rfl,dW,rfl,rfl⟩ R hR
 (conv=>whnf)
 refine aH.ds (fun cO=>?_) (fun fE=>?_)
 · have cZ:i<s.nodes.length:=by omega
   have he:=List.getElem?_eq_getElem cZ
   generalize s.nodes[i]=e at he
   (refine cD @he ?_)
   refine aH.mk (fun hp=>?_) (fun hp=>?_)
   · (refine cD @he ?_)
     rw [pR he hp dW]
     exact aG rfl rfl
   · (refine zr ?_)
     refine hR (s.nodes.length - (i+1)) _ _ (by omega) ⟨_,_,?_,i+1,by omega,rfl,dW.succ he hp,rfl,rfl⟩
     exact tL [0,1]
 · (refine zr ?_)
   rw [pS (dW.all (by omega))]
   exact tE (ds:=aK KB) yZ rfl rfl
end
open Go
def KC (s:dY) (p:aL) (n:bK) (node:aU):Bool:=p.node==[]&&(A9 s p n&&(uF s p n&&(MP p n&&(MQ p n&&(IX s p node&&Ob s p node)))))
def gR (s:dY) (p:aL) (node:aU):Bool:=
 match s.nodes.find? (fun n=>n.name==node) with
 |some n=>KC s p n node
 |none=>false
theorem six (a b c d e:Bool):a=false\/(a=true/\b=false)\/(a=true/\b=true/\c=false)\/(a=true/\b=true/\c=true/\d=false)\/(a=true/\b=true/\c=true/\d=true/\e=false)\/(a=true/\b=true/\c=true/\d=true/\e=true):=by
 cases a<;>cases b<;>cases c<;>cases d<;>cases e<;>simp
section
variable {P:Program} (hG:bP P AF.fns.get)
include hG
theorem getnode_ok (s:dY) (name:aU) (hl:bQ s.nodes) (hs:Small s):Pure P 70 [kS s,.s name] (·=WR (s.nodes.find? fun p=>p.name==name)):=by
 have gK:(s.nodes.map aK).length=s.nodes.length:=List.length_map _
 unfold bQ at hl
 refine aP (hG _ AF.f70 rfl) rfl ?_
 (refine zr ?_)
 refine bD.by (fun q fr st=>∃ i:Nat,i<=s.nodes.length/\q=s.nodes.length - i/\cJ (fun p=>p.name==name) s.nodes i/\
  fr=[(11,.i .i64 i),(10,.i .i64 (s.nodes.map aK).length),(9,.sl none 6 (s.nodes.map aK)),(4,.p (.l 0) 0),(1,.s name)]/\st=⟨iJ,⟨1,[(0,.cs (aK KB))]⟩⟩)
  s.nodes.length ⟨_,_,?_,0,Nat.zero_le _,rfl,cJ.zero,rfl,rfl⟩ ?_
 · exact tL [1]
 rintro q fr st ⟨i,hi,rfl,dW,rfl,rfl⟩ R hR
 (conv=>whnf)
 refine aH.ds (fun cO=>?_) (fun fE=>?_)
 · have cZ:i<s.nodes.length:=by omega
   have he:=List.getElem?_eq_getElem cZ
   have hm:=List.getElem_mem cZ
   generalize s.nodes[i]=e at he hm
   have hc:=copyNode_ok hG e (hs e hm).1 (hs e hm).2
   (refine cD @he ?_)
   refine aH.mk (fun hp=>?_) (fun hp=>?_)
   · (refine cD @hc ?_)
     rw [pR he hp dW]
     exact aG rfl rfl
   · (refine zr ?_)
     refine hR (s.nodes.length - (i+1)) _ _ (by omega) ⟨_,_,?_,i+1,by omega,rfl,dW.succ he hp,rfl,rfl⟩
     exact tL [0]
 · (refine zr ?_)
   rw [pS (dW.all (by omega))]
   exact tE (ds:=aK KB) yZ rfl rfl
theorem feas_ok (s:dY) (p:aL) (node:aU) (hs:s.ok) (hp:p.fit) (wO:Small s):Pure P 31 [kS s,.agg (aI p),.s node] (·=.b (gR s p node)):=by
 have hg:=getnode_ok hG s node hs.nodes wO
 refine aP (hG _ AF.f31 rfl) rfl ?_
 simp only [gR]
 cases hf:s.nodes.find? (fun n=>n.name==node) with
 |none=>
  rw [hf] at hg
  (refine cD @hg ?_)
  exact aG rfl rfl
 |some n=>
  rw [hf] at hg
  have hn:=hs.node n (List.mem_of_find?_eq_some hf)
  have a1:=room_ok hG s p n hs hp.fQ
  have a2:=ports_ok hG s p n hs hp.aN
  have a3:=wants_ok hG p n hp.E3 hn
  have a4:=borne_ok hG p n hp.E3 hn
  have a5:=apart_ok hG s p node hs hp.E3
  have a6:=even_ok hG s p node hs hp.E3
  simp only [KC]
  generalize A9 s p n=b1 at a1
  generalize uF s p n=b2 at a2
  generalize MP p n=b3 at a3
  generalize MQ p n=b4 at a4
  generalize IX s p node=b5 at a5
  generalize Ob s p node=b6 at a6
  cases Oc:(p.node==[])
  · have Ys:(!(p.node==[]))=true:=by rw [Oc];rfl
    (refine iG @hg @Ys ?_)
    exact aG rfl rfl
  · have Ys:(!(p.node==[]))=false:=by rw [Oc];rfl
    rcases six b1 b2 b3 b4 b5 with rfl|⟨rfl,rfl⟩|⟨rfl,rfl,rfl⟩|⟨rfl,rfl,rfl,rfl⟩|⟨rfl,rfl,rfl,rfl,rfl⟩|⟨rfl,rfl,rfl,rfl,rfl⟩
    all_goals (refine SD @hg @Ys @a1 @a2 @a3 @a4 @a5 @a6 ?_)
    all_goals exact aG rfl rfl
end
open Go
section
variable {P:Program} (hG:bP P AF.fns.get)
include hG
theorem on_ok (s:dY) (node:aU) (hs:s.ok) (hr:∀ q∈s.aE,iM q):Pure P 69 [kS s,.s node] (·=.sl none 16 ((oJ s node).map aI)):=by
 have gK:(s.aE.map aI).length=s.aE.length:=List.length_map _
 have hl:=hs.aE
 have wO:=hs.some
 unfold bQ at hl
 obtain ⟨f,hf⟩:∃ f:aL->Bool,f=fun p=>p.node==node&&!(node==[]):=⟨_,rfl⟩
 refine aP (hG _ AF.f69 rfl) rfl ?_
 (refine zr ?_)
 refine bD.by (fun q fr st=>∃ (i:Nat) (b:Bool) (es:List aL) (n:Nat),i<=s.aE.length/\q=s.aE.length - i/\es=(s.aE.take i).filter f/\(b=false->es=[])/\n=es.length/\
  fr=[(11,.i .i64 i),(10,.i .i64 (s.aE.map aI).length),(9,.sl none 16 (s.aE.map aI)),(5,Yo b 16 n),(1,.s node)]/\st=⟨Yp b 16 (es.map aI),GD⟩)
  s.aE.length ⟨_,_,?_,0,false,[],0,Nat.zero_le _,rfl,rfl,fun _=>rfl,rfl,rfl,rfl⟩ ?_
 · exact Ak
 rintro q fr st ⟨i,b,es,n,hi,rfl,o8,hb,hn,rfl,rfl⟩ R hR
 have E6:es.length<=i:=by
  rw [o8]
  exact Nat.le_trans (List.length_filter_le _ _) (List.length_take_le _ _)
 have Dw:(es.map aI).length=es.length:=List.length_map _
 (conv=>whnf)
 refine aH.ds (fun cO=>?_) (fun fE=>?_)
 · have cZ:i<s.aE.length:=by omega
   have he:=List.getElem?_eq_getElem cZ
   have SN:=hr _ (List.getElem_mem cZ)
   generalize s.aE[i]=e at he SN
   have hc:=copyPod_ok hG e SN
   have h1:f e=true->es++[e]=(s.aE.take (i+1)).filter f:=fun h=>by
    rw [cG he,List.filter_append,<-o8]
    simp [h]
   have h0:f e=false->es=(s.aE.take (i+1)).filter f:=fun h=>by
    rw [cG he,List.filter_append,<-o8]
    simp [h]
   cases b
   · obtain rfl:es=[]:=hb rfl
     ((conv=>whnf);repeat' ((first|refine cA (Pure.go hc rfl) ?_|refine ye (aF (by omega) he) ?_|refine zz ?_|refine aH.ds (fun _=>?_) (fun _=>?_)|refine aH.ns (fun _=>?_) (fun _=>?_)|refine aH.mk (fun _=>?_) (fun _=>?_)|(intro r hr;cases r))<;>(conv=>whnf)))
     · have jE:f e=true:=by rw [hf];simp_all
       refine hR (s.aE.length - (i+1)) _ _ (by omega) ⟨_,_,?_,i+1,true,[]++[e],1,by omega,rfl,h1 jE,(fun h=>by cases h),rfl,rfl,rfl⟩
       exact tG [1] []
     all_goals
      have jE:f e=false:=by rw [hf];simp_all
      refine hR (s.aE.length - (i+1)) _ _ (by omega) ⟨_,_,?_,i+1,false,[],0,by omega,rfl,h0 jE,(fun _=>rfl),rfl,rfl,rfl⟩
      exact Ak
   · ((conv=>whnf);repeat' ((first|refine cA (Pure.go hc rfl) ?_|refine aM.mk (by simp [bT];omega) ?_|refine aH.df (by simp only [List.length_cons,List.length_nil,List.length_map];omega) ?_|refine ye (aF (by omega) he) ?_|refine zz ?_|refine aH.ds (fun _=>?_) (fun _=>?_)|refine aH.ns (fun _=>?_) (fun _=>?_)|refine aH.mk (fun _=>?_) (fun _=>?_)|(intro r hr;cases r))<;>(conv=>whnf)))
     · have jE:f e=true:=by rw [hf];simp_all
       refine hR (s.aE.length - (i+1)) _ _ (by omega) ⟨_,_,?_,i+1,true,es++[e],n+1,by omega,rfl,h1 jE,(fun h=>by cases h),by simp [hn],rfl,rfl⟩
       exact tG [2] []
     all_goals
      have jE:f e=false:=by rw [hf];simp_all
      refine hR (s.aE.length - (i+1)) _ _ (by omega) ⟨_,_,?_,i+1,true,es,n,by omega,rfl,h0 jE,(fun h=>by cases h),hn,rfl,rfl⟩
      exact tG [0] []
 · have fH:es=oJ s node:=by
    rw [o8,List.take_of_length_le (by omega),hf]
    rfl
   rw [<-fH]
   cases b
   · obtain rfl:es=[]:=hb rfl
     (refine zr ?_)
     exact pure_nil rfl
   · (refine zr ?_)
     exact uE rfl (gI (fun _=>rfl) es) (by omega) (by rw [List.drop_zero,List.take_of_length_le (by omega)])
end
open Go
theorem IY.room {p:aL} (h:IY p):iM p:=
 ⟨by have:=h.aN;omega,by have:=h.labels;omega,by have:=h.bW;omega,⟨by have:=h.lM.len;omega,fun t ht=>by have:=h.lM.each t ht;omega⟩,⟨by have:=h.cV.len;omega,fun t ht=>by have:=h.cV.each t ht;omega⟩,
  ⟨by have:=h.even.len;omega,fun t ht=>by have:=h.even.each t ht;omega⟩⟩
open Go
def jA (s:dY) (p:aL):List aU:=(s.nodes.filter fun n=>gR s p n.name).map (·.name)
abbrev gZ (P:Program):Prop:=∀ (a b:aU) (h:aA) (K:V->aA->Prop),K (.i .i64 (jV a b)) h->aC P 144 [.s a,.s b] h K
section
variable {P:Program} (hG:bP P AF.fns.get)
include hG
theorem compare_ok (eK:gZ P) (a b:aU):Pure P 61 [.s a,.s b] (·=.i .i64 (jV a b)):=by
 refine aP (hG _ AF.f61 rfl) rfl ?_
 (refine cD @eK ?_)
 exact aG rfl rfl
end
open Go
theorem Ha {s:dY} {p:aL} {x:aU} (h:x∈jA s p):gR s p x=true:=by
 obtain ⟨n,hn,rfl⟩:=List.mem_map.1 h
 exact (List.mem_filter.1 hn).2
open Go
theorem takeWhile_at {α:Type} {f:α->Bool} {l:List α} {i:Nat} (hi:i<=l.length) (hb:∀ (j:Nat) (x:α),j<i->l[j]? =some x->f x=true) (he:∀ x,l[i]? =some x->f x=false):(l.takeWhile f).length=i:=by
 induction l generalizing i with
 |nil=>simp at hi;simp [hi]
 |cons a r ih=>
  cases i with
  |zero=>
   have:=he a rfl
   simp [List.takeWhile,this]
  |succ i=>
   have h0:=hb 0 a (by omega) rfl
   simp only [List.takeWhile,h0,List.length_cons]
   rw [ih (by simpa using hi) (fun j x hj hx=>hb (j+1) x (by omega) (by simpa using hx)) (fun x hx=>he x (by simpa using hx))]
theorem E8 {α:Type} {p:α->Bool} {l:List α} {j:Nat} (h:l.findIdx? p=some j):gQ p l=j:=by rw [gQ,h]
theorem E9 {α:Type} {p:α->Bool} {l:List α} (h:l.findIdx? p=none):gQ p l=-1:=by rw [gQ,h]
theorem Vp {P:Program} {f:Nat} (hk:gU P f (jH 16 (some 16))=true) {l:List aL} {g:Nat} {k r:Nat} {h:aA} {p:aL->Bool} (hl:l.length<=9223372036854775807) (hr:h.get r=some (.arr 16 (l.map aI)))
 (hg:∀ e∈l,∀ K:V->aA->Prop,K (.b (p e)) h->aC P g [.agg (aI e),.p (.g k) 0] h K) {K:V->aA->Prop} (n:Int) (hn:gQ p l=n) (hK:K (.i .i64 n) h):aC P f [.ms (.g r) 16 0 l.length,.fn g [] [.p (.g k) 0]] h K:=by
 subst hn
 have gK:(l.map aI).length=l.length:=List.length_map _
 refine aQ hk rfl ?_
 ((conv=>whnf);repeat ((first|refine aH.ff rfl ?_|refine aH.tt rfl ?_|refine bC.of rfl ?_|refine aM.mk rfl ?_|refine aT.mk rfl ?_|refine cK.of rfl ?_)<;>(conv=>whnf)))
 refine b8.by (fun q fr st=>∃ i:Nat,i<=l.length/\q=l.length - i/\(∀ (j:Nat) (e:aL),j<i->l[j]? =some e->p e=false)/\Fr.le [(8,.i .i64 i),(7,.i .i64 l.length),(1,.fn g [] [.p (.g k) 0]),(0,.ms (.g r) 16 0 l.length)] fr/\st=dP h)
  l.length ⟨0,Nat.zero_le _,rfl,fun j e hj=>absurd hj (Nat.not_lt_zero _),cT,rfl⟩ ?_
 rintro q fr st ⟨i,hi,rfl,dW,hle,rfl⟩
 refine ⟨_,hle,fun R hR=>?_⟩
 ((conv=>whnf);repeat ((first|refine aH.ff rfl ?_|refine aH.tt rfl ?_|refine bC.of rfl ?_|refine aM.mk rfl ?_|refine aT.mk rfl ?_|refine cK.of rfl ?_)<;>(conv=>whnf)))
 refine aH.ds (fun cO=>?_) (fun fE=>?_)
 · have cZ:i<l.length:=by omega
   have he:=List.getElem?_eq_getElem cZ
   have hm:=List.getElem_mem cZ
   generalize l[i]=e at he hm
   ((conv=>whnf);repeat ((first|refine aM.ix (by omega) (by omega) ?_|refine aH.ff rfl ?_|refine aH.tt rfl ?_|refine bC.of rfl ?_|refine aM.mk rfl ?_|refine aT.mk rfl ?_|refine cK.of (hr) ?_|refine cK.of (aF (by simp) he) ?_|refine cK.of rfl ?_)<;>(conv=>whnf)))
   refine dF.mk (hg e hm _ ?_)
   ((conv=>whnf);repeat ((first|refine aH.ff rfl ?_|refine aH.tt rfl ?_|refine bC.of rfl ?_|refine aM.mk rfl ?_|refine aT.mk rfl ?_|refine cK.of rfl ?_)<;>(conv=>whnf)))
   refine aH.mk (fun hp=>?_) (fun hp=>?_)
   · ((conv=>whnf);repeat ((first|refine aH.ff rfl ?_|refine aH.tt rfl ?_|refine bC.of rfl ?_|refine aM.mk rfl ?_|refine aT.mk rfl ?_|refine cK.of rfl ?_)<;>(conv=>whnf)))
     rw [dD he hp dW] at hK
     exact hK
   · ((conv=>whnf);repeat ((first|refine aR.gA (by omega) (by omega) ?_|refine aH.ff rfl ?_|refine aH.tt rfl ?_|refine bC.of rfl ?_|refine aM.mk rfl ?_|refine aT.mk rfl ?_|refine cK.of rfl ?_)<;>(conv=>whnf)))
     refine hR (l.length - (i+1)) _ _ (by omega) ⟨i+1,by omega,rfl,fun j x hj hx=>?_,cT,rfl⟩
     by_cases zE:j<i
     · exact dW j x zE hx
     · obtain rfl:j=i:=by omega
       rw [he] at hx;cases hx;exact hp
 · ((conv=>whnf);repeat ((first|refine aH.ff rfl ?_|refine aH.tt rfl ?_|refine bC.of rfl ?_|refine aM.mk rfl ?_|refine aT.mk rfl ?_|refine cK.of rfl ?_)<;>(conv=>whnf)))
   rw [dN fun j x hx=>dW j x (by have:=(List.getElem?_eq_some_iff.1 hx).1;omega) hx] at hK
   exact hK
theorem Ch.of {Q:V->Nat->List (List V)->Prop} {v u:V} {sz:Nat} {es:List (List V)} {h':aA} (ht:IQ [(0,v)] (dP h') [(0,u)] ⟨⟨1,[(0,.arr sz es)]⟩,⟨0,[]⟩⟩) (hu:u.made=true) (hf:∀ e∈es,e.all V.flat=true) (hq:Q u sz es):Ch Q v h':=by
 exact ⟨u,sz,es,ht,hu,hf,hq⟩
open Go
section plain
variable {α:Type}
def fX (pre:List α) (x:α) (j:Nat) (rest:List α):List α:=pre.take j++[x]++pre.drop j++rest
def Fa (lt:α->α->Bool) (pre:List α) (x:α):Nat:=pre.length - (pre.reverse.takeWhile (lt x)).length
def Fb (lt:α->α->Bool) (pre:List α) (x:α):List α:=fX pre x (Fa lt pre x) []
def iN (lt:α->α->Bool) (l:List α):List α:=l.foldl (Fb lt) []
theorem SQ {lt:α->α->Bool} {pre:List α} {x:α} {j:Nat} (hj:j<=pre.length) (h:∀ (t:Nat) (y:α),j<=t->pre[t]? =some y->lt x y=true) (h0:∀ y,0<j->pre[j - 1]? =some y->lt x y=false):Fa lt pre x=j:=by
 unfold Fa
 rw [takeWhile_at (i:=pre.length - j) (by simp) (fun t y ht hy=>?_) (fun y hy=>?_)]
 · omega
 · rw [List.getElem?_reverse (by omega)] at hy
   exact h _ y (by omega) hy
 · have cO:=(List.getElem?_eq_some_iff.1 hy).1
   rw [List.length_reverse] at cO
   rw [List.getElem?_reverse (by omega)] at hy
   exact h0 y (by omega) (by rw [<-hy];congr 1;omega)
theorem Fc (pre:List α) (x:α) (j:Nat) (rest:List α):(fX pre x j rest).length=pre.length+1+rest.length:=by
 unfold fX
 simp only [List.length_append,List.length_take,List.length_drop,List.length_cons,List.length_nil];omega
theorem KD {pre:List α} {x:α} {j:Nat} {rest:List α} (hj:j<=pre.length):(fX pre x j rest)[j]? =some x:=by
 unfold fX
 have h1:(pre.take j).length=j:=by rw [List.length_take];omega
 rw [List.append_assoc,List.append_assoc,List.getElem?_append_right (by omega),h1,Nat.sub_self];rfl
theorem PB {pre:List α} {x:α} {j t:Nat} {rest:List α} (hj:j<=pre.length) (ht:t<j):(fX pre x j rest)[t]? =pre[t]? :=by
 unfold fX
 have h1:(pre.take j).length=j:=by rw [List.length_take];omega
 rw [List.append_assoc,List.append_assoc,List.getElem?_append_left (by omega),List.getElem?_take,if_pos ht]
theorem KE {pre:List α} {x y:α} {j:Nat} {rest:List α} (hj:j<pre.length) (hy:pre[j]? =some y):((fX pre x (j+1) rest).set (j+1) y).set j x=fX pre x j rest:=by
 have e1:pre.take (j+1)=pre.take j++[y]:=cG hy
 have e2:pre.drop j=y::pre.drop (j+1):=by
  rw [List.drop_eq_getElem_cons hj]
  rw [List.getElem?_eq_getElem hj] at hy
  cases hy;rfl
 have h1:(pre.take j).length=j:=by rw [List.length_take];omega
 unfold fX
 rw [e1,e2]
 simp only [List.append_assoc,List.cons_append,List.nil_append]
 rw [List.set_append_right _ _ (by omega),List.set_append_right _ _ (by omega),h1]
 simp
theorem MR (pre:List α) (x:α) (rest:List α):fX pre x pre.length rest=pre++x::rest:=by
 unfold fX;simp
theorem PC (lt:α->α->Bool) (pre:List α) (x:α) (rest:List α):fX pre x (Fa lt pre x) rest=Fb lt pre x++rest:=by
 unfold Fb fX;simp
theorem uG (lt:α->α->Bool):∀ (l acc:List α),(l.foldl (Fb lt) acc).length=acc.length+l.length
 |[],acc=>by simp
 |x::r,acc=>by
  rw [List.foldl_cons,uG lt r]
  unfold Fb
  rw [Fc];simp;omega
theorem KF {lt:α->α->Bool} {l:List α} {i:Nat} {x:α} (hx:l[i]? =some x):iN lt (l.take (i+1))=Fb lt (iN lt (l.take i)) x:=by
 unfold iN
 rw [cG hx,List.foldl_append];rfl
theorem Fe {β:Type} {R:α->List β} {l:List α} {j:Nat} {x:α}:(l.map R).set j (R x)=(l.set j x).map R:=by
 rw [List.map_set]
end plain
theorem Bb (n:Nat) (x y:Obj):∀ l,aA.CA (aA.CA l n x) n y=aA.CA l n y
 |[]=>rfl
 |(k,o)::r=>by
  by_cases hk:k=n
  · simp [aA.CA,hk]
  · simp [aA.CA,hk,Bb n x y r]
theorem lT (h:aA) (n:Nat) (x y:Obj):(h.set n x).set n y=h.set n y:=by simp [aA.set,Bb]
theorem zO {n:Nat} {x:Obj}:∀ {l:List (Nat×Obj)},aA.find l n=some x->aA.CA l n x=l
 |[],_=>rfl
 |(k,o)::r,h=>by
  by_cases hk:k=n
  · simp [aA.find,hk] at h;simp [aA.CA,hk,h]
  · simp [aA.find,hk] at h;simp [aA.CA,hk,zO h]
theorem gX {h:aA} {n:Nat} {x:Obj} (hx:h.get n=some x):h.set n x=h:=by
 unfold aA.get at hx
 simp [aA.set,zO hx]
theorem ah8 {n m:Int} {k:Int->Prop} (e:n=m) (h1:-9223372036854775808<=m) (h2:m<=9223372036854775807) (hk:k m):aR .i64 n k:=by
 subst e;exact .gA h1 h2 hk
theorem SR {α β:Type} {R:α->List β} {l:List α} {a b j:Nat} {e:List β} {y:α} (PA:a≠b) (hb:b=j) (h:a=a) (hj:l[j]? =some y):((l.map R).set a e)[b]? =some (R y):=by
 subst hb
 rw [List.getElem?_set_ne PA]
 exact IU hj
theorem Vq {h:aA} {r a b i j:Nat} {l:List aL} {x y:aL} {o o':Obj} (ha:a=i) (hb:b=j):
 dP (((h.set r o').set r o).set r (.arr 16 (((l.map aI).set a (aI y)).set b (aI x))))=dP (h.set r (.arr 16 (((l.set i y).set j x).map aI))):=by
 subst ha;subst hb
 rw [lT,lT,List.map_set,List.map_set]
section
variable {P:Program} (hG:bP P AF.fns.get)
include hG
theorem MS (c:aL->aL->Int) (g:Nat) (hg:∀ a b:aL,Pure P g [.agg (aI a),.agg (aI b)] (·=.i .i64 (c a b))) (l:List aL) (hl:l.length<=1000000) {r:Nat} {h:aA} (hr:h.get r=some (.arr 16 (l.map aI))) {K:V->aA->Prop}
 (hK:K (.bY []) (h.set r (.arr 16 ((iN (fun a b=>decide (c a b<0)) l).map aI)))):
 aC P 223 [.ms (.g r) 16 0 l.length,.i .i64 0,.i .i64 l.length,.fn g [] []] h K:=by
 obtain ⟨lt,cO⟩:∃ lt:aL->aL->Bool,lt=fun a b=>decide (c a b<0):=⟨_,rfl⟩
 rw [<-cO] at hK
 refine aQ (hG _ AF.f223 rfl) rfl ?_
 ((conv=>whnf);repeat ((first|refine aR.gA (by omega) (by omega) ?_|refine aH.ff rfl ?_|refine aH.tt rfl ?_|refine bC.of rfl ?_|refine aM.mk rfl ?_|refine aT.mk rfl ?_|refine cK.of rfl ?_)<;>(conv=>whnf)))
 refine b8.by (fun q fr st=>∃ i:Nat,1<=i/\i<=l.length+1/\q=l.length+1 - i/\
  Fr.le [(8,.i .i64 i),(3,.fn g [] []),(2,.i .i64 l.length),(1,.i .i64 0),(0,.ms (.g r) 16 0 l.length)] fr/\st=dP (h.set r (.arr 16 ((iN lt (l.take i)++l.drop i).map aI))))
  l.length ⟨1,by omega,by omega,by omega,cT,?_⟩ ?_
 · have e:iN lt (l.take 1)++l.drop 1=l:=by
    cases l with
    |nil=>rfl
    |cons x r=>simp [iN,Fb,fX,Fa]
   rw [e,gX hr]
 rintro q fr st ⟨i,Uv,hi,rfl,hle,rfl⟩
 refine ⟨_,hle,fun R hR=>?_⟩
 ((conv=>whnf);repeat ((first|refine aH.ff rfl ?_|refine aH.tt rfl ?_|refine bC.of rfl ?_|refine aM.mk rfl ?_|refine aT.mk rfl ?_|refine cK.of rfl ?_)<;>(conv=>whnf)))
 refine aH.ds (fun JD=>?_) (fun fE=>?_)
 · have cZ:i<l.length:=by omega
   have hx:=List.getElem?_eq_getElem cZ
   generalize l[i]=x at hx
   obtain ⟨pre,Yt⟩:∃ pre,pre=iN lt (l.take i):=⟨_,rfl⟩
   have xY:pre.length=i:=by rw [Yt];unfold iN;rw [uG];simp;omega
   have acK:l.drop i=x::l.drop (i+1):=by
    rw [List.drop_eq_getElem_cons cZ]
    rw [List.getElem?_eq_getElem cZ] at hx
    cases hx;rfl
   ((conv=>whnf);repeat ((first|refine aH.ff rfl ?_|refine aH.tt rfl ?_|refine bC.of rfl ?_|refine aM.mk rfl ?_|refine aT.mk rfl ?_|refine cK.of rfl ?_)<;>(conv=>whnf)))
   refine b8.by (fun q fr st=>∃ j:Nat,j<=i/\j=q/\(∀ (t:Nat) (y:aL),j<=t->pre[t]? =some y->lt x y=true)/\
    Fr.le [(9,.i .i64 j),(8,.i .i64 i),(3,.fn g [] []),(2,.i .i64 l.length),(1,.i .i64 0),(0,.ms (.g r) 16 0 l.length)] fr/\st=dP (h.set r (.arr 16 ((fX pre x j (l.drop (i+1))).map aI))))
    i ⟨i,by omega,rfl,(fun t y ht hy=>by have:=(List.getElem?_eq_some_iff.1 hy).1;omega),cT,?_⟩ ?_
   · rw [acK,<-Yt]
     have he:=MR pre x (l.drop (i+1))
     rw [xY] at he
     rw [he]
   rintro q fr st ⟨j,hj,rfl,fH,vD,rfl⟩
   refine ⟨_,vD,fun R' hR'=>?_⟩
   have eO:∀ rows:List aL,(h.set r (.arr 16 (rows.map aI))).get r=some (.arr 16 (rows.map aI)):=fun rows=>aA.aD hr
   have L0:(fX pre x j (l.drop (i+1))).length=l.length:=by rw [Fc,List.length_drop];omega
   have JZ:(fX pre x j (l.drop (i+1)))[j]? =some x:=KD (by omega)
   have UU:∀ k:Nat,k<=i->(∀ (t:Nat) (y:aL),k<=t->pre[t]? =some y->lt x y=true)->(∀ y,0<k->pre[k - 1]? =some y->lt x y=false)->fX pre x k (l.drop (i+1))=iN lt (l.take (i+1))++l.drop (i+1):=fun k hk h1 h2=>by
    rw [KF hx,<-Yt,<-PC,SQ (by omega) h1 h2]
   cases j with
   |zero=>
    ((conv=>whnf);repeat ((first|refine aR.gA (by omega) (by omega) ?_|refine aH.ff rfl ?_|refine aH.tt rfl ?_|refine bC.of rfl ?_|refine aM.mk rfl ?_|refine aT.mk rfl ?_|refine cK.of rfl ?_)<;>(conv=>whnf)))
    refine hR (l.length+1 - (i+1)) _ _ (by omega) ⟨i+1,by omega,by omega,rfl,cT,?_⟩
    rw [UU 0 (by omega) fH (fun y h=>by omega)]
   |succ j=>
    have MT:(fX pre x (j+1) (l.drop (i+1)))[j]? =pre[j]? :=PB (by omega) (by omega)
    have hy:=List.getElem?_eq_getElem (show j<pre.length by omega)
    generalize pre[j]'(by omega)=y at hy
    rw [hy] at MT
    ((conv=>whnf);repeat ((first|refine aH.dt (by omega) ?_|refine aM.ix (by omega) (by omega) ?_|refine aR.gA (by omega) (by omega) ?_|refine aH.ff rfl ?_|refine aH.tt rfl ?_|refine bC.of rfl ?_|refine aM.mk rfl ?_|refine aT.mk rfl ?_|refine cK.of (eO _) ?_|refine cK.of (aF (by omega) JZ) ?_|refine cK.of (aF (by omega) MT) ?_|refine cK.of rfl ?_)<;>(conv=>whnf)))
    refine dF.mk (Pure.go (hg x y) rfl ?_)
    ((conv=>whnf);repeat ((first|refine aH.ff rfl ?_|refine aH.tt rfl ?_|refine bC.of rfl ?_|refine aM.mk rfl ?_|refine aT.mk rfl ?_|refine cK.of rfl ?_)<;>(conv=>whnf)))
    refine aH.ds (fun hc=>?_) (fun hc=>?_)
    · ((conv=>whnf);repeat ((first|refine aM.ix (by omega) (by omega) ?_|refine ah8 (m:=(j:Int)) (by omega) (by omega) (by omega) ?_|refine aR.gA (by omega) (by omega) ?_|refine aH.ff rfl ?_|refine aH.tt rfl ?_|refine bC.of rfl ?_|refine aM.mk rfl ?_|refine aT.mk rfl ?_|refine cK.of (eO _) ?_|refine cK.of (aF (by omega) JZ) ?_|refine cK.of (aF (by omega) MT) ?_|refine cK.of (aA.aD (eO _)) ?_|refine cK.of (SR (by omega) (by omega) rfl MT) ?_|refine cK.of rfl ?_)<;>(conv=>whnf)))
      refine hR' j _ _ (by omega) ⟨j,by omega,rfl,(fun t z ht hz=>?_),cT,?_⟩
      · by_cases ZJ:t=j
        · subst ZJ
          rw [hy] at hz
          cases hz
          rw [cO]
          exact decide_eq_true hc
        · exact fH t z (by omega) hz
      · rw [<-KE (by omega) hy]
        show dP (((h.set r (.arr 16 ((fX pre x (j+1) (l.drop (i+1))).map aI))).set r (.arr 16 (((fX pre x (j+1) (l.drop (i+1))).map aI).set (0+((j+1:Nat):Int).toNat) (aI y)))).set r (.arr 16 ((((fX pre x (j+1) (l.drop (i+1))).map aI).set (0+((j+1:Nat):Int).toNat) (aI y)).set (0+((j:Nat):Int).toNat) (aI x))))=_
        exact Vq (by omega) (by omega)
    · ((conv=>whnf);repeat ((first|refine aR.gA (by omega) (by omega) ?_|refine aH.ff rfl ?_|refine aH.tt rfl ?_|refine bC.of rfl ?_|refine aM.mk rfl ?_|refine aT.mk rfl ?_|refine cK.of rfl ?_)<;>(conv=>whnf)))
      refine hR (l.length+1 - (i+1)) _ _ (by omega) ⟨i+1,by omega,by omega,rfl,cT,?_⟩
      rw [UU (j+1) hj fH (fun z _ hz=>by
       rw [Nat.add_sub_cancel,hy] at hz
       cases hz
       rw [cO]
       exact decide_eq_false hc)]
 · ((conv=>whnf);repeat ((first|refine aH.ff rfl ?_|refine aH.tt rfl ?_|refine bC.of rfl ?_|refine aM.mk rfl ?_|refine aT.mk rfl ?_|refine cK.of rfl ?_)<;>(conv=>whnf)))
   have hn:l.length<=i:=by omega
   rw [List.take_of_length_le hn,List.drop_of_length_le hn,List.append_nil]
   exact hK
end
open Go
def Cl (x y:Int):Int:=if x<y then -1 else if y<x then 1 else 0
section
variable {P:Program} (hG:bP P AF.fns.get)
include hG
theorem cmpInt_ok (x y:Int):Pure P 76 [.i .i64 x,.i .i64 y] (·=.i .i64 (Cl x y)):=by
 refine aP (hG _ AF.f76 rfl) rfl ?_
 ((conv=>whnf);repeat' ((first|refine cA (jX (hG _ _ rfl) rfl) ?_|refine zz ?_|refine bD.un rfl ?_|refine aH.ds (fun _=>?_) (fun _=>?_)|refine aH.ns (fun _=>?_) (fun _=>?_)|refine aH.mk (fun _=>?_) (fun _=>?_)|(intro r hr;cases r))<;>(conv=>whnf)))
 all_goals (refine aG rfl ?_)
 all_goals (unfold Cl;simp_all)
 all_goals omega
theorem KG (c:aL->aL->Int) (g:Nat) (hg:∀ a b:aL,Pure P g [.agg (aI a),.agg (aI b)] (·=.i .i64 (c a b))) (l:List aL) (hl:l.length<=19) {r:Nat} {h:aA} (hr:h.get r=some (.arr 16 (l.map aI))) {K:V->aA->Prop}
 (hK:K (.bY []) (h.set r (.arr 16 ((iN (fun a b=>decide (c a b<0)) l).map aI)))):
 aC P 151 [.ms (.g r) 16 0 l.length,.i .i64 l.length,.fn g [] []] h K:=by
 refine aQ (hG _ AF.f151 rfl) rfl ?_
 ((conv=>whnf);repeat ((first|refine b8.un ?_|refine aH.df (by omega) ?_|refine dF.app (MS hG c g hg l (by omega) hr) ?_|refine aH.ff rfl ?_|refine aH.tt rfl ?_|refine bC.of rfl ?_|refine aM.mk rfl ?_|refine aT.mk rfl ?_|refine cK.of rfl ?_)<;>(conv=>whnf)))
 exact hK
theorem MU (c:aL->aL->Int) (g:Nat) (hg:∀ a b:aL,Pure P g [.agg (aI a),.agg (aI b)] (·=.i .i64 (c a b))) (l:List aL) (hl:l.length<=19) {r:Nat} {h:aA} (hr:h.get r=some (.arr 16 (l.map aI))) {K:V->aA->Prop}
 (hK:K (.bY []) (h.set r (.arr 16 ((iN (fun a b=>decide (c a b<0)) l).map aI)))):
 aC P 74 [.ms (.g r) 16 0 l.length,.fn g [] []] h K:=by
 refine aQ (hG _ AF.f74 rfl) rfl ?_
 ((conv=>whnf);repeat ((first|refine dF.app (KG hG c g hg l hl hr) ?_|refine aH.ff rfl ?_|refine aH.tt rfl ?_|refine bC.of rfl ?_|refine aM.mk rfl ?_|refine aT.mk rfl ?_|refine cK.of rfl ?_)<;>(conv=>whnf)))
 exact hK
end
open Go
section plain
variable {α:Type} {lt:α->α->Bool}
theorem wS {f:α->Bool}:∀ {l:List α} {y:α} {r:List α},l.dropWhile f=y::r->f y=false
 |[],_,_,h=>by simp at h
 |a::l,y,r,h=>by
  cases hf:f a with
  |true=>
   rw [List.dropWhile_cons,if_pos hf] at h
   exact wS h
  |false=>
   rw [List.dropWhile_cons,if_neg (by simp [hf])] at h
   cases h
   exact hf
theorem zP {f:α->Bool}:∀ {l:List α} {y:α},y∈l.takeWhile f->f y=true
 |[],_,h=>by simp at h
 |a::l,y,h=>by
  cases hf:f a with
  |true=>
   rw [List.takeWhile_cons,if_pos hf] at h
   cases h with
   |head=>exact hf
   |tail _ h=>exact zP h
  |false=>
   rw [List.takeWhile_cons,if_neg (by simp [hf])] at h
   cases h
theorem SU (pre:List α) (x:α):∃ A B,pre=A++B/\Fb lt pre x=A++x::B/\(∀ b∈B,lt x b=true)/\(A=[]\/∃ A' y,A=A'++[y]/\lt x y=false):=by
 have h0:=List.takeWhile_append_dropWhile (p:=lt x) (l:=pre.reverse)
 obtain ⟨tw,htw⟩:∃ tw,tw=pre.reverse.takeWhile (lt x):=⟨_,rfl⟩
 obtain ⟨dw,hdw⟩:∃ dw,dw=pre.reverse.dropWhile (lt x):=⟨_,rfl⟩
 rw [<-htw,<-hdw] at h0
 have hp:pre=dw.reverse++tw.reverse:=by
  have:=congrArg List.reverse h0
  rw [List.reverse_append,List.reverse_reverse] at this
  exact this.symm
 have hk:Fa lt pre x=dw.reverse.length:=by
  unfold Fa
  rw [<-htw,hp]
  simp
 refine ⟨dw.reverse,tw.reverse,hp,?_,fun b hb=>?_,?_⟩
 · unfold Fb fX
   rw [hk,hp]
   simp
 · rw [List.mem_reverse,htw] at hb
   exact zP hb
 · cases hd:dw with
   |nil=>exact .inl rfl
   |cons y r=>
    refine .inr ⟨r.reverse,y,by simp,?_⟩
    rw [hdw] at hd
    exact wS hd
theorem PD (pre:List α) (x:α):(Fb lt pre x).Perm (x::pre):=by
 obtain ⟨A,B,h1,h2,_⟩:=SU (lt:=lt) pre x
 rw [h2,h1]
 exact List.perm_middle
theorem Ff:∀ (l acc:List α),(l.foldl (Fb lt) acc).Perm (acc++l)
 |[],acc=>by simp
 |x::r,acc=>by
  rw [List.foldl_cons]
  refine (Ff r _).trans ?_
  refine ((PD acc x).append_right r).trans ?_
  exact (List.perm_middle (l₁:=acc) (l₂:=r)).symm
theorem CQ (l:List α):(iN lt l).Perm l:=by
 have:=Ff (lt:=lt) l []
 simpa [iN] using this
end plain
open Go
theorem Gr {s:dY} {l q:List aU} (h:∀ x,x∈l↔x∈q):aW s l=aW s q:=by
 unfold aW
 congr 1
 refine List.filter_congr fun a _=>?_
 congr 1
 rw [Bool.eq_iff_iff,List.any_eq_true,List.any_eq_true]
 exact ⟨fun ⟨x,h1,h2⟩=>⟨x,(h x).1 h1,h2⟩,fun ⟨x,h1,h2⟩=>⟨x,(h x).2 h1,h2⟩⟩
theorem KH (s:dY):aW s []=s:=by
 have:s.aE.filter (fun q=>!(([]:List aU).any fun g=>q.name==g))=s.aE:=List.filter_eq_self.2 fun q _=>rfl
 unfold aW
 rw [this]
def SV (a b:aL):Int:=if Cl b.prio a.prio=0 then jV a.name b.name else Cl b.prio a.prio
def mI (s:dY) (p:aL) (node:aU):List aL:=iN (fun a b=>decide (SV a b<0)) ((oJ s node).filter fun q=>!decide (p.prio<=q.prio))
def Fg (gone:List aU) (q:aL):List aU:=gone.filter fun n=>!(n==q.name)
def iD (s:dY) (p:aL) (node:aU):List aL->List aU->List aU
 |[],gone=>gone
 |q::r,gone=>iD s p node r (if gR (aW s (Fg gone q)) p node then Fg gone q else gone)
def tH (l:List aU):List aU:=l.mergeSort fun x y=>!decide (jV y x<0)
def mJ (s:dY) (p:aL) (node:aU):Option (List aU):=
 if gR (aW s ((mI s p node).map (·.name))) p node then some (tH (iD s p node (mI s p node) ((mI s p node).map (·.name)))) else none
theorem Hb {l:List aU} {x:aU}:x∈tH l↔x∈l:=(List.mergeSort_perm l _).mem_iff
theorem PE {s:dY} {p q:aL} {node:aU}:q∈mI s p node↔(q∈s.aE/\q.node=node/\node≠[]/\q.prio<p.prio):=by
 unfold mI
 rw [(CQ _).mem_iff,List.mem_filter,oJ,List.mem_filter]
 simp only [Bool.and_eq_true,beq_iff_eq,Bool.not_eq_true',decide_eq_false_iff_not,Int.not_le,beq_eq_false_iff_ne]
 exact ⟨fun ⟨⟨a,b,c⟩,d⟩=>⟨a,b,c,d⟩,fun ⟨a,b,c,d⟩=>⟨⟨a,b,c⟩,d⟩⟩
theorem Hc {s:dY} {p:aL} {node:aU}:∀ {lo:List aL} {gone:List aU},gR (aW s gone) p node=true->gR (aW s (iD s p node lo gone)) p node=true
 |[],_,h=>h
 |q::r,gone,h=>by
  rw [iD]
  refine Hc ?_
  split
  · rename_i h1;exact h1
  · exact h
theorem KI {s:dY} {p:aL} {node:aU}:∀ {lo:List aL} {gone:List aU} {x:aU},x∈iD s p node lo gone->x∈gone
 |[],_,_,h=>h
 |q::r,gone,x,h=>by
  rw [iD] at h
  have:=KI h
  split at this
  · exact (List.mem_filter.1 this).1
  · exact this
theorem PF {s:dY} {p:aL} {node:aU} {l:List aU} (h:mJ s p node=some l):gR (aW s l) p node=true/\∀ x∈l,∃ q∈s.aE,q.name=x/\q.node=node/\q.prio<p.prio:=by
 unfold mJ at h
 split at h
 · rename_i hf
   cases h
   refine ⟨?_,fun x hx=>?_⟩
   · rw [Gr (fun x=>Hb)]
     exact Hc hf
   · have:=KI (Hb.1 hx)
     obtain ⟨q,hq,rfl⟩:=List.mem_map.1 this
     obtain ⟨a,b,_,d⟩:=PE.1 hq
     exact ⟨q,a,rfl,b,d⟩
 · cases h
end Go.Eng
