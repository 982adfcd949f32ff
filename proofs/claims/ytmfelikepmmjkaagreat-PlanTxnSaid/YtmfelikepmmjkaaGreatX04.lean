/-
Each operation of the model does what the abstract step says (part eight: append).
-/
import Derived.Test.YtmfelikepmmjkaaGreatX03
import Derived.Laws.BytesString
set_option linter.unusedVariables false
set_option linter.unusedSimpArgs false
namespace Go.Eng
open Go
def Gd (P:Program) (el:TypeId) (sz bytes:Nat):Bool:=
 match P.info? el with
 |some i=>decide (i.size=sz)&&decide (i.bytes=bytes)&&decide (0<sz)&&decide (0<bytes)&&(match i.zero with
  |some z=>decide (z.cells.size=sz)
  |none=>false)
 |none=>false
theorem xZ {P:Program} {el:TypeId} {sz bytes:Nat} (h:Gd P el sz bytes=true):
 ∃ i z,P.info? el=some i/\i.zero=some z/\i.size=sz/\i.bytes=bytes/\0<sz/\0<bytes/\z.cells.size=sz:=by
 unfold Gd at h
 split at h
 · rename_i i hi
   simp only [Bool.and_eq_true,decide_eq_true_eq] at h
   obtain ⟨⟨⟨⟨h1,h2⟩,h3⟩,h4⟩,h5⟩:=h
   split at h5
   · rename_i z hz
     exact ⟨i,z,hi,hz,h1,h2,h3,h4,by simpa using h5⟩
   · cases h5
 · cases h
theorem AN {E:Env} {asV bs:List V} {ys xs:List Value} (ha:jD E asV ys) (hl:ys.length=asV.length) (hb:jD E bs xs) (rest:List Value):jD E (asV++bs) (ys++xs++rest):=by
 intro j v hj
 rw [List.getElem?_append] at hj
 split at hj
 · rename_i cO
   obtain ⟨x,hx,h⟩:=ha j v hj
   refine ⟨x,?_,h⟩
   rw [List.append_assoc,List.getElem?_append_left (by omega)]
   exact hx
 · rename_i cO
   obtain ⟨x,hx,h⟩:=hb _ v hj
   have JD:=(List.getElem?_eq_some_iff.1 hx).1
   refine ⟨x,?_,h⟩
   rw [List.getElem?_append_left (by rw [List.length_append];omega),List.getElem?_append_right (by omega),hl]
   exact hx
theorem Ge {I:AH} {asV bs:List V} {ys xs:List Value} (ha:nF I asV ys) (hl:ys.length=asV.length) (hb:nF I bs xs) (rest:List Value):nF I (asV++bs) (ys++xs++rest):=by
 intro j v hj
 rw [List.getElem?_append] at hj
 split at hj
 · rename_i cO
   obtain ⟨x,hx,h⟩:=ha j v hj
   refine ⟨x,?_,h⟩
   rw [List.append_assoc,List.getElem?_append_left (by omega)]
   exact hx
 · rename_i cO
   obtain ⟨x,hx,h⟩:=hb _ v hj
   have JD:=(List.getElem?_eq_some_iff.1 hx).1
   refine ⟨x,?_,h⟩
   rw [List.getElem?_append_left (by rw [List.length_append];omega),List.getElem?_append_right (by omega),hl]
   exact hx
theorem jD.deep {E:Env} {cs ds:List V} {xs:List Value} (h:rF cs=some ds) (hr:jD E cs xs):nF E.I ds xs:=by
 intro j d hj
 obtain ⟨v,hv,H3⟩:=(nE h).2 j d hj
 obtain ⟨x,hx,xU,_⟩:=hr j v hv
 exact ⟨x,hx,AL H3 xU⟩
theorem jD.own {E:Env} {g:Bool} {cs ds:List V} {xs:List Value} (h:tS g cs=some ds) (hl:xs.length=cs.length) (hr:jD E cs xs):jD (E.Ju g) ds xs:=by
 have L0:eT E cs xs.toArray:=⟨by simpa using hl,fun j v y hj hy=>by
  obtain ⟨z,hz,US,_⟩:=hr j v hj
  have:xs[j]? =some y:=by simpa using hy
  rw [this] at hz;cases hz;exact US⟩
 have h2:=vR h L0
 intro j d hj
 have cO:j<cs.length:=by rw [<-Ec h];exact (List.getElem?_eq_some_iff.1 hj).1
 obtain ⟨x,hx,_,h1⟩:=hr j _ (List.getElem?_eq_getElem cO)
 exact ⟨x,hx,h2.2 j d x hj (by simpa using hx),h1⟩
theorem jD.aaK {E:Env} {cs:List V} {xs:List Value} (hl:xs.length=cs.length) (hr:jD E cs xs):eT E cs xs.toArray:=⟨by simpa using hl,fun j v y hj hy=>by
 obtain ⟨z,hz,US,_⟩:=hr j v hj
 have:xs[j]? =some y:=by simpa using hy
 rw [this] at hz;cases hz;exact US⟩
section
variable {P:Program} {o:Oper} {a:Act} {E:Env} {N:Nat} {st:St} {w:World} {fr:Fr} {next:Act->World->Prop} {Q:Exit->Act->World->Prop} {K:R->Prop}
theorem gO {s x:Operand} {ts:Array TypeId} {v:Value} {w':World} (ho:o.op=.call { callee:=.builtin .append,args:=#[s,x],argTypes:=ts })
 (h:(Builtin.append_ ts o.type #[a.eval s,a.eval x]).run P w=.ok v w'):(execOp a.eval o).run P w=.ok (.value v) w':=by
 simp [execOp,ho,resolve,invoke,builtin,h,Result.andThen]
theorem AO {n bytes:Nat} (h:bT n bytes=true) (hb:0<bytes):n*bytes<=140737488355328/\n<=9223372036854775807:=by
 have h1:n*bytes<=140737488355328:=by first|(simp [bT];done)|simpa [bT] using h
 have h2:n*1<=n*bytes:=Nat.mul_le_mul_left _ hb
 exact ⟨h1,by omega⟩
theorem vU {ys xs:List Value} {z:Array Value} {n:Nat}:(ys.toArray++xs.toArray++Builtin.zeroCells z n).toList=ys++xs++(Builtin.zeroCells z n).toList:=by simp
theorem zV {ys xs:List Value} {z:Array Value} {n sz p q cap:Nat} (h1:ys.length=p*sz) (h2:xs.length=q*sz) (hz:z.size=sz) (hn:n=cap - (p+q)) (hc:p+q<=cap):
 (ys.toArray++xs.toArray++Builtin.zeroCells z n).size=cap*sz:=by
 have hs:ys.toArray.size+xs.toArray.size=(p+q)*sz:=by rw [List.size_toArray,List.size_toArray,h1,h2,Nat.add_mul]
 rw [Array.size_append,Array.size_append,size_zeroCells,hz,hs,hn,<-Nat.add_mul]
 congr 1;omega
theorem nG (w:World) (ob:Go.Obj):(w.drew.alloc ob).heap=w.heap.push ob:=rfl
theorem BO (w:World) (ob:Go.Obj):rL w (w.drew.alloc ob):=⟨rfl,rfl,rfl⟩
theorem NA {sz:Nat} {es ds:List (List V)} (hl:∀ e∈es,e.length=sz) (hd:∀ e∈ds,e.length=sz) {p:Nat} (cY:p+ds.length<=es.length):
 (es.take p++ds++es.drop (p+ds.length)).flatten=dT es.flatten (p*sz) ds.flatten:=by
 have jE:=dA hl
 have L5:=dA hd
 have hmul:(p+ds.length)*sz<=es.length*sz:=Nat.mul_le_mul_right _ cY
 rw [Nat.add_mul] at hmul
 rw [List.flatten_append,List.flatten_append,nC hl,nD hl,Nat.add_mul]
 apply List.ext_getElem?
 intro j
 rw [jR _ _ _ _ (by omega)]
 have cO:(es.flatten.take (p*sz)).length=p*sz:=by rw [List.length_take];omega
 by_cases h1:j<p*sz
 · rw [List.getElem?_append_left (by rw [List.length_append,cO];omega),List.getElem?_append_left (by omega),if_neg (by omega),List.getElem?_take,if_pos h1]
 · by_cases h2:j<p*sz+ds.flatten.length
   · rw [if_pos (by omega),List.getElem?_append_left (by rw [List.length_append,cO];omega),List.getElem?_append_right (by omega),cO]
   · rw [if_neg (by omega),List.getElem?_append_right (by rw [List.length_append,cO];omega),List.length_append,cO,List.getElem?_drop]
     congr 1;omega
theorem step_append {s x:Operand} {d e:bL} {ts:Array TypeId} {t el:TypeId} {m:lQ} {sz bytes:Nat} (ho:o.op=.call { callee:=.builtin .append,args:=#[s,x],argTypes:=ts })
 (ht:ts[0]? =some t) (hu:P.underlying t=some (.slice el)) (nQ:Gd P el sz bytes=true) (hz:sF P ts[1]? =true) (hx:eL s d=true) (hy:eL x e=true)
 (hs:cH E st w) (hf:bB E N fr a) (hw:(step (.append m sz bytes d e) fr st).wp (aC P) K) (hc:fV E st w o a next K):o.wp P a w next Q:=by
 obtain ⟨i,z,hi,D9,lI,hby,JH,L6,UT⟩:=xZ nQ
 subst lI
 subst hby
 have Ef:=bG hx hf
 have hr2:=bG hy hf
 simp only [step] at hw
 obtain ⟨new,xs,hw,sS⟩:=elems_ok (P:=P) hs hr2 hw
 have vG:=dA sS.L4
 have Db:(Builtin.firstCells i.size new.length (a.eval x)).run P w=.ok xs.toArray w:=by
  have:=sS.first w rfl new.length (Nat.le_refl _)
  rwa [<-sS.Ee,List.take_length] at this
 have Xz:(Builtin.firstCells i.size new.length (a.eval x)).run P w.drew=.ok xs.toArray w.drew:=by
  have:=sS.first w.drew rfl new.length (Nat.le_refl _)
  rwa [<-sS.Ee,List.take_length] at this
 have XA:(Builtin.firstCells i.size 0 (a.eval x)).run P w=.ok #[] w:=by
  have:=sS.first w rfl 0 (Nat.zero_le _)
  simpa using this
 have hlen:=sS.len w
 unfold pW at hw
 split at hw
 · -- nil
   rename_i e1
   rw [e1] at Ef
   have Qv:a.eval s=.slice none 0 0:=by
    generalize a.eval s=y at Ef
    cases Ef with
    |deep hd=>cases hd;rfl
   split at hw
   · refine aX (x:=.slice none 0 0) (gO ho ?_) (hc.same hs hw (.deep .aS))
     rw [Qv]
     exact oW ht hu hi hz hlen XA none 0 0 (Nat.le_refl _)
   · rename_i e0 r0
     obtain ⟨mC,hw⟩:=hw
     obtain ⟨Jr,F5⟩:=AO mC L6
     have eI:=qB (ty:=o.type) (ys:=[]) ht hu hi D9 hz hlen Xz none 0 0 (by simp [Builtin.firstCells]) (by simp) (by simpa using Jr) (by simpa using F5)
     rw [Nat.zero_add] at eI
     have fE:=grownCap_ge w (e0::r0).length 0 el
     have uX:=zV (ys:=[]) (xs:=xs) (z:=z.cells) (n:=grownCap w (e0::r0).length 0 el - (e0::r0).length) (p:=0) (q:=(e0::r0).length) (cap:=grownCap w (e0::r0).length 0 el) (by simp) sS.Ee UT (by simp) (by simpa using fE)
     obtain ⟨v,cB,E',hk,s1,s2,iX⟩:=newSlice_ok (w':=w.drew.alloc _) hw hs (fz:=(0,0)) (.inl rfl) (nG w _) (BO w _) sS.L4 uX fE
      (by rw [vU];exact AN (asV:=[]) (fun j v hj=>by simp at hj) rfl sS.rel _)
     refine aX (gO ho (by rw [Qv];exact eI)) (hc _ _ E' _ _ hk s1 s2 iX)
 · -- Zw elements
   rename_i tok eD es e1
   rw [e1] at Ef
   split at hw
   case isFalse=>exact hw.elim
   rename_i hzz
   subst hzz
   split at hw
   · generalize Qv:a.eval s=y at Ef
     have:∃ b n c,y=.slice b n c/\n<=c:=by
      cases Ef with
      |deep hd=>
       cases hd with
       |nW=>exact ⟨_,_,_,rfl,Nat.le_refl _⟩
       |LO=>exact ⟨_,_,_,rfl,Nat.le_refl _⟩
       |sl _ _ _ _ _ _ NB=>exact ⟨_,_,_,rfl,NB⟩
      |F4 _ _ _ _ _ _ hd Du _=>
       cases hd with
       |LO _ _ hs=>exact absurd Du.2 hs
       |sl _ _ _ _ _ _ NB=>exact ⟨_,_,_,rfl,NB⟩
     obtain ⟨b,n,c,rfl,hnc⟩:=this
     refine aX (x:=.slice b n c) (gO ho ?_) (hc.same hs hw Ef)
     rw [Qv]
     exact oW ht hu hi hz hlen XA b n c hnc
   · rename_i e0 r0
     obtain ⟨mC,ds,kR,hw⟩:=hw
     obtain ⟨Jr,F5⟩:=AO mC L6
     split at hw
     case h_2=>exact hw.elim
     rename_i k
     obtain ⟨ob,eO,hw⟩:=hw
     dsimp only at hw
     split at hw
     case h_2=>exact hw.elim
     obtain ⟨F6,Gf,Lw⟩:=jT kR
     have Lw:=Lw sS.L4
     have lW:nF E.I ds.flatten xs:=sS.rel.deep F6
     have hn:(e0::r0).length=ds.length:=Gf.symm
     generalize Qv:a.eval s=y at Ef
     cases Ef with
     |deep hd=>cases hd
     |F4 _ _ _ ad cap hk hd aaN hh=>
     have Du:=aaN.1
     cases hd with
     |LO _ _ hs=>exact absurd aaN.2 hs
     |sl _ _ bS off _ val Dv hl hv hr=>
     have jE:=dA hl
     have L5:=dA Lw
     by_cases hg:es.length+ds.length<=cap
     · -- there is room
       have H5:0<ds.length:=by rw [<-hn];simp
       have hh:off+es.length*i.size=(E.μ k).base/\off+cap*i.size=(E.μ k).fin:=by
        rcases hh with h|h
        · omega
        · exact h
       obtain ⟨Qw,hh3⟩:=hh
       have GJ:bS=(E.μ k).bS:=Du
       obtain ⟨cells,ty,fz,r1,r2,r3,r4,r5⟩:=hs.obj k _ eO
       have hmul:(es.length+ds.length)*i.size<=cap*i.size:=Nat.mul_le_mul_right _ hg
       rw [Nat.add_mul] at hmul
       have L7:xs.length=ds.length*i.size:=by rw [sS.Ee,hn]
       have UU:(E.μ k).base+xs.length<=(E.μ k).fin:=by omega
       have Wf:w.there bS (off+es.length*i.size) xs.length:=by
        rw [GJ,Qw]
        exact Row.there r1 r2 (by omega)
       have eI:=sG (ty:=o.type) ht hu hi hz hlen Db bS off es.length cap (by rw [hn];exact hg) Wf sS.one
       rw [GJ,Qw] at eI
       obtain ⟨q1,q2,q3,q4⟩:=nP (E.μ k).bS xs (E.μ k).base w
       have JI:(w.setCells (E.μ k).bS (E.μ k).base xs).heap[(E.μ k).bS]? =some (.cells (sU cells (E.μ k).base xs) ty fz):=lB _ xs _ w r1
       have pG:∀ j,bM (w.setCells (E.μ k).bS (E.μ k).base xs) (E.μ k).bS j=if (E.μ k).base<=j/\j<(E.μ k).base+xs.length then xs[j - (E.μ k).base]? else cells[j]? :=by
        intro j
        simp only [bM,JI]
        exact nB _ _ _ _ (by omega)
       have eQ:st.live k:=⟨_,eO⟩
       obtain ⟨s1,s2⟩:=hs.move (w':=w.setCells (E.μ k).bS (E.μ k).base xs) eO k.sC ⟨(E.μ k).bS,(E.μ k).base+xs.length,(E.μ k).fin⟩
        (fun j=>if (E.μ k).base<=j/\j<(E.μ k).base+xs.length then xs[j - (E.μ k).base]? else none) .spare rfl (by simp) (by simp) q1 (fun b dJ=>mA _ dJ _ _ _) q2 q3 q4
        (fun j x hx=>by
          have h1:=hs.j6 _ _ _ hx
          rw [pG]
          split
          · rename_i cY
            have:=hs.own k eQ j cY.1 (by omega)
            rw [this] at hx;cases hx
          · simpa [bM,r1] using h1)
        (fun j x hx=>by
          split at hx
          · rename_i cY
            refine ⟨by rw [pG,if_pos cY];exact hx,?_⟩
            simp only;omega
          · cases hx)
        ⟨_,ty,fz,JI,by rw [jP];exact r2,by simpa using UU,by rw [jP];exact r4,fun j v hj=>by simp at hj⟩
       refine aX (gO ho (by rw [Qv];rw [GJ];exact eI)) (hc _ _ _ _ _ hw s1 s2 ?_)
       have QT:=hs.aO k.sC
       rw [St.kZ,QT]
       have hIn:∀ j,(E.μ k).base<=j->j<(E.μ k).base+xs.length->E.I (E.μ k).bS j=none:=fun j a b=>hs.own k eQ j a (by omega)
       have Wg:es.length+(e0::r0).length=(es++ds).length:=by rw [List.length_append,hn]
       rw [Wg]
       have agK:=lW.mono s2.le.j6
       refine .F4 _ _ _ _ _ (Env.fG _ _ _ _) (.sl _ _ _ _ _ (fun j=>if j<es.length*i.size then val j else xs.getD (j - es.length*i.size) default) (by rw [List.length_append];exact hg) (fun e he=>by
        rcases List.mem_append.1 he with h|h
        · exact hl e h
        · exact Lw e h) (fun j d hj=>?_) (fun j d hj=>?_)) (by rw [Env.gE];exact ⟨rfl,rfl⟩) (.inr ?_)
       · rw [List.flatten_append] at hj
         by_cases H6:j<es.length*i.size
         · rw [List.getElem?_append_left (by omega)] at hj
           rw [if_pos H6]
           have:=hv j d hj
           rw [GJ] at this
           exact s2.le.j6 _ _ _ this
         · rw [List.getElem?_append_right (by omega),jE] at hj
           rw [if_neg H6]
           have hjx:j - es.length*i.size<xs.length:=by
            have:=(List.getElem?_eq_some_iff.1 hj).1
            omega
           simp only [Env.push]
           rw [hIn (off+j) (by omega) (by omega)]
           simp only [if_true]
           rw [if_pos (by omega),show off+j - (E.μ k).base=j - es.length*i.size by omega]
           simp [hjx]
       · rw [List.flatten_append] at hj
         by_cases H6:j<es.length*i.size
         · rw [List.getElem?_append_left (by omega)] at hj
           rw [if_pos H6]
           exact (hr j d hj).mono s2.le.j6
         · rw [List.getElem?_append_right (by omega),jE] at hj
           rw [if_neg H6]
           obtain ⟨x0,Wh,xU⟩:=agK _ d hj
           simp only [List.getD_eq_getElem?_getD,Wh]
           exact xU
       · rw [Env.gE]
         refine ⟨?_,?_⟩
         · simp only [List.length_append,Nat.add_mul];omega
         · exact hh3
     · -- a new block
       have hold:(Builtin.firstCells i.size es.length (.slice (some ⟨bS,off,none⟩) es.length cap)).run P w.drew=.ok ((List.range (es.length*i.size)).map val).toArray w.drew:=by
        refine run_firstCells_some (P:=P) w.drew i.size es.length ⟨bS,off,none⟩ es.length cap _ (by simp) fun j v hj=>?_
        rw [Addr.add_mid]
        rw [List.getElem?_map] at hj
        have cO:j<es.length*i.size:=by
         rcases Nat.lt_or_ge j (es.length*i.size) with h|h
         · exact h
         · rw [List.getElem?_eq_none (by simp;omega)] at hj;cases hj
        rw [List.getElem?_range cO] at hj
        simp only [Option.map_some,Option.some.injEq] at hj
        subst hj
        have hex:∃ dd,es.flatten[j]? =some dd:=⟨es.flatten[j],by simp⟩
        obtain ⟨dd,Lx⟩:=hex
        have:=hs.j6 _ _ _ (hv j dd Lx)
        rw [lY]
        exact this
       have eI:=qB (ty:=o.type) ht hu hi D9 hz hlen Xz (some ⟨bS,off,none⟩) es.length cap hold (by omega) Jr F5
       have fE:=grownCap_ge w (es.length+(e0::r0).length) cap el
       have uX:=zV (ys:=(List.range (es.length*i.size)).map val) (xs:=xs) (z:=z.cells) (p:=es.length) (q:=(e0::r0).length) (by simp) sS.Ee UT rfl fE
       have aaO:nF E.I es.flatten ((List.range (es.length*i.size)).map val):=by
        intro j d hj
        have cO:j<es.length*i.size:=by rw [<-jE];exact (List.getElem?_eq_some_iff.1 hj).1
        exact ⟨val j,by simp [cO],hr j d hj⟩
       obtain ⟨E',s1,s2,iX⟩:=Ed (z:=1) (w':=w.drew.alloc _) hs (some k) k.sC (fz:=(0,0)) (.inl rfl) (nG w _) (BO w _) (ds:=es++ds) (fun e he=>by
        rcases List.mem_append.1 he with h|h
        · exact hl e h
        · exact Lw e h) uX (by rw [List.length_append,<-hn];exact fE)
        (by rw [vU,List.flatten_append];exact Ge aaO (by simp [jE]) lW _)
       refine aX (gO ho (by rw [Qv];exact eI)) (hc _ _ E' _ _ hw s1 s2 ?_)
       rw [List.length_append,<-hn] at iX
       rw [St.kZ]
       exact iX
 · -- elements UN may be written
   rename_i k eD off len e1
   rw [e1] at Ef
   split at hw
   case isFalse=>exact hw.elim
   rename_i hzz
   subst hzz
   generalize Qv:a.eval s=y at Ef
   cases Ef with
   |deep hd=>cases hd
   |ms _ _ _ _ ad cap hk Dv hh Du ha=>
   split at hw
   · refine aX (x:=.slice (some ad) len cap) (gO ho ?_) (hc.same hs hw (.ms _ _ _ _ _ _ hk Dv hh Du ha))
     rw [Qv]
     exact oW ht hu hi hz hlen XA (some ad) len cap Dv
   · rename_i e0 r0
     obtain ⟨mC,ds,kR,ob,eO,hw⟩:=hw
     obtain ⟨Jr,F5⟩:=AO mC L6
     dsimp only at hw
     split at hw
     case h_2=>exact hw.elim
     rename_i eW es
     split at hw
     case isFalse=>exact hw.elim
     rename_i hzz
     subst hzz
     obtain ⟨cY,hw⟩:=hw
     have cY:off+len<=es.length:=by simpa using cY
     obtain ⟨F6,Gf,Lw⟩:=nS kR
     have Lw:=Lw sS.L4
     have hn:(e0::r0).length=ds.length:=Gf.symm
     have lW:jD (E.Ju k.sC) ds.flatten xs:=sS.rel.own F6 (by rw [sS.Ee,vG])
     obtain ⟨hl,cells,ty,fz,r1,r2,r3,r4,r5⟩:=hs.obj k _ eO
     have jE:=dA hl
     have L5:=dA Lw
     have L7:xs.length=ds.length*i.size:=by rw [sS.Ee,hn]
     have agL:=lW.aaK (by rw [L7,L5])
     have H5:0<ds.length:=by rw [<-hn];simp
     have mV:es.length<=off+cap:=by
      have:es.length*i.size<=(off+cap)*i.size:=by omega
      exact Nat.le_of_mul_le_mul_right this JH
     have eQ:st.live k:=⟨_,eO⟩
     have L8:len+(e0::r0).length=len+ds.length:=by rw [hn]
     rw [Nat.add_mul] at hh
     by_cases Da:off+len+ds.length<=es.length
     · -- in L9 is known
       have BP:=hw.1 (by simpa using Da)
       have H7:len+ds.length<=cap:=by omega
       have ha:ad=⟨(E.μ k).bS,(E.μ k).base+off*i.size,none⟩:=by
        rcases ha with h|h
        · omega
        · exact h
       subst ha
       have Qx:(off+len+ds.length)*i.size<=es.length*i.size:=Nat.mul_le_mul_right _ Da
       rw [Nat.add_mul,Nat.add_mul] at Qx
       have Wf:w.there (E.μ k).bS ((E.μ k).base+off*i.size+len*i.size) xs.length:=Row.there r1 r2 (by omega)
       have eI:=sG (ty:=o.type) ht hu hi hz hlen Db _ _ len cap (by rw [hn];exact H7) Wf sS.one
       rw [L8,Nat.add_assoc,<-Nat.add_mul] at eI
       have LV:=NA hl Lw (p:=off+len) Da
       have dR:=iH.written r1 r2 r3 r4 r5 (off:=(off+len)*i.size) (vs:=ds.flatten) (xs:=xs) (by rw [Env.zU];exact agL) sS.one (by rw [Nat.add_mul];omega)
       rw [<-LV] at dR
       have AA:∀ e∈es.take (off+len)++ds++es.drop (off+len+ds.length),e.length=i.size:=by
        intro e he
        rcases List.mem_append.1 he with h|h
        · rcases List.mem_append.1 h with h|h
          · exact hl e (List.mem_of_mem_take h)
          · exact Lw e h
        · exact hl e (List.mem_of_mem_drop h)
       obtain ⟨s1,s2⟩:=hs.write eO r1 r4 (pos:=(E.μ k).base+(off+len)*i.size) (xs:=xs) (by omega) (by rw [Nat.add_mul];omega) (.arr i.size (es.take (off+len)++ds++es.drop (off+len+ds.length))) ⟨AA,dR⟩
       exact aX (gO ho (by rw [Qv];exact eI)) (hc _ _ E _ _ BP s1 s2 (.ms _ _ _ _ _ _ hk (by omega) (by rw [Nat.add_mul];exact hh) rfl (.inr rfl)))
     · have sW:=hw.2 (by simpa using Da)
       rw [St.kZ] at sW
       have GK:((es.take (off+len)).drop off++ds).flatten=(es.flatten.drop (off*i.size)).take (len*i.size)++ds.flatten:=by
        have cO:∀ e∈es.take (off+len),e.length=i.size:=fun e he=>hl e (List.mem_of_mem_take he)
        rw [List.flatten_append,nD cO,nC hl,List.drop_take,Nat.add_mul]
        congr 2;omega
       have AA:∀ e∈(es.take (off+len)).drop off++ds,e.length=i.size:=by
        intro e he
        rcases List.mem_append.1 he with h|h
        · exact hl e (List.mem_of_mem_take (List.mem_of_mem_drop h))
        · exact Lw e h
       have Rg:((es.take (off+len)).drop off++ds).length=len+ds.length:=by
        rw [List.length_append,List.length_drop,List.length_take];omega
       have XB:(off+len)*i.size<=es.length*i.size:=Nat.mul_le_mul_right _ cY
       rw [Nat.add_mul] at XB
       by_cases H7:len+ds.length<=cap
       · -- in LQ spare room
         have ha:ad=⟨(E.μ k).bS,(E.μ k).base+off*i.size,none⟩:=by
          rcases ha with h|h
          · omega
          · exact h
         subst ha
         have Qx:(len+ds.length)*i.size<=cap*i.size:=Nat.mul_le_mul_right _ H7
         rw [Nat.add_mul] at Qx
         have Wf:w.there (E.μ k).bS ((E.μ k).base+off*i.size+len*i.size) xs.length:=Row.there r1 r2 (by omega)
         have eI:=sG (ty:=o.type) ht hu hi hz hlen Db _ _ len cap (by rw [hn];exact H7) Wf sS.one
         rw [L8] at eI
         obtain ⟨q1,q2,q3,q4⟩:=nP (E.μ k).bS xs ((E.μ k).base+off*i.size+len*i.size) w
         have JI:=lB _ xs ((E.μ k).base+off*i.size+len*i.size) w r1
         have pG:∀ j,(sU cells ((E.μ k).base+off*i.size+len*i.size) xs)[j]? =if (E.μ k).base+off*i.size+len*i.size<=j/\j<(E.μ k).base+off*i.size+len*i.size+xs.length then xs[j - ((E.μ k).base+off*i.size+len*i.size)]? else cells[j]? :=by
          intro j
          exact nB _ _ _ _ (by omega)
         obtain ⟨s1,s2⟩:=hs.move (w':=w.setCells (E.μ k).bS ((E.μ k).base+off*i.size+len*i.size) xs) eO k.sC ⟨(E.μ k).bS,(E.μ k).base+off*i.size,(E.μ k).fin⟩
          (fun _=>none) (.arr i.size ((es.take (off+len)).drop off++ds)) rfl (by simp) (by simp) q1 (fun b dJ=>mA _ dJ _ _ _) q2 q3 q4
          (fun j x hx=>by
            have h1:=hs.j6 _ _ _ hx
            simp only [bM,JI,pG]
            split
            · rename_i XC
              have:=hs.own k eQ j (by omega) (by omega)
              rw [this] at hx;cases hx
            · simpa [bM,r1] using h1)
          (fun j x hx=>by cases hx)
          ⟨AA,_,ty,fz,JI,by rw [jP];exact r2,by
           rw [dA AA,Rg,Nat.add_mul];simp only;omega,by rw [jP];exact r4,fun j v hj=>by
           rw [GK] at hj
           rw [Env.GH]
           have hle:(E.Ju k.sC).Le ((E.push k.sC ⟨(E.μ k).bS,(E.μ k).base+off*i.size,(E.μ k).fin⟩ fun b j=>if b=(E.μ k).bS then (fun _=>none) j else none).Ju k.sC):=Env.JF _ _ _ _ _
           have BJ:((es.flatten.drop (off*i.size)).take (len*i.size)).length=len*i.size:=by
            rw [List.length_take,List.length_drop];omega
           simp only [pG]
           by_cases H6:j<len*i.size
           · rw [List.getElem?_append_left (by omega),List.getElem?_take,if_pos H6,List.getElem?_drop] at hj
             rw [if_neg (by omega)]
             obtain ⟨x0,Wh,GL,GM⟩:=r5 _ v hj
             rw [Nat.add_assoc]
             rw [Env.zU] at GL
             exact ⟨x0,Wh,GL.mono hle,GM⟩
           · rw [List.getElem?_append_right (by omega),BJ] at hj
             obtain ⟨x0,Wh,GL,GM⟩:=lW _ v hj
             have:=(List.getElem?_eq_some_iff.1 Wh).1
             rw [if_pos (by omega)]
             refine ⟨x0,?_,GL.mono hle,GM⟩
             rw [<-Wh];congr 1;omega⟩
         refine aX (gO ho (by rw [Qv];exact eI)) (hc _ _ _ _ _ sW s1 s2 ?_)
         have QT:=hs.aO k.sC
         rw [QT]
         refine .ms _ _ _ _ _ _ (Env.fG _ _ _ _) (by omega) ?_ (by rw [Env.gE]) (.inr ?_)
         · rw [Env.gE];simp only [Nat.zero_add];omega
         · rw [Env.gE];simp
       · -- a new block
         have hys:∃ ys:List Value,ys.length=len*i.size/\jD (E.Ju k.sC) ((es.flatten.drop (off*i.size)).take (len*i.size)) ys/\
          (Builtin.firstCells i.size len (.slice (some ad) len cap)).run P w.drew=.ok ys.toArray w.drew:=by
          rcases ha with h0|ha
          · have u9:len=0:=by omega
            subst u9
            refine ⟨[],by simp,fun j v hj=>by simp at hj,?_⟩
            simp [Builtin.firstCells,loadCells,loadCellsFrom]
          · subst ha
            have agM:gN (E.Ju k.sC) w (E.μ k).bS ((E.μ k).base+off*i.size) ((es.flatten.drop (off*i.size)).take (len*i.size)):=by
             have h1:iH i.size (E.at k) w (E.μ k) es.flatten:=⟨cells,ty,fz,r1,r2,r3,r4,r5⟩
             have:=h1.AK.sub (off*i.size) (len*i.size)
             rw [Env.zU] at this
             exact this
            obtain ⟨ys,y1,y2,y3,y4⟩:=agM.list
            have hyl:ys.length=len*i.size:=by rw [y1,List.length_take,List.length_drop];omega
            refine ⟨ys,hyl,fun j v hj=>?_,?_⟩
            · obtain ⟨x0,Wh,GL⟩:=y3.get hj
              have aaQ:ys[j]? =some x0:=by simpa using Wh
              exact ⟨x0,aaQ,GL,y4 x0 (List.mem_of_getElem? aaQ)⟩
            · refine run_firstCells_some (P:=P) w.drew i.size len _ len cap ys hyl fun j v hj=>?_
              rw [Addr.add_mid]
              have:=y2 j v hj
              exact this
         obtain ⟨ys,hyl,hyr,hold⟩:=hys
         have eI:=qB (ty:=o.type) ht hu hi D9 hz hlen Xz (some ad) len cap hold (by omega) Jr F5
         have fE:=grownCap_ge w (len+(e0::r0).length) cap el
         have uX:=zV (ys:=ys) (xs:=xs) (z:=z.cells) (p:=len) (q:=(e0::r0).length) hyl sS.Ee UT rfl fE
         obtain ⟨E',s1,s2,iX⟩:=JG (w':=w.drew.alloc _) hs (some k) k.sC (fz:=(0,0)) (.inl rfl) (nG w _) (BO w _) (ds:=(es.take (off+len)).drop off++ds) AA uX (by rw [Rg,<-hn];exact fE)
          (by
            rw [vU,GK]
            exact AN hyr (by rw [hyl,List.length_take,List.length_drop];omega) lW _)
         refine aX (gO ho (by rw [Qv];exact eI)) (hc _ _ E' _ _ sW s1 s2 ?_)
         rw [Rg] at iX
         rw [L8] at*
         exact iX
 · exact hw.elim
end
open Go
theorem aA.Eg:∀ (l:List (Nat×Obj)) (n:Nat) (o:Obj),aA.find l n=some o->aA.CA l n o=l
 |[],_,_,h=>by cases h
 |(k,x)::r,n,o,h=>by
  simp only [aA.find] at h
  simp only [aA.CA]
  split at h
  · rename_i hk
    rw [if_pos hk]
    simp only [Option.some.injEq] at h
    subst h;rfl
  · rename_i hk
    rw [if_neg hk,aA.Eg r n o h]
theorem St.Rh {st:St} {k:Key} {o:Obj} (h:st.get k=some o):st.set k o=st:=by
 cases k with
 |g n=>simp only [St.set,aA.set];rw [aA.Eg _ _ _ h]
 |l n=>simp only [St.set,aA.set];rw [aA.Eg _ _ _ h]
section
variable {P:Program} {o:Oper} {a:Act} {E:Env} {N:Nat} {st:St} {w:World} {fr:Fr} {next:Act->World->Prop} {Q:Exit->Act->World->Prop} {K:R->Prop}
theorem Gg {zero:List V} {n j:Nat} (hj:j<n*zero.length):(List.replicate n zero).flatten[j]? =zero[j%zero.length]? :=by
 have hp:0<zero.length:=by
  rcases Nat.eq_zero_or_pos zero.length with h|h
  · rw [h] at hj;simp at hj
  · exact h
 have hl:∀ e∈List.replicate n zero,e.length=zero.length:=fun e he=>by rw [(List.mem_replicate.1 he).2]
 have hq:j/zero.length<n:=(Nat.div_lt_iff_lt_mul hp).2 hj
 have:=pZ hl (ix:=j/zero.length) (j:=j%zero.length) (e:=zero) (by simp [hq]) (Nat.mod_lt _ hp)
 rw [<-this]
 congr 1
 rw [Nat.mul_comm];exact (Nat.div_add_mod j _).symm
theorem JJ {z:Array Value} {n j:Nat} (hz:0<z.size) (hj:j<n):(madeCells z n)[j]? =z[j%z.size]? :=by
 have hm:j%z.size<z.size:=Nat.mod_lt _ hz
 simp [madeCells,hj,hm]
theorem Eh {z:Array Value} {zero:List V} {len:Nat} (hr:eT E zero z) (hp:0<zero.length):eT E (List.replicate len zero).flatten (madeCells z (len*zero.length)):=by
 have hl:∀ e∈List.replicate len zero,e.length=zero.length:=fun e he=>by rw [(List.mem_replicate.1 he).2]
 have vG:=dA hl
 rw [List.length_replicate] at vG
 refine ⟨by rw [size_madeCells,vG],fun j v x hj hx=>?_⟩
 have cO:j<len*zero.length:=by rw [<-vG];exact (List.getElem?_eq_some_iff.1 hj).1
 have UT:=hr.1
 rw [Gg cO] at hj
 rw [JJ (by omega) cO,UT] at hx
 exact hr.2 _ v x hj hx
theorem Ei {z:Array Value} {n:Nat} (h1:∀ (j:Nat) (x:Value),z[j]? =some x->x.oneCell'=true) (hz:0<z.size) (j:Nat) (x:Value) (hx:(madeCells z n)[j]? =some x):x.oneCell'=true:=by
 have cO:j<n:=by
  have:=(Array.getElem?_eq_some_iff.1 hx).1
  rwa [size_madeCells] at this
 rw [JJ hz cO] at hx
 exact h1 _ x hx
theorem JK:∀ {vs e:List V},vs.length=e.length->dT e 0 vs=vs:=by
 intro vs e h
 apply List.ext_getElem?
 intro j
 rw [jR _ _ _ _ (by omega)]
 by_cases hj:j<vs.length
 · rw [if_pos (by omega)];rfl
 · rw [if_neg (by omega),List.getElem?_eq_none (by omega),List.getElem?_eq_none (by omega)]
def iU (sz:Nat):List (Nat×V)->List (Nat×Nat×V)
 |[]=>[]
 |(i,v)::r=>(i*sz,sz,v)::iU sz r
theorem vV {sz:Nat}:∀ {ps:List (Nat×V)} {es F3:List (List V)},(∀ e∈es,e.length=sz)->pP es sz ps=some F3->
 lR es.flatten (iU sz ps)=some F3.flatten/\(∀ e∈F3,e.length=sz)/\F3.length=es.length
 |[],es,F3,hl,h=>by
  simp only [pP,Option.some.injEq] at h
  subst h
  exact ⟨rfl,hl,rfl⟩
 |(i,v)::r,es,F3,hl,h=>by
  simp only [pP] at h
  split at h
  case isFalse=>cases h
  rename_i hc
  obtain ⟨h1,h2,h3⟩:=hc
  have AA:∀ e∈es.set i v.cells,e.length=sz:=by
   intro e he
   rcases List.mem_or_eq_of_mem_set he with h|h
   · exact hl e h
   · rw [h];exact h2
  obtain ⟨e1,e2,e3⟩:=vV AA h
  have vG:=dA hl
  have hmul:(i+1)*sz<=es.length*sz:=Nat.mul_le_mul_right _ h3
  rw [Nat.succ_mul] at hmul
  refine ⟨?_,e2,by rw [e3];simp⟩
  simp only [iU,lR]
  rw [if_pos ⟨h1,h2,by omega⟩]
  have nQ:es[i]? =some es[i]:=by simp [h3]
  have:=JE hl nQ 0 v.cells (by omega)
  rw [JK (by rw [h2,hl _ (List.getElem_mem h3)]),Nat.add_zero] at this
  rw [<-this]
  exact e1
def sX:List (Nat×Operand)->List (Nat×bL)->Bool
 |[],[]=>true
 |(i,x)::r,(j,d)::q=>decide (i=j)&&eL x d&&sX r q
 |_,_=>false
theorem zC {sz:Nat} (hf:bB E N fr a):∀ {ps:List (Nat×Operand)} {qs:List (Nat×bL)},sX ps qs=true->
 (iU sz (gM fr qs)).length=ps.length/\∀ (j:Nat) (q:Nat×Nat×V) (p:Nat×Operand),(iU sz (gM fr qs))[j]? =some q->ps[j]? =some p->(q.1=p.1*sz/\q.2.1=sz)/\Rel E q.2.2 (a.eval p.2)
 |[],[],_=>⟨rfl,fun j q p hq=>by simp [gM,iU] at hq⟩
 |(i,x)::r,(i',d)::q,h=>by
  simp only [sX,Bool.and_eq_true,decide_eq_true_eq] at h
  obtain ⟨⟨h0,h2⟩,h3⟩:=h
  subst h0
  obtain ⟨l1,l2⟩:=zC (sz:=sz) hf h3
  refine ⟨by simp [gM,iU,l1],fun j y p hy hp=>?_⟩
  cases j with
  |zero=>
   simp [gM,iU] at hy hp
   subst hy;subst hp
   exact ⟨⟨rfl,rfl⟩,bG h2 hf⟩
  |succ j=>exact l2 j y p (by simpa [gM,iU] using hy) (by simpa using hp)
 |[],_::_,h=>by cases h
 |(_,_)::_,[],h=>by simp [sX] at h
theorem eT.Ri {cs:List V} {xs:Array Value} (hr:eT E cs xs) (h1:∀ (j:Nat) (x:Value),xs[j]? =some x->x.oneCell'=true):jD E cs xs.toList:=by
 intro j v hj
 obtain ⟨x,hx,xU⟩:=hr.get hj
 exact ⟨x,by simpa using hx,xU,h1 j x hx⟩
theorem Rj {t el:TypeId} {len:Nat} {ps:Array (Nat×Operand)} {qs:List (Nat×bL)} {m:lQ} {sz bytes:Nat} {zero:List V} (ho:o.op=.buildSlice t len ps)
 (hu:P.underlying t=some (.slice el)) (nQ:Gd P el sz bytes=true) (Ur:mB P el zero=true) (agO:len*sz<=16777216) (hp:sX ps.toList qs=true)
 (hs:cH E st w) (hf:bB E N fr a) (hw:(step (.Um m sz len zero qs) fr st).wp (aC P) K) (hc:fV E st w o a next K):o.wp P a w next Q:=by
 obtain ⟨i,z,hi,D9,lI,hby,JH,L6,UT⟩:=xZ nQ
 obtain ⟨i',z',cZ,JL,Re,hr,hl,h1⟩:=jS Ur
 rw [hi] at cZ;cases cZ
 rw [D9] at JL;cases JL
 have Wi:zero.length=sz:=by omega
 simp only [step] at hw
 unfold T.opt at hw
 split at hw
 case h_2=>exact hw.elim
 rename_i es jE
 have Wj:∀ e∈List.replicate len zero,e.length=sz:=fun e he=>by rw [(List.mem_replicate.1 he).2];exact Wi
 obtain ⟨f1,f2,f3⟩:=vV Wj jE
 rw [List.length_replicate] at f3
 obtain ⟨l1,l2⟩:=zC (sz:=sz) hf hp
 have Wk:=Eh (len:=len) (hr E) (by omega)
 have H8:=Ei (n:=len*zero.length) h1 (by omega)
 rw [Wi] at Wk H8
 obtain ⟨zs,GF,Jt,Xw⟩:=Ea (E:=E) (fun k=>some (k*sz,sz)) [] (iU sz (gM fr qs)) (ps.toList.map fun q=>(q.1,a.eval q.2)) _ _ _ f1 Wk H8 (by simp [l1]) (fun j q x hq hx=>by
  rw [List.getElem?_map] at hx
  cases Rc:ps.toList[j]? with
  |none=>rw [Rc] at hx;cases hx
  |some p=>
   rw [Rc] at hx
   simp only [Option.map_some,Option.some.injEq] at hx
   subst hx
   obtain ⟨⟨LS,UR⟩,iX⟩:=l2 j q p hq Rc
   exact ⟨by simp [LS,UR],iX⟩)
 have agP:zs.size=len*sz:=by rw [Jt.1,dA f2,f3]
 obtain ⟨v,cB,E',hk,s1,s2,iX⟩:=newSlice_ok (w':=w.alloc (.cells zs el)) hw hs (fz:=(0,0)) (.inl rfl) rfl ⟨rfl,rfl,rfl⟩ f2 agP (by omega) (Jt.Ri Xw)
 refine aX (x:=.slice (some ⟨w.heap.size,0,none⟩) len len) ?_ (hc _ _ E' _ _ hk s1 s2 (by rw [<-f3];rw [<-f3] at iX;exact iX))
 have H2:(ps.map fun (q:Nat×Operand)=>(q.1,a.eval q.2)).toList=ps.toList.map fun q=>(q.1,a.eval q.2):=by simp
 simp only [execOp,ho,Instr.buildSlice,Sem.run_bind,run_underlying hu,Result.andThen_ok]
 have Qy:¬(len*sz>16777216):=by omega
 by_cases h0:len*sz=0
 · have he:len=0:=by
    rcases Nat.mul_eq_zero.1 h0 with h|h
    · exact h
    · omega
   subst he
   have XB:madeCells z.cells (0*sz)=#[]:=by
    apply Array.eq_empty_of_size_eq_zero
    rw [size_madeCells];omega
   rw [XB] at GF
   simp [sizeOf,typeInfo,hi,newRow,lI,Array.range_zero',GF]
 · have h00:¬(len=0\/sz=0):=by
    rintro (h|h)
    · simp [h] at h0
    · omega
   simp only [madeCells] at GF
   simp [sizeOf,typeInfo,hi,lI,Qy,zeroValue,D9,newRow,GF]
   exact fun h=>absurd h h0
theorem O1 {t el:TypeId} {x y:Operand} {d e:bL} {m:lQ} {sz bytes:Nat} {zero:List V} (ho:o.op=.makeSlice t x y) (hx:eL x d=true) (hy:eL y e=true)
 (hu:P.underlying t=some (.slice el)) (nQ:Gd P el sz bytes=true) (Ur:mB P el zero=true)
 (hs:cH E st w) (hf:bB E N fr a) (hw:(step (.LL m sz bytes zero d e) fr st).wp (aC P) K) (hc:fV E st w o a next K):o.wp P a w next Q:=by
 obtain ⟨i,z,hi,D9,lI,hby,JH,L6,UT⟩:=xZ nQ
 obtain ⟨i',z',cZ,JL,Re,hr,hl,h1⟩:=jS Ur
 rw [hi] at cZ;cases cZ
 rw [D9] at JL;cases JL
 have Wi:zero.length=sz:=by omega
 have r1:=bG hx hf
 have r2:=bG hy hf
 simp only [step] at hw
 split at hw
 case h_2=>exact hw.elim
 rename_i k p k' q e1 e2
 rw [e1] at r1
 rw [e2] at r2
 have r1:=r1.int
 have r2:=r2.int
 obtain ⟨vJ,hw⟩:=hw
 simp only [Bool.and_eq_true,decide_eq_true_eq] at vJ
 obtain ⟨⟨h0,hpq⟩,mC⟩:=vJ
 subst hpq
 obtain ⟨Jr,F5⟩:=AO mC L6
 have hbb:(i.bytes:Int)*p<=281474976710656:=by
  have h3:((i.bytes*p.toNat:Nat):Int)<=281474976710656:=by rw [hby,Nat.mul_comm];omega
  rw [Int.natCast_mul] at h3
  rwa [Int.toNat_of_nonneg h0] at h3
 have eI:=run_make (P:=P) w t el i z hu hi D9 k k' p p h0 (Int.le_refl _) hbb (by omega)
 have Wk:=Eh (len:=p.toNat) (hr E) (by omega)
 have H8:=Ei (n:=p.toNat*zero.length) h1 (by omega)
 rw [Wi] at Wk H8
 have Wj:∀ e∈List.replicate p.toNat zero,e.length=sz:=fun e he=>by rw [(List.mem_replicate.1 he).2];exact Wi
 rw [lI] at eI
 obtain ⟨v,cB,E',hk,s1,s2,iX⟩:=newSlice_ok (w':=w.alloc (.cells (madeCells z.cells (p.toNat*sz)) el)) hw hs (fz:=(0,0)) (.inl rfl) rfl ⟨rfl,rfl,rfl⟩ Wj (cap:=p.toNat) (size_madeCells _ _) (by simp) (Wk.Ri H8)
 rw [List.length_replicate] at iX
 exact aX (x:=.slice (some ⟨w.heap.size,0,none⟩) p.toNat p.toNat) (by simp [execOp,ho,r1,r2,eI]) (hc _ _ E' _ _ hk s1 s2 iX)
theorem tU.mark {fz:Nat×Nat} {n:Nat} (h:tU 1 fz n):tU 1 (if fz.1==fz.2 then (n,n+1) else (min fz.1 n,max fz.2 (n+1))) n:=by
 obtain ⟨lo,hi⟩:=fz
 simp only [tU] at*
 split
 · exact .inr ⟨Nat.le_refl _,trivial⟩
 · rename_i dJ
   simp at dJ
   rcases h with h|h
   · exact absurd h dJ
   · exact .inr ⟨by simp only;omega,trivial⟩
theorem vW {b n:Nat} {c:Array Value} {t:TypeId} {fz:Nat×Nat} (h:w.heap[b]? =some (.cells c t fz)):
 (w.freeze ⟨b,n,none⟩ 1).heap[b]? =some (.cells c t (if fz.1==fz.2 then (n,n+1) else (min fz.1 n,max fz.2 (n+1)))):=by
 simp [World.freeze,Array.getElem?_modify,h]
theorem AP {b b' n:Nat} (h:b'≠b):(w.freeze ⟨b,n,none⟩ 1).heap[b']? =w.heap[b']? :=by
 simp only [World.freeze]
 simp only [Nat.succ_ne_zero,if_false,Array.getElem?_modify]
 rw [if_neg (fun e=>h e.symm)]
theorem JM {ob:Array Value} {t:TypeId} {n:Nat}:((w.drew.alloc (.cells ob t)).freeze ⟨w.heap.size,n,none⟩ 1).heap=w.heap.push (.cells ob t (n,n+1)):=by
 apply Array.ext_getElem?
 intro j
 by_cases hj:j=w.heap.size
 · subst hj
   rw [vW (c:=ob) (t:=t) (fz:=(0,0)) (by rw [nG];simp)]
   simp
 · rw [AP hj,nG]
   simp only [Array.getElem?_push,if_neg hj]
theorem AQ {b off:Nat} {c:Array Value} {t:TypeId} {fz:Nat×Nat} (h:w.heap[b]? =some (.cells c t fz)):
 (markStringish ⟨b,off,none⟩).run P w=.ok () (w.freeze ⟨b,c.size,none⟩ 1):=by
 simp [markStringish,shape,freeze,Sem.run,World.shape?,h]
theorem zD (l:List UInt8):(fD l).length=l.length:=by simp [fD]
theorem H9 (l:List UInt8):∀ e∈fD l,e.length=1:=by
 intro e he
 simp only [fD,List.mem_map] at he
 obtain ⟨c,_,rfl⟩:=he
 rfl
theorem Gh (l:List UInt8) (rest:List Value):jD E (fD l).flatten (l.map (fun c=>Value.int .u8 c.toNat)++rest):=by
 intro j v hj
 rw [qA,List.getElem?_map] at hj
 cases hc:l[j]? with
 |none=>rw [hc] at hj;cases hj
 |some c=>
  rw [hc] at hj
  simp only [Option.map_some,Option.some.injEq] at hj
  subst hj
  have cO:=(List.getElem?_eq_some_iff.1 hc).1
  exact ⟨.int .u8 c.toNat,by rw [List.getElem?_append_left (by simpa using cO)];simp [hc],.deep (.i _ _),rfl⟩
theorem Rk {t t' el:TypeId} {x:Operand} {d:bL} {m:lQ} (ho:o.op=.convert t t' x) (hx:eL x d=true) (hus:P.underlying t=some .string) (hu:P.underlying t'=some (.slice el)) (he:P.underlying el=some (.int .u8))
 (hs:cH E st w) (hf:bB E N fr a) (hw:(step (.Uo m d) fr st).wp (aC P) K) (hc:fV E st w o a next K):o.wp P a w next Q:=by
 have r1:=bG hx hf
 simp only [step] at hw
 split at hw
 case h_2=>exact hw.elim
 rename_i l e1
 rw [e1] at r1
 have r1:=r1.C8
 have lI:(str l).size=l.length:=by simp [str,ByteArray.size]
 have fE:=grownCap_ge w l.length 0 el
 have zT:((str l).data.map (fun b=>Value.int .u8 b.toNat)++Array.replicate (grownCap w l.length 0 el - l.length) (Value.int .u8 0)).toList=l.map (fun c=>Value.int .u8 c.toNat)++List.replicate (grownCap w l.length 0 el - l.length) (Value.int .u8 0):=by
  simp [str]
 have uX:((str l).data.map (fun b=>Value.int .u8 b.toNat)++Array.replicate (grownCap w l.length 0 el - l.length) (Value.int .u8 0)).size=grownCap w l.length 0 el*1:=by
  simp [str];omega
 generalize Rl:((str l).data.map (fun b=>Value.int .u8 b.toNat)++Array.replicate (grownCap w l.length 0 el - l.length) (Value.int .u8 0))=cells at zT uX
 obtain ⟨v,cB,E',hk,s1,s2,iX⟩:=newSlice_ok (w':=(w.drew.alloc (.cells cells el)).freeze ⟨w.heap.size,cells.size,none⟩ 1) hw hs (fz:=(cells.size,cells.size+1)) (.inr ⟨Nat.le_refl _,rfl⟩) JM ⟨rfl,rfl,rfl⟩ (H9 l) (cap:=grownCap w l.length 0 el) uX (by rw [zD];exact fE)
  (by rw [zT];exact Gh l _)
 rw [zD] at iX
 refine aX (x:=.slice (some ⟨w.heap.size,0,none⟩) l.length (grownCap w l.length 0 el)) ?_ (hc _ _ E' _ _ hk s1 s2 iX)
 have hm:=AQ (P:=P) (w:=w.drew.alloc (.cells cells el)) (b:=w.heap.size) (off:=0) (c:=cells) (t:=el) (fz:=(0,0)) (by rw [nG];simp)
 simp only [execOp,ho,r1,convert,Sem.run_bind,run_underlying hus,run_underlying hu,run_underlying he,Result.andThen_ok,Conv.stringToBytes,lI]
 simp [newRow,Question.forced]
 simp only [grownCap] at Rl
 simp only [grownCap]
 have:Result.andThen ((markStringish ⟨w.heap.size,0,none⟩).run P (w.drew.alloc (.cells cells el))) (fun _ w'=>Result.ok () w')=.ok () ((w.drew.alloc (.cells cells el)).freeze ⟨w.heap.size,cells.size,none⟩ 1):=by rw [hm];rfl
 simp [Rl,hm]
theorem Rm {t el:TypeId} {x:Operand} {d:bL} (ho:o.op=.convert t t x) (hx:eL x d=true) (hu:P.underlying t=some (.slice el)) (he:P.underlying el=some (.int .u8))
 (hs:cH E st w) (hf:bB E N fr a) (hw:(step (.UI d) fr st).wp (aC P) K) (hc:fV E st w o a next K):o.wp P a w next Q:=by
 have r1:=bG hx hf
 have fin:∀ {k:Key} {ob:Obj} {ad:Addr} {len cap:Nat} {v:V} {c:Array Value} {ty:TypeId} {fz:Nat×Nat},st.get k=some ob->w.heap[(E.μ k).bS]? =some (.cells c ty fz)->ad.block=(E.μ k).bS->
  (∀ w':World,w'.heap[(E.μ k).bS]? =some (.cells c ty (if fz.1==fz.2 then (c.size,c.size+1) else (min fz.1 c.size,max fz.2 (c.size+1))))->Holds (E.at k) w' (E.μ k) ob)->
  a.eval x=.slice (some ad) len cap->Rel E v (.slice (some ad) len cap)->K (v,st)->o.wp P a w next Q:=by
  intro k ob ad len cap v c ty fz eO hb had hh hv hr hk
  obtain ⟨s1,s2⟩:=hs.set (w':=w.freeze ⟨(E.μ k).bS,c.size,none⟩ 1) eO ob (by simp [World.freeze]) (fun b dJ=>AP dJ) rfl rfl rfl (fun j x hx=>by
   have:=hs.j6 _ _ _ hx
   simp only [bM,vW hb]
   simpa [bM,hb] using this) (hh _ (vW hb))
  rw [St.Rh eO] at s1 s2
  refine aX (x:=.slice (some ad) len cap) ?_ (hc _ _ E _ _ hk s1 s2 hr)
  obtain ⟨b,off,sp⟩:=ad
  simp only at had
  subst had
  simp [execOp,ho,hv,convert,run_underlying hu,run_underlying he,markStringish,shape,freeze,Sem.run,World.shape?,hb]
 simp only [step] at hw
 split at hw
 · rename_i k sz es e1
   rw [e1] at r1
   obtain ⟨ob,eO,hw⟩:=hw
   dsimp only at hw
   split at hw
   case h_2=>exact hw.elim
   generalize hv:a.eval x=y at r1
   cases r1 with
   |deep hd=>cases hd
   |F4 _ _ _ ad cap hk hd Du hh=>
    obtain ⟨c,ty,fz,q1,q2,q3,q4,q5⟩:=hs.obj k _ eO
    exact fin eO q1 Du.1 (fun w' JI=>⟨c,ty,_,JI,q2.mark,q3,q4,fun j v hj=>by simp at hj⟩) hv (.F4 _ _ _ _ _ hk hd Du hh) hw
 · rename_i k sz off len e1
   rw [e1] at r1
   obtain ⟨ob,eO,hw⟩:=hw
   dsimp only at hw
   split at hw
   case h_2=>exact hw.elim
   split at hw
   case isFalse=>exact hw.elim
   rename_i GF
   subst GF
   generalize hv:a.eval x=y at r1
   cases r1 with
   |deep hd=>cases hd
   |ms _ _ _ _ ad cap hk Dv hh Du ha=>
    obtain ⟨hl,c,ty,fz,q1,q2,q3,q4,q5⟩:=hs.obj k _ eO
    exact fin eO q1 Du (fun w' JI=>⟨hl,c,ty,_,JI,q2.mark,q3,q4,q5⟩) hv (.ms _ _ _ _ _ _ hk Dv hh Du ha) hw
 · exact hw.elim
theorem AR:∀ {es:List (List V)} {y:List UInt8},bytesOf es=some y->∃ ns:List Int,es=ns.map (fun n=>[V.i .u8 n])/\y=ns.map fun n=>UInt8.ofNat n.toNat
 |[],y,h=>by simp only [bytesOf,Option.some.injEq] at h;subst h;exact ⟨[],rfl,rfl⟩
 |e::r,y,h=>by
  unfold bytesOf at h
  split at h
  · cases ‹_=[]›
  · rename_i n r' heq
    cases heq
    split at h
    · rename_i x hx
      simp only [Option.some.injEq] at h
      subst h
      obtain ⟨ns,h1,h2⟩:=AR hx
      exact ⟨n::ns,by simp [h1],by simp [h2]⟩
    · cases h
  · cases h
theorem foldl_push:∀ (ns:List Int) (s:ByteArray),ns.foldl (fun (r:ByteArray) n=>r.push (UInt8.ofNat n.toNat)) s=⟨s.data++(ns.map fun n=>UInt8.ofNat n.toNat).toArray⟩
 |[],s=>by simp
 |n::r,s=>by
  rw [List.foldl_cons,foldl_push r]
  cases s with
  |mk d=>
  apply ByteArray.ext
  apply Array.ext'
  simp [ByteArray.push]
theorem Rn {t t' el:TypeId} {x:Operand} {d:bL} (ho:o.op=.convert t t' x) (hx:eL x d=true) (hu:P.underlying t=some (.slice el)) (he:P.underlying el=some (.int .u8)) (hus:P.underlying t'=some .string)
 (hs:cH E st w) (hf:bB E N fr a) (hw:(step (.OO d) fr st).wp (aC P) K) (hc:fV E st w o a next K):o.wp P a w next Q:=by
 have r1:=bG hx hf
 simp only [step] at hw
 obtain ⟨es,xs,⟨y,hy,hk⟩,sS⟩:=elems_ok (P:=P) hs r1 hw
 obtain ⟨ns,rfl,rfl⟩:=AR hy
 have O0:xs=ns.map (Value.int .u8):=by
  apply List.ext_getElem?
  intro j
  have L7:=sS.Ee
  simp only [List.length_map,Nat.mul_one] at L7
  by_cases hj:j<ns.length
  · have vG:(ns.map fun n=>[V.i .u8 n]).flatten=ns.map (V.i .u8):=by
     clear hy hk sS hw L7 hj
     induction ns with
     |nil=>rfl
     |cons n r ih=>simp [ih]
    obtain ⟨z,hz,US,_⟩:=sS.rel j (.i .u8 ns[j]) (by rw [vG];simp [hj])
    rw [hz,US.int]
    simp [hj]
  · rw [List.getElem?_eq_none (by omega),List.getElem?_eq_none (by simp;omega)]
 subst O0
 have hlen:=sS.len w
 have Db:=sS.first w rfl ns.length (by simp)
 simp only [Nat.mul_one] at Db
 rw [List.take_of_length_le (by simp)] at Db
 have agQ:ns.foldl (fun (r:ByteArray) n=>r.push (UInt8.ofNat n.toNat)) ByteArray.empty=str (ns.map fun n=>UInt8.ofNat n.toNat):=by
  rw [foldl_push];simp [str]
 refine aX (x:=.string (str (ns.map fun n=>UInt8.ofNat n.toNat))) ?_ (hc.same hs hk (.deep (.s _)))
 simp only [List.length_map] at hlen
 cases hv:a.eval x with
 |slice p len cap=>
  rw [hv] at hlen Db
  have hl:len=ns.length:=by simpa [Builtin.lenOf] using hlen
  subst hl
  cases p with
  |none=>
   simp [Builtin.firstCells] at Db
   have h0:ns=[]:=by
    cases ns with
    |nil=>rfl
    |cons n r=>simp at Db
   subst h0
   simp [execOp,ho,hv,convert,run_underlying hu,run_underlying he,run_underlying hus,Conv.bytesToString]
   rfl
  |some ad=>
   simp [Builtin.firstCells] at Db
   have hb:=run_bytesToString (P:=P) w ad ns.length cap ns (by simpa using Db)
   rw [agQ] at hb
   simp [execOp,ho,hv,convert,run_underlying hu,run_underlying he,run_underlying hus,hb]
 |string s=>
  rw [hv] at r1 hlen Db
  have GN:s.size=ns.length:=by simpa [Builtin.lenOf] using hlen
  simp only [Builtin.firstCells,Sem.run_pure,Result.ok.injEq,and_true] at Db
  have:s=str (ns.map fun n=>UInt8.ofNat n.toNat):=by
   have h2:=congrArg Array.toList Db
   simp only [Array.toList_map,ByteArray.data_extract] at h2
   cases s with
   |mk da=>
   have h3:(da.extract 0 ns.length)=da:=by
    have:da.size=ns.length:=GN
    rw [<-this];simp
   simp only [h3] at h2
   apply ByteArray.ext
   apply Array.ext'
   simp only [str]
   apply List.ext_getElem?
   intro j
   have h4:=congrArg (fun l=>l[j]?) h2
   simp only [List.getElem?_map] at h4
   rw [List.getElem?_map]
   cases h5:da.toList[j]? with
   |none=>
    rw [h5] at h4
    cases h6:ns[j]? with
    |none=>rfl
    |some n=>rw [h6] at h4;cases h4
   |some b=>
    rw [h5] at h4
    cases h6:ns[j]? with
    |none=>rw [h6] at h4;cases h4
    |some n=>
     rw [h6] at h4
     simp only [Option.map_some,Option.some.injEq,Value.int.injEq,true_and] at h4
     rw [<-h4]
     simp
  subst this
  simp [execOp,ho,hv,convert,run_underlying hu,run_underlying hus]
 |_=>rw [hv] at hlen;simp [Builtin.lenOf,stuck] at hlen
end
end Go.Eng
