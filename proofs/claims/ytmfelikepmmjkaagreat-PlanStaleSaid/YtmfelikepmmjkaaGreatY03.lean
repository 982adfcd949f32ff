/-
Each operation of the model does what the abstract step says (part eight: append).
-/
import Derived.Test.YtmfelikepmmjkaaGreatY02
import Derived.Laws.BytesString
set_option linter.unusedVariables false
set_option linter.unusedSimpArgs false
namespace Go.Eng
open Go
def Fb (P:Program) (el:TypeId) (sz bytes:Nat):Bool:=
 match P.info? el with
 |some i=>decide (i.size=sz)&&decide (i.bytes=bytes)&&decide (0<sz)&&decide (0<bytes)&&(match i.zero with
  |some z=>decide (z.cells.size=sz)
  |none=>false)
 |none=>false
theorem vQ {P:Program} {el:TypeId} {sz bytes:Nat} (h:Fb P el sz bytes=true):
 ∃ i z,P.info? el=some i/\i.zero=some z/\i.size=sz/\i.bytes=bytes/\0<sz/\0<bytes/\z.cells.size=sz:=by
 unfold Fb at h
 split at h
 · rename_i i hi
   simp only [Bool.and_eq_true,decide_eq_true_eq] at h
   obtain ⟨⟨⟨⟨h1,h2⟩,h3⟩,h4⟩,h5⟩:=h
   split at h5
   · rename_i z hz
     exact ⟨i,z,hi,hz,h1,h2,h3,h4,by simpa using h5⟩
   · cases h5
 · cases h
theorem zH {E:Env} {aoP bs:List V} {ys xs:List Value} (ha:iK E aoP ys) (hl:ys.length=aoP.length) (hb:iK E bs xs) (rest:List Value):iK E (aoP++bs) (ys++xs++rest):=by
 intro j v hj
 rw [List.getElem?_append] at hj
 split at hj
 · rename_i cL
   obtain ⟨x,hx,h⟩:=ha j v hj
   refine ⟨x,?_,h⟩
   rw [List.append_assoc,List.getElem?_append_left (by omega)]
   exact hx
 · rename_i cL
   obtain ⟨x,hx,h⟩:=hb _ v hj
   have Ic:=(List.getElem?_eq_some_iff.1 hx).1
   refine ⟨x,?_,h⟩
   rw [List.getElem?_append_left (by rw [List.length_append];omega),List.getElem?_append_right (by omega),hl]
   exact hx
theorem Fc {I:zA} {aoP bs:List V} {ys xs:List Value} (ha:mC I aoP ys) (hl:ys.length=aoP.length) (hb:mC I bs xs) (rest:List Value):mC I (aoP++bs) (ys++xs++rest):=by
 intro j v hj
 rw [List.getElem?_append] at hj
 split at hj
 · rename_i cL
   obtain ⟨x,hx,h⟩:=ha j v hj
   refine ⟨x,?_,h⟩
   rw [List.append_assoc,List.getElem?_append_left (by omega)]
   exact hx
 · rename_i cL
   obtain ⟨x,hx,h⟩:=hb _ v hj
   have Ic:=(List.getElem?_eq_some_iff.1 hx).1
   refine ⟨x,?_,h⟩
   rw [List.getElem?_append_left (by rw [List.length_append];omega),List.getElem?_append_right (by omega),hl]
   exact hx
theorem iK.deep {E:Env} {cs ds:List V} {xs:List Value} (h:pW cs=some ds) (hr:iK E cs xs):mC E.I ds xs:=by
 intro j d hj
 obtain ⟨v,hv,GP⟩:=(mB h).2 j d hj
 obtain ⟨x,hx,vM,_⟩:=hr j v hv
 exact ⟨x,hx,zF GP vM⟩
theorem iK.own {E:Env} {g:Bool} {cs ds:List V} {xs:List Value} (h:sA g cs=some ds) (hl:xs.length=cs.length) (hr:iK E cs xs):iK (E.H2 g) ds xs:=by
 have KA:eI E cs xs.toArray:=⟨by simpa using hl,fun j v y hj hy=>by
  obtain ⟨z,hz,SO,_⟩:=hr j v hj
  have:xs[j]? =some y:=by simpa using hy
  rw [this] at hz;cases hz;exact SO⟩
 have h2:=tW h KA
 intro j d hj
 have cL:j<cs.length:=by rw [<-C9 h];exact (List.getElem?_eq_some_iff.1 hj).1
 obtain ⟨x,hx,_,h1⟩:=hr j _ (List.getElem?_eq_getElem cL)
 exact ⟨x,hx,h2.2 j d x hj (by simpa using hx),h1⟩
theorem iK.Yi {E:Env} {cs:List V} {xs:List Value} (hl:xs.length=cs.length) (hr:iK E cs xs):eI E cs xs.toArray:=⟨by simpa using hl,fun j v y hj hy=>by
 obtain ⟨z,hz,SO,_⟩:=hr j v hj
 have:xs[j]? =some y:=by simpa using hy
 rw [this] at hz;cases hz;exact SO⟩
section
variable {P:Program} {o:Oper} {a:Act} {E:Env} {N:Nat} {st:St} {w:World} {fr:Fr} {next:Act->World->Prop} {Q:Exit->Act->World->Prop} {K:R->Prop}
theorem fY {s x:Operand} {ts:Array TypeId} {v:Value} {w':World} (ho:o.op=.call { callee:=.builtin .append,args:=#[s,x],argTypes:=ts })
 (h:(Builtin.append_ ts o.type #[a.eval s,a.eval x]).run P w=.ok v w'):(execOp a.eval o).run P w=.ok (.value v) w':=by
 simp [execOp,ho,resolve,invoke,builtin,h,Result.andThen]
theorem zI {n bytes:Nat} (h:bR n bytes=true) (hb:0<bytes):n*bytes<=140737488355328/\n<=9223372036854775807:=by
 have h1:n*bytes<=140737488355328:=by first|(simp [bR];done)|simpa [bR] using h
 have h2:n*1<=n*bytes:=Nat.mul_le_mul_left _ hb
 exact ⟨h1,by omega⟩
theorem tY {ys xs:List Value} {z:Array Value} {n:Nat}:(ys.toArray++xs.toArray++Builtin.zeroCells z n).toList=ys++xs++(Builtin.zeroCells z n).toList:=by simp
theorem x7 {ys xs:List Value} {z:Array Value} {n sz p q cap:Nat} (h1:ys.length=p*sz) (h2:xs.length=q*sz) (hz:z.size=sz) (hn:n=cap - (p+q)) (hc:p+q<=cap):
 (ys.toArray++xs.toArray++Builtin.zeroCells z n).size=cap*sz:=by
 have hs:ys.toArray.size+xs.toArray.size=(p+q)*sz:=by rw [List.size_toArray,List.size_toArray,h1,h2,Nat.add_mul]
 rw [Array.size_append,Array.size_append,size_zeroCells,hz,hs,hn,<-Nat.add_mul]
 congr 1;omega
theorem mD (w:World) (ob:Go.Obj):(w.drew.alloc ob).heap=w.heap.push ob:=rfl
theorem AT (w:World) (ob:Go.Obj):p9 w (w.drew.alloc ob):=⟨rfl,rfl,rfl⟩
theorem Ma {sz:Nat} {es ds:List (List V)} (hl:∀ e∈es,e.length=sz) (hd:∀ e∈ds,e.length=sz) {p:Nat} (eB:p+ds.length<=es.length):
 (es.take p++ds++es.drop (p+ds.length)).flatten=dI es.flatten (p*sz) ds.flatten:=by
 have pR:=cU hl
 have KC:=cU hd
 have hmul:(p+ds.length)*sz<=es.length*sz:=Nat.mul_le_mul_right _ eB
 rw [Nat.add_mul] at hmul
 rw [List.flatten_append,List.flatten_append,lZ hl,mA hl,Nat.add_mul]
 apply List.ext_getElem?
 intro j
 rw [iZ _ _ _ _ (by omega)]
 have cL:(es.flatten.take (p*sz)).length=p*sz:=by rw [List.length_take];omega
 by_cases h1:j<p*sz
 · rw [List.getElem?_append_left (by rw [List.length_append,cL];omega),List.getElem?_append_left (by omega),if_neg (by omega),List.getElem?_take,if_pos h1]
 · by_cases h2:j<p*sz+ds.flatten.length
   · rw [if_pos (by omega),List.getElem?_append_left (by rw [List.length_append,cL];omega),List.getElem?_append_right (by omega),cL]
   · rw [if_neg (by omega),List.getElem?_append_right (by rw [List.length_append,cL];omega),List.length_append,cL,List.getElem?_drop]
     congr 1;omega
theorem step_append {s x:Operand} {d e:bH} {ts:Array TypeId} {t el:TypeId} {m:kL} {sz bytes:Nat} (ho:o.op=.call { callee:=.builtin .append,args:=#[s,x],argTypes:=ts })
 (ht:ts[0]? =some t) (hu:P.underlying t=some (.slice el)) (mN:Fb P el sz bytes=true) (hz:qM P ts[1]? =true) (hx:dY s d=true) (hy:dY x e=true)
 (hs:b9 E st w) (hf:aY E N fr a) (hw:(step (.append m sz bytes d e) fr st).wp (aB P) K) (hc:fG E st w o a next K):o.wp P a w next Q:=by
 obtain ⟨i,z,hi,C6,kD,Yj,Ii,KD,SP⟩:=vQ mN
 subst kD
 subst Yj
 have H4:=bA hx hf
 have Ij:=bA hy hf
 simp only [step] at hw
 obtain ⟨new,xs,hw,qT⟩:=elems_ok (P:=P) hs Ij hw
 have vL:=cU qT.KB
 have Cd:(Builtin.firstCells i.size new.length (a.eval x)).run P w=.ok xs.toArray w:=by
  have:=qT.first w rfl new.length (Nat.le_refl _)
  rwa [<-qT.Db,List.take_length] at this
 have Vy:(Builtin.firstCells i.size new.length (a.eval x)).run P w.drew=.ok xs.toArray w.drew:=by
  have:=qT.first w.drew rfl new.length (Nat.le_refl _)
  rwa [<-qT.Db,List.take_length] at this
 have Vz:(Builtin.firstCells i.size 0 (a.eval x)).run P w=.ok #[] w:=by
  have:=qT.first w rfl 0 (Nat.zero_le _)
  simpa using this
 have hlen:=qT.len w
 unfold oI at hw
 split at hw
 · -- nil
   rename_i e1
   rw [e1] at H4
   have OO:a.eval s=.slice none 0 0:=by
    generalize a.eval s=y at H4
    cases H4 with
    |deep hd=>cases hd;rfl
   split at hw
   · refine aT (x:=.slice none 0 0) (fY ho ?_) (hc.same hs hw (.deep .aV))
     rw [OO]
     exact nE ht hu hi hz hlen Vz none 0 0 (Nat.le_refl _)
   · rename_i e0 r0
     obtain ⟨lV,hw⟩:=hw
     obtain ⟨GI,EX⟩:=zI lV KD
     have dW:=oV (ty:=o.type) (ys:=[]) ht hu hi C6 hz hlen Vy none 0 0 (by simp [Builtin.firstCells]) (by simp) (by simpa using GI) (by simpa using EX)
     rw [Nat.zero_add] at dW
     have fC:=grownCap_ge w (e0::r0).length 0 el
     have tA:=x7 (ys:=[]) (xs:=xs) (z:=z.cells) (n:=grownCap w (e0::r0).length 0 el - (e0::r0).length) (p:=0) (q:=(e0::r0).length) (cap:=grownCap w (e0::r0).length 0 el) (by simp) qT.Db SP (by simp) (by simpa using fC)
     obtain ⟨v,bU,E',hk,s1,s2,gI⟩:=newSlice_ok (w':=w.drew.alloc _) hw hs (fz:=(0,0)) (.inl rfl) (mD w _) (AT w _) qT.KB tA fC
      (by rw [tY];exact zH (aoP:=[]) (fun j v hj=>by simp at hj) rfl qT.rel _)
     refine aT (fY ho (by rw [OO];exact dW)) (hc _ _ E' _ _ hk s1 s2 gI)
 · -- XC elements
   rename_i tok dS es e1
   rw [e1] at H4
   split at hw
   case isFalse=>exact hw.elim
   rename_i Yk
   subst Yk
   split at hw
   · generalize OO:a.eval s=y at H4
     have:∃ b n c,y=.slice b n c/\n<=c:=by
      cases H4 with
      |deep hd=>
       cases hd with
       |mS=>exact ⟨_,_,_,rfl,Nat.le_refl _⟩
       |Kp=>exact ⟨_,_,_,rfl,Nat.le_refl _⟩
       |sl _ _ _ _ _ _ Mb=>exact ⟨_,_,_,rfl,Mb⟩
      |EW _ _ _ _ _ _ hd Cv _=>
       cases hd with
       |Kp _ _ hs=>exact absurd Cv.2 hs
       |sl _ _ _ _ _ _ Mb=>exact ⟨_,_,_,rfl,Mb⟩
     obtain ⟨b,n,c,rfl,hnc⟩:=this
     refine aT (x:=.slice b n c) (fY ho ?_) (hc.same hs hw H4)
     rw [OO]
     exact nE ht hu hi hz hlen Vz b n c hnc
   · rename_i e0 r0
     obtain ⟨lV,ds,jY,hw⟩:=hw
     obtain ⟨GI,EX⟩:=zI lV KD
     split at hw
     case h_2=>exact hw.elim
     rename_i k
     obtain ⟨ob,eC,hw⟩:=hw
     dsimp only at hw
     split at hw
     case h_2=>exact hw.elim
     obtain ⟨EY,Fe,Ik⟩:=jB jY
     have Ik:=Ik qT.KB
     have mQ:mC E.I ds.flatten xs:=qT.rel.deep EY
     have hn:(e0::r0).length=ds.length:=Fe.symm
     generalize OO:a.eval s=y at H4
     cases H4 with
     |deep hd=>cases hd
     |EW _ _ _ ad cap hk hd Yl hh=>
     have Cv:=Yl.1
     cases hd with
     |Kp _ _ hs=>exact absurd Yl.2 hs
     |sl _ _ bL off _ val Cw hl hv hr=>
     have pR:=cU hl
     have KC:=cU Ik
     by_cases hg:es.length+ds.length<=cap
     · -- there is room
       have GR:0<ds.length:=by rw [<-hn];simp
       have hh:off+es.length*i.size=(E.μ k).base/\off+cap*i.size=(E.μ k).fin:=by
        rcases hh with h|h
        · omega
        · exact h
       obtain ⟨OP,hh3⟩:=hh
       have FG:bL=(E.μ k).bL:=Cv
       obtain ⟨cells,ty,fz,r1,r2,r3,r4,r5⟩:=hs.obj k _ eC
       have hmul:(es.length+ds.length)*i.size<=cap*i.size:=Nat.mul_le_mul_right _ hg
       rw [Nat.add_mul] at hmul
       have KE:xs.length=ds.length*i.size:=by rw [qT.Db,hn]
       have SQ:(E.μ k).base+xs.length<=(E.μ k).fin:=by omega
       have Us:w.there bL (off+es.length*i.size) xs.length:=by
        rw [FG,OP]
        exact Row.there r1 r2 (by omega)
       have dW:=qN (ty:=o.type) ht hu hi hz hlen Cd bL off es.length cap (by rw [hn];exact hg) Us qT.one
       rw [FG,OP] at dW
       obtain ⟨q1,q2,q3,q4⟩:=mM (E.μ k).bL xs (E.μ k).base w
       have Il:(w.setCells (E.μ k).bL (E.μ k).base xs).heap[(E.μ k).bL]? =some (.cells (qW cells (E.μ k).base xs) ty fz):=j7 _ xs _ w r1
       have nK:∀ j,bI (w.setCells (E.μ k).bL (E.μ k).base xs) (E.μ k).bL j=if (E.μ k).base<=j/\j<(E.μ k).base+xs.length then xs[j - (E.μ k).base]? else cells[j]? :=by
        intro j
        simp only [bI,Il]
        exact lY _ _ _ _ (by omega)
       have eE:st.live k:=⟨_,eC⟩
       obtain ⟨s1,s2⟩:=hs.move (w':=w.setCells (E.μ k).bL (E.μ k).base xs) eC k.qK ⟨(E.μ k).bL,(E.μ k).base+xs.length,(E.μ k).fin⟩
        (fun j=>if (E.μ k).base<=j/\j<(E.μ k).base+xs.length then xs[j - (E.μ k).base]? else none) .spare rfl (by simp) (by simp) q1 (fun b dM=>kY _ dM _ _ _) q2 q3 q4
        (fun j x hx=>by
          have h1:=hs.jL _ _ _ hx
          rw [nK]
          split
          · rename_i eB
            have:=hs.own k eE j eB.1 (by omega)
            rw [this] at hx;cases hx
          · simpa [bI,r1] using h1)
        (fun j x hx=>by
          split at hx
          · rename_i eB
            refine ⟨by rw [nK,if_pos eB];exact hx,?_⟩
            simp only;omega
          · cases hx)
        ⟨_,ty,fz,Il,by rw [iX];exact r2,by simpa using SQ,by rw [iX];exact r4,fun j v hj=>by simp at hj⟩
       refine aT (fY ho (by rw [OO];rw [FG];exact dW)) (hc _ _ _ _ _ hw s1 s2 ?_)
       have Pc:=hs.aL k.qK
       rw [St.j5,Pc]
       have hIn:∀ j,(E.μ k).base<=j->j<(E.μ k).base+xs.length->E.I (E.μ k).bL j=none:=fun j a b=>hs.own k eE j a (by omega)
       have Ym:es.length+(e0::r0).length=(es++ds).length:=by rw [List.length_append,hn]
       rw [Ym]
       have acX:=mQ.mono s2.le.jL
       refine .EW _ _ _ _ _ (Env.eU _ _ _ _) (.sl _ _ _ _ _ (fun j=>if j<es.length*i.size then val j else xs.getD (j - es.length*i.size) default) (by rw [List.length_append];exact hg) (fun e he=>by
        rcases List.mem_append.1 he with h|h
        · exact hl e h
        · exact Ik e h) (fun j d hj=>?_) (fun j d hj=>?_)) (by rw [Env.fL];exact ⟨rfl,rfl⟩) (.inr ?_)
       · rw [List.flatten_append] at hj
         by_cases GS:j<es.length*i.size
         · rw [List.getElem?_append_left (by omega)] at hj
           rw [if_pos GS]
           have:=hv j d hj
           rw [FG] at this
           exact s2.le.jL _ _ _ this
         · rw [List.getElem?_append_right (by omega),pR] at hj
           rw [if_neg GS]
           have hjx:j - es.length*i.size<xs.length:=by
            have:=(List.getElem?_eq_some_iff.1 hj).1
            omega
           simp only [Env.push]
           rw [hIn (off+j) (by omega) (by omega)]
           simp only [if_true]
           rw [if_pos (by omega),show off+j - (E.μ k).base=j - es.length*i.size by omega]
           simp [hjx]
       · rw [List.flatten_append] at hj
         by_cases GS:j<es.length*i.size
         · rw [List.getElem?_append_left (by omega)] at hj
           rw [if_pos GS]
           exact (hr j d hj).mono s2.le.jL
         · rw [List.getElem?_append_right (by omega),pR] at hj
           rw [if_neg GS]
           obtain ⟨x0,Ut,vM⟩:=acX _ d hj
           simp only [List.getD_eq_getElem?_getD,Ut]
           exact vM
       · rw [Env.fL]
         refine ⟨?_,?_⟩
         · simp only [List.length_append,Nat.add_mul];omega
         · exact hh3
     · -- a new block
       have hold:(Builtin.firstCells i.size es.length (.slice (some ⟨bL,off,none⟩) es.length cap)).run P w.drew=.ok ((List.range (es.length*i.size)).map val).toArray w.drew:=by
        refine run_firstCells_some (P:=P) w.drew i.size es.length ⟨bL,off,none⟩ es.length cap _ (by simp) fun j v hj=>?_
        rw [Addr.add_mid]
        rw [List.getElem?_map] at hj
        have cL:j<es.length*i.size:=by
         rcases Nat.lt_or_ge j (es.length*i.size) with h|h
         · exact h
         · rw [List.getElem?_eq_none (by simp;omega)] at hj;cases hj
        rw [List.getElem?_range cL] at hj
        simp only [Option.map_some,Option.some.injEq] at hj
        subst hj
        have hex:∃ dd,es.flatten[j]? =some dd:=⟨es.flatten[j],by simp⟩
        obtain ⟨dd,Kd⟩:=hex
        have:=hs.jL _ _ _ (hv j dd Kd)
        rw [kW]
        exact this
       have dW:=oV (ty:=o.type) ht hu hi C6 hz hlen Vy (some ⟨bL,off,none⟩) es.length cap hold (by omega) GI EX
       have fC:=grownCap_ge w (es.length+(e0::r0).length) cap el
       have tA:=x7 (ys:=(List.range (es.length*i.size)).map val) (xs:=xs) (z:=z.cells) (p:=es.length) (q:=(e0::r0).length) (by simp) qT.Db SP rfl fC
       have Yn:mC E.I es.flatten ((List.range (es.length*i.size)).map val):=by
        intro j d hj
        have cL:j<es.length*i.size:=by rw [<-pR];exact (List.getElem?_eq_some_iff.1 hj).1
        exact ⟨val j,by simp [cL],hr j d hj⟩
       obtain ⟨E',s1,s2,gI⟩:=Da (z:=1) (w':=w.drew.alloc _) hs (some k) k.qK (fz:=(0,0)) (.inl rfl) (mD w _) (AT w _) (ds:=es++ds) (fun e he=>by
        rcases List.mem_append.1 he with h|h
        · exact hl e h
        · exact Ik e h) tA (by rw [List.length_append,<-hn];exact fC)
        (by rw [tY,List.flatten_append];exact Fc Yn (by simp [pR]) mQ _)
       refine aT (fY ho (by rw [OO];exact dW)) (hc _ _ E' _ _ hw s1 s2 ?_)
       rw [List.length_append,<-hn] at gI
       rw [St.j5]
       exact gI
 · -- elements SJ may be written
   rename_i k dS off len e1
   rw [e1] at H4
   split at hw
   case isFalse=>exact hw.elim
   rename_i Yk
   subst Yk
   generalize OO:a.eval s=y at H4
   cases H4 with
   |deep hd=>cases hd
   |ms _ _ _ _ ad cap hk Cw hh Cv ha=>
   split at hw
   · refine aT (x:=.slice (some ad) len cap) (fY ho ?_) (hc.same hs hw (.ms _ _ _ _ _ _ hk Cw hh Cv ha))
     rw [OO]
     exact nE ht hu hi hz hlen Vz (some ad) len cap Cw
   · rename_i e0 r0
     obtain ⟨lV,ds,jY,ob,eC,hw⟩:=hw
     obtain ⟨GI,EX⟩:=zI lV KD
     dsimp only at hw
     split at hw
     case h_2=>exact hw.elim
     rename_i eJ es
     split at hw
     case isFalse=>exact hw.elim
     rename_i Yk
     subst Yk
     obtain ⟨eB,hw⟩:=hw
     have eB:off+len<=es.length:=by simpa using eB
     obtain ⟨EY,Fe,Ik⟩:=mP jY
     have Ik:=Ik qT.KB
     have hn:(e0::r0).length=ds.length:=Fe.symm
     have mQ:iK (E.H2 k.qK) ds.flatten xs:=qT.rel.own EY (by rw [qT.Db,vL])
     obtain ⟨hl,cells,ty,fz,r1,r2,r3,r4,r5⟩:=hs.obj k _ eC
     have pR:=cU hl
     have KC:=cU Ik
     have KE:xs.length=ds.length*i.size:=by rw [qT.Db,hn]
     have acY:=mQ.Yi (by rw [KE,KC])
     have GR:0<ds.length:=by rw [<-hn];simp
     have nC:es.length<=off+cap:=by
      have:es.length*i.size<=(off+cap)*i.size:=by omega
      exact Nat.le_of_mul_le_mul_right this Ii
     have eE:st.live k:=⟨_,eC⟩
     have OQ:len+(e0::r0).length=len+ds.length:=by rw [hn]
     rw [Nat.add_mul] at hh
     by_cases Cc:off+len+ds.length<=es.length
     · -- in KF is known
       have Cf:=hw.1 (by simpa using Cc)
       have GU:len+ds.length<=cap:=by omega
       have ha:ad=⟨(E.μ k).bL,(E.μ k).base+off*i.size,none⟩:=by
        rcases ha with h|h
        · omega
        · exact h
       subst ha
       have OR:(off+len+ds.length)*i.size<=es.length*i.size:=Nat.mul_le_mul_right _ Cc
       rw [Nat.add_mul,Nat.add_mul] at OR
       have Us:w.there (E.μ k).bL ((E.μ k).base+off*i.size+len*i.size) xs.length:=Row.there r1 r2 (by omega)
       have dW:=qN (ty:=o.type) ht hu hi hz hlen Cd _ _ len cap (by rw [hn];exact GU) Us qT.one
       rw [OQ,Nat.add_assoc,<-Nat.add_mul] at dW
       have Kv:=Ma hl Ik (p:=off+len) Cc
       have dH:=gR.written r1 r2 r3 r4 r5 (off:=(off+len)*i.size) (vs:=ds.flatten) (xs:=xs) (by rw [Env.x6];exact acY) qT.one (by rw [Nat.add_mul];omega)
       rw [<-Kv] at dH
       have rW:∀ e∈es.take (off+len)++ds++es.drop (off+len+ds.length),e.length=i.size:=by
        intro e he
        rcases List.mem_append.1 he with h|h
        · rcases List.mem_append.1 h with h|h
          · exact hl e (List.mem_of_mem_take h)
          · exact Ik e h
        · exact hl e (List.mem_of_mem_drop h)
       obtain ⟨s1,s2⟩:=hs.write eC r1 r4 (pos:=(E.μ k).base+(off+len)*i.size) (xs:=xs) (by omega) (by rw [Nat.add_mul];omega) (.arr i.size (es.take (off+len)++ds++es.drop (off+len+ds.length))) ⟨rW,dH⟩
       exact aT (fY ho (by rw [OO];exact dW)) (hc _ _ E _ _ Cf s1 s2 (.ms _ _ _ _ _ _ hk (by omega) (by rw [Nat.add_mul];exact hh) rfl (.inr rfl)))
     · have qO:=hw.2 (by simpa using Cc)
       rw [St.j5] at qO
       have FH:((es.take (off+len)).drop off++ds).flatten=(es.flatten.drop (off*i.size)).take (len*i.size)++ds.flatten:=by
        have cL:∀ e∈es.take (off+len),e.length=i.size:=fun e he=>hl e (List.mem_of_mem_take he)
        rw [List.flatten_append,mA cL,lZ hl,List.drop_take,Nat.add_mul]
        congr 2;omega
       have rW:∀ e∈(es.take (off+len)).drop off++ds,e.length=i.size:=by
        intro e he
        rcases List.mem_append.1 he with h|h
        · exact hl e (List.mem_of_mem_take (List.mem_of_mem_drop h))
        · exact Ik e h
       have PA:((es.take (off+len)).drop off++ds).length=len+ds.length:=by
        rw [List.length_append,List.length_drop,List.length_take];omega
       have VA:(off+len)*i.size<=es.length*i.size:=Nat.mul_le_mul_right _ eB
       rw [Nat.add_mul] at VA
       by_cases GU:len+ds.length<=cap
       · -- in Kr spare room
         have ha:ad=⟨(E.μ k).bL,(E.μ k).base+off*i.size,none⟩:=by
          rcases ha with h|h
          · omega
          · exact h
         subst ha
         have OR:(len+ds.length)*i.size<=cap*i.size:=Nat.mul_le_mul_right _ GU
         rw [Nat.add_mul] at OR
         have Us:w.there (E.μ k).bL ((E.μ k).base+off*i.size+len*i.size) xs.length:=Row.there r1 r2 (by omega)
         have dW:=qN (ty:=o.type) ht hu hi hz hlen Cd _ _ len cap (by rw [hn];exact GU) Us qT.one
         rw [OQ] at dW
         obtain ⟨q1,q2,q3,q4⟩:=mM (E.μ k).bL xs ((E.μ k).base+off*i.size+len*i.size) w
         have Il:=j7 _ xs ((E.μ k).base+off*i.size+len*i.size) w r1
         have nK:∀ j,(qW cells ((E.μ k).base+off*i.size+len*i.size) xs)[j]? =if (E.μ k).base+off*i.size+len*i.size<=j/\j<(E.μ k).base+off*i.size+len*i.size+xs.length then xs[j - ((E.μ k).base+off*i.size+len*i.size)]? else cells[j]? :=by
          intro j
          exact lY _ _ _ _ (by omega)
         obtain ⟨s1,s2⟩:=hs.move (w':=w.setCells (E.μ k).bL ((E.μ k).base+off*i.size+len*i.size) xs) eC k.qK ⟨(E.μ k).bL,(E.μ k).base+off*i.size,(E.μ k).fin⟩
          (fun _=>none) (.arr i.size ((es.take (off+len)).drop off++ds)) rfl (by simp) (by simp) q1 (fun b dM=>kY _ dM _ _ _) q2 q3 q4
          (fun j x hx=>by
            have h1:=hs.jL _ _ _ hx
            simp only [bI,Il,nK]
            split
            · rename_i VB
              have:=hs.own k eE j (by omega) (by omega)
              rw [this] at hx;cases hx
            · simpa [bI,r1] using h1)
          (fun j x hx=>by cases hx)
          ⟨rW,_,ty,fz,Il,by rw [iX];exact r2,by
           rw [cU rW,PA,Nat.add_mul];simp only;omega,by rw [iX];exact r4,fun j v hj=>by
           rw [FH] at hj
           rw [Env.FE]
           have hle:(E.H2 k.qK).Le ((E.push k.qK ⟨(E.μ k).bL,(E.μ k).base+off*i.size,(E.μ k).fin⟩ fun b j=>if b=(E.μ k).bL then (fun _=>none) j else none).H2 k.qK):=Env.Ig _ _ _ _ _
           have B0:((es.flatten.drop (off*i.size)).take (len*i.size)).length=len*i.size:=by
            rw [List.length_take,List.length_drop];omega
           simp only [nK]
           by_cases GS:j<len*i.size
           · rw [List.getElem?_append_left (by omega),List.getElem?_take,if_pos GS,List.getElem?_drop] at hj
             rw [if_neg (by omega)]
             obtain ⟨x0,Ut,Im,EZ⟩:=r5 _ v hj
             rw [Nat.add_assoc]
             rw [Env.x6] at Im
             exact ⟨x0,Ut,Im.mono hle,EZ⟩
           · rw [List.getElem?_append_right (by omega),B0] at hj
             obtain ⟨x0,Ut,Im,EZ⟩:=mQ _ v hj
             have:=(List.getElem?_eq_some_iff.1 Ut).1
             rw [if_pos (by omega)]
             refine ⟨x0,?_,Im.mono hle,EZ⟩
             rw [<-Ut];congr 1;omega⟩
         refine aT (fY ho (by rw [OO];exact dW)) (hc _ _ _ _ _ qO s1 s2 ?_)
         have Pc:=hs.aL k.qK
         rw [Pc]
         refine .ms _ _ _ _ _ _ (Env.eU _ _ _ _) (by omega) ?_ (by rw [Env.fL]) (.inr ?_)
         · rw [Env.fL];simp only [Nat.zero_add];omega
         · rw [Env.fL];simp
       · -- a new block
         have hys:∃ ys:List Value,ys.length=len*i.size/\iK (E.H2 k.qK) ((es.flatten.drop (off*i.size)).take (len*i.size)) ys/\
          (Builtin.firstCells i.size len (.slice (some ad) len cap)).run P w.drew=.ok ys.toArray w.drew:=by
          rcases ha with h0|ha
          · have zJ:len=0:=by omega
            subst zJ
            refine ⟨[],by simp,fun j v hj=>by simp at hj,?_⟩
            simp [Builtin.firstCells,loadCells,loadCellsFrom]
          · subst ha
            have acZ:fX (E.H2 k.qK) w (E.μ k).bL ((E.μ k).base+off*i.size) ((es.flatten.drop (off*i.size)).take (len*i.size)):=by
             have h1:gR i.size (E.at k) w (E.μ k) es.flatten:=⟨cells,ty,fz,r1,r2,r3,r4,r5⟩
             have:=h1.zE.sub (off*i.size) (len*i.size)
             rw [Env.x6] at this
             exact this
            obtain ⟨ys,y1,y2,y3,y4⟩:=acZ.list
            have Yo:ys.length=len*i.size:=by rw [y1,List.length_take,List.length_drop];omega
            refine ⟨ys,Yo,fun j v hj=>?_,?_⟩
            · obtain ⟨x0,Ut,Im⟩:=y3.get hj
              have Yp:ys[j]? =some x0:=by simpa using Ut
              exact ⟨x0,Yp,Im,y4 x0 (List.mem_of_getElem? Yp)⟩
            · refine run_firstCells_some (P:=P) w.drew i.size len _ len cap ys Yo fun j v hj=>?_
              rw [Addr.add_mid]
              have:=y2 j v hj
              exact this
         obtain ⟨ys,Yo,hyr,hold⟩:=hys
         have dW:=oV (ty:=o.type) ht hu hi C6 hz hlen Vy (some ad) len cap hold (by omega) GI EX
         have fC:=grownCap_ge w (len+(e0::r0).length) cap el
         have tA:=x7 (ys:=ys) (xs:=xs) (z:=z.cells) (p:=len) (q:=(e0::r0).length) Yo qT.Db SP rfl fC
         obtain ⟨E',s1,s2,gI⟩:=Ih (w':=w.drew.alloc _) hs (some k) k.qK (fz:=(0,0)) (.inl rfl) (mD w _) (AT w _) (ds:=(es.take (off+len)).drop off++ds) rW tA (by rw [PA,<-hn];exact fC)
          (by
            rw [tY,FH]
            exact zH hyr (by rw [Yo,List.length_take,List.length_drop];omega) mQ _)
         refine aT (fY ho (by rw [OO];exact dW)) (hc _ _ E' _ _ qO s1 s2 ?_)
         rw [PA] at gI
         rw [OQ] at*
         exact gI
 · exact hw.elim
end
open Go
theorem aA.Dd:∀ (l:List (Nat×Obj)) (n:Nat) (o:Obj),aA.find l n=some o->aA.Bv l n o=l
 |[],_,_,h=>by cases h
 |(k,x)::r,n,o,h=>by
  simp only [aA.find] at h
  simp only [aA.Bv]
  split at h
  · rename_i hk
    rw [if_pos hk]
    simp only [Option.some.injEq] at h
    subst h;rfl
  · rename_i hk
    rw [if_neg hk,aA.Dd r n o h]
theorem St.PB {st:St} {k:Key} {o:Obj} (h:st.get k=some o):st.set k o=st:=by
 cases k with
 |g n=>simp only [St.set,aA.set];rw [aA.Dd _ _ _ h]
 |l n=>simp only [St.set,aA.set];rw [aA.Dd _ _ _ h]
section
variable {P:Program} {o:Oper} {a:Act} {E:Env} {N:Nat} {st:St} {w:World} {fr:Fr} {next:Act->World->Prop} {Q:Exit->Act->World->Prop} {K:R->Prop}
theorem Ff {zero:List V} {n j:Nat} (hj:j<n*zero.length):(List.replicate n zero).flatten[j]? =zero[j%zero.length]? :=by
 have hp:0<zero.length:=by
  rcases Nat.eq_zero_or_pos zero.length with h|h
  · rw [h] at hj;simp at hj
  · exact h
 have hl:∀ e∈List.replicate n zero,e.length=zero.length:=fun e he=>by rw [(List.mem_replicate.1 he).2]
 have hq:j/zero.length<n:=(Nat.div_lt_iff_lt_mul hp).2 hj
 have:=oT hl (ix:=j/zero.length) (j:=j%zero.length) (e:=zero) (by simp [hq]) (Nat.mod_lt _ hp)
 rw [<-this]
 congr 1
 rw [Nat.mul_comm];exact (Nat.div_add_mod j _).symm
theorem Io {z:Array Value} {n j:Nat} (hz:0<z.size) (hj:j<n):(madeCells z n)[j]? =z[j%z.size]? :=by
 have hm:j%z.size<z.size:=Nat.mod_lt _ hz
 simp [madeCells,hj,hm]
theorem De {z:Array Value} {zero:List V} {len:Nat} (hr:eI E zero z) (hp:0<zero.length):eI E (List.replicate len zero).flatten (madeCells z (len*zero.length)):=by
 have hl:∀ e∈List.replicate len zero,e.length=zero.length:=fun e he=>by rw [(List.mem_replicate.1 he).2]
 have vL:=cU hl
 rw [List.length_replicate] at vL
 refine ⟨by rw [size_madeCells,vL],fun j v x hj hx=>?_⟩
 have cL:j<len*zero.length:=by rw [<-vL];exact (List.getElem?_eq_some_iff.1 hj).1
 have SP:=hr.1
 rw [Ff cL] at hj
 rw [Io (by omega) cL,SP] at hx
 exact hr.2 _ v x hj hx
theorem Df {z:Array Value} {n:Nat} (h1:∀ (j:Nat) (x:Value),z[j]? =some x->x.oneCell'=true) (hz:0<z.size) (j:Nat) (x:Value) (hx:(madeCells z n)[j]? =some x):x.oneCell'=true:=by
 have cL:j<n:=by
  have:=(Array.getElem?_eq_some_iff.1 hx).1
  rwa [size_madeCells] at this
 rw [Io hz cL] at hx
 exact h1 _ x hx
theorem Ip:∀ {vs e:List V},vs.length=e.length->dI e 0 vs=vs:=by
 intro vs e h
 apply List.ext_getElem?
 intro j
 rw [iZ _ _ _ _ (by omega)]
 by_cases hj:j<vs.length
 · rw [if_pos (by omega)];rfl
 · rw [if_neg (by omega),List.getElem?_eq_none (by omega),List.getElem?_eq_none (by omega)]
def iA (sz:Nat):List (Nat×V)->List (Nat×Nat×V)
 |[]=>[]
 |(i,v)::r=>(i*sz,sz,v)::iA sz r
theorem tZ {sz:Nat}:∀ {ps:List (Nat×V)} {es EV:List (List V)},(∀ e∈es,e.length=sz)->nW es sz ps=some EV->
 kM es.flatten (iA sz ps)=some EV.flatten/\(∀ e∈EV,e.length=sz)/\EV.length=es.length
 |[],es,EV,hl,h=>by
  simp only [nW,Option.some.injEq] at h
  subst h
  exact ⟨rfl,hl,rfl⟩
 |(i,v)::r,es,EV,hl,h=>by
  simp only [nW] at h
  split at h
  case isFalse=>cases h
  rename_i hc
  obtain ⟨h1,h2,h3⟩:=hc
  have rW:∀ e∈es.set i v.cells,e.length=sz:=by
   intro e he
   rcases List.mem_or_eq_of_mem_set he with h|h
   · exact hl e h
   · rw [h];exact h2
  obtain ⟨e1,e2,e3⟩:=tZ rW h
  have vL:=cU hl
  have hmul:(i+1)*sz<=es.length*sz:=Nat.mul_le_mul_right _ h3
  rw [Nat.succ_mul] at hmul
  refine ⟨?_,e2,by rw [e3];simp⟩
  simp only [iA,kM]
  rw [if_pos ⟨h1,h2,by omega⟩]
  have mN:es[i]? =some es[i]:=by simp [h3]
  have:=Ie hl mN 0 v.cells (by omega)
  rw [Ip (by rw [h2,hl _ (List.getElem_mem h3)]),Nat.add_zero] at this
  rw [<-this]
  exact e1
def qY:List (Nat×Operand)->List (Nat×bH)->Bool
 |[],[]=>true
 |(i,x)::r,(j,d)::q=>decide (i=j)&&dY x d&&qY r q
 |_,_=>false
theorem xC {sz:Nat} (hf:aY E N fr a):∀ {ps:List (Nat×Operand)} {qs:List (Nat×bH)},qY ps qs=true->
 (iA sz (fW fr qs)).length=ps.length/\∀ (j:Nat) (q:Nat×Nat×V) (p:Nat×Operand),(iA sz (fW fr qs))[j]? =some q->ps[j]? =some p->(q.1=p.1*sz/\q.2.1=sz)/\Rel E q.2.2 (a.eval p.2)
 |[],[],_=>⟨rfl,fun j q p hq=>by simp [fW,iA] at hq⟩
 |(i,x)::r,(i',d)::q,h=>by
  simp only [qY,Bool.and_eq_true,decide_eq_true_eq] at h
  obtain ⟨⟨h0,h2⟩,h3⟩:=h
  subst h0
  obtain ⟨l1,l2⟩:=xC (sz:=sz) hf h3
  refine ⟨by simp [fW,iA,l1],fun j y p hy hp=>?_⟩
  cases j with
  |zero=>
   simp [fW,iA] at hy hp
   subst hy;subst hp
   exact ⟨⟨rfl,rfl⟩,bA h2 hf⟩
  |succ j=>exact l2 j y p (by simpa [fW,iA] using hy) (by simpa using hp)
 |[],_::_,h=>by cases h
 |(_,_)::_,[],h=>by simp [qY] at h
theorem eI.PC {cs:List V} {xs:Array Value} (hr:eI E cs xs) (h1:∀ (j:Nat) (x:Value),xs[j]? =some x->x.oneCell'=true):iK E cs xs.toList:=by
 intro j v hj
 obtain ⟨x,hx,vM⟩:=hr.get hj
 exact ⟨x,by simpa using hx,vM,h1 j x hx⟩
theorem PD {t el:TypeId} {len:Nat} {ps:Array (Nat×Operand)} {qs:List (Nat×bH)} {m:kL} {sz bytes:Nat} {zero:List V} (ho:o.op=.buildSlice t len ps)
 (hu:P.underlying t=some (.slice el)) (mN:Fb P el sz bytes=true) (Sf:kZ P el zero=true) (ac1:len*sz<=16777216) (hp:qY ps.toList qs=true)
 (hs:b9 E st w) (hf:aY E N fr a) (hw:(step (.Sb m sz len zero qs) fr st).wp (aB P) K) (hc:fG E st w o a next K):o.wp P a w next Q:=by
 obtain ⟨i,z,hi,C6,kD,Yj,Ii,KD,SP⟩:=vQ mN
 obtain ⟨i',z',cZ,Iq,Py,hr,hl,h1⟩:=jA Sf
 rw [hi] at cZ;cases cZ
 rw [C6] at Iq;cases Iq
 have Uu:zero.length=sz:=by omega
 simp only [step] at hw
 unfold T.opt at hw
 split at hw
 case h_2=>exact hw.elim
 rename_i es pR
 have Uv:∀ e∈List.replicate len zero,e.length=sz:=fun e he=>by rw [(List.mem_replicate.1 he).2];exact Uu
 obtain ⟨f1,f2,f3⟩:=tZ Uv pR
 rw [List.length_replicate] at f3
 obtain ⟨l1,l2⟩:=xC (sz:=sz) hf hp
 have Uw:=De (len:=len) (hr E) (by omega)
 have Ir:=Df (n:=len*zero.length) h1 (by omega)
 rw [Uu] at Uw Ir
 obtain ⟨zs,FD,H0,Vx⟩:=C7 (E:=E) (fun k=>some (k*sz,sz)) [] (iA sz (fW fr qs)) (ps.toList.map fun q=>(q.1,a.eval q.2)) _ _ _ f1 Uw Ir (by simp [l1]) (fun j q x hq hx=>by
  rw [List.getElem?_map] at hx
  cases Px:ps.toList[j]? with
  |none=>rw [Px] at hx;cases hx
  |some p=>
   rw [Px] at hx
   simp only [Option.map_some,Option.some.injEq] at hx
   subst hx
   obtain ⟨⟨Kt,SN⟩,gI⟩:=l2 j q p hq Px
   exact ⟨by simp [Kt,SN],gI⟩)
 have ac2:zs.size=len*sz:=by rw [H0.1,cU f2,f3]
 obtain ⟨v,bU,E',hk,s1,s2,gI⟩:=newSlice_ok (w':=w.alloc (.cells zs el)) hw hs (fz:=(0,0)) (.inl rfl) rfl ⟨rfl,rfl,rfl⟩ f2 ac2 (by omega) (H0.PC Vx)
 refine aT (x:=.slice (some ⟨w.heap.size,0,none⟩) len len) ?_ (hc _ _ E' _ _ hk s1 s2 (by rw [<-f3];rw [<-f3] at gI;exact gI))
 have GO:(ps.map fun (q:Nat×Operand)=>(q.1,a.eval q.2)).toList=ps.toList.map fun q=>(q.1,a.eval q.2):=by simp
 simp only [execOp,ho,Instr.buildSlice,Sem.run_bind,run_underlying hu,Result.andThen_ok]
 have OS:¬(len*sz>16777216):=by omega
 by_cases h0:len*sz=0
 · have he:len=0:=by
    rcases Nat.mul_eq_zero.1 h0 with h|h
    · exact h
    · omega
   subst he
   have VA:madeCells z.cells (0*sz)=#[]:=by
    apply Array.eq_empty_of_size_eq_zero
    rw [size_madeCells];omega
   rw [VA] at FD
   simp [sizeOf,typeInfo,hi,newRow,kD,Array.range_zero',FD]
 · have h00:¬(len=0\/sz=0):=by
    rintro (h|h)
    · simp [h] at h0
    · omega
   simp only [madeCells] at FD
   simp [sizeOf,typeInfo,hi,kD,OS,zeroValue,C6,newRow,FD]
   exact fun h=>absurd h h0
theorem Nu {t el:TypeId} {x y:Operand} {d e:bH} {m:kL} {sz bytes:Nat} {zero:List V} (ho:o.op=.makeSlice t x y) (hx:dY x d=true) (hy:dY y e=true)
 (hu:P.underlying t=some (.slice el)) (mN:Fb P el sz bytes=true) (Sf:kZ P el zero=true)
 (hs:b9 E st w) (hf:aY E N fr a) (hw:(step (.Km m sz bytes zero d e) fr st).wp (aB P) K) (hc:fG E st w o a next K):o.wp P a w next Q:=by
 obtain ⟨i,z,hi,C6,kD,Yj,Ii,KD,SP⟩:=vQ mN
 obtain ⟨i',z',cZ,Iq,Py,hr,hl,h1⟩:=jA Sf
 rw [hi] at cZ;cases cZ
 rw [C6] at Iq;cases Iq
 have Uu:zero.length=sz:=by omega
 have r1:=bA hx hf
 have r2:=bA hy hf
 simp only [step] at hw
 split at hw
 case h_2=>exact hw.elim
 rename_i k p k' q e1 e2
 rw [e1] at r1
 rw [e2] at r2
 have r1:=r1.int
 have r2:=r2.int
 obtain ⟨tM,hw⟩:=hw
 simp only [Bool.and_eq_true,decide_eq_true_eq] at tM
 obtain ⟨⟨h0,hpq⟩,lV⟩:=tM
 subst hpq
 obtain ⟨GI,EX⟩:=zI lV KD
 have VC:(i.bytes:Int)*p<=281474976710656:=by
  have h3:((i.bytes*p.toNat:Nat):Int)<=281474976710656:=by rw [Yj,Nat.mul_comm];omega
  rw [Int.natCast_mul] at h3
  rwa [Int.toNat_of_nonneg h0] at h3
 have dW:=run_make (P:=P) w t el i z hu hi C6 k k' p p h0 (Int.le_refl _) VC (by omega)
 have Uw:=De (len:=p.toNat) (hr E) (by omega)
 have Ir:=Df (n:=p.toNat*zero.length) h1 (by omega)
 rw [Uu] at Uw Ir
 have Uv:∀ e∈List.replicate p.toNat zero,e.length=sz:=fun e he=>by rw [(List.mem_replicate.1 he).2];exact Uu
 rw [kD] at dW
 obtain ⟨v,bU,E',hk,s1,s2,gI⟩:=newSlice_ok (w':=w.alloc (.cells (madeCells z.cells (p.toNat*sz)) el)) hw hs (fz:=(0,0)) (.inl rfl) rfl ⟨rfl,rfl,rfl⟩ Uv (cap:=p.toNat) (size_madeCells _ _) (by simp) (Uw.PC Ir)
 rw [List.length_replicate] at gI
 exact aT (x:=.slice (some ⟨w.heap.size,0,none⟩) p.toNat p.toNat) (by simp [execOp,ho,r1,r2,dW]) (hc _ _ E' _ _ hk s1 s2 gI)
theorem sC.mark {fz:Nat×Nat} {n:Nat} (h:sC 1 fz n):sC 1 (if fz.1==fz.2 then (n,n+1) else (min fz.1 n,max fz.2 (n+1))) n:=by
 obtain ⟨lo,hi⟩:=fz
 simp only [sC] at*
 split
 · exact .inr ⟨Nat.le_refl _,trivial⟩
 · rename_i dM
   simp at dM
   rcases h with h|h
   · exact absurd h dM
   · exact .inr ⟨by simp only;omega,trivial⟩
theorem uA {b n:Nat} {c:Array Value} {t:TypeId} {fz:Nat×Nat} (h:w.heap[b]? =some (.cells c t fz)):
 (w.freeze ⟨b,n,none⟩ 1).heap[b]? =some (.cells c t (if fz.1==fz.2 then (n,n+1) else (min fz.1 n,max fz.2 (n+1)))):=by
 simp [World.freeze,Array.getElem?_modify,h]
theorem zK {b b' n:Nat} (h:b'≠b):(w.freeze ⟨b,n,none⟩ 1).heap[b']? =w.heap[b']? :=by
 simp only [World.freeze]
 simp only [Nat.succ_ne_zero,if_false,Array.getElem?_modify]
 rw [if_neg (fun e=>h e.symm)]
theorem It {ob:Array Value} {t:TypeId} {n:Nat}:((w.drew.alloc (.cells ob t)).freeze ⟨w.heap.size,n,none⟩ 1).heap=w.heap.push (.cells ob t (n,n+1)):=by
 apply Array.ext_getElem?
 intro j
 by_cases hj:j=w.heap.size
 · subst hj
   rw [uA (c:=ob) (t:=t) (fz:=(0,0)) (by rw [mD];simp)]
   simp
 · rw [zK hj,mD]
   simp only [Array.getElem?_push,if_neg hj]
theorem zL {b off:Nat} {c:Array Value} {t:TypeId} {fz:Nat×Nat} (h:w.heap[b]? =some (.cells c t fz)):
 (markStringish ⟨b,off,none⟩).run P w=.ok () (w.freeze ⟨b,c.size,none⟩ 1):=by
 simp [markStringish,shape,freeze,Sem.run,World.shape?,h]
theorem xD (l:List UInt8):(eR l).length=l.length:=by simp [eR]
theorem GV (l:List UInt8):∀ e∈eR l,e.length=1:=by
 intro e he
 simp only [eR,List.mem_map] at he
 obtain ⟨c,_,rfl⟩:=he
 rfl
theorem Fg (l:List UInt8) (rest:List Value):iK E (eR l).flatten (l.map (fun c=>Value.int .u8 c.toNat)++rest):=by
 intro j v hj
 rw [oU,List.getElem?_map] at hj
 cases hc:l[j]? with
 |none=>rw [hc] at hj;cases hj
 |some c=>
  rw [hc] at hj
  simp only [Option.map_some,Option.some.injEq] at hj
  subst hj
  have cL:=(List.getElem?_eq_some_iff.1 hc).1
  exact ⟨.int .u8 c.toNat,by rw [List.getElem?_append_left (by simpa using cL)];simp [hc],.deep (.i _ _),rfl⟩
theorem PE {t t' el:TypeId} {x:Operand} {d:bH} {m:kL} (ho:o.op=.convert t t' x) (hx:dY x d=true) (Yq:P.underlying t=some .string) (hu:P.underlying t'=some (.slice el)) (he:P.underlying el=some (.int .u8))
 (hs:b9 E st w) (hf:aY E N fr a) (hw:(step (.Sc m d) fr st).wp (aB P) K) (hc:fG E st w o a next K):o.wp P a w next Q:=by
 have r1:=bA hx hf
 simp only [step] at hw
 split at hw
 case h_2=>exact hw.elim
 rename_i l e1
 rw [e1] at r1
 have r1:=r1.Ca
 have kD:(str l).size=l.length:=by simp [str,ByteArray.size]
 have fC:=grownCap_ge w l.length 0 el
 have xZ:((str l).data.map (fun b=>Value.int .u8 b.toNat)++Array.replicate (grownCap w l.length 0 el - l.length) (Value.int .u8 0)).toList=l.map (fun c=>Value.int .u8 c.toNat)++List.replicate (grownCap w l.length 0 el - l.length) (Value.int .u8 0):=by
  simp [str]
 have tA:((str l).data.map (fun b=>Value.int .u8 b.toNat)++Array.replicate (grownCap w l.length 0 el - l.length) (Value.int .u8 0)).size=grownCap w l.length 0 el*1:=by
  simp [str];omega
 generalize PF:((str l).data.map (fun b=>Value.int .u8 b.toNat)++Array.replicate (grownCap w l.length 0 el - l.length) (Value.int .u8 0))=cells at xZ tA
 obtain ⟨v,bU,E',hk,s1,s2,gI⟩:=newSlice_ok (w':=(w.drew.alloc (.cells cells el)).freeze ⟨w.heap.size,cells.size,none⟩ 1) hw hs (fz:=(cells.size,cells.size+1)) (.inr ⟨Nat.le_refl _,rfl⟩) It ⟨rfl,rfl,rfl⟩ (GV l) (cap:=grownCap w l.length 0 el) tA (by rw [xD];exact fC)
  (by rw [xZ];exact Fg l _)
 rw [xD] at gI
 refine aT (x:=.slice (some ⟨w.heap.size,0,none⟩) l.length (grownCap w l.length 0 el)) ?_ (hc _ _ E' _ _ hk s1 s2 gI)
 have hm:=zL (P:=P) (w:=w.drew.alloc (.cells cells el)) (b:=w.heap.size) (off:=0) (c:=cells) (t:=el) (fz:=(0,0)) (by rw [mD];simp)
 simp only [execOp,ho,r1,convert,Sem.run_bind,run_underlying Yq,run_underlying hu,run_underlying he,Result.andThen_ok,Conv.stringToBytes,kD]
 simp [newRow,Question.forced]
 simp only [grownCap] at PF
 simp only [grownCap]
 have:Result.andThen ((markStringish ⟨w.heap.size,0,none⟩).run P (w.drew.alloc (.cells cells el))) (fun _ w'=>Result.ok () w')=.ok () ((w.drew.alloc (.cells cells el)).freeze ⟨w.heap.size,cells.size,none⟩ 1):=by rw [hm];rfl
 simp [PF,hm]
theorem PG {t el:TypeId} {x:Operand} {d:bH} (ho:o.op=.convert t t x) (hx:dY x d=true) (hu:P.underlying t=some (.slice el)) (he:P.underlying el=some (.int .u8))
 (hs:b9 E st w) (hf:aY E N fr a) (hw:(step (.SE d) fr st).wp (aB P) K) (hc:fG E st w o a next K):o.wp P a w next Q:=by
 have r1:=bA hx hf
 have fin:∀ {k:Key} {ob:Obj} {ad:Addr} {len cap:Nat} {v:V} {c:Array Value} {ty:TypeId} {fz:Nat×Nat},st.get k=some ob->w.heap[(E.μ k).bL]? =some (.cells c ty fz)->ad.block=(E.μ k).bL->
  (∀ w':World,w'.heap[(E.μ k).bL]? =some (.cells c ty (if fz.1==fz.2 then (c.size,c.size+1) else (min fz.1 c.size,max fz.2 (c.size+1))))->Holds (E.at k) w' (E.μ k) ob)->
  a.eval x=.slice (some ad) len cap->Rel E v (.slice (some ad) len cap)->K (v,st)->o.wp P a w next Q:=by
  intro k ob ad len cap v c ty fz eC hb had hh hv hr hk
  obtain ⟨s1,s2⟩:=hs.set (w':=w.freeze ⟨(E.μ k).bL,c.size,none⟩ 1) eC ob (by simp [World.freeze]) (fun b dM=>zK dM) rfl rfl rfl (fun j x hx=>by
   have:=hs.jL _ _ _ hx
   simp only [bI,uA hb]
   simpa [bI,hb] using this) (hh _ (uA hb))
  rw [St.PB eC] at s1 s2
  refine aT (x:=.slice (some ad) len cap) ?_ (hc _ _ E _ _ hk s1 s2 hr)
  obtain ⟨b,off,sp⟩:=ad
  simp only at had
  subst had
  simp [execOp,ho,hv,convert,run_underlying hu,run_underlying he,markStringish,shape,freeze,Sem.run,World.shape?,hb]
 simp only [step] at hw
 split at hw
 · rename_i k sz es e1
   rw [e1] at r1
   obtain ⟨ob,eC,hw⟩:=hw
   dsimp only at hw
   split at hw
   case h_2=>exact hw.elim
   generalize hv:a.eval x=y at r1
   cases r1 with
   |deep hd=>cases hd
   |EW _ _ _ ad cap hk hd Cv hh=>
    obtain ⟨c,ty,fz,q1,q2,q3,q4,q5⟩:=hs.obj k _ eC
    exact fin eC q1 Cv.1 (fun w' Il=>⟨c,ty,_,Il,q2.mark,q3,q4,fun j v hj=>by simp at hj⟩) hv (.EW _ _ _ _ _ hk hd Cv hh) hw
 · rename_i k sz off len e1
   rw [e1] at r1
   obtain ⟨ob,eC,hw⟩:=hw
   dsimp only at hw
   split at hw
   case h_2=>exact hw.elim
   split at hw
   case isFalse=>exact hw.elim
   rename_i FD
   subst FD
   generalize hv:a.eval x=y at r1
   cases r1 with
   |deep hd=>cases hd
   |ms _ _ _ _ ad cap hk Cw hh Cv ha=>
    obtain ⟨hl,c,ty,fz,q1,q2,q3,q4,q5⟩:=hs.obj k _ eC
    exact fin eC q1 Cv (fun w' Il=>⟨hl,c,ty,_,Il,q2.mark,q3,q4,q5⟩) hv (.ms _ _ _ _ _ _ hk Cw hh Cv ha) hw
 · exact hw.elim
theorem zM:∀ {es:List (List V)} {y:List UInt8},bytesOf es=some y->∃ ns:List Int,es=ns.map (fun n=>[V.i .u8 n])/\y=ns.map fun n=>UInt8.ofNat n.toNat
 |[],y,h=>by simp only [bytesOf,Option.some.injEq] at h;subst h;exact ⟨[],rfl,rfl⟩
 |e::r,y,h=>by
  unfold bytesOf at h
  split at h
  · cases ‹_=[]›
  · rename_i n r' heq
    cases heq
    split at h
    · rename_i x hx
      simp only [Option.some.injEq] at h
      subst h
      obtain ⟨ns,h1,h2⟩:=zM hx
      exact ⟨n::ns,by simp [h1],by simp [h2]⟩
    · cases h
  · cases h
theorem foldl_push:∀ (ns:List Int) (s:ByteArray),ns.foldl (fun (r:ByteArray) n=>r.push (UInt8.ofNat n.toNat)) s=⟨s.data++(ns.map fun n=>UInt8.ofNat n.toNat).toArray⟩
 |[],s=>by simp
 |n::r,s=>by
  rw [List.foldl_cons,foldl_push r]
  cases s with
  |mk d=>
  apply ByteArray.ext
  apply Array.ext'
  simp [ByteArray.push]
theorem PH {t t' el:TypeId} {x:Operand} {d:bH} (ho:o.op=.convert t t' x) (hx:dY x d=true) (hu:P.underlying t=some (.slice el)) (he:P.underlying el=some (.int .u8)) (Yq:P.underlying t'=some .string)
 (hs:b9 E st w) (hf:aY E N fr a) (hw:(step (.Ng d) fr st).wp (aB P) K) (hc:fG E st w o a next K):o.wp P a w next Q:=by
 have r1:=bA hx hf
 simp only [step] at hw
 obtain ⟨es,xs,⟨y,hy,hk⟩,qT⟩:=elems_ok (P:=P) hs r1 hw
 obtain ⟨ns,rfl,rfl⟩:=zM hy
 have Nt:xs=ns.map (Value.int .u8):=by
  apply List.ext_getElem?
  intro j
  have KE:=qT.Db
  simp only [List.length_map,Nat.mul_one] at KE
  by_cases hj:j<ns.length
  · have vL:(ns.map fun n=>[V.i .u8 n]).flatten=ns.map (V.i .u8):=by
     clear hy hk qT hw KE hj
     induction ns with
     |nil=>rfl
     |cons n r ih=>simp [ih]
    obtain ⟨z,hz,SO,_⟩:=qT.rel j (.i .u8 ns[j]) (by rw [vL];simp [hj])
    rw [hz,SO.int]
    simp [hj]
  · rw [List.getElem?_eq_none (by omega),List.getElem?_eq_none (by simp;omega)]
 subst Nt
 have hlen:=qT.len w
 have Cd:=qT.first w rfl ns.length (by simp)
 simp only [Nat.mul_one] at Cd
 rw [List.take_of_length_le (by simp)] at Cd
 have ac3:ns.foldl (fun (r:ByteArray) n=>r.push (UInt8.ofNat n.toNat)) ByteArray.empty=str (ns.map fun n=>UInt8.ofNat n.toNat):=by
  rw [foldl_push];simp [str]
 refine aT (x:=.string (str (ns.map fun n=>UInt8.ofNat n.toNat))) ?_ (hc.same hs hk (.deep (.s _)))
 simp only [List.length_map] at hlen
 cases hv:a.eval x with
 |slice p len cap=>
  rw [hv] at hlen Cd
  have hl:len=ns.length:=by simpa [Builtin.lenOf] using hlen
  subst hl
  cases p with
  |none=>
   simp [Builtin.firstCells] at Cd
   have h0:ns=[]:=by
    cases ns with
    |nil=>rfl
    |cons n r=>simp at Cd
   subst h0
   simp [execOp,ho,hv,convert,run_underlying hu,run_underlying he,run_underlying Yq,Conv.bytesToString]
   rfl
  |some ad=>
   simp [Builtin.firstCells] at Cd
   have hb:=run_bytesToString (P:=P) w ad ns.length cap ns (by simpa using Cd)
   rw [ac3] at hb
   simp [execOp,ho,hv,convert,run_underlying hu,run_underlying he,run_underlying Yq,hb]
 |string s=>
  rw [hv] at r1 hlen Cd
  have KG:s.size=ns.length:=by simpa [Builtin.lenOf] using hlen
  simp only [Builtin.firstCells,Sem.run_pure,Result.ok.injEq,and_true] at Cd
  have:s=str (ns.map fun n=>UInt8.ofNat n.toNat):=by
   have h2:=congrArg Array.toList Cd
   simp only [Array.toList_map,ByteArray.data_extract] at h2
   cases s with
   |mk da=>
   have h3:(da.extract 0 ns.length)=da:=by
    have:da.size=ns.length:=KG
    rw [<-this];simp
   simp only [h3] at h2
   apply ByteArray.ext
   apply Array.ext'
   simp only [str]
   apply List.ext_getElem?
   intro j
   have h4:=congrArg (fun l=>l[j]?) h2
   simp only [List.getElem?_map] at h4
   rw [List.getElem?_map]
   cases h5:da.toList[j]? with
   |none=>
    rw [h5] at h4
    cases h6:ns[j]? with
    |none=>rfl
    |some n=>rw [h6] at h4;cases h4
   |some b=>
    rw [h5] at h4
    cases h6:ns[j]? with
    |none=>rw [h6] at h4;cases h4
    |some n=>
     rw [h6] at h4
     simp only [Option.map_some,Option.some.injEq,Value.int.injEq,true_and] at h4
     rw [<-h4]
     simp
  subst this
  simp [execOp,ho,hv,convert,run_underlying hu,run_underlying Yq]
 |_=>rw [hv] at hlen;simp [Builtin.lenOf,stuck] at hlen
end
end Go.Eng
