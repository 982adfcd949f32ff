/-
Each operation of the model does what the abstract step says (part ten: lengths, slicing, elements' places, copy, clear, min, max, nil).
-/
import Derived.Test.YtmfelikepmmjkaaGreatX04
import Derived.Laws.Slices
set_option linter.unusedVariables false
set_option linter.unusedSimpArgs false
namespace Go.Eng
open Go
section
variable {P:Program} {o:Oper} {a:Act} {E:Env} {N:Nat} {st:St} {w:World} {fr:Fr} {next:Act->World->Prop} {Q:Exit->Act->World->Prop} {K:R->Prop}
theorem Rel.GO {y:Value} (h:Rel E .aS y):y=.slice none 0 0:=by cases h with|deep h=>cases h;rfl
theorem Rel.slv {tok:Option Key} {sz:Nat} {es:List (List V)} {y:Value} (h:Rel E (.sl tok sz es) y):∃ p cap,y=.slice p es.length cap/\es.length<=cap/\((es=[]/\cap=0/\tok=none)\/
 ∃ (bS off:Nat) (val:Nat->Value),p=some ⟨bS,off,none⟩/\(∀ e∈es,e.length=sz)/\(∀ j d,es.flatten[j]? =some d->E.I bS (off+j)=some (val j))/\(∀ j d,es.flatten[j]? =some d->fF E.I d (val j))/\
  (∀ k,tok=some k->E.has k/\bS=(E.μ k).bS/\(cap=es.length\/(off+es.length*sz=(E.μ k).base/\off+cap*sz=(E.μ k).fin)))):=by
 cases h with
 |deep hd=>
  cases hd with
  |nW=>exact ⟨none,0,rfl,Nat.le_refl _,.inl ⟨rfl,rfl,rfl⟩⟩
  |LO _ a hs=>exact ⟨some a,0,rfl,Nat.le_refl _,.inl ⟨rfl,rfl,rfl⟩⟩
  |sl _ _ bS off cap val hc hl hv hr=>exact ⟨_,_,rfl,hc,.inr ⟨bS,off,val,rfl,hl,hv,hr,fun k hk=>by cases hk⟩⟩
 |F4 k _ _ ad cap hk hd hb hs=>
  cases hd with
  |LO _ _ hn=>exact absurd hb.2 hn
  |sl _ _ bS off _ val hc hl hv hr=>
   exact ⟨_,_,rfl,hc,.inr ⟨bS,off,val,rfl,hl,hv,hr,fun k' iT=>by cases iT;exact ⟨hk,hb.1,hs⟩⟩⟩
theorem vX {x:Operand} {ts:Array TypeId} {v:Value} (ho:o.op=.call { callee:=.builtin .len,args:=#[x],argTypes:=ts })
 (h:(Builtin.len_ ts o.type #[a.eval x]).run P w=.ok v w):(execOp a.eval o).run P w=.ok (.value v) w:=by
 simp [execOp,ho,resolve,invoke,builtin,h,Result.andThen]
theorem O2 {x:Operand} {d:bL} {ts:Array TypeId} {t:TypeId} (ho:o.op=.call { callee:=.builtin .len,args:=#[x],argTypes:=ts }) (ht:ts[0]? =some t) (hu:P.underlying t=some .string) (hx:eL x d=true)
 (hs:cH E st w) (hf:bB E N fr a) (hw:(step (.HS d) fr st).wp (aC P) K) (hc:fV E st w o a next K):o.wp P a w next Q:=by
 have r1:=bG hx hf
 simp only [step] at hw
 split at hw
 case h_2=>exact hw.elim
 rename_i l e1
 rw [e1] at r1
 have r1:=r1.C8
 have lI:(str l).size=l.length:=by simp [str,ByteArray.size]
 exact aX (x:=goInt l.length) (vX ho (by simp [Builtin.len_,ht,r1,run_underlying hu,lI])) (hc.same hs hw (.deep (.i _ _)))
theorem O3 {x:Operand} {d:bL} {ts:Array TypeId} {t el:TypeId} (ho:o.op=.call { callee:=.builtin .len,args:=#[x],argTypes:=ts }) (ht:ts[0]? =some t) (hu:P.underlying t=some (.slice el)) (hx:eL x d=true)
 (hs:cH E st w) (hf:bB E N fr a) (hw:(step (.Gb d) fr st).wp (aC P) K) (hc:fV E st w o a next K):o.wp P a w next Q:=by
 have r1:=bG hx hf
 have eI:∀ p (n c:Nat),a.eval x=.slice p n c->(execOp a.eval o).run P w=.ok (.value (goInt n)) w:=fun p n c h=>vX ho (by simp [Builtin.len_,ht,h,run_underlying hu])
 simp only [step] at hw
 split at hw
 · rename_i e1
   rw [e1] at r1
   exact aX (eI _ _ _ r1.GO) (hc.same hs hw (.deep (.i _ _)))
 · rename_i tok sz es e1
   rw [e1] at r1
   obtain ⟨p,cap,hv,_⟩:=r1.slv
   exact aX (eI _ _ _ hv) (hc.same hs hw (.deep (.i _ _)))
 · rename_i k sz off n e1
   rw [e1] at r1
   generalize hv:a.eval x=y at r1
   cases r1 with
   |deep hd=>cases hd
   |ms=>exact aX (eI _ _ _ hv) (hc.same hs hw (.deep (.i _ _)))
 · exact hw.elim
theorem O4 {x:Operand} {n:Nat} {ts:Array TypeId} {t el:TypeId} (ho:o.op=.call { callee:=.builtin .len,args:=#[x],argTypes:=ts }) (ht:ts[0]? =some t) (hu:P.underlying t=some (.array n el))
 (hs:cH E st w) (hw:(step (.HT n) fr st).wp (aC P) K) (hc:fV E st w o a next K):o.wp P a w next Q:=
 aX (x:=goInt n) (vX ho (by simp [Builtin.len_,ht,run_underlying hu])) (hc.same hs hw (.deep (.i _ _)))
theorem O5 {x:Operand} {d:bL} {ts:Array TypeId} {t kt el:TypeId} (ho:o.op=.call { callee:=.builtin .len,args:=#[x],argTypes:=ts }) (ht:ts[0]? =some t) (hu:P.underlying t=some (.map kt el)) (hx:eL x d=true)
 (hs:cH E st w) (hf:bB E N fr a) (hw:(step (.HU d) fr st).wp (aC P) K) (hc:fV E st w o a next K):o.wp P a w next Q:=by
 have r1:=bG hx hf
 simp only [step] at hw
 split at hw
 · rename_i e1
   rw [e1] at r1
   generalize hv:a.eval x=y at r1
   cases r1 with
   |deep hd=>cases hd
   |gS=>exact aX (x:=goInt (0:Nat)) (vX ho (by simp [Builtin.len_,ht,hv,run_underlying hu])) (hc.same hs hw (.deep (.i _ _)))
 · rename_i k e1
   rw [e1] at r1
   obtain ⟨ob,eO,hw⟩:=hw
   dsimp only at hw
   split at hw
   case h_2=>exact hw.elim
   rename_i kd es
   generalize hv:a.eval x=y at r1
   cases r1 with
   |deep hd=>cases hd
   |m _ hk=>
    obtain ⟨bU,clock,q1,q2,_⟩:=hs.obj k _ eO
    refine aX (x:=goInt es.length) (vX ho ?_) (hc.same hs hw (.deep (.i _ _)))
    simp [Builtin.len_,ht,hv,run_underlying hu,getObj,Sem.run,q1,q2]
 · exact hw.elim
theorem eJ {lo:Option Operand} {d:Option bL} (hl:vO lo d=true) (hf:bB E N fr a) {n l:Int} (h:eS (bL.Dq fr d) n=some l):
 (lo.map a.eval=none/\bL.Dq fr d=none/\l=n)\/∃ k,lo.map a.eval=some (.int k l):=by
 rcases JC hf hl with ⟨h1,h2⟩|⟨y,v,h1,h2,h3⟩
 · rw [h2] at h
   simp only [eS,Option.some.injEq] at h
   exact .inl ⟨by rw [h1];rfl,h2,h.symm⟩
 · rw [h2] at h
   simp only [eS] at h
   cases v<;>simp only [vM,Option.some.injEq,reduceCtorEq] at h
   subst h
   have h3:=h3.int
   subst h3
   exact .inr ⟨_,h1⟩
theorem qC (isSlice:Bool) (len cap:Nat) {lo hi:Option Value} {l h:Int} (hh:(hi=none/\h=len)\/∃ k,hi=some (.int k h)) (hl:(lo=none/\l=0)\/∃ k,lo=some (.int k l))
 (h0:0<=l) (h1:l<=h) (h2:h<=cap):(Instr.sliceBounds isSlice len cap lo hi none).run P w=.ok (l.toNat,h.toNat,cap) w:=by
 have NB:l<=(h.toNat:Int):=by omega
 have h00:0<=h:=by omega
 have hmx:max h 0=h:=by omega
 have tO:¬h<l:=by omega
 rcases hh with ⟨rfl,rfl⟩|⟨k,rfl⟩<;>rcases hl with ⟨rfl,rfl⟩|⟨k',rfl⟩<;>simp [Instr.sliceBounds,run_sliceBound,h0,h1,h2,h00,hmx]
theorem Ma {t:TypeId} {x:Operand} {lo hi:Option Operand} {d:bL} {l h:Option bL} (ho:o.op=.slice t x lo hi none) (hu:P.underlying t=some .string) (hx:eL x d=true) (O6:vO lo l=true) (Wl:vO hi h=true)
 (hs:cH E st w) (hf:bB E N fr a) (hw:(step (.AG d l h) fr st).wp (aC P) K) (hc:fV E st w o a next K):o.wp P a w next Q:=by
 have r1:=bG hx hf
 simp only [step] at hw
 split at hw
 case h_2=>exact hw.elim
 rename_i y e1
 rw [e1] at r1
 have r1:=r1.C8
 unfold T.opt at hw
 split at hw
 case h_2=>exact hw.elim
 rename_i h' UW
 split at hw
 case h_2=>exact hw.elim
 rename_i l' y9
 obtain ⟨vJ,hw⟩:=hw
 simp only [Bool.and_eq_true,decide_eq_true_eq] at vJ
 obtain ⟨⟨c1,c2⟩,c3⟩:=vJ
 have lI:(str y).size=y.length:=by simp [str,ByteArray.size]
 have b1:=eJ Wl hf UW
 have b2:=eJ O6 hf y9
 have hb:=qC (P:=P) (w:=w) false y.length y.length (lo:=lo.map a.eval) (hi:=hi.map a.eval) (l:=l') (h:=h') (b1.imp (fun q=>⟨q.1,q.2.2⟩) id) (b2.imp (fun q=>⟨q.1,q.2.2⟩) id) c1 c2 c3
 refine aX (x:=.string (str ((y.take h'.toNat).drop l'.toNat))) ?_ (hc.same hs hw (.deep (.s _)))
 have he:(str y).extract l'.toNat h'.toNat=str ((y.take h'.toNat).drop l'.toNat):=by
  apply ByteArray.ext
  apply Array.ext'
  simp only [ByteArray.data_extract,str,Array.toList_extract]
  simp [List.drop_take]
 simp [execOp,ho,r1,Instr.sliceAt,Instr.slice,run_underlying hu,lI,hb,he]
theorem O7 {t el:TypeId} {x:Operand} {lo hi:Option Operand} {d:bL} {l h:Option bL} {sz:Nat} (ho:o.op=.slice t x lo hi none) (hu:P.underlying t=some (.slice el)) (hz:(P.info? el).map (·.size)=some sz) (JH:0<sz)
 (hx:eL x d=true) (O6:vO lo l=true) (Wl:vO hi h=true)
 (hs:cH E st w) (hf:bB E N fr a) (hw:(step (.yQ sz d l h none) fr st).wp (aC P) K) (hc:fV E st w o a next K):o.wp P a w next Q:=by
 have r1:=bG hx hf
 cases hq:P.info? el with
 |none=>simp [hq] at hz
 |some i=>
 have Ny:i.size=sz:=by simpa [hq] using hz
 have eI:∀ {p:Option Addr} {len cap:Nat} {l' h':Int},a.eval x=.slice p len cap->(Instr.sliceBounds true len cap (lo.map a.eval) (hi.map a.eval) none).run P w=.ok (l'.toNat,h'.toNat,cap) w->
  (execOp a.eval o).run P w=.ok (.value (.slice (if cap=l'.toNat then p else p.map (·.add (l'.toNat*sz))) (h'.toNat - l'.toNat) (cap - l'.toNat))) w:=by
  intro p len cap l' h' hv hb
  simp [execOp,ho,hv,Instr.sliceAt,Instr.slice,run_underlying hu,hb,sizeOf,typeInfo,hq,Ny]
 simp only [step] at hw
 split at hw
 · rename_i e1
   rw [e1] at r1
   have r1:=r1.GO
   unfold T.opt at hw
   split at hw
   case h_2=>exact hw.elim
   rename_i h' UW
   split at hw
   case h_2=>exact hw.elim
   rename_i l' y9
   obtain ⟨vJ,hw⟩:=hw
   simp only [Bool.and_eq_true,decide_eq_true_eq] at vJ
   obtain ⟨rfl,rfl⟩:=vJ
   have b1:=eJ Wl hf UW
   have b2:=eJ O6 hf y9
   have hb:=qC (P:=P) (w:=w) true 0 0 (lo:=lo.map a.eval) (hi:=hi.map a.eval) (l:=0) (h:=0) (b1.imp (fun q=>⟨q.1,q.2.2⟩) id) (b2.imp (fun q=>⟨q.1,q.2.2⟩) id) (by omega) (by omega) (by omega)
   exact aX (eI r1 hb) (hc.same hs hw (by simpa using Rel.deep .aS))
 · rename_i tok eD es e1
   rw [e1] at r1
   split at hw
   case isFalse=>exact hw.elim
   rename_i Ej
   subst Ej
   obtain ⟨p,cap,hv,Dv,hp⟩:=r1.slv
   split at hw
   · -- NC an upper bound
     rename_i Ek
     unfold T.opt at hw
     split at hw
     case h_2=>exact hw.elim
     rename_i l' y9
     obtain ⟨vJ,hw⟩:=hw
     simp only [Bool.and_eq_true,decide_eq_true_eq] at vJ
     obtain ⟨c1,c2⟩:=vJ
     have b2:=eJ O6 hf y9
     have Ly:hi.map a.eval=none:=by
      rcases JC hf Wl with ⟨h1,_⟩|⟨_,_,_,h2,_⟩
      · rw [h1];rfl
      · rw [Ek] at h2;cases h2
     have hb:=qC (P:=P) (w:=w) true es.length cap (lo:=lo.map a.eval) (hi:=hi.map a.eval) (l:=l') (h:=(es.length:Int)) (.inl ⟨Ly,rfl⟩) (b2.imp (fun q=>⟨q.1,q.2.2⟩) id) c1 c2 (by omega)
     have UX:l'.toNat<=es.length:=by omega
     have hlen:(es.length:Int).toNat - l'.toNat=(es.drop l'.toNat).length:=by simp
     refine aX (eI hv hb) (hc.same hs hw ?_)
     rw [hlen]
     rcases hp with ⟨rfl,rfl,rfl⟩|⟨bS,off,val,rfl,hl,Ro,QY,jM⟩
     · have:l'.toNat=0:=by simpa using UX
       rw [this]
       exact .deep (.Dr _ _)
     · have AA:∀ e∈es.drop l'.toNat,e.length=eD:=fun e he=>hl e (List.mem_of_mem_drop he)
       by_cases mV:cap=l'.toNat
       · have El:es.drop l'.toNat=[]:=List.drop_eq_nil_of_le (by omega)
         rw [if_pos mV,mV,Nat.sub_self,El]
         have hd:fF E.I (.sl none eD []) (.slice (some ⟨bS,off,none⟩) 0 0):=.sl eD [] bS off 0 (fun _=>default) (Nat.le_refl _) (fun e he=>by cases he) (fun j d hj=>by simp at hj) (fun j d hj=>by simp at hj)
         cases tok with
         |none=>exact .deep hd
         |some k=>
          obtain ⟨k1,k2,k3⟩:=jM k rfl
          exact .F4 _ _ _ _ _ k1 hd ⟨k2,rfl⟩ (.inl rfl)
       · rw [if_neg mV]
         have L5:=nD hl l'.toNat
         have hd:fF E.I (.sl none eD (es.drop l'.toNat)) (.slice (some ⟨bS,off+l'.toNat*eD,none⟩) (es.drop l'.toNat).length (cap - l'.toNat)):=by
          refine .sl eD _ bS (off+l'.toNat*eD) _ (fun j=>val (l'.toNat*eD+j)) (by simp;omega) AA (fun j d hj=>?_) (fun j d hj=>?_)
          · rw [L5,List.getElem?_drop] at hj
            rw [Nat.add_assoc];exact Ro _ d hj
          · rw [L5,List.getElem?_drop] at hj
            exact QY _ d hj
         simp only [Option.map_some,Addr.add_lit]
         cases tok with
         |none=>exact .deep hd
         |some k=>
          obtain ⟨k1,k2,k3⟩:=jM k rfl
          refine .F4 _ _ _ _ _ k1 hd ⟨k2,rfl⟩ ?_
          rw [List.length_drop]
          rcases k3 with k3|⟨k3,k4⟩
          · exact .inl (by omega)
          · refine .inr ⟨?_,?_⟩
            · simp only [Nat.sub_mul]
              have:l'.toNat*eD<=es.length*eD:=Nat.mul_le_mul_right _ UX
              omega
            · simp only [Nat.sub_mul]
              have:l'.toNat*eD<=cap*eD:=Nat.mul_le_mul_right _ (by omega)
              omega
   · rename_i v GP
     unfold T.opt at hw
     split at hw
     case h_2=>exact hw.elim
     rename_i h' UW
     split at hw
     case h_2=>exact hw.elim
     rename_i l' y9
     obtain ⟨vJ,hw⟩:=hw
     simp only [Bool.and_eq_true,decide_eq_true_eq] at vJ
     obtain ⟨⟨c1,c2⟩,c3⟩:=vJ
     have b1:=eJ (n:=0) (l:=h') Wl hf (by rw [GP];exact UW)
     have b1:∃ k,hi.map a.eval=some (.int k h'):=by
      rcases b1 with ⟨_,q,_⟩|q
      · rw [GP] at q;cases q
      · exact q
     have b2:=eJ O6 hf y9
     have hb:=qC (P:=P) (w:=w) true es.length cap (lo:=lo.map a.eval) (hi:=hi.map a.eval) (l:=l') (h:=h') (.inr b1) (b2.imp (fun q=>⟨q.1,q.2.2⟩) id) c1 c2 (by omega)
     have hlen:h'.toNat - l'.toNat=((es.take h'.toNat).drop l'.toNat).length:=by simp;omega
     refine aX (eI hv hb) (hc.same hs hw ?_)
     rw [hlen]
     rcases hp with ⟨rfl,rfl,rfl⟩|⟨bS,off,val,rfl,hl,Ro,QY,jM⟩
     · simp only [List.take_nil,List.drop_nil,List.length_nil,Nat.zero_sub]
       exact .deep (.Dr _ _)
     · have cO:∀ e∈es.take h'.toNat,e.length=eD:=fun e he=>hl e (List.mem_of_mem_take he)
       have AA:∀ e∈(es.take h'.toNat).drop l'.toNat,e.length=eD:=fun e he=>cO e (List.mem_of_mem_drop he)
       by_cases mV:cap=l'.toNat
       · have El:(es.take h'.toNat).drop l'.toNat=[]:=List.drop_eq_nil_of_le (by simp;omega)
         rw [if_pos mV,mV,Nat.sub_self,El]
         exact .deep (.sl eD [] bS off 0 (fun _=>default) (Nat.le_refl _) (fun e he=>by cases he) (fun j d hj=>by simp at hj) (fun j d hj=>by simp at hj))
       · rw [if_neg mV]
         have L5:∀ j d,((es.take h'.toNat).drop l'.toNat).flatten[j]? =some d->es.flatten[l'.toNat*eD+j]? =some d:=by
          intro j d hj
          rw [nD cO,nC hl,List.getElem?_drop,List.getElem?_take] at hj
          split at hj
          · exact hj
          · cases hj
         simp only [Option.map_some,Addr.add_lit]
         refine .deep (.sl eD _ bS (off+l'.toNat*eD) _ (fun j=>val (l'.toNat*eD+j)) (by simp;omega) AA (fun j d hj=>?_) (fun j d hj=>?_))
         · rw [Nat.add_assoc];exact Ro _ d (L5 j d hj)
         · exact QY _ d (L5 j d hj)
 · rename_i k eD off len e1
   rw [e1] at r1
   split at hw
   case isFalse=>exact hw.elim
   rename_i Ej
   subst Ej
   unfold T.opt at hw
   split at hw
   case h_2=>exact hw.elim
   rename_i h' UW
   split at hw
   case h_2=>exact hw.elim
   rename_i l' y9
   obtain ⟨ob,eO,hw⟩:=hw
   dsimp only at hw
   split at hw
   case h_2=>exact hw.elim
   rename_i eW es
   split at hw
   case isFalse=>exact hw.elim
   rename_i Ej
   subst Ej
   obtain ⟨vJ,hw⟩:=hw
   simp only [Bool.and_eq_true,decide_eq_true_eq] at vJ
   obtain ⟨⟨c1,c2⟩,c3⟩:=vJ
   have b1:=eJ Wl hf UW
   have b2:=eJ O6 hf y9
   generalize hv:a.eval x=y at r1
   cases r1 with
   |deep hd=>cases hd
   |ms _ _ _ _ ad cap hk Dv hh Du ha=>
    obtain ⟨hl,cells,ty,fz,q1,q2,q3,q4,q5⟩:=hs.obj k _ eO
    have jE:=dA hl
    have mV:es.length<=off+cap:=by
     have:es.length*eW<=(off+cap)*eW:=by omega
     exact Nat.le_of_mul_le_mul_right this JH
    have hb:=qC (P:=P) (w:=w) true len cap (lo:=lo.map a.eval) (hi:=hi.map a.eval) (l:=l') (h:=h') (b1.imp (fun q=>⟨q.1,q.2.2⟩) id) (b2.imp (fun q=>⟨q.1,q.2.2⟩) id) c1 c2 (by omega)
    refine aX (eI hv hb) (hc.same hs hw ?_)
    have e0:(if cap=l'.toNat then some ad else Option.map (fun x:Addr=>x.add (l'.toNat*eW)) (some ad))=some (if cap=l'.toNat then ad else ad.add (l'.toNat*eW)):=by split<;>rfl
    rw [e0]
    refine .ms _ _ _ _ _ _ hk (by omega) ?_ ?_ ?_
    · rw [<-hh]
      congr 2
      omega
    · split
      · exact Du
      · simp only [Addr.add]
        split<;>exact Du
    · by_cases agS:cap=l'.toNat
      · exact .inl (by omega)
      · rw [if_neg agS]
        refine .inr ?_
        rcases ha with h|h
        · omega
        · rw [h,Addr.add_lit,Nat.add_mul]
          congr 1;omega
 · exact hw.elim
theorem O8 {t el:TypeId} {x y:Operand} {d c:bL} {sz:Nat} (ho:o.op=.indexAddr t x y) (hx:eL x d=true) (hy:eL y c=true)
 (hu:P.underlying t=some (.slice el)) (hz:(P.info? el).map (·.size)=some sz)
 (hs:cH E st w) (hf:bB E N fr a) (hw:(step (.Ga sz d c) fr st).wp (aC P) K) (hc:fV E st w o a next K):o.wp P a w next Q:=by
 have r1:=bG hx hf
 have r2:=bG hy hf
 cases hq:P.info? el with
 |none=>simp [hq] at hz
 |some i=>
 have hi:i.size=sz:=by simpa [hq] using hz
 simp only [step] at hw
 split at hw
 case h_2=>exact hw.elim
 rename_i kd n e2
 rw [e2] at r2
 have r2:=r2.int
 have eI:∀ {p:Addr} {len cap:Nat},a.eval x=.slice (some p) len cap->0<=n->n<len->(execOp a.eval o).run P w=.ok (.value (.pointer (some (p.add (n.toNat*sz))))) w:=by
  intro p len cap hv h0 h1
  simp [execOp,ho,hv,r2,Instr.indexAt,asIntOf,run_underlying hu,sizeOf,typeInfo,hq,hi,h0,h1]
 split at hw
 · rename_i tok eD es e1
   rw [e1] at r1
   split at hw
   case isFalse=>exact hw.elim
   rename_i Ej
   subst Ej
   obtain ⟨mT,e,he,hw⟩:=hw
   rw [xV] at mT
   have cO:n.toNat<es.length:=(List.getElem?_eq_some_iff.1 he).1
   obtain ⟨p,cap,hv,Dv,hp⟩:=r1.slv
   rcases hp with ⟨rfl,rfl,rfl⟩|⟨bS,off,val,rfl,hl,Ro,QY,jM⟩
   · simp at cO
   · refine aX (eI hv mT.1 mT.2) (hc.same hs hw ?_)
     rw [Addr.add_lit]
     have nQ:e.length=eD:=hl e (List.mem_of_getElem? he)
     have hfg:∀ j d,e[j]? =some d->es.flatten[n.toNat*eD+j]? =some d:=by
      intro j d hj
      have GG:j<eD:=by
       have:=(List.getElem?_eq_some_iff.1 hj).1
       omega
      rw [pZ hl he GG];exact hj
     exact .pc e 0 bS (off+n.toNat*eD) (fun j=>val (n.toNat*eD+j)) (fun j d hj=>by rw [Nat.add_assoc];exact Ro _ d (hfg j d hj)) (fun j d hj=>QY _ d (hfg j d hj))
 · rename_i k eD off len e1
   rw [e1] at r1
   split at hw
   case isFalse=>exact hw.elim
   rename_i Ej
   subst Ej
   obtain ⟨mT,hw⟩:=hw
   rw [xV] at mT
   generalize hv:a.eval x=y at r1
   cases r1 with
   |deep hd=>cases hd
   |ms _ _ _ _ ad cap hk Dv hh Du ha=>
    have ha:ad=⟨(E.μ k).bS,(E.μ k).base+off*eD,none⟩:=by
     rcases ha with h|h
     · omega
     · exact h
    subst ha
    refine aX (eI hv mT.1 mT.2) (hc.same hs hw ?_)
    rw [Addr.add_lit]
    have:=Rel.pa (E:=E) k eD (off+n.toNat) 0 hk
    rw [Nat.add_mul,Nat.add_zero,<-Nat.add_assoc] at this
    exact this
 · exact hw.elim
def Rp (P:Program) (t:TypeId) (e:bL):Bool:=
 match P.underlying t,e with
 |some (.pointer _),.c .lJ=>true
 |some (.slice _),.c .aS=>true
 |some (.map _ _),.c .gS=>true
 |some (.func _ _ _),.c .lK=>true
 |_,_=>false
theorem UY (v:V):bL.ev fr (.c v)=v:=rfl
theorem Em (d:Nat) {t el:TypeId} (hu:P.underlying t=some (.pointer el)) (p:Option Addr) (w:World):(Op.equalIn (d+1) t (.pointer p) (.pointer none)).run P w=.ok p.isNone w:=by
 cases p<;>simp [Op.equalIn,run_underlying hu]
theorem JN (d:Nat) {t kt el:TypeId} (hu:P.underlying t=some (.map kt el)) (p:Option Nat) (w:World):(Op.equalIn (d+1) t (.map p) (.map none)).run P w=.ok p.isNone w:=by
 cases p<;>simp [Op.equalIn,run_underlying hu]
theorem Mb (d:Nat) {t el:TypeId} (hu:P.underlying t=some (.slice el)) (p:Option Addr) (n c:Nat) (w:World):(Op.equalIn (d+1) t (.slice p n c) (.slice none 0 0)).run P w=.ok p.isNone w:=by
 cases p<;>simp [Op.equalIn,run_underlying hu]
theorem GQ (d:Nat) {t:TypeId} {x1:Array TypeId} {x2:Array TypeId} {x3:Bool} (hu:P.underlying t=some (.func x1 x2 x3)) (x:Value) {b:Bool} (w:World) (hb:(match x with|.nilFunc=>some true|.func _ _ _=>some false|_=>none)=some b):(Op.equalIn (d+1) t x .nilFunc).run P w=.ok b w:=by
 cases x<;>simp at hb<;>subst hb<;>simp [Op.equalIn,run_underlying hu]
theorem O9 {t:TypeId} {x y:Value} {neg b:Bool} {op:BinOp} (Ia:op=if neg then .neq else .eql) (Dd:x matches .pointer _|.slice _ _ _|.map _|.func _ _ _|.nilFunc) (h:(Op.equal t x y).run P w=.ok b w):
 (binOp op t x y).run P w=.ok (.bool (if neg then !b else b)) w:=by
 subst Ia
 cases neg<;>cases x<;>simp at Dd<;>simp [binOp,h]
theorem Rq {op:BinOp} {t yt:TypeId} {x y:Operand} {neg b:Bool} (ho:o.op=.binOp op t x y yt) (Ia:op=if neg then .neq else .eql) (Dd:a.eval x matches .pointer _|.slice _ _ _|.map _|.func _ _ _|.nilFunc)
 (aaT:a.eval x=.nilFunc->∀ r,eqGuard op t x y .nilFunc r=pure ())
 (h:(Op.equal t (a.eval x) (a.eval y)).run P w=.ok b w):(execOp a.eval o).run P w=.ok (.value (.bool (if neg then !b else b))) w:=by
 have h1:=O9 Ia Dd h
 have hg:eqGuard op t x y (a.eval x) (a.eval y)=pure ():=by
  cases hv:a.eval x<;>rw [hv] at Dd<;>simp at Dd
  · exact eqGuard_at_pointer _ _ _ _ _ _
  · exact eqGuard_at_slice _ _ _ _ _ _ _ _
  · exact eqGuard_at_map _ _ _ _ _ _
  · exact eqGuard_at_func _ _ _ _ _ _ _ _
  · exact aaT hv _
 exact gF ho hg h1
theorem Rr {op:BinOp} {t yt:TypeId} {x y:Operand} {d e:bL} {neg:Bool} (ho:o.op=.binOp op t x y yt) (Ia:op=if neg then .neq else .eql) (hx:eL x d=true) (hy:eL y e=true) (hn:Rp P t e=true)
 (hs:cH E st w) (hf:bB E N fr a) (hw:(step (.Zv neg d e) fr st).wp (aC P) K) (hc:fV E st w o a next K):o.wp P a w next Q:=by
 have r1:=bG hx hf
 have r2:=bG hy hf
 have fin:∀ b:Bool,(Op.equal t (a.eval x) (a.eval y)).run P w=.ok b w->(a.eval x matches .pointer _|.slice _ _ _|.map _|.func _ _ _|.nilFunc)->K (.b (if neg then !b else b),st)->o.wp P a w next Q:=by
  intro b h hm hk
  exact aX (Rq ho Ia hm (fun _ r=>by cases op<;>rfl) h) (hc.same hs hk (.deep (.b _)))
 have t1:(if neg then !true else true)=!neg:=by cases neg<;>rfl
 have t2:(if neg then !false else false)=neg:=by cases neg<;>rfl
 unfold Rp at hn
 split at hn
 · rename_i el hu
   have Lz:a.eval y=.pointer none:=by
    generalize a.eval y=z at r2
    cases r2 with
    |deep hd=>cases hd
    |lJ=>rfl
   simp only [step,xS,UY] at hw
   split at hw
   · rename_i e1
     rw [e1] at r1
     generalize hv:a.eval x=z at r1
     cases r1 with
     |deep hd=>cases hd
     |lJ=>exact fin true (by rw [hv,Lz];exact Em 9999 hu _ w) (by simp [hv]) (by rw [t1];exact hw)
   · rename_i e1
     rw [e1] at r1
     generalize hv:a.eval x=z at r1
     cases r1 with
     |deep hd=>cases hd
     |p=>exact fin false (by rw [hv,Lz];exact Em 9999 hu _ w) (by simp [hv]) (by rw [t2];exact hw)
   · rename_i e1
     rw [e1] at r1
     generalize hv:a.eval x=z at r1
     cases r1 with
     |deep hd=>cases hd
     |pa=>exact fin false (by rw [hv,Lz];exact Em 9999 hu _ w) (by simp [hv]) (by rw [t2];exact hw)
   · exact hw.elim
 · rename_i el hu
   have Lz:a.eval y=.slice none 0 0:=r2.GO
   have XD:∀ p n c,a.eval x=.slice p n c->(Op.equal t (a.eval x) (a.eval y)).run P w=.ok p.isNone w:=by
    intro p n c h
    rw [h,Lz]
    exact Mb 9999 hu _ _ _ w
   simp only [step,xS,UY] at hw
   split at hw
   · rename_i e1
     rw [e1] at r1
     exact fin true (XD _ _ _ r1.GO) (by simp [r1.GO]) (by rw [t1];exact hw)
   · rename_i tok sz es e1
     rw [e1] at r1
     obtain ⟨p,cap,hv,Dv,hp⟩:=r1.slv
     have hm:a.eval x matches .pointer _|.slice _ _ _|.map _|.func _ _ _|.nilFunc:=by simp [hv]
     split at hw
     · rename_i k
       rcases hp with ⟨_,_,h⟩|⟨bS,off,val,rfl,_⟩
       · cases h
       · exact fin false (XD _ _ _ hv) hm (by rw [t2];exact hw)
     · by_cases Dw:es.isEmpty=true
       · have hw:=hw.1 Dw
         exact fin _ (XD _ _ _ hv) hm (hw _)
       · have hw:=hw.2 (by simpa using Dw)
         rcases hp with ⟨h,_⟩|⟨bS,off,val,rfl,_⟩
         · subst h;simp at Dw
         · exact fin false (XD _ _ _ hv) hm (by rw [t2];exact hw)
   · rename_i k sz off len e1
     rw [e1] at r1
     generalize hv:a.eval x=z at r1
     cases r1 with
     |deep hd=>cases hd
     |ms=>exact fin false (XD _ _ _ hv) (by simp [hv]) (by rw [t2];exact hw)
   · exact hw.elim
 · rename_i kt el hu
   have Lz:a.eval y=.map none:=by
    generalize a.eval y=z at r2
    cases r2 with
    |deep hd=>cases hd
    |gS=>rfl
   simp only [step,xS,UY] at hw
   split at hw
   · rename_i e1
     rw [e1] at r1
     generalize hv:a.eval x=z at r1
     cases r1 with
     |deep hd=>cases hd
     |gS=>exact fin true (by rw [hv,Lz];exact JN 9999 hu _ w) (by simp [hv]) (by rw [t1];exact hw)
   · rename_i e1
     rw [e1] at r1
     generalize hv:a.eval x=z at r1
     cases r1 with
     |deep hd=>cases hd
     |m=>exact fin false (by rw [hv,Lz];exact JN 9999 hu _ w) (by simp [hv]) (by rw [t2];exact hw)
   · exact hw.elim
 · rename_i x1 x2 x3 hu
   have Lz:a.eval y=.nilFunc:=by
    generalize a.eval y=z at r2
    cases r2 with
    |deep hd=>cases hd
    |lK=>rfl
   simp only [step,xS,UY] at hw
   split at hw
   · rename_i e1
     rw [e1] at r1
     generalize hv:a.eval x=z at r1
     cases r1 with
     |deep hd=>cases hd
     |lK=>exact fin true (by rw [hv,Lz];exact GQ 9999 hu _ w rfl) (by simp [hv]) (by rw [t1];exact hw)
   · rename_i e1
     rw [e1] at r1
     generalize hv:a.eval x=z at r1
     cases r1 with
     |deep hd=>cases hd
     |fn=>exact fin false (by rw [hv,Lz];exact GQ 9999 hu _ w rfl) (by simp [hv]) (by rw [t2];exact hw)
   · exact hw.elim
 · cases hn
end
end Go.Eng
