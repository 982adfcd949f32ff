/-
Each operation of the model does what the abstract step says (part ten: lengths, slicing, elements' places, copy, clear, min, max, nil).
-/
import Derived.Test.YtmfelikepmmjkaaGreatY03
import Derived.Laws.Slices
set_option linter.unusedVariables false
set_option linter.unusedSimpArgs false
namespace Go.Eng
open Go
section
variable {P:Program} {o:Oper} {a:Act} {E:Env} {N:Nat} {st:St} {w:World} {fr:Fr} {next:Act->World->Prop} {Q:Exit->Act->World->Prop} {K:R->Prop}
theorem Rel.FI {y:Value} (h:Rel E .aV y):y=.slice none 0 0:=by cases h with|deep h=>cases h;rfl
theorem Rel.slv {tok:Option Key} {sz:Nat} {es:List (List V)} {y:Value} (h:Rel E (.sl tok sz es) y):∃ p cap,y=.slice p es.length cap/\es.length<=cap/\((es=[]/\cap=0/\tok=none)\/
 ∃ (bL off:Nat) (val:Nat->Value),p=some ⟨bL,off,none⟩/\(∀ e∈es,e.length=sz)/\(∀ j d,es.flatten[j]? =some d->E.I bL (off+j)=some (val j))/\(∀ j d,es.flatten[j]? =some d->eT E.I d (val j))/\
  (∀ k,tok=some k->E.has k/\bL=(E.μ k).bL/\(cap=es.length\/(off+es.length*sz=(E.μ k).base/\off+cap*sz=(E.μ k).fin)))):=by
 cases h with
 |deep hd=>
  cases hd with
  |mS=>exact ⟨none,0,rfl,Nat.le_refl _,.inl ⟨rfl,rfl,rfl⟩⟩
  |Kp _ a hs=>exact ⟨some a,0,rfl,Nat.le_refl _,.inl ⟨rfl,rfl,rfl⟩⟩
  |sl _ _ bL off cap val hc hl hv hr=>exact ⟨_,_,rfl,hc,.inr ⟨bL,off,val,rfl,hl,hv,hr,fun k hk=>by cases hk⟩⟩
 |EW k _ _ ad cap hk hd hb hs=>
  cases hd with
  |Kp _ _ hn=>exact absurd hb.2 hn
  |sl _ _ bL off _ val hc hl hv hr=>
   exact ⟨_,_,rfl,hc,.inr ⟨bL,off,val,rfl,hl,hv,hr,fun k' hZ=>by cases hZ;exact ⟨hk,hb.1,hs⟩⟩⟩
theorem uB {x:Operand} {ts:Array TypeId} {v:Value} (ho:o.op=.call { callee:=.builtin .len,args:=#[x],argTypes:=ts })
 (h:(Builtin.len_ ts o.type #[a.eval x]).run P w=.ok v w):(execOp a.eval o).run P w=.ok (.value v) w:=by
 simp [execOp,ho,resolve,invoke,builtin,h,Result.andThen]
theorem Nv {x:Operand} {d:bH} {ts:Array TypeId} {t:TypeId} (ho:o.op=.call { callee:=.builtin .len,args:=#[x],argTypes:=ts }) (ht:ts[0]? =some t) (hu:P.underlying t=some .string) (hx:dY x d=true)
 (hs:b9 E st w) (hf:aY E N fr a) (hw:(step (.GD d) fr st).wp (aB P) K) (hc:fG E st w o a next K):o.wp P a w next Q:=by
 have r1:=bA hx hf
 simp only [step] at hw
 split at hw
 case h_2=>exact hw.elim
 rename_i l e1
 rw [e1] at r1
 have r1:=r1.Ca
 have kD:(str l).size=l.length:=by simp [str,ByteArray.size]
 exact aT (x:=goInt l.length) (uB ho (by simp [Builtin.len_,ht,r1,run_underlying hu,kD])) (hc.same hs hw (.deep (.i _ _)))
theorem Nw {x:Operand} {d:bH} {ts:Array TypeId} {t el:TypeId} (ho:o.op=.call { callee:=.builtin .len,args:=#[x],argTypes:=ts }) (ht:ts[0]? =some t) (hu:P.underlying t=some (.slice el)) (hx:dY x d=true)
 (hs:b9 E st w) (hf:aY E N fr a) (hw:(step (.E8 d) fr st).wp (aB P) K) (hc:fG E st w o a next K):o.wp P a w next Q:=by
 have r1:=bA hx hf
 have dW:∀ p (n c:Nat),a.eval x=.slice p n c->(execOp a.eval o).run P w=.ok (.value (goInt n)) w:=fun p n c h=>uB ho (by simp [Builtin.len_,ht,h,run_underlying hu])
 simp only [step] at hw
 split at hw
 · rename_i e1
   rw [e1] at r1
   exact aT (dW _ _ _ r1.FI) (hc.same hs hw (.deep (.i _ _)))
 · rename_i tok sz es e1
   rw [e1] at r1
   obtain ⟨p,cap,hv,_⟩:=r1.slv
   exact aT (dW _ _ _ hv) (hc.same hs hw (.deep (.i _ _)))
 · rename_i k sz off n e1
   rw [e1] at r1
   generalize hv:a.eval x=y at r1
   cases r1 with
   |deep hd=>cases hd
   |ms=>exact aT (dW _ _ _ hv) (hc.same hs hw (.deep (.i _ _)))
 · exact hw.elim
theorem Nx {x:Operand} {n:Nat} {ts:Array TypeId} {t el:TypeId} (ho:o.op=.call { callee:=.builtin .len,args:=#[x],argTypes:=ts }) (ht:ts[0]? =some t) (hu:P.underlying t=some (.array n el))
 (hs:b9 E st w) (hw:(step (.GF n) fr st).wp (aB P) K) (hc:fG E st w o a next K):o.wp P a w next Q:=
 aT (x:=goInt n) (uB ho (by simp [Builtin.len_,ht,run_underlying hu])) (hc.same hs hw (.deep (.i _ _)))
theorem Ny {x:Operand} {d:bH} {ts:Array TypeId} {t kt el:TypeId} (ho:o.op=.call { callee:=.builtin .len,args:=#[x],argTypes:=ts }) (ht:ts[0]? =some t) (hu:P.underlying t=some (.map kt el)) (hx:dY x d=true)
 (hs:b9 E st w) (hf:aY E N fr a) (hw:(step (.GG d) fr st).wp (aB P) K) (hc:fG E st w o a next K):o.wp P a w next Q:=by
 have r1:=bA hx hf
 simp only [step] at hw
 split at hw
 · rename_i e1
   rw [e1] at r1
   generalize hv:a.eval x=y at r1
   cases r1 with
   |deep hd=>cases hd
   |gC=>exact aT (x:=goInt (0:Nat)) (uB ho (by simp [Builtin.len_,ht,hv,run_underlying hu])) (hc.same hs hw (.deep (.i _ _)))
 · rename_i k e1
   rw [e1] at r1
   obtain ⟨ob,eC,hw⟩:=hw
   dsimp only at hw
   split at hw
   case h_2=>exact hw.elim
   rename_i kd es
   generalize hv:a.eval x=y at r1
   cases r1 with
   |deep hd=>cases hd
   |m _ hk=>
    obtain ⟨bO,clock,q1,q2,_⟩:=hs.obj k _ eC
    refine aT (x:=goInt es.length) (uB ho ?_) (hc.same hs hw (.deep (.i _ _)))
    simp [Builtin.len_,ht,hv,run_underlying hu,getObj,Sem.run,q1,q2]
 · exact hw.elim
theorem dX {lo:Option Operand} {d:Option bH} (hl:tT lo d=true) (hf:aY E N fr a) {n l:Int} (h:eH (bH.Cq fr d) n=some l):
 (lo.map a.eval=none/\bH.Cq fr d=none/\l=n)\/∃ k,lo.map a.eval=some (.int k l):=by
 rcases Ib hf hl with ⟨h1,h2⟩|⟨y,v,h1,h2,h3⟩
 · rw [h2] at h
   simp only [eH,Option.some.injEq] at h
   exact .inl ⟨by rw [h1];rfl,h2,h.symm⟩
 · rw [h2] at h
   simp only [eH] at h
   cases v<;>simp only [tP,Option.some.injEq,reduceCtorEq] at h
   subst h
   have h3:=h3.int
   subst h3
   exact .inr ⟨_,h1⟩
theorem oW (isSlice:Bool) (len cap:Nat) {lo hi:Option Value} {l h:Int} (hh:(hi=none/\h=len)\/∃ k,hi=some (.int k h)) (hl:(lo=none/\l=0)\/∃ k,lo=some (.int k l))
 (h0:0<=l) (h1:l<=h) (h2:h<=cap):(Instr.sliceBounds isSlice len cap lo hi none).run P w=.ok (l.toNat,h.toNat,cap) w:=by
 have Mb:l<=(h.toNat:Int):=by omega
 have h00:0<=h:=by omega
 have hmx:max h 0=h:=by omega
 have rX:¬h<l:=by omega
 rcases hh with ⟨rfl,rfl⟩|⟨k,rfl⟩<;>rcases hl with ⟨rfl,rfl⟩|⟨k',rfl⟩<;>simp [Instr.sliceBounds,run_sliceBound,h0,h1,h2,h00,hmx]
theorem KH {t:TypeId} {x:Operand} {lo hi:Option Operand} {d:bH} {l h:Option bH} (ho:o.op=.slice t x lo hi none) (hu:P.underlying t=some .string) (hx:dY x d=true) (PI:tT lo l=true) (Ux:tT hi h=true)
 (hs:b9 E st w) (hf:aY E N fr a) (hw:(step (.y8 d l h) fr st).wp (aB P) K) (hc:fG E st w o a next K):o.wp P a w next Q:=by
 have r1:=bA hx hf
 simp only [step] at hw
 split at hw
 case h_2=>exact hw.elim
 rename_i y e1
 rw [e1] at r1
 have r1:=r1.Ca
 unfold T.opt at hw
 split at hw
 case h_2=>exact hw.elim
 rename_i h' SR
 split at hw
 case h_2=>exact hw.elim
 rename_i l' wZ
 obtain ⟨tM,hw⟩:=hw
 simp only [Bool.and_eq_true,decide_eq_true_eq] at tM
 obtain ⟨⟨c1,c2⟩,c3⟩:=tM
 have kD:(str y).size=y.length:=by simp [str,ByteArray.size]
 have b1:=dX Ux hf SR
 have b2:=dX PI hf wZ
 have hb:=oW (P:=P) (w:=w) false y.length y.length (lo:=lo.map a.eval) (hi:=hi.map a.eval) (l:=l') (h:=h') (b1.imp (fun q=>⟨q.1,q.2.2⟩) id) (b2.imp (fun q=>⟨q.1,q.2.2⟩) id) c1 c2 c3
 refine aT (x:=.string (str ((y.take h'.toNat).drop l'.toNat))) ?_ (hc.same hs hw (.deep (.s _)))
 have he:(str y).extract l'.toNat h'.toNat=str ((y.take h'.toNat).drop l'.toNat):=by
  apply ByteArray.ext
  apply Array.ext'
  simp only [ByteArray.data_extract,str,Array.toList_extract]
  simp [List.drop_take]
 simp [execOp,ho,r1,Instr.sliceAt,Instr.slice,run_underlying hu,kD,hb,he]
theorem Nz {t el:TypeId} {x:Operand} {lo hi:Option Operand} {d:bH} {l h:Option bH} {sz:Nat} (ho:o.op=.slice t x lo hi none) (hu:P.underlying t=some (.slice el)) (hz:(P.info? el).map (·.size)=some sz) (Ii:0<sz)
 (hx:dY x d=true) (PI:tT lo l=true) (Ux:tT hi h=true)
 (hs:b9 E st w) (hf:aY E N fr a) (hw:(step (.wM sz d l h none) fr st).wp (aB P) K) (hc:fG E st w o a next K):o.wp P a w next Q:=by
 have r1:=bA hx hf
 cases hq:P.info? el with
 |none=>simp [hq] at hz
 |some i=>
 have L8:i.size=sz:=by simpa [hq] using hz
 have dW:∀ {p:Option Addr} {len cap:Nat} {l' h':Int},a.eval x=.slice p len cap->(Instr.sliceBounds true len cap (lo.map a.eval) (hi.map a.eval) none).run P w=.ok (l'.toNat,h'.toNat,cap) w->
  (execOp a.eval o).run P w=.ok (.value (.slice (if cap=l'.toNat then p else p.map (·.add (l'.toNat*sz))) (h'.toNat - l'.toNat) (cap - l'.toNat))) w:=by
  intro p len cap l' h' hv hb
  simp [execOp,ho,hv,Instr.sliceAt,Instr.slice,run_underlying hu,hb,sizeOf,typeInfo,hq,L8]
 simp only [step] at hw
 split at hw
 · rename_i e1
   rw [e1] at r1
   have r1:=r1.FI
   unfold T.opt at hw
   split at hw
   case h_2=>exact hw.elim
   rename_i h' SR
   split at hw
   case h_2=>exact hw.elim
   rename_i l' wZ
   obtain ⟨tM,hw⟩:=hw
   simp only [Bool.and_eq_true,decide_eq_true_eq] at tM
   obtain ⟨rfl,rfl⟩:=tM
   have b1:=dX Ux hf SR
   have b2:=dX PI hf wZ
   have hb:=oW (P:=P) (w:=w) true 0 0 (lo:=lo.map a.eval) (hi:=hi.map a.eval) (l:=0) (h:=0) (b1.imp (fun q=>⟨q.1,q.2.2⟩) id) (b2.imp (fun q=>⟨q.1,q.2.2⟩) id) (by omega) (by omega) (by omega)
   exact aT (dW r1 hb) (hc.same hs hw (by simpa using Rel.deep .aV))
 · rename_i tok dS es e1
   rw [e1] at r1
   split at hw
   case isFalse=>exact hw.elim
   rename_i Dg
   subst Dg
   obtain ⟨p,cap,hv,Cw,hp⟩:=r1.slv
   split at hw
   · -- Mc an upper bound
     rename_i Iu
     unfold T.opt at hw
     split at hw
     case h_2=>exact hw.elim
     rename_i l' wZ
     obtain ⟨tM,hw⟩:=hw
     simp only [Bool.and_eq_true,decide_eq_true_eq] at tM
     obtain ⟨c1,c2⟩:=tM
     have b2:=dX PI hf wZ
     have Md:hi.map a.eval=none:=by
      rcases Ib hf Ux with ⟨h1,_⟩|⟨_,_,_,h2,_⟩
      · rw [h1];rfl
      · rw [Iu] at h2;cases h2
     have hb:=oW (P:=P) (w:=w) true es.length cap (lo:=lo.map a.eval) (hi:=hi.map a.eval) (l:=l') (h:=(es.length:Int)) (.inl ⟨Md,rfl⟩) (b2.imp (fun q=>⟨q.1,q.2.2⟩) id) c1 c2 (by omega)
     have XD:l'.toNat<=es.length:=by omega
     have hlen:(es.length:Int).toNat - l'.toNat=(es.drop l'.toNat).length:=by simp
     refine aT (dW hv hb) (hc.same hs hw ?_)
     rw [hlen]
     rcases hp with ⟨rfl,rfl,rfl⟩|⟨bL,off,val,rfl,hl,PJ,Ph,kQ⟩
     · have:l'.toNat=0:=by simpa using XD
       rw [this]
       exact .deep (.Cr _ _)
     · have rW:∀ e∈es.drop l'.toNat,e.length=dS:=fun e he=>hl e (List.mem_of_mem_drop he)
       by_cases nC:cap=l'.toNat
       · have Dh:es.drop l'.toNat=[]:=List.drop_eq_nil_of_le (by omega)
         rw [if_pos nC,nC,Nat.sub_self,Dh]
         have hd:eT E.I (.sl none dS []) (.slice (some ⟨bL,off,none⟩) 0 0):=.sl dS [] bL off 0 (fun _=>default) (Nat.le_refl _) (fun e he=>by cases he) (fun j d hj=>by simp at hj) (fun j d hj=>by simp at hj)
         cases tok with
         |none=>exact .deep hd
         |some k=>
          obtain ⟨k1,k2,k3⟩:=kQ k rfl
          exact .EW _ _ _ _ _ k1 hd ⟨k2,rfl⟩ (.inl rfl)
       · rw [if_neg nC]
         have KC:=mA hl l'.toNat
         have hd:eT E.I (.sl none dS (es.drop l'.toNat)) (.slice (some ⟨bL,off+l'.toNat*dS,none⟩) (es.drop l'.toNat).length (cap - l'.toNat)):=by
          refine .sl dS _ bL (off+l'.toNat*dS) _ (fun j=>val (l'.toNat*dS+j)) (by simp;omega) rW (fun j d hj=>?_) (fun j d hj=>?_)
          · rw [KC,List.getElem?_drop] at hj
            rw [Nat.add_assoc];exact PJ _ d hj
          · rw [KC,List.getElem?_drop] at hj
            exact Ph _ d hj
         simp only [Option.map_some,Addr.add_lit]
         cases tok with
         |none=>exact .deep hd
         |some k=>
          obtain ⟨k1,k2,k3⟩:=kQ k rfl
          refine .EW _ _ _ _ _ k1 hd ⟨k2,rfl⟩ ?_
          rw [List.length_drop]
          rcases k3 with k3|⟨k3,k4⟩
          · exact .inl (by omega)
          · refine .inr ⟨?_,?_⟩
            · simp only [Nat.sub_mul]
              have:l'.toNat*dS<=es.length*dS:=Nat.mul_le_mul_right _ XD
              omega
            · simp only [Nat.sub_mul]
              have:l'.toNat*dS<=cap*dS:=Nat.mul_le_mul_right _ (by omega)
              omega
   · rename_i v Iv
     unfold T.opt at hw
     split at hw
     case h_2=>exact hw.elim
     rename_i h' SR
     split at hw
     case h_2=>exact hw.elim
     rename_i l' wZ
     obtain ⟨tM,hw⟩:=hw
     simp only [Bool.and_eq_true,decide_eq_true_eq] at tM
     obtain ⟨⟨c1,c2⟩,c3⟩:=tM
     have b1:=dX (n:=0) (l:=h') Ux hf (by rw [Iv];exact SR)
     have b1:∃ k,hi.map a.eval=some (.int k h'):=by
      rcases b1 with ⟨_,q,_⟩|q
      · rw [Iv] at q;cases q
      · exact q
     have b2:=dX PI hf wZ
     have hb:=oW (P:=P) (w:=w) true es.length cap (lo:=lo.map a.eval) (hi:=hi.map a.eval) (l:=l') (h:=h') (.inr b1) (b2.imp (fun q=>⟨q.1,q.2.2⟩) id) c1 c2 (by omega)
     have hlen:h'.toNat - l'.toNat=((es.take h'.toNat).drop l'.toNat).length:=by simp;omega
     refine aT (dW hv hb) (hc.same hs hw ?_)
     rw [hlen]
     rcases hp with ⟨rfl,rfl,rfl⟩|⟨bL,off,val,rfl,hl,PJ,Ph,kQ⟩
     · simp only [List.take_nil,List.drop_nil,List.length_nil,Nat.zero_sub]
       exact .deep (.Cr _ _)
     · have cL:∀ e∈es.take h'.toNat,e.length=dS:=fun e he=>hl e (List.mem_of_mem_take he)
       have rW:∀ e∈(es.take h'.toNat).drop l'.toNat,e.length=dS:=fun e he=>cL e (List.mem_of_mem_drop he)
       by_cases nC:cap=l'.toNat
       · have Dh:(es.take h'.toNat).drop l'.toNat=[]:=List.drop_eq_nil_of_le (by simp;omega)
         rw [if_pos nC,nC,Nat.sub_self,Dh]
         exact .deep (.sl dS [] bL off 0 (fun _=>default) (Nat.le_refl _) (fun e he=>by cases he) (fun j d hj=>by simp at hj) (fun j d hj=>by simp at hj))
       · rw [if_neg nC]
         have KC:∀ j d,((es.take h'.toNat).drop l'.toNat).flatten[j]? =some d->es.flatten[l'.toNat*dS+j]? =some d:=by
          intro j d hj
          rw [mA cL,lZ hl,List.getElem?_drop,List.getElem?_take] at hj
          split at hj
          · exact hj
          · cases hj
         simp only [Option.map_some,Addr.add_lit]
         refine .deep (.sl dS _ bL (off+l'.toNat*dS) _ (fun j=>val (l'.toNat*dS+j)) (by simp;omega) rW (fun j d hj=>?_) (fun j d hj=>?_))
         · rw [Nat.add_assoc];exact PJ _ d (KC j d hj)
         · exact Ph _ d (KC j d hj)
 · rename_i k dS off len e1
   rw [e1] at r1
   split at hw
   case isFalse=>exact hw.elim
   rename_i Dg
   subst Dg
   unfold T.opt at hw
   split at hw
   case h_2=>exact hw.elim
   rename_i h' SR
   split at hw
   case h_2=>exact hw.elim
   rename_i l' wZ
   obtain ⟨ob,eC,hw⟩:=hw
   dsimp only at hw
   split at hw
   case h_2=>exact hw.elim
   rename_i eJ es
   split at hw
   case isFalse=>exact hw.elim
   rename_i Dg
   subst Dg
   obtain ⟨tM,hw⟩:=hw
   simp only [Bool.and_eq_true,decide_eq_true_eq] at tM
   obtain ⟨⟨c1,c2⟩,c3⟩:=tM
   have b1:=dX Ux hf SR
   have b2:=dX PI hf wZ
   generalize hv:a.eval x=y at r1
   cases r1 with
   |deep hd=>cases hd
   |ms _ _ _ _ ad cap hk Cw hh Cv ha=>
    obtain ⟨hl,cells,ty,fz,q1,q2,q3,q4,q5⟩:=hs.obj k _ eC
    have pR:=cU hl
    have nC:es.length<=off+cap:=by
     have:es.length*eJ<=(off+cap)*eJ:=by omega
     exact Nat.le_of_mul_le_mul_right this Ii
    have hb:=oW (P:=P) (w:=w) true len cap (lo:=lo.map a.eval) (hi:=hi.map a.eval) (l:=l') (h:=h') (b1.imp (fun q=>⟨q.1,q.2.2⟩) id) (b2.imp (fun q=>⟨q.1,q.2.2⟩) id) c1 c2 (by omega)
    refine aT (dW hv hb) (hc.same hs hw ?_)
    have e0:(if cap=l'.toNat then some ad else Option.map (fun x:Addr=>x.add (l'.toNat*eJ)) (some ad))=some (if cap=l'.toNat then ad else ad.add (l'.toNat*eJ)):=by split<;>rfl
    rw [e0]
    refine .ms _ _ _ _ _ _ hk (by omega) ?_ ?_ ?_
    · rw [<-hh]
      congr 2
      omega
    · split
      · exact Cv
      · simp only [Addr.add]
        split<;>exact Cv
    · by_cases ac5:cap=l'.toNat
      · exact .inl (by omega)
      · rw [if_neg ac5]
        refine .inr ?_
        rcases ha with h|h
        · omega
        · rw [h,Addr.add_lit,Nat.add_mul]
          congr 1;omega
 · exact hw.elim
theorem NA {t el:TypeId} {x y:Operand} {d c:bH} {sz:Nat} (ho:o.op=.indexAddr t x y) (hx:dY x d=true) (hy:dY y c=true)
 (hu:P.underlying t=some (.slice el)) (hz:(P.info? el).map (·.size)=some sz)
 (hs:b9 E st w) (hf:aY E N fr a) (hw:(step (.E7 sz d c) fr st).wp (aB P) K) (hc:fG E st w o a next K):o.wp P a w next Q:=by
 have r1:=bA hx hf
 have r2:=bA hy hf
 cases hq:P.info? el with
 |none=>simp [hq] at hz
 |some i=>
 have hi:i.size=sz:=by simpa [hq] using hz
 simp only [step] at hw
 split at hw
 case h_2=>exact hw.elim
 rename_i kd n e2
 rw [e2] at r2
 have r2:=r2.int
 have dW:∀ {p:Addr} {len cap:Nat},a.eval x=.slice (some p) len cap->0<=n->n<len->(execOp a.eval o).run P w=.ok (.value (.pointer (some (p.add (n.toNat*sz))))) w:=by
  intro p len cap hv h0 h1
  simp [execOp,ho,hv,r2,Instr.indexAt,asIntOf,run_underlying hu,sizeOf,typeInfo,hq,hi,h0,h1]
 split at hw
 · rename_i tok dS es e1
   rw [e1] at r1
   split at hw
   case isFalse=>exact hw.elim
   rename_i Dg
   subst Dg
   obtain ⟨lQ,e,he,hw⟩:=hw
   rw [vN] at lQ
   have cL:n.toNat<es.length:=(List.getElem?_eq_some_iff.1 he).1
   obtain ⟨p,cap,hv,Cw,hp⟩:=r1.slv
   rcases hp with ⟨rfl,rfl,rfl⟩|⟨bL,off,val,rfl,hl,PJ,Ph,kQ⟩
   · simp at cL
   · refine aT (dW hv lQ.1 lQ.2) (hc.same hs hw ?_)
     rw [Addr.add_lit]
     have mN:e.length=dS:=hl e (List.mem_of_getElem? he)
     have hfg:∀ j d,e[j]? =some d->es.flatten[n.toNat*dS+j]? =some d:=by
      intro j d hj
      have Kb:j<dS:=by
       have:=(List.getElem?_eq_some_iff.1 hj).1
       omega
      rw [oT hl he Kb];exact hj
     exact .pc e 0 bL (off+n.toNat*dS) (fun j=>val (n.toNat*dS+j)) (fun j d hj=>by rw [Nat.add_assoc];exact PJ _ d (hfg j d hj)) (fun j d hj=>Ph _ d (hfg j d hj))
 · rename_i k dS off len e1
   rw [e1] at r1
   split at hw
   case isFalse=>exact hw.elim
   rename_i Dg
   subst Dg
   obtain ⟨lQ,hw⟩:=hw
   rw [vN] at lQ
   generalize hv:a.eval x=y at r1
   cases r1 with
   |deep hd=>cases hd
   |ms _ _ _ _ ad cap hk Cw hh Cv ha=>
    have ha:ad=⟨(E.μ k).bL,(E.μ k).base+off*dS,none⟩:=by
     rcases ha with h|h
     · omega
     · exact h
    subst ha
    refine aT (dW hv lQ.1 lQ.2) (hc.same hs hw ?_)
    rw [Addr.add_lit]
    have:=Rel.pa (E:=E) k dS (off+n.toNat) 0 hk
    rw [Nat.add_mul,Nat.add_zero,<-Nat.add_assoc] at this
    exact this
 · exact hw.elim
def PK (P:Program) (t:TypeId) (e:bH):Bool:=
 match P.underlying t,e with
 |some (.pointer _),.c .kE=>true
 |some (.slice _),.c .aV=>true
 |some (.map _ _),.c .gC=>true
 |some (.func _ _ _),.c .kG=>true
 |_,_=>false
theorem SU (v:V):bH.ev fr (.c v)=v:=rfl
theorem Di (d:Nat) {t el:TypeId} (hu:P.underlying t=some (.pointer el)) (p:Option Addr) (w:World):(Op.equalIn (d+1) t (.pointer p) (.pointer none)).run P w=.ok p.isNone w:=by
 cases p<;>simp [Op.equalIn,run_underlying hu]
theorem Iw (d:Nat) {t kt el:TypeId} (hu:P.underlying t=some (.map kt el)) (p:Option Nat) (w:World):(Op.equalIn (d+1) t (.map p) (.map none)).run P w=.ok p.isNone w:=by
 cases p<;>simp [Op.equalIn,run_underlying hu]
theorem KI (d:Nat) {t el:TypeId} (hu:P.underlying t=some (.slice el)) (p:Option Addr) (n c:Nat) (w:World):(Op.equalIn (d+1) t (.slice p n c) (.slice none 0 0)).run P w=.ok p.isNone w:=by
 cases p<;>simp [Op.equalIn,run_underlying hu]
theorem FJ (d:Nat) {t:TypeId} {x1:Array TypeId} {x2:Array TypeId} {x3:Bool} (hu:P.underlying t=some (.func x1 x2 x3)) (x:Value) {b:Bool} (w:World) (hb:(match x with|.nilFunc=>some true|.func _ _ _=>some false|_=>none)=some b):(Op.equalIn (d+1) t x .nilFunc).run P w=.ok b w:=by
 cases x<;>simp at hb<;>subst hb<;>simp [Op.equalIn,run_underlying hu]
theorem NB {t:TypeId} {x y:Value} {neg b:Bool} {op:BinOp} (GW:op=if neg then .neq else .eql) (Cg:x matches .pointer _|.slice _ _ _|.map _|.func _ _ _|.nilFunc) (h:(Op.equal t x y).run P w=.ok b w):
 (binOp op t x y).run P w=.ok (.bool (if neg then !b else b)) w:=by
 subst GW
 cases neg<;>cases x<;>simp at Cg<;>simp [binOp,h]
theorem PL {op:BinOp} {t yt:TypeId} {x y:Operand} {neg b:Bool} (ho:o.op=.binOp op t x y yt) (GW:op=if neg then .neq else .eql) (Cg:a.eval x matches .pointer _|.slice _ _ _|.map _|.func _ _ _|.nilFunc)
 (Yr:a.eval x=.nilFunc->∀ r,eqGuard op t x y .nilFunc r=pure ())
 (h:(Op.equal t (a.eval x) (a.eval y)).run P w=.ok b w):(execOp a.eval o).run P w=.ok (.value (.bool (if neg then !b else b))) w:=by
 have h1:=NB GW Cg h
 have hg:eqGuard op t x y (a.eval x) (a.eval y)=pure ():=by
  cases hv:a.eval x<;>rw [hv] at Cg<;>simp at Cg
  · exact eqGuard_at_pointer _ _ _ _ _ _
  · exact eqGuard_at_slice _ _ _ _ _ _ _ _
  · exact eqGuard_at_map _ _ _ _ _ _
  · exact eqGuard_at_func _ _ _ _ _ _ _ _
  · exact Yr hv _
 exact fN ho hg h1
theorem PM {op:BinOp} {t yt:TypeId} {x y:Operand} {d e:bH} {neg:Bool} (ho:o.op=.binOp op t x y yt) (GW:op=if neg then .neq else .eql) (hx:dY x d=true) (hy:dY y e=true) (hn:PK P t e=true)
 (hs:b9 E st w) (hf:aY E N fr a) (hw:(step (.XA neg d e) fr st).wp (aB P) K) (hc:fG E st w o a next K):o.wp P a w next Q:=by
 have r1:=bA hx hf
 have r2:=bA hy hf
 have fin:∀ b:Bool,(Op.equal t (a.eval x) (a.eval y)).run P w=.ok b w->(a.eval x matches .pointer _|.slice _ _ _|.map _|.func _ _ _|.nilFunc)->K (.b (if neg then !b else b),st)->o.wp P a w next Q:=by
  intro b h hm hk
  exact aT (PL ho GW hm (fun _ r=>by cases op<;>rfl) h) (hc.same hs hk (.deep (.b _)))
 have t1:(if neg then !true else true)=!neg:=by cases neg<;>rfl
 have t2:(if neg then !false else false)=neg:=by cases neg<;>rfl
 unfold PK at hn
 split at hn
 · rename_i el hu
   have Ke:a.eval y=.pointer none:=by
    generalize a.eval y=z at r2
    cases r2 with
    |deep hd=>cases hd
    |kE=>rfl
   simp only [step,vJ,SU] at hw
   split at hw
   · rename_i e1
     rw [e1] at r1
     generalize hv:a.eval x=z at r1
     cases r1 with
     |deep hd=>cases hd
     |kE=>exact fin true (by rw [hv,Ke];exact Di 9999 hu _ w) (by simp [hv]) (by rw [t1];exact hw)
   · rename_i e1
     rw [e1] at r1
     generalize hv:a.eval x=z at r1
     cases r1 with
     |deep hd=>cases hd
     |p=>exact fin false (by rw [hv,Ke];exact Di 9999 hu _ w) (by simp [hv]) (by rw [t2];exact hw)
   · rename_i e1
     rw [e1] at r1
     generalize hv:a.eval x=z at r1
     cases r1 with
     |deep hd=>cases hd
     |pa=>exact fin false (by rw [hv,Ke];exact Di 9999 hu _ w) (by simp [hv]) (by rw [t2];exact hw)
   · exact hw.elim
 · rename_i el hu
   have Ke:a.eval y=.slice none 0 0:=r2.FI
   have VD:∀ p n c,a.eval x=.slice p n c->(Op.equal t (a.eval x) (a.eval y)).run P w=.ok p.isNone w:=by
    intro p n c h
    rw [h,Ke]
    exact KI 9999 hu _ _ _ w
   simp only [step,vJ,SU] at hw
   split at hw
   · rename_i e1
     rw [e1] at r1
     exact fin true (VD _ _ _ r1.FI) (by simp [r1.FI]) (by rw [t1];exact hw)
   · rename_i tok sz es e1
     rw [e1] at r1
     obtain ⟨p,cap,hv,Cw,hp⟩:=r1.slv
     have hm:a.eval x matches .pointer _|.slice _ _ _|.map _|.func _ _ _|.nilFunc:=by simp [hv]
     split at hw
     · rename_i k
       rcases hp with ⟨_,_,h⟩|⟨bL,off,val,rfl,_⟩
       · cases h
       · exact fin false (VD _ _ _ hv) hm (by rw [t2];exact hw)
     · by_cases BA:es.isEmpty=true
       · have hw:=hw.1 BA
         exact fin _ (VD _ _ _ hv) hm (hw _)
       · have hw:=hw.2 (by simpa using BA)
         rcases hp with ⟨h,_⟩|⟨bL,off,val,rfl,_⟩
         · subst h;simp at BA
         · exact fin false (VD _ _ _ hv) hm (by rw [t2];exact hw)
   · rename_i k sz off len e1
     rw [e1] at r1
     generalize hv:a.eval x=z at r1
     cases r1 with
     |deep hd=>cases hd
     |ms=>exact fin false (VD _ _ _ hv) (by simp [hv]) (by rw [t2];exact hw)
   · exact hw.elim
 · rename_i kt el hu
   have Ke:a.eval y=.map none:=by
    generalize a.eval y=z at r2
    cases r2 with
    |deep hd=>cases hd
    |gC=>rfl
   simp only [step,vJ,SU] at hw
   split at hw
   · rename_i e1
     rw [e1] at r1
     generalize hv:a.eval x=z at r1
     cases r1 with
     |deep hd=>cases hd
     |gC=>exact fin true (by rw [hv,Ke];exact Iw 9999 hu _ w) (by simp [hv]) (by rw [t1];exact hw)
   · rename_i e1
     rw [e1] at r1
     generalize hv:a.eval x=z at r1
     cases r1 with
     |deep hd=>cases hd
     |m=>exact fin false (by rw [hv,Ke];exact Iw 9999 hu _ w) (by simp [hv]) (by rw [t2];exact hw)
   · exact hw.elim
 · rename_i x1 x2 x3 hu
   have Ke:a.eval y=.nilFunc:=by
    generalize a.eval y=z at r2
    cases r2 with
    |deep hd=>cases hd
    |kG=>rfl
   simp only [step,vJ,SU] at hw
   split at hw
   · rename_i e1
     rw [e1] at r1
     generalize hv:a.eval x=z at r1
     cases r1 with
     |deep hd=>cases hd
     |kG=>exact fin true (by rw [hv,Ke];exact FJ 9999 hu _ w rfl) (by simp [hv]) (by rw [t1];exact hw)
   · rename_i e1
     rw [e1] at r1
     generalize hv:a.eval x=z at r1
     cases r1 with
     |deep hd=>cases hd
     |fn=>exact fin false (by rw [hv,Ke];exact FJ 9999 hu _ w rfl) (by simp [hv]) (by rw [t2];exact hw)
   · exact hw.elim
 · cases hn
end
open Go
section
variable {P:Program} {o:Oper} {a:Act} {E:Env} {N:Nat} {st:St} {w:World} {fr:Fr} {next:Act->World->Prop} {Q:Exit->Act->World->Prop} {K:R->Prop}
theorem iK.take {cs:List V} {xs:List Value} (hr:iK E cs xs) (n:Nat):iK E (cs.take n) (xs.take n):=by
 intro j v hj
 rw [List.getElem?_take] at hj ⊢
 split at hj
 · rename_i h
   rw [if_pos h]
   exact hr j v hj
 · cases hj
theorem fJ:Rel E (.bY []) (.tuple #[]):=.bY _ _ rfl (fun j v x hj=>by simp at hj)
theorem b9.Ys (hs:b9 E st w) {k:Key} {sz:Nat} {es ds:List (List V)} (eC:st.get k=some (.arr sz es)) {xs:List Value} {off:Nat} (hd:∀ e∈ds,e.length=sz) (eB:off+ds.length<=es.length)
 (KE:xs.length=ds.length*sz) (hr:iK (E.H2 k.qK) ds.flatten xs) (h1:∀ x∈xs,x.oneCell'=true):
 b9 E (st.set k (.arr sz (es.take off++ds++es.drop (off+ds.length)))) (w.setCells (E.μ k).bL ((E.μ k).base+off*sz) xs)/\
 Ext E st w E (st.set k (.arr sz (es.take off++ds++es.drop (off+ds.length)))) (w.setCells (E.μ k).bL ((E.μ k).base+off*sz) xs)/\
 w.there (E.μ k).bL ((E.μ k).base+off*sz) xs.length:=by
 obtain ⟨hl,cells,ty,fz,r1,r2,r3,r4,r5⟩:=hs.obj k _ eC
 have pR:=cU hl
 have KC:=cU hd
 have OR:(off+ds.length)*sz<=es.length*sz:=Nat.mul_le_mul_right _ eB
 rw [Nat.add_mul] at OR
 have Kv:=Ma hl hd eB
 have dH:=gR.written r1 r2 r3 r4 r5 (off:=off*sz) (vs:=ds.flatten) (xs:=xs) (by rw [Env.x6];exact hr.Yi (by rw [KE,KC])) h1 (by omega)
 rw [<-Kv] at dH
 have rW:∀ e∈es.take off++ds++es.drop (off+ds.length),e.length=sz:=by
  intro e he
  rcases List.mem_append.1 he with h|h
  · rcases List.mem_append.1 h with h|h
    · exact hl e (List.mem_of_mem_take h)
    · exact hd e h
  · exact hl e (List.mem_of_mem_drop h)
 obtain ⟨s1,s2⟩:=hs.write eC r1 r4 (pos:=(E.μ k).base+off*sz) (xs:=xs) (by omega) (by omega) (.arr sz (es.take off++ds++es.drop (off+ds.length))) ⟨rW,dH⟩
 exact ⟨s1,s2,Row.there r1 r2 (by omega)⟩
theorem uC {b c:Nat} {xs:List Value} (ht:w.there b c xs.length) (h1:∀ y∈xs,y.oneCell'=true):(storeCells ⟨b,c,none⟩ xs).run P w=.ok () (w.setCells b c xs):=by
 have:=run_storeCells_cells (P:=P) b c xs 0 w (fun j hj=>by simpa using (ht j hj).1) (fun j hj=>by simpa using (ht j hj).2) h1
 simpa using this
theorem NC {x y:Operand} {d e:bH} {ts:Array TypeId} {t el:TypeId} {sz:Nat} (ho:o.op=.call { callee:=.builtin .copy,args:=#[x,y],argTypes:=ts }) (ht:ts[0]? =some t) (hu:P.underlying t=some (.slice el))
 (hz:(P.info? el).map (·.size)=some sz) (hx:dY x d=true) (hy:dY y e=true)
 (hs:b9 E st w) (hf:aY E N fr a) (hw:(step (.copy sz d e) fr st).wp (aB P) K) (hc:fG E st w o a next K):o.wp P a w next Q:=by
 have r1:=bA hx hf
 have r2:=bA hy hf
 cases hq:P.info? el with
 |none=>simp [hq] at hz
 |some i=>
 have hi:i.size=sz:=by simpa [hq] using hz
 simp only [step] at hw
 obtain ⟨src,xs,hw,qT⟩:=elems_ok (P:=P) hs r2 hw
 split at hw
 case h_2=>exact hw.elim
 rename_i k dS off len e1
 rw [e1] at r1
 split at hw
 case isFalse=>exact hw.elim
 rename_i Dg
 subst Dg
 obtain ⟨ds,jY,ob,eC,hw⟩:=hw
 dsimp only at hw
 split at hw
 case h_2=>exact hw.elim
 rename_i eJ es
 split at hw
 case isFalse=>exact hw.elim
 rename_i Dg
 subst Dg
 obtain ⟨eB,hw⟩:=hw
 have eB:off+len<=es.length:=by simpa using eB
 obtain ⟨EY,Fe,Ik⟩:=mP jY
 have cL:∀ e∈src.take len,e.length=eJ:=fun e he=>qT.KB e (List.mem_of_mem_take he)
 have Ik:=Ik cL
 have hn:ds.length=min len src.length:=by rw [Fe,List.length_take]
 have KE:(xs.take (ds.length*eJ)).length=ds.length*eJ:=by
  rw [List.length_take,qT.Db]
  have:ds.length*eJ<=src.length*eJ:=Nat.mul_le_mul_right _ (by omega)
  omega
 have kQ:src.take len=src.take ds.length:=by rw [hn,Nat.min_comm,List.take_eq_take_iff];omega
 have Ph:iK E (src.take len).flatten (xs.take (ds.length*eJ)):=by
  rw [kQ,lZ qT.KB]
  exact qT.rel.take _
 have mQ:=Ph.own EY (by rw [KE,cU cL,List.length_take,hn])
 have h1:∀ y∈xs.take (ds.length*eJ),y.oneCell'=true:=fun y hy=>qT.one y (List.mem_of_mem_take hy)
 obtain ⟨s1,s2,s3⟩:=hs.Ys eC Ik (off:=off) (by omega) KE mQ h1
 have Cd:=qT.first w rfl ds.length (by omega)
 have hlen:=qT.len w
 generalize hv:a.eval x=y at r1
 cases r1 with
 |deep hd=>cases hd
 |ms _ _ _ _ ad cap hk Cw hh Cv ha=>
 refine aT (x:=goInt ds.length) ?_ (hc _ _ E _ _ hw s1 s2 (.deep (.i _ _)))
 have ac6:Nat.min src.length len=ds.length:=by rw [hn];exact Nat.min_comm _ _
 have vO:(storeCells ad (xs.take (ds.length*eJ))).run P w=.ok () (w.setCells (E.μ k).bL ((E.μ k).base+off*eJ) (xs.take (ds.length*eJ))):=by
  rcases ha with h|h
  · have hn0:ds.length=0:=by omega
    have h0:xs.take (ds.length*eJ)=[]:=by simp [hn0]
    rw [h0];rfl
  · subst h
    exact uC s3 h1
 simp [execOp,ho,resolve,invoke,builtin,Builtin.copy_,ht,hv,run_underlying hu,hlen,sizeOf,typeInfo,hq,hi,ac6,Cd,vO,Result.andThen]
theorem KJ {x:Operand} {d:bH} {ts:Array TypeId} {t el:TypeId} {sz bytes:Nat} {zero:List V} (ho:o.op=.call { callee:=.builtin .clear,args:=#[x],argTypes:=ts }) (ht:ts[0]? =some t) (hu:P.underlying t=some (.slice el))
 (mN:Fb P el sz bytes=true) (Sf:kZ P el zero=true) (hx:dY x d=true)
 (hs:b9 E st w) (hf:aY E N fr a) (hw:(step (.clear sz zero d) fr st).wp (aB P) K) (hc:fG E st w o a next K):o.wp P a w next Q:=by
 obtain ⟨i,z,hi,C6,kD,Yj,Ii,KD,SP⟩:=vQ mN
 obtain ⟨i',z',cZ,Iq,Py,hr,hl,h1⟩:=jA Sf
 rw [hi] at cZ;cases cZ
 rw [C6] at Iq;cases Iq
 have Uu:zero.length=sz:=by omega
 have r1:=bA hx hf
 simp only [step] at hw
 split at hw
 · rename_i e1
   rw [e1] at r1
   have hv:=r1.FI
   exact aT (x:=.tuple #[]) (by simp [execOp,ho,resolve,invoke,builtin,Builtin.clear_,ht,hv,run_underlying hu,Result.andThen]) (hc.same hs hw fJ)
 · rename_i k dS off len e1
   rw [e1] at r1
   split at hw
   case isFalse=>exact hw.elim
   rename_i Dg
   subst Dg
   obtain ⟨ob,eC,hw⟩:=hw
   dsimp only at hw
   split at hw
   case h_2=>exact hw.elim
   rename_i eJ es
   split at hw
   case isFalse=>exact hw.elim
   rename_i Dg
   subst Dg
   obtain ⟨eB,hw⟩:=hw
   have eB:off+len<=es.length:=by simpa using eB
   have Uv:∀ e∈List.replicate len zero,e.length=eJ:=fun e he=>by rw [(List.mem_replicate.1 he).2];exact Uu
   have Uw:=De (len:=len) (hr (E.H2 k.qK)) (by omega)
   have Ir:=Df (n:=len*zero.length) h1 (by omega)
   rw [Uu] at Uw Ir
   have dH:=Uw.PC Ir
   have hms:(madeCells z.cells (len*eJ)).toList.length=(List.replicate len zero).length*eJ:=by simp [size_madeCells]
   have OR:∀ y∈(madeCells z.cells (len*eJ)).toList,y.oneCell'=true:=fun y hy=>by
    obtain ⟨j,hj⟩:=List.getElem?_of_mem hy
    rw [Array.getElem?_toList] at hj
    exact Ir j y hj
   obtain ⟨s1,s2,s3⟩:=hs.Ys eC Uv (off:=off) (by rw [List.length_replicate];exact eB) hms dH OR
   rw [List.length_replicate] at s1 s2
   generalize hv:a.eval x=y at r1
   cases r1 with
   |deep hd=>cases hd
   |ms _ _ _ _ ad cap hk Cw hh Cv ha=>
   refine aT (x:=.tuple #[]) ?_ (hc _ _ E _ _ hw s1 s2 fJ)
   cases len with
   |zero=>
    have h0:(madeCells z.cells (0*eJ)).toList=[]:=by simp [madeCells,Array.range_zero']
    rw [h0]
    simp [execOp,ho,resolve,invoke,builtin,Builtin.clear_,ht,hv,run_underlying hu,Result.andThen,World.setCells]
   |succ n=>
    have ha:ad=⟨(E.μ k).bL,(E.μ k).base+off*eJ,none⟩:=by
     rcases ha with h|h
     · omega
     · exact h
    subst ha
    have vO:=uC (P:=P) s3 OR
    have hzc:Builtin.zeroCells z.cells (n+1)=madeCells z.cells ((n+1)*eJ):=by simp only [Builtin.zeroCells,madeCells,SP]
    simp [execOp,ho,resolve,invoke,builtin,Builtin.clear_,ht,hv,run_underlying hu,Result.andThen,zeroValue,typeInfo,hi,C6,hzc,vO]
 · exact hw.elim
theorem AU {max:Bool}:∀ {vs:List V} {xs:List Value} {v u:V} {x:Value},eI E vs xs.toArray->Rel E v x->gY max v vs=some u->
 ∃ y,(match max with|true=>xs.foldlM Builtin.max2 x|false=>xs.foldlM Builtin.min2 x:Sem Value).run P w=.ok y w/\Rel E u y
 |[],xs,v,u,x,hr,hv,h=>by
  have:xs=[]:=by
   have:=hr.1
   simpa using this
  subst this
  have hu:u=v:=by simp [gY] at h;exact h.symm
  subst hu
  refine ⟨x,?_,hv⟩
  cases max<;>rfl
 |v1::vr,xs,v,u,x,hr,hv,h=>by
  have hlen:=hr.1
  cases xs with
  |nil=>simp at hlen
  |cons x1 xr=>
  have h1:Rel E v1 x1:=hr.2 0 v1 x1 rfl (by simp)
  have B0:eI E vr xr.toArray:=⟨by simpa using hlen,fun j q y hq hy=>hr.2 (j+1) q y (by simpa using hq) (by simpa using hy)⟩
  unfold gY at h
  split at h
  · cases ‹_=[]›
  · rename_i k p k' q r' heq
    cases heq
    have hv:=hv.int
    have h1:=h1.int
    subst hv;subst h1
    cases max with
    |true=>
     simp only at h
     obtain ⟨y,hy,Yt⟩:=AU (x:=.int k (if p<q then q else p)) B0 (.deep (.i _ _)) h
     refine ⟨y,?_,Yt⟩
     simp only [List.foldlM_cons,Sem.run_bind,Builtin.max2,Sem.run_pure,Result.andThen_ok]
     exact hy
    |false=>
     simp only at h
     obtain ⟨y,hy,Yt⟩:=AU (x:=.int k (if q<p then q else p)) B0 (.deep (.i _ _)) h
     refine ⟨y,?_,Yt⟩
     simp only [List.foldlM_cons,Sem.run_bind,Builtin.min2,Sem.run_pure,Result.andThen_ok]
     exact hy
  · cases h
theorem ND {max:Bool} {xs:Array Operand} {ds:List bH} {ts:Array TypeId} (ho:o.op=.call { callee:=.builtin (if max then .max else .min),args:=xs,argTypes:=ts }) (hx:C4 xs.toList ds=true)
 (hs:b9 E st w) (hf:aY E N fr a) (hw:(step (.AO max ds) fr st).wp (aB P) K) (hc:fG E st w o a next K):o.wp P a w next Q:=by
 have r1:=zD hf hx
 simp only [step] at hw
 split at hw
 case h_2=>exact hw.elim
 rename_i v r e1
 rw [e1] at r1
 unfold T.opt at hw
 split at hw
 case h_2=>exact hw.elim
 rename_i u hu
 have hlen:=r1.1
 cases hl:xs.toList.map a.eval with
 |nil=>rw [hl] at hlen;simp at hlen
 |cons y ys=>
  rw [hl] at r1
  have h1:Rel E v y:=r1.2 0 v y rfl (by simp)
  have B0:eI E r ys.toArray:=⟨by have:=r1.1;simpa using this,fun j q z hq hz=>r1.2 (j+1) q z (by simpa using hq) (by simpa using hz)⟩
  obtain ⟨z,hz,SO⟩:=AU (P:=P) (w:=w) B0 h1 hu
  have hm:(xs.map a.eval).toList=y::ys:=by rw [Array.toList_map,hl]
  refine aT (x:=z) ?_ (hc.same hs hw SO)
  cases max with
  |true=>simp only at hz;simp [execOp,ho,resolve,invoke,builtin,Builtin.max_,hl,hz,Result.andThen]
  |false=>simp only at hz;simp [execOp,ho,resolve,invoke,builtin,Builtin.min_,hl,hz,Result.andThen]
def zN (P:Program) (kt:TypeId) (kd:Option IntKind):Bool:=
 match P.underlying kt,kd with
 |some .string,none=>true
 |some (.int q),some k=>decide (q=k)
 |_,_=>false
theorem x8 {kt:TypeId} {kd:Option IntKind} (h:zN P kt kd=true):∃ d,P.underlying kt=some d/\
 ∀ {I:zA} {v:V} {x:Value},v.fE kd=true->eT I v x->MapKept.IsKey d x:=by
 unfold zN at h
 split at h
 · rename_i hu
   refine ⟨_,hu,fun {I v x} hk hr=>?_⟩
   unfold V.fE at hk
   split at hk
   · cases hr;trivial
   · rename_i e1;cases e1
   · cases hk
 · rename_i q k hu
   refine ⟨_,hu,fun {I v x} hk hr=>?_⟩
   simp only [decide_eq_true_eq] at h
   subst h
   unfold V.fE at hk
   split at hk
   · rename_i e1;cases e1
   · rename_i e1
     cases e1
     simp only [decide_eq_true_eq] at hk
     subst hk
     cases hr;rfl
   · cases hk
 · cases h
theorem Rel.key {kd:Option IntKind} {v:V} {x:Value} (hk:v.fE kd=true) (h:Rel E v x):eT E.I v x:=by
 unfold V.fE at hk
 split at hk
 · cases h;assumption
 · cases h;assumption
 · cases hk
theorem NF {I:zA} {kd:Option IntKind} {v u:V} {x y:Value} (hv:v.fE kd=true) (hu:u.fE kd=true) (h1:eT I v x) (h2:eT I u y):tO v u=true↔x=y:=by
 unfold V.fE at hv hu
 split at hv
 · split at hu
   · cases h1;cases h2
     simp only [tO,beq_iff_eq,Value.string.injEq]
     constructor
     · rintro rfl;rfl
     · intro h
       have:=congrArg (fun b=>b.data.toList) h
       simpa [str] using this
   · rename_i e1;cases e1
   · cases hu
 · split at hu
   · rename_i e1;cases e1
   · rename_i e1
     cases e1
     simp only [decide_eq_true_eq] at hv hu
     subst hv;subst hu
     cases h1;cases h2
     simp [tO]
   · cases hu
 · cases hv
def vR (E:Env) (kd:Option IntKind) (es:List (V×V)) (l:List MapEntry):Prop:=
 l.length=es.length/\∀ (j:Nat) (q:V×V) (e:MapEntry),es[j]? =some q->l[j]? =some e->eT E.I q.1 e.key/\q.1.fE kd=true/\Rel E q.2 e.val
theorem find_spec {kd:Option IntKind} {d:TypeDesc} (hd:∀ {I:zA} {v:V} {x:Value},v.fE kd=true->eT I v x->MapKept.IsKey d x) {kv:V} {k:Value} (Yu:kv.fE kd=true) (hk:eT E.I kv k) (u:V):
 ∀ (es:List (V×V)) (l:List MapEntry) (i:Nat),vR E kd es l->
  (Instr.findNow d k l i=some none/\pX es kv=none/\y9 es kv u=es++[(kv,u)]/\E9 es kv=es)\/
  ∃ j e q,Instr.findNow d k l i=some (some (i+j,e.val))/\l[j]? =some e/\es[j]? =some q/\e.key=k/\pX es kv=some q.2/\y9 es kv u=es.set j (kv,u)/\E9 es kv=es.eraseIdx j
 |[],l,i,h=>by
  have:l=[]:=List.eq_nil_of_length_eq_zero h.1
  subst this
  exact .inl ⟨rfl,rfl,rfl,rfl⟩
 |q::es,l,i,h=>by
  obtain ⟨q1,q2⟩:=q
  cases l with
  |nil=>have:=h.1;simp at this
  |cons e l=>
  obtain ⟨h1,h2,h3⟩:=h.2 0 _ e rfl rfl
  have hkd:=hd Yu hk
  have PN:=hd h2 h1
  obtain ⟨r,hr,Yv⟩:=MapKept.sameNow_of_keys hkd PN
  have hq:=NF Yu h2 hk h1
  cases r with
  |true=>
   have he:=Yv.1 rfl
   have OT:tO kv q1=true:=hq.2 he
   exact .inr ⟨0,e,(q1,q2),by simp [Instr.findNow,hr],rfl,rfl,he.symm,by simp [pX,OT],by simp [y9,OT],by simp [E9,OT]⟩
  |false=>
   have OT:tO kv q1=false:=by
    cases hb:tO kv q1 with
    |false=>rfl
    |true=>have:=Yv.2 (hq.1 hb);cases this
   have hp:vR E kd es l:=⟨by have:=h.1;simpa using this,fun j p e' hp he=>h.2 (j+1) p e' (by simpa using hp) (by simpa using he)⟩
   rcases find_spec hd Yu hk u es l (i+1) hp with ⟨a1,a2,a3,a4⟩|⟨j,e',q',a1,a2,a3,a4,a5,a6,a7⟩
   · exact .inl ⟨by simp [Instr.findNow,hr,a1],by simp [pX,OT,a2],by simp [y9,OT,a3],by simp [E9,OT,a4]⟩
   · exact .inr ⟨j+1,e',q',by simp [Instr.findNow,hr,a1];omega,by simpa using a2,by simpa using a3,a4,by simp [pX,OT,a5],by simp [y9,OT,a6],by simp [E9,OT,a7]⟩
theorem b9.PO (hs:b9 E st w) {k:Key} {kd:Option IntKind} {es:List (V×V)} (eC:st.get k=some (.mp kd es)):∃ bO clock,w.heap[(E.μ k).bL]? =some (.map bO clock)/\vR (E.at k) kd es bO.toList:=by
 obtain ⟨bO,clock,h1,h2,h3,_⟩:=hs.obj k _ eC
 exact ⟨bO,clock,h1,by simpa using h2,fun j q e hq he=>h3 j q e hq (by simpa using he)⟩
theorem b9.Cx (hs:b9 E st w) {k:Key} {kd:Option IntKind} {es:List (V×V)} (eC:st.get k=some (.mp kd es)) {bO:Array MapEntry} {clock:Nat} (hb:w.heap[(E.μ k).bL]? =some (.map bO clock)):BZ bO clock:=by
 obtain ⟨Dj,AV,h1,_,_,h4⟩:=hs.obj k _ eC
 rw [hb] at h1
 cases h1
 exact h4
theorem NG {bO:Array MapEntry} {clock:Nat} (h:BZ bO clock) (k v:Value):BZ (bO.push { key:=k,val:=v,born:=clock }) (clock+1):=by
 refine ⟨?_,?_⟩
 · intro x hx
   rw [Array.toList_push,List.mem_append,List.mem_singleton] at hx
   rcases hx with hx|rfl
   · have:=h.1 x hx;omega
   · exact Nat.lt_succ_self _
 · rw [Array.toList_push,List.map_append,List.map_cons,List.map_nil]
   refine List.nodup_append.2 ⟨h.2,by simp,?_⟩
   intro a ha b hb
   rw [List.mem_singleton] at hb
   subst hb
   obtain ⟨x,hx,rfl⟩:=List.mem_map.1 ha
   exact Nat.ne_of_lt (h.1 x hx)
theorem Ix {bO:Array MapEntry} {clock:Nat} (h:BZ bO clock) (j:Nat) (k v:Value):BZ (bO.modify j fun e'=>{ e' with key:=k,val:=v }) clock:=by
 have Me:(bO.modify j fun e'=>{ e' with key:=k,val:=v }).toList.map (·.born)=bO.toList.map (·.born):=by
  apply List.ext_getElem?
  intro i
  simp only [List.getElem?_map,Array.getElem?_toList,Array.getElem?_modify]
  split
  · rename_i xF;subst xF;cases bO[j]? <;>rfl
  · rfl
 refine ⟨fun x hx=>?_,by rw [Me];exact h.2⟩
 have hm:x.born∈bO.toList.map (·.born):=by rw [<-Me];exact List.mem_map_of_mem hx
 obtain ⟨y,hy,he⟩:=List.mem_map.1 hm
 rw [<-he]
 exact h.1 y hy
theorem KL {bO:Array MapEntry} {clock:Nat} (h:BZ bO clock) (j:Nat):BZ (bO.eraseIdxIfInBounds j) clock:=by
 unfold Array.eraseIdxIfInBounds
 split
 · rw [BZ,Array.toList_eraseIdx]
   exact ⟨fun x hx=>h.1 x (List.mem_of_mem_eraseIdx hx),h.2.sublist ((List.eraseIdx_sublist _ _).map _)⟩
 · exact h
theorem Env.VE (E:Env) (k:Key):(E.at k).I=E.I:=by cases k<;>rfl
theorem b9.GX (hs:b9 E st w) {k:Key} {kd:Option IntKind} {es:List (V×V)} (eC:st.get k=some (.mp kd es)) {bO:Array MapEntry} {clock:Nat} (hb:w.heap[(E.μ k).bL]? =some (.map bO clock))
 (Dj:Array MapEntry) (AV:Nat) (EV:List (V×V)) (hbn:BZ Dj AV) (hp:vR (E.at k) kd EV Dj.toList):
 b9 E (st.set k (.mp kd EV)) { w with heap:=w.heap.setIfInBounds (E.μ k).bL (.map Dj AV) }/\Ext E st w E (st.set k (.mp kd EV)) { w with heap:=w.heap.setIfInBounds (E.μ k).bL (.map Dj AV) }:=by
 obtain ⟨q1,q2⟩:=MapKept.heap_set (o':=.map Dj AV) hb
 refine hs.set eC _ (by simp) (fun b dM=>q2 b dM) rfl rfl rfl (fun j x hx=>?_) ⟨Dj,AV,q1,by simpa using hp.1,fun j q e hq he=>hp.2 j q e hq (by simpa using he),hbn⟩
 have:=hs.jL _ _ _ hx
 simp [bI,hb] at this
theorem PQ {t kt el:TypeId} {x y:Operand} {d e:bH} {kd:Option IntKind} {zero:V} {ok:Bool} {i:TypeInfo} {z:Value} (ho:o.op=.lookup t x y ok) (hu:P.underlying t=some (.map kt el)) (hk:zN P kt kd=true)
 (hi:P.info? el=some i) (hz:i.zero=some z) (Sf:p8 4 z zero=true) (hx:dY x d=true) (hy:dY y e=true)
 (hs:b9 E st w) (hf:aY E N fr a) (hw:(step (.Sd kd zero d e ok) fr st).wp (aB P) K) (hc:fG E st w o a next K):o.wp P a w next Q:=by
 have r1:=bA hx hf
 have r2:=bA hy hf
 obtain ⟨dd,Kd,kV⟩:=x8 hk
 simp only [step] at hw
 split at hw
 case h_2=>exact hw.elim
 rename_i AW
 have Uy:=r2.key AW
 have Uz:=kV AW Uy
 have pair:∀ {v:V} {b:Bool} {u:Value},Rel E v u->Rel E (.bY [v,.b b]) (.tuple #[u,.bool b]):=by
  intro v b u hr
  refine .bY _ _ rfl fun j v' x' h1 h2=>?_
  match j with
  |0=>simp at h1 h2;subst h1;subst h2;exact hr
  |1=>simp at h1 h2;subst h1;subst h2;exact .deep (.b _)
  |j+2=>simp at h1
 split at hw
 · rename_i e1
   rw [e1] at r1
   generalize hv:a.eval x=y' at r1
   cases r1 with
   |deep hd=>cases hd
   |gC=>
    have tM:=MapKept.run_checkKey (w:=w) (P:=P) Kd Uz true 9999
    have Kf:(Instr.findKey kt (a.eval y) []).run P w=.ok none w:=MapKept.run_findKey Kd (by rfl)
    unfold sB at hw
    cases ok with
    |true=>
     refine aT (x:=.tuple #[z,.bool false]) ?_ (hc.same hs (hw.1 rfl) (pair (kO Sf E)))
     simp [execOp,ho,hv,Instr.lookup,run_underlying hu,tM,Kf,zeroValue,typeInfo,hi,hz]
    |false=>
     refine aT (x:=z) ?_ (hc.same hs (hw.1 rfl) (kO Sf E))
     simp [execOp,ho,hv,Instr.lookup,run_underlying hu,tM,Kf,zeroValue,typeInfo,hi,hz]
 · rename_i k e1
   rw [e1] at r1
   obtain ⟨ob,eC,hw⟩:=hw
   dsimp only at hw
   split at hw
   case h_2=>exact hw.elim
   rename_i H7 es
   split at hw
   case isFalse=>exact hw.elim
   rename_i yY
   subst yY
   generalize hv:a.eval x=y' at r1
   cases r1 with
   |deep hd=>cases hd
   |m _ hhk=>
    obtain ⟨bO,clock,hb,hp⟩:=hs.PO eC
    have tM:=fun b=>MapKept.run_checkKey (w:=w) (P:=P) Kd Uz b 9999
    have hg:=MapKept.run_getObj_map (P:=P) hb
    rcases find_spec (E:=E.at k) kV AW (by rw [Env.VE];exact Uy) .fK es bO.toList 0 hp with ⟨a1,a2,_,_⟩|⟨j,en,q,a1,a2,a3,a4,a5,_,_⟩
    · have Kf:=MapKept.run_findKey (P:=P) (w:=w) Kd a1
      unfold sB at hw
      rw [a2] at hw
      cases ok with
      |true=>
       refine aT (x:=.tuple #[z,.bool false]) ?_ (hc.same hs (hw.1 rfl) (pair (kO Sf E)))
       simp [execOp,ho,hv,Instr.lookup,run_underlying hu,hg,tM,Kf,zeroValue,typeInfo,hi,hz]
      |false=>
       refine aT (x:=z) ?_ (hc.same hs (hw.1 rfl) (kO Sf E))
       simp [execOp,ho,hv,Instr.lookup,run_underlying hu,hg,tM,Kf,zeroValue,typeInfo,hi,hz]
    · have Kf:=MapKept.run_findKey (P:=P) (w:=w) Kd a1
      have wN:=(hp.2 j q en a3 a2).2.2.mono (E.C0 k)
      unfold sB at hw
      rw [a5] at hw
      cases ok with
      |true=>
       refine aT (x:=.tuple #[en.val,.bool true]) ?_ (hc.same hs (hw.2 _ rfl) (pair wN))
       simp [execOp,ho,hv,Instr.lookup,run_underlying hu,hg,tM,Kf]
      |false=>
       refine aT (x:=en.val) ?_ (hc.same hs (hw.2 _ rfl) wN)
       simp [execOp,ho,hv,Instr.lookup,run_underlying hu,hg,tM,Kf]
 · exact hw.elim
theorem PR {g:Bool} {v u:V} {x:Value} (h:SG g v=some u) (hr:Rel E v x):Rel (E.H2 g) u x:=by
 cases g with
 |true=>exact zC h hr
 |false=>simp only [SG,Option.some.injEq] at h;subst h;exact hr
theorem FK {t kt el:TypeId} {x y v:Operand} {d e c:bH} {kd:Option IntKind} (ho:o.op=.mapUpdate t x y v\/o.op=.insert t x y v) (hu:P.underlying t=some (.map kt el)) (hk:zN P kt kd=true)
 (hx:dY x d=true) (hy:dY y e=true) (hv:dY v c=true)
 (hs:b9 E st w) (hf:aY E N fr a) (hw:(step (.Kn kd d e c) fr st).wp (aB P) K) (hc:fG E st w o a next K):o.wp P a w next Q:=by
 have r1:=bA hx hf
 have r2:=bA hy hf
 have r3:=bA hv hf
 obtain ⟨dd,Kd,kV⟩:=x8 hk
 simp only [step] at hw
 split at hw
 case h_2=>exact hw.elim
 rename_i AW
 have Uy:=r2.key AW
 have Uz:=kV AW Uy
 split at hw
 case h_2=>exact hw.elim
 rename_i k e1
 rw [e1] at r1
 obtain ⟨ob,eC,hw⟩:=hw
 dsimp only at hw
 split at hw
 case h_2=>exact hw.elim
 rename_i H7 es
 split at hw
 case isFalse=>exact hw.elim
 rename_i yY
 subst yY
 unfold T.opt at hw
 split at hw
 case h_2=>exact hw.elim
 rename_i u PS
 have hru:=PR PS r3
 rw [<-Env.x6] at hru
 generalize PJ:a.eval x=y' at r1
 cases r1 with
 |deep hd=>cases hd
 |m _ hhk=>
  obtain ⟨bO,clock,hb,hp⟩:=hs.PO eC
  have tM:=fun b=>MapKept.run_checkKey (w:=w) (P:=P) Kd Uz b 9999
  have hg:=MapKept.run_getObj_map (P:=P) hb
  have Yw:eT (E.at k).I (e.ev fr) (a.eval y):=by rw [Env.VE];exact Uy
  rcases find_spec (E:=E.at k) kV AW Yw u es bO.toList 0 hp with ⟨a1,a2,a3,_⟩|⟨j,en,q,a1,a2,a3,a4,a5,a6,_⟩
  · have Kf:=MapKept.run_findKey (P:=P) (w:=w) Kd a1
    dsimp only at hw
    rw [a3] at hw
    obtain ⟨s1,s2⟩:=hs.GX eC hb (bO.push { key:=a.eval y,val:=a.eval v,born:=clock }) (clock+1) (es++[(e.ev fr,u)]) (NG (hs.Cx eC hb) _ _) ⟨by simp [<-hp.1],fun j q en hq wP=>by
     rw [Array.toList_push] at wP
     rw [List.getElem?_append] at hq wP
     have hlen:=hp.1
     split at hq
     · rename_i cL
       rw [if_pos (by omega)] at wP
       exact hp.2 j q en hq wP
     · rename_i cL
       rw [if_neg (by omega)] at wP
       have h0:j - es.length=0:=by
        have:=(List.getElem?_eq_some_iff.1 hq).1
        simp at this;omega
       rw [h0] at hq
       rw [hlen,h0] at wP
       simp at hq wP
       subst hq;subst wP
       exact ⟨Yw,AW,hru⟩⟩
    refine GM ?_ (hc _ _ E _ _ hw s1 s2 fJ)
    rcases ho with ho|ho<;>simp [execOp,ho,PJ,Instr.mapUpdate,run_underlying hu,hg,tM,Kf,MapKept.run_setObj_map _ hb]
  · have Kf:=MapKept.run_findKey (P:=P) (w:=w) Kd a1
    have hj:bO[j]? =some en:=by simpa using a2
    dsimp only at hw
    rw [a6] at hw
    obtain ⟨s1,s2⟩:=hs.GX eC hb (bO.modify j fun e'=>{ e' with key:=a.eval y,val:=a.eval v }) clock (es.set j (e.ev fr,u)) (Ix (hs.Cx eC hb) _ _ _) ⟨by simp [<-hp.1],fun i q' en' hq wP=>by
     rw [Array.getElem?_toList,Array.getElem?_modify] at wP
     by_cases SV:j=i
     · subst SV
       rw [if_pos rfl,hj] at wP
       simp only [Option.map_some,Option.some.injEq] at wP
       have cL:=(List.getElem?_eq_some_iff.1 a3).1
       rw [List.getElem?_set_self cL] at hq
       simp only [Option.some.injEq] at hq
       subst hq;subst wP
       exact ⟨Yw,AW,hru⟩
     · rw [if_neg SV] at wP
       rw [List.getElem?_set_ne SV] at hq
       exact hp.2 i q' en' hq (by simpa using wP)⟩
    refine GM ?_ (hc _ _ E _ _ hw s1 s2 fJ)
    rcases ho with ho|ho<;>simp [execOp,ho,PJ,Instr.mapUpdate,run_underlying hu,hg,tM,Kf,hj,a4,MapKept.run_keyThatStays Uz,MapKept.run_setObj_map _ hb]
theorem NH {kd:Option IntKind} {es:List (V×V)} {l:List MapEntry} (hp:vR E kd es l) {j:Nat} (_hj:j<l.length):vR E kd (es.eraseIdx j) (l.eraseIdx j):=by
 have hlen:=hp.1
 refine ⟨by rw [List.length_eraseIdx,List.length_eraseIdx,hlen],fun i q e hq he=>?_⟩
 rw [List.getElem?_eraseIdx] at hq he
 split at hq
 · rename_i h
   rw [if_pos h] at he
   exact hp.2 _ q e hq he
 · rename_i h
   rw [if_neg h] at he
   exact hp.2 _ q e hq he
theorem Iy {ts:Array TypeId} {t kt el:TypeId} {x y:Operand} {d e:bH} {kd:Option IntKind} (ho:o.op=.call { callee:=.builtin .delete,args:=#[x,y],argTypes:=ts }) (ht:ts[0]? =some t) (hu:P.underlying t=some (.map kt el)) (hk:zN P kt kd=true)
 (hx:dY x d=true) (hy:dY y e=true)
 (hs:b9 E st w) (hf:aY E N fr a) (hw:(step (.delete kd d e) fr st).wp (aB P) K) (hc:fG E st w o a next K):o.wp P a w next Q:=by
 have r1:=bA hx hf
 have r2:=bA hy hf
 obtain ⟨dd,Kd,kV⟩:=x8 hk
 simp only [step] at hw
 split at hw
 case h_2=>exact hw.elim
 rename_i AW
 have Uy:=r2.key AW
 have Uz:=kV AW Uy
 split at hw
 · rename_i e1
   rw [e1] at r1
   generalize hv:a.eval x=y' at r1
   cases r1 with
   |deep hd=>cases hd
   |gC=>
    have tM:=MapKept.run_checkKey (w:=w) (P:=P) Kd Uz true 9999
    exact aT (x:=.tuple #[]) (by simp [execOp,ho,resolve,invoke,builtin,Builtin.delete_,ht,hv,run_underlying hu,tM,Result.andThen]) (hc.same hs hw fJ)
 · rename_i k e1
   rw [e1] at r1
   obtain ⟨ob,eC,hw⟩:=hw
   dsimp only at hw
   split at hw
   case h_2=>exact hw.elim
   rename_i H7 es
   split at hw
   case isFalse=>exact hw.elim
   rename_i yY
   subst yY
   generalize PJ:a.eval x=y' at r1
   cases r1 with
   |deep hd=>cases hd
   |m _ hhk=>
    obtain ⟨bO,clock,hb,hp⟩:=hs.PO eC
    have tM:=fun b=>MapKept.run_checkKey (w:=w) (P:=P) Kd Uz b 9999
    have hg:=MapKept.run_getObj_map (P:=P) hb
    have Yw:eT (E.at k).I (e.ev fr) (a.eval y):=by rw [Env.VE];exact Uy
    rcases find_spec (E:=E.at k) kV AW Yw .fK es bO.toList 0 hp with ⟨a1,a2,_,a4⟩|⟨j,en,q,a1,a2,a3,a4,a5,_,a7⟩
    · have Kf:=MapKept.run_findKey (P:=P) (w:=w) Kd a1
      rw [a4] at hw
      obtain ⟨s1,s2⟩:=hs.GX eC hb bO clock es (hs.Cx eC hb) hp
      refine aT (x:=.tuple #[]) ?_ (hc _ _ E _ _ hw s1 s2 fJ)
      simp [execOp,ho,resolve,invoke,builtin,Builtin.delete_,ht,PJ,run_underlying hu,hg,tM,Kf,MapKept.run_setObj_map _ hb,Result.andThen]
    · have Kf:=MapKept.run_findKey (P:=P) (w:=w) Kd a1
      rw [a7] at hw
      have cL:=(List.getElem?_eq_some_iff.1 a2).1
      have Ic:j<bO.size:=by simpa using cL
      have KM:=NH hp cL
      have Kg:(bO.eraseIdxIfInBounds j).toList=bO.toList.eraseIdx j:=by
       unfold Array.eraseIdxIfInBounds
       rw [dif_pos Ic]
       simp
      rw [<-Kg] at KM
      obtain ⟨s1,s2⟩:=hs.GX eC hb (bO.eraseIdxIfInBounds j) clock (es.eraseIdx j) (KL (hs.Cx eC hb) _) KM
      refine aT (x:=.tuple #[]) ?_ (hc _ _ E _ _ hw s1 s2 fJ)
      simp [execOp,ho,resolve,invoke,builtin,Builtin.delete_,ht,PJ,run_underlying hu,hg,tM,Kf,MapKept.run_setObj_map _ hb,Result.andThen]
 · exact hw.elim
theorem sF {f:Nat} {args:Array Value} (h:qL P f=true):(callFunc f args).run P w=.ok (.enter f args) w:=by
 unfold qL at h
 split at h
 · rename_i fn FL
   simp only [Bool.and_eq_true,Bool.not_eq_true',beq_eq_false_iff_ne] at h
   obtain ⟨h1,h2⟩:=h
   have h3:fn.body.isNone=false:=by cases hb:fn.body<;>simp [hb] at h1 ⊢
   have h4:¬fn.body=none:=by intro h;rw [h] at h1;cases h1
   simp [callFunc,FL,h2,h4]
 · cases h
theorem Iz {f:Nat} {args:Array Value} (h:(execOp a.eval o).run P w=.ok (.enter f args) w) (hc:Calls P f args w fun
 |.returned v,Uk=>next (a.put o.dst v) Uk
 |.panicked chain,Uk=>Q (.panic chain) a Uk
 |.outgrown,_=>LetsOut Q):o.wp P a w next Q:=by
 unfold Oper.wp
 rw [h,Oper.upon_enter]
 exact hc
theorem NI {f:Nat} {xs:Array Operand} {ds:List bH} {ts:Array TypeId} (ho:o.op=.call { callee:=.value (.func f),args:=xs,argTypes:=ts }) (hx:C4 xs.toList ds=true)
 (hs:b9 E st w) (hf:aY E N fr a) (hw:(step (.call f ds) fr st).wp (aB P) K) (hc:fG E st w o a next K):o.wp P a w next Q:=by
 have r1:=zD hf hx
 simp only [step] at hw
 unfold T.opt at hw
 split at hw
 case h_2=>exact hw.elim
 rename_i vs Vt
 have hb:qL P f=true:=hw.1
 have e:(xs.toList.map a.eval).toArray=xs.map a.eval:=by
  apply Array.ext'
  simp
 rw [e] at r1
 refine Iz (f:=f) (args:=xs.map a.eval) ?_ (aB.use hs Vt r1 hw (fun v h' E' w' x hk s1 s2 hr=>hc v _ E' w' x hk s1 s2 hr))
 simp [execOp,ho,resolve,Act.eval,Deferred.ofValue,invoke,sF hb]
theorem KN {f:Operand} {g:bH} {xs:Array Operand} {ds:List bH} {ts:Array TypeId} (ho:o.op=.call { callee:=.value f,args:=xs,argTypes:=ts }) (hg:dY f g=true) (hx:C4 xs.toList ds=true)
 (hs:b9 E st w) (hf:aY E N fr a) (hw:(step (.wY g ds) fr st).wp (aB P) K) (hc:fG E st w o a next K):o.wp P a w next Q:=by
 have r0:=bA hg hf
 have r1:=zD hf hx
 simp only [step] at hw
 split at hw
 case h_2=>exact hw.elim
 rename_i n first cap e1
 rw [e1] at r0
 unfold T.opt at hw
 split at hw
 case h_2=>exact hw.elim
 rename_i vs Vt
 have hb:qL P n=true:=hw.1
 have e:(xs.toList.map a.eval).toArray=xs.map a.eval:=by
  apply Array.ext'
  simp
 rw [e] at r1
 generalize hv:a.eval f=y at r0
 cases r0 with
 |deep hd=>cases hd
 |fn _ _ _ fa ca h1 h2 h3 h4=>
  have eV:eI E (first++bH.GH fr ds++cap) (fa++xs.map a.eval++ca):=(eI.append (eI.append ⟨h1,h3⟩ r1) ⟨h2,h4⟩)
  refine Iz (f:=n) (args:=fa++xs.map a.eval++ca) ?_ (aB.use hs Vt eV hw (fun v h' E' w' x hk s1 s2 hr=>hc v _ E' w' x hk s1 s2 hr))
  simp [execOp,ho,resolve,hv,Deferred.ofValue,invoke,sF hb]
end
open Go
section
variable {P:Program} {o:Oper} {a:Act} {E:Env} {N:Nat} {st:St} {w:World} {fr:Fr} {next:Act->World->Prop} {Q:Exit->Act->World->Prop} {K:R->Prop}
theorem IB (len cap:Nat) {lo hi mx:Option Value} {l h m:Int} (hh:∃ k,hi=some (.int k h)) (hm:∃ k,mx=some (.int k m)) (hl:(lo=none/\l=0)\/∃ k,lo=some (.int k l))
 (h0:0<=l) (h1:l<=h) (h2:h<=m) (h3:m<=cap):(Instr.sliceBounds true len cap lo hi mx).run P w=.ok (l.toNat,h.toNat,m.toNat) w:=by
 have c0:0<=m:=by omega
 have c1:0<=h:=by omega
 have d1:max m 0=m:=by omega
 have d2:max h 0=h:=by omega
 obtain ⟨k,rfl⟩:=hh
 obtain ⟨k',rfl⟩:=hm
 have n1:¬m<h:=by omega
 have n2:¬h<l:=by omega
 rcases hl with ⟨rfl,rfl⟩|⟨k2,rfl⟩<;>simp [Instr.sliceBounds,run_sliceBound,h0,h1,h2,h3,c0,c1,d1,d2]
theorem KP {t el:TypeId} {x:Operand} {lo hi mx:Option Operand} {d:bH} {l h m:Option bH} {sz:Nat} (ho:o.op=.slice t x lo hi mx) (hu:P.underlying t=some (.slice el)) (hz:(P.info? el).map (·.size)=some sz) (Ii:0<sz)
 (hx:dY x d=true) (PI:tT lo l=true) (Ux:tT hi h=true) (hmx:tT mx m=true) (hhs:h.isSome=true) (hms:m.isSome=true)
 (hs:b9 E st w) (hf:aY E N fr a) (hw:(step (.wM sz d l h m) fr st).wp (aB P) K) (hc:fG E st w o a next K):o.wp P a w next Q:=by
 have r1:=bA hx hf
 cases hq:P.info? el with
 |none=>simp [hq] at hz
 |some i=>
 have L8:i.size=sz:=by simpa [hq] using hz
 obtain ⟨h1,rfl⟩:=Option.isSome_iff_exists.1 hhs
 obtain ⟨m1,rfl⟩:=Option.isSome_iff_exists.1 hms
 simp only [step] at hw
 split at hw
 · exact hw.elim
 · split at hw
   · exact hw.elim
   · exact hw.elim
 · rename_i k dS off len e1
   rw [e1] at r1
   split at hw
   case isFalse=>exact hw.elim
   rename_i Dg
   subst Dg
   unfold T.opt at hw
   split at hw
   case h_2=>exact hw.elim
   rename_i h' SR
   split at hw
   case h_2=>exact hw.elim
   rename_i l' wZ
   obtain ⟨ob,eC,hw⟩:=hw
   dsimp only at hw
   split at hw
   case h_2=>exact hw.elim
   rename_i eJ es
   split at hw
   case isFalse=>exact hw.elim
   rename_i Dg
   subst Dg
   split at hw
   case h_2=>exact hw.elim
   rename_i m' hm'
   obtain ⟨tM,hw⟩:=hw
   simp only [Bool.and_eq_true,decide_eq_true_eq] at tM
   obtain ⟨⟨⟨c1,c2⟩,c3⟩,c4⟩:=tM
   have b1:∃ k,hi.map a.eval=some (.int k h'):=by
    rcases dX (n:=len) Ux hf SR with ⟨_,q,_⟩|q
    · cases q
    · exact q
   have b3:∃ k,mx.map a.eval=some (.int k m'):=by
    rcases dX (n:=0) (l:=m') hmx hf hm' with ⟨_,q,_⟩|q
    · cases q
    · exact q
   have b2:=dX PI hf wZ
   generalize hv:a.eval x=y at r1
   cases r1 with
   |deep hd=>cases hd
   |ms _ _ _ _ ad cap hk Cw hh Cv ha=>
    obtain ⟨hl,cells,ty,fz,q1,q2,q3,q4,q5⟩:=hs.obj k _ eC
    have pR:=cU hl
    have nC:es.length<=off+cap:=by
     have:es.length*eJ<=(off+cap)*eJ:=by omega
     exact Nat.le_of_mul_le_mul_right this Ii
    have hb:=IB (P:=P) (w:=w) len cap (lo:=lo.map a.eval) (hi:=hi.map a.eval) (mx:=mx.map a.eval) (l:=l') (h:=h') (m:=m') b1 b3 (b2.imp (fun q=>⟨q.1,q.2.2⟩) id) c1 c2 c3 (by omega)
    have dW:(execOp a.eval o).run P w=.ok (.value (.slice (if m'.toNat=l'.toNat then some ad else (some ad).map (·.add (l'.toNat*eJ))) (h'.toNat - l'.toNat) (m'.toNat - l'.toNat))) w:=by
     simp [execOp,ho,hv,Instr.sliceAt,Instr.slice,run_underlying hu,hb,sizeOf,typeInfo,hq,L8]
    exact aT dW (hc.same hs hw (.fK _))
 · exact hw.elim
end
open Go
section
variable {P:Program} {E:Env} {st:St} {w w':World}
theorem b9.RS (hs:b9 E st w) {k:Key} {sz:Nat} {es:List (List V)} (eC:st.get k=some (.arr sz es)):
 ∃ cells t fz xs,w.heap[(E.μ k).bL]? =some (.cells cells t fz)/\sC sz fz cells.size/\(E.μ k).base+es.length*sz<=(E.μ k).fin/\(E.μ k).fin<=cells.size/\(∀ e∈es,e.length=sz)/\
  xs.length=es.length*sz/\(∀ j v,xs[j]? =some v->cells[(E.μ k).base+j]? =some v)/\iK (E.at k) es.flatten xs/\∀ x∈xs,x.oneCell'=true:=by
 obtain ⟨hl,cells,t,fz,r1,r2,r3,r4,r5⟩:=hs.obj k _ eC
 have hf:=cU hl
 have hca:fX (E.at k) w (E.μ k).bL (E.μ k).base es.flatten:=fun j v hj=>by
  obtain ⟨x,hx,a,b⟩:=r5 j v hj
  exact ⟨x,by simp [bI,r1,hx],a,b⟩
 obtain ⟨xs,x1,x2,x3,x4⟩:=hca.list
 refine ⟨cells,t,fz,xs,r1,r2,by omega,r4,hl,by omega,fun j v hj=>?_,fun j v hj=>?_,x4⟩
 · have:=x2 j v hj
   rw [kW] at this
   simpa [bI,r1] using this
 · obtain ⟨x,hx,hr⟩:=x3.get hj
   have Se:xs[j]? =some x:=by simpa using hx
   exact ⟨x,Se,hr,x4 x (List.mem_of_getElem? Se)⟩
end
end Go.Eng
