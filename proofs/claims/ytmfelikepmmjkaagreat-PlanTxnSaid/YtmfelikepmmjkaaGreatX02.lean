/-
Each operation of the model does what the abstract step says (part two: arithmetic, comparisons, places, lengths).
-/
import Derived.Test.YtmfelikepmmjkaaGreatX01
set_option linter.unusedVariables false
set_option linter.unusedSimpArgs false
namespace Go.Eng
open Go
section
variable {P:Program} {o:Oper} {a:Act} {E:Env} {N:Nat} {st:St} {w:World} {fr:Fr} {next:Act->World->Prop} {Q:Exit->Act->World->Prop} {K:R->Prop}
theorem gF {op:BinOp} {t yt:TypeId} {x y:Operand} {v:Value} (ho:o.op=.binOp op t x y yt) (hg:eqGuard op t x y (a.eval x) (a.eval y)=pure ())
 (h:(binOp op t (a.eval x) (a.eval y)).run P w=.ok v w):(execOp a.eval o).run P w=.ok (.value v) w:=by
 simp [execOp,ho,hg,h]
theorem UP (bs:ByteArray):∀ (n i:Nat) (r:List UInt8),bs.size - i=n->ByteArray.toList.loop bs i r=r.reverse++bs.data.toList.drop i:=by
 intro n
 induction n with
 |zero=>
  intro i r h
  unfold ByteArray.toList.loop
  rw [if_neg (by omega)]
  have:bs.data.toList.drop i=[]:=List.drop_eq_nil_of_le (by simp;have:bs.size=bs.data.size:=rfl;omega)
  rw [this,List.append_nil]
 |succ n ih=>
  intro i r h
  unfold ByteArray.toList.loop
  have cO:i<bs.size:=by omega
  rw [if_pos cO,ih (i+1) _ (by omega)]
  have JD:i<bs.data.toList.length:=by simpa using cO
  rw [List.drop_eq_getElem_cons JD]
  have:bs.get! i=bs.data.toList[i]:=by
   have:i<bs.data.size:=cO
   simp only [ByteArray.get!,Array.getElem_toList]
   exact getElem!_pos bs.data i this
  rw [this]
  simp
theorem OT (bs:ByteArray):bs.toList=bs.data.toList:=by
 unfold ByteArray.toList
 rw [UP bs _ 0 [] rfl]
 simp
theorem jO (l:List UInt8):(str l).toList=l:=by rw [OT];rfl
theorem Q1 {op:BinOp} {t yt:TypeId} {x y:Operand} {d e:bL} (ho:o.op=.binOp op t x y yt) (hx:eL x d=true) (hy:eL y e=true) (hs:cH E st w) (hf:bB E N fr a)
 (hw:(step (.bin op d e) fr st).wp (aC P) K) (hc:fV E st w o a next K):o.wp P a w next Q:=by
 have h1:=bG hx hf
 have h2:=bG hy hf
 simp only [step,rI] at hw
 split at hw
 · rename_i k p k' q e1 e2
   rw [e1] at h1
   rw [e2] at h2
   have h1:=h1.int
   have h2:=h2.int
   have hg:eqGuard op t x y (a.eval x) (a.eval y)=pure ():=by rw [h1];exact eqGuard_at_int _ _ _ _ _ _ _
   cases op
   case shl=>
    obtain ⟨hq,hw⟩:=hw
    have hq:0<=q:=by simpa using hq
    rw [T.wp,pQ] at hw
    exact aX (gF ho hg (by rw [h1,h2,binOp_shl];simp [Op.shift,show ¬q<0 by omega])) (hc.same hs hw (.deep (.i _ _)))
   case shr=>
    obtain ⟨hq,hw⟩:=hw
    have hq:0<=q:=by simpa using hq
    exact aX (gF ho hg (by rw [h1,h2,binOp_shr];simp [Op.shift,show ¬q<0 by omega])) (hc.same hs hw (.deep (.i _ _)))
   all_goals
    simp only at hw
    split at hw
    · rename_i hk
      subst hk
      first
       |(rw [T.wp,pQ] at hw
         exact aX (gF ho hg (by rw [h1,h2];simp [binOp,Op.intArith])) (hc.same hs hw (.deep (.i _ _))))
       |(obtain ⟨hq,hw⟩:=hw
         have hq:¬q=0:=by simpa using hq
         rw [T.wp,pQ] at hw
         exact aX (gF ho hg (by rw [h1,h2];simp [binOp,Op.intDiv,hq])) (hc.same hs hw (.deep (.i _ _))))
       |(obtain ⟨hq,hw⟩:=hw
         have hq:¬q=0:=by simpa using hq
         exact aX (gF ho hg (by rw [h1,h2];simp [binOp,Op.intDiv,hq])) (hc.same hs hw (.deep (.i _ _))))
       |exact aX (gF ho hg (by rw [h1,h2];simp [binOp,Op.intBits])) (hc.same hs hw (.deep (.i _ _)))
       |exact aX (gF ho hg (by rw [h1,h2];simp [binOp,Op.intCmp]<;>rfl)) (hc.same hs hw (.deep (.b _)))
    · exact hw.elim
 · rename_i p q e1 e2
   rw [e1] at h1
   rw [e2] at h2
   have h1:=h1.C8
   have h2:=h2.C8
   have hg:eqGuard op t x y (a.eval x) (a.eval y)=pure ():=by rw [h1];exact eqGuard_at_string _ _ _ _ _ _
   have lI:∀ l,(str l).size=l.length:=fun l=>by simp [str,ByteArray.size]
   cases op
   case add=>
    obtain ⟨hq,hw⟩:=hw
    have hq:((p.length+q.length:Nat):Int)<=9223372036854775807:=by simpa using hq
    refine aX (x:=.string (str (p++q))) (gF ho hg ?_) (hc.same hs hw (.deep (.s _)))
    rw [h1,h2]
    simp only [binOp,Op.stringOp,lI,IntKind.max_i64]
    rw [if_neg (by omega)]
    have:str p++str q=str (p++q):=by
     apply ByteArray.ext
     simp [str]
    rw [this];rfl
   case eql=>exact aX (gF ho hg (by rw [h1,h2];simp [binOp,Op.stringOp,jO])) (hc.same hs hw (.deep (.b _)))
   case neq=>exact aX (gF ho hg (by rw [h1,h2];simp [binOp,Op.stringOp,jO])) (hc.same hs hw (.deep (.b _)))
   case lss=>exact aX (gF ho hg (by rw [h1,h2];simp [binOp,Op.stringOp,jO])) (hc.same hs hw (.deep (.b _)))
   case leq=>exact aX (gF ho hg (by rw [h1,h2];simp [binOp,Op.stringOp,jO])) (hc.same hs hw (.deep (.b _)))
   case gtr=>exact aX (gF ho hg (by rw [h1,h2];simp [binOp,Op.stringOp,jO])) (hc.same hs hw (.deep (.b _)))
   case geq=>exact aX (gF ho hg (by rw [h1,h2];simp [binOp,Op.stringOp,jO])) (hc.same hs hw (.deep (.b _)))
   all_goals exact hw.elim
 · exact hw.elim
theorem UQ {op:UnOp} {t:TypeId} {x:Operand} {d:bL} (ho:o.op=.unOp op t x) (hx:eL x d=true) (hs:cH E st w) (hf:bB E N fr a)
 (hw:(step (.un op d) fr st).wp (aC P) K) (hc:fV E st w o a next K):o.wp P a w next Q:=by
 have h1:=bG hx hf
 simp only [step] at hw
 split at hw
 · rename_i y e1
   rw [e1] at h1
   have h1:=h1.bool
   exact aX (x:=.bool (!y)) (by simp [execOp,ho,h1,Op.unary]) (hc.same hs hw (.deep (.b _)))
 · rename_i k n e1
   rw [e1] at h1
   have h1:=h1.int
   rw [T.wp,pQ] at hw
   exact aX (x:=.int k (k.wrap (0 - n))) (by simp [execOp,ho,h1,Op.unary,Op.intArith]) (hc.same hs hw (.deep (.i _ _)))
 · exact hw.elim
theorem Q2 {s t:TypeId} {k:IntKind} {x:Operand} {d:bL} (ho:o.op=.convert s t x) (hx:eL x d=true) (hu:(P.underlying s).isSome=true) (ht:P.underlying t=some (.int k))
 (hs:cH E st w) (hf:bB E N fr a) (hw:(step (.UG k d) fr st).wp (aC P) K) (hc:fV E st w o a next K):o.wp P a w next Q:=by
 have h1:=bG hx hf
 simp only [step] at hw
 split at hw
 · rename_i k' n e1
   rw [e1] at h1
   have h1:=h1.int
   rw [T.wp,pQ] at hw
   obtain ⟨du,Xn⟩:=Option.isSome_iff_exists.1 hu
   refine aX (x:=.int k (k.wrap n)) ?_ (hc.same hs hw (.deep (.i _ _)))
   simp [execOp,ho,h1,convert,run_underlying Xn,run_underlying ht,Conv.intToInt]
 · exact hw.elim
theorem Q3 {s t:TypeId} {x:Operand} {d:bL} (ho:o.op=.convert s t x) (hx:eL x d=true) (hu:(P.underlying s).isSome=true) (ht:P.underlying t=some .string)
 (hs:cH E st w) (hf:bB E N fr a) (hw:(step (.UH d) fr st).wp (aC P) K) (hc:fV E st w o a next K):o.wp P a w next Q:=by
 have h1:=bG hx hf
 simp only [step] at hw
 split at hw
 · rename_i y e1
   rw [e1] at h1
   have h1:=h1.C8
   obtain ⟨du,Xn⟩:=Option.isSome_iff_exists.1 hu
   refine aX (x:=.string (str y)) ?_ (hc.same hs hw (.deep (.s _)))
   simp [execOp,ho,h1,convert,run_underlying Xn,run_underlying ht]
 · exact hw.elim
theorem OU {x:Operand} {d:bL} (ho:o.op=.nilCheck x) (hx:eL x d=true) (hs:cH E st w) (hf:bB E N fr a)
 (hw:(step (.DX d) fr st).wp (aC P) K) (hc:fV E st w o a next K):o.wp P a w next Q:=by
 have h1:=bG hx hf
 simp only [step] at hw
 split at hw
 case h_5=>exact hw.elim
 all_goals
  rename_i e1
  rw [e1] at h1
  refine aX (x:=a.eval x) ?_ (hc.same hs hw h1)
  generalize hy:a.eval x=y at h1
  cases h1<;>first|(rename_i hd;cases hd)|simp [execOp,ho,hy]
theorem LR {t:TypeId} {x:Operand} {f:Nat} {d:bL} {fs:Array Field} {fl:Field} {off:Nat} (ho:o.op=.fieldAddr t x f) (hx:eL x d=true)
 (hu:P.underlying t=some (.struct fs)) (vG:fs[f]? =some fl) (Xo:fl.offset=off) (hz:∃ i,P.info? fl.type=some i/\i.size≠0)
 (hs:cH E st w) (hf:bB E N fr a) (hw:(step (.uW off d) fr st).wp (aC P) K) (hc:fV E st w o a next K):o.wp P a w next Q:=by
 have h1:=bG hx hf
 subst Xo
 obtain ⟨i,hi,Ds⟩:=hz
 have eI:∀ b c,a.eval x=.pointer (some ⟨b,c,none⟩)->(execOp a.eval o).run P w=.ok (.value (.pointer (some ⟨b,c+fl.offset,none⟩))) w:=by
  intro b c hb
  simp [execOp,ho,hb,Instr.fieldAt,run_underlying hu,vG,Instr.sureAddr,fieldPlace,sizeOf,typeInfo,hi,Ds,Addr.add_lit]
 simp only [step] at hw
 split at hw
 · rename_i k c e1
   rw [e1] at h1
   generalize hy:a.eval x=y at h1
   cases h1 with
   |deep hd=>cases hd
   |p _ _ hk=>
    refine aX (eI _ _ hy) (hc.same hs hw ?_)
    rw [Nat.add_assoc];exact .p _ _ hk
 · rename_i k sz ix c e1
   rw [e1] at h1
   generalize hy:a.eval x=y at h1
   cases h1 with
   |deep hd=>cases hd
   |pa _ _ _ _ hk=>
    refine aX (eI _ _ hy) (hc.same hs hw ?_)
    rw [Nat.add_assoc];exact .pa _ _ _ _ hk
 · rename_i cs c e1
   rw [e1] at h1
   generalize hy:a.eval x=y at h1
   cases h1 with
   |deep hd=>cases hd
   |pc _ _ bS c0 val hv hr=>
    refine aX (eI _ _ hy) (hc.same hs hw ?_)
    rw [Nat.add_assoc];exact .pc _ _ _ _ val hv hr
 · exact hw.elim
theorem CC {cs:List V} {off n:Nat} {v:V} (h:dS cs off (some n)=some v):off+n<=cs.length/\v=.agg ((cs.drop off).take n):=by
 simp only [dS] at h
 split at h
 · rename_i hl;exact ⟨hl,(Option.some.inj h).symm⟩
 · cases h
def vP (P:Program) (t:TypeId) (n:Option Nat):Bool:=
 match n,P.underlying t with
 |none,some d=>!d.isRow
 |some k,some d=>d.isRow&&(P.info? t).map (·.size)==some k
 |_,none=>false
theorem BK {t:TypeId} {d:TypeDesc} (h:P.underlying t=some d) (w:World):(isAgg t).run P w=.ok d.isRow w:=by
 unfold isAgg
 rw [Sem.run_bind,run_underlying h w]
 cases d<;>rfl
theorem sT {t:TypeId} {n:Option Nat} (hn:vP P t n=true) {cs:List V} {xs:Array Value} (hr:eT E cs xs) (h1:∀ (j:Nat) (x:Value),xs[j]? =some x->x.oneCell'=true)
 {off:Nat} {v:V} (hv:dS cs off n=some v):∃ x,(part t xs off).run P w=.ok x w/\Rel E v x:=by
 unfold vP at hn
 split at hn
 · rename_i d hd
   obtain ⟨x,hx,xU⟩:=hr.get hv
   refine ⟨x,?_,xU⟩
   have:d.isRow=false:=by simpa using hn
   simp [part,BK hd,this,hx]
 · rename_i k d hd
   simp only [Bool.and_eq_true,beq_iff_eq] at hn
   obtain ⟨hl,rfl⟩:=CC hv
   cases hq:P.info? t with
   |none=>simp [hq] at hn
   |some i=>
    have hs:i.size=k:=by simpa [hq] using hn.2
    refine ⟨.agg (xs.extract off (off+k)),?_,?_⟩
    · simp [part,BK hd,hn.1,sizeOf,typeInfo,hq,hs]
    · have lI:=hr.1
      refine .agg _ _ ?_ ?_ ?_
      · simp only [Array.size_extract,List.length_take,List.length_drop];omega
      · intro j x hx
        rw [Array.getElem?_extract] at hx
        split at hx
        · exact h1 _ _ hx
        · cases hx
      · intro j u x hj hx
        rw [Array.getElem?_extract] at hx
        rw [List.getElem?_take] at hj
        split at hj
        · split at hx
          · rw [List.getElem?_drop] at hj
            exact hr.2 _ u x hj hx
          · cases hx
        · cases hj
 · cases hn
theorem Q4 {t:TypeId} {x:Operand} {f:Nat} {d:bL} {fs:Array Field} {fl:Field} {off:Nat} {n:Option Nat} (ho:o.op=.field t x f) (hx:eL x d=true)
 (hu:P.underlying t=some (.struct fs)) (vG:fs[f]? =some fl) (Xo:fl.offset=off) (hz:vP P fl.type n=true)
 (hs:cH E st w) (hf:bB E N fr a) (hw:(step (.Qu off n d) fr st).wp (aC P) K) (hc:fV E st w o a next K):o.wp P a w next Q:=by
 have h1:=bG hx hf
 subst Xo
 simp only [step] at hw
 split at hw
 · rename_i cs e1
   rw [e1] at h1
   generalize hy:a.eval x=y at h1
   cases h1 with
   |deep hd=>cases hd
   |agg _ b hb LS Xp=>
    unfold T.opt at hw
    split at hw
    · rename_i v hv
      obtain ⟨z,GF,Jt⟩:=sT (w:=w) hz ⟨hb,Xp⟩ LS hv
      exact aX (x:=z) (by simp [execOp,ho,hy,Instr.field,run_underlying hu,vG,asAgg,GF]) (hc.same hs hw Jt)
    · exact hw.elim
 · exact hw.elim
theorem xV {i:Int} {n:Nat}:rH i n=true↔0<=i/\i<n:=by simp [rH]
theorem OV {t e:TypeId} {x y:Operand} {d c:bL} {len sz:Nat} (ho:o.op=.indexAddr t x y) (hx:eL x d=true) (hy:eL y c=true)
 (hu:P.underlying t=some (.array len e)) (hz:(P.info? e).map (·.size)=some sz)
 (hs:cH E st w) (hf:bB E N fr a) (hw:(step (.HR len sz d c) fr st).wp (aC P) K) (hc:fV E st w o a next K):o.wp P a w next Q:=by
 have h1:=bG hx hf
 have h2:=bG hy hf
 cases hq:P.info? e with
 |none=>simp [hq] at hz
 |some i=>
 have hi:i.size=sz:=by simpa [hq] using hz
 simp only [step] at hw
 split at hw
 · rename_i k n e2
   rw [e2] at h2
   have h2:=h2.int
   obtain ⟨mT,hw⟩:=hw
   rw [xV] at mT
   have eI:∀ b c,a.eval x=.pointer (some ⟨b,c,none⟩)->(execOp a.eval o).run P w=.ok (.value (.pointer (some ⟨b,c+n.toNat*sz,none⟩))) w:=by
    intro b c hb
    simp [execOp,ho,hb,h2,Instr.indexAt,asIntOf,run_underlying hu,Instr.sureAddr,sizeOf,typeInfo,hq,hi,mT.1,mT.2,Addr.add_lit]
   split at hw
   · rename_i k c e1
     rw [e1] at h1
     generalize hy:a.eval x=y at h1
     cases h1 with
     |deep hd=>cases hd
     |p _ _ hk=>
      refine aX (eI _ _ hy) (hc.same hs hw ?_)
      rw [Nat.add_assoc];exact .p _ _ hk
   · rename_i k sz ix c e1
     rw [e1] at h1
     generalize hy:a.eval x=y at h1
     cases h1 with
     |deep hd=>cases hd
     |pa _ _ _ _ hk=>
      refine aX (eI _ _ hy) (hc.same hs hw ?_)
      rw [Nat.add_assoc];exact .pa _ _ _ _ hk
   · rename_i cs c e1
     rw [e1] at h1
     generalize hy:a.eval x=y at h1
     cases h1 with
     |deep hd=>cases hd
     |pc _ _ bS c0 val hv hr=>
      refine aX (eI _ _ hy) (hc.same hs hw ?_)
      rw [Nat.add_assoc];exact .pc _ _ _ _ val hv hr
   · exact hw.elim
 · exact hw.elim
theorem Q5 {t:TypeId} {x y:Operand} {d c:bL} (ho:o.op=.index t x y) (hx:eL x d=true) (hy:eL y c=true) (hu:P.underlying t=some .string)
 (hs:cH E st w) (hf:bB E N fr a) (hw:(step (.UJ d c) fr st).wp (aC P) K) (hc:fV E st w o a next K):o.wp P a w next Q:=by
 have h1:=bG hx hf
 have h2:=bG hy hf
 simp only [step] at hw
 split at hw
 · rename_i l k n e1 e2
   rw [e1] at h1
   rw [e2] at h2
   have h1:=h1.C8
   have h2:=h2.int
   obtain ⟨h0,b,hb,hw⟩:=hw
   have h0:0<=n:=by simpa using h0
   refine aX (x:=.int .u8 b.toNat) ?_ (hc.same hs hw (.deep (.i _ _)))
   have:(str l)[n.toNat]? =some b:=by
    have cO:=(List.getElem?_eq_some_iff.1 hb)
    obtain ⟨cO,he⟩:=cO
    have lI:(str l).size=l.length:=by simp [str,ByteArray.size]
    rw [getElem?_pos (str l) n.toNat (by rw [lI];exact cO)]
    simp only [<-he]
    rfl
   simp [execOp,ho,h1,h2,Instr.index,asIntOf,run_underlying hu,h0,this]
 · exact hw.elim
theorem Q6 {t e:TypeId} {x y:Operand} {d c:bL} {len sz:Nat} {n:Option Nat} (ho:o.op=.index t x y) (hx:eL x d=true) (hy:eL y c=true)
 (hu:P.underlying t=some (.array len e)) (hz:(P.info? e).map (·.size)=some sz) (hn:vP P e n=true)
 (hs:cH E st w) (hf:bB E N fr a) (hw:(step (.QN len sz n d c) fr st).wp (aC P) K) (hc:fV E st w o a next K):o.wp P a w next Q:=by
 have h1:=bG hx hf
 have h2:=bG hy hf
 cases hq:P.info? e with
 |none=>simp [hq] at hz
 |some i=>
 have hi:i.size=sz:=by simpa [hq] using hz
 simp only [step] at hw
 split at hw
 · rename_i cs k j e1 e2
   rw [e1] at h1
   rw [e2] at h2
   have h2:=h2.int
   generalize hy:a.eval x=y at h1
   cases h1 with
   |deep hd=>cases hd
   |agg _ b hb LS Xp=>
    obtain ⟨mT,hw⟩:=hw
    rw [xV] at mT
    unfold T.opt at hw
    split at hw
    · rename_i v hv
      obtain ⟨z,GF,Jt⟩:=sT (w:=w) hn ⟨hb,Xp⟩ LS hv
      exact aX (x:=z) (by simp [execOp,ho,hy,h2,Instr.index,asIntOf,run_underlying hu,mT.1,mT.2,sizeOf,typeInfo,hq,hi,GF]) (hc.same hs hw Jt)
    · exact hw.elim
 · exact hw.elim
theorem Q7 {x:Operand} {d:bL} {i:Nat} (ho:o.op=.extract x i) (hx:eL x d=true)
 (hs:cH E st w) (hf:bB E N fr a) (hw:(step (.ext d i) fr st).wp (aC P) K) (hc:fV E st w o a next K):o.wp P a w next Q:=by
 have h1:=bG hx hf
 simp only [step] at hw
 split at hw
 · rename_i vs e1
   rw [e1] at h1
   generalize hy:a.eval x=y at h1
   cases h1 with
   |deep hd=>cases hd
   |bY _ b hb Xp=>
    unfold T.opt at hw
    split at hw
    · rename_i v hv
      obtain ⟨z,GF,Jt⟩:=eT.get ⟨hb,Xp⟩ hv
      exact aX (x:=z) (by simp [execOp,ho,hy,Instr.extract,GF]) (hc.same hs hw Jt)
    · exact hw.elim
 · exact hw.elim
theorem OW {f:Nat} {first cap:Array Operand} {ds:List bL} (ho:o.op=.makeFunc (.func f) first cap) (h0:first.size=0) (hx:D7 cap.toList ds=true)
 (hs:cH E st w) (hf:bB E N fr a) (hw:(step (.HQ f ds) fr st).wp (aC P) K) (hc:fV E st w o a next K):o.wp P a w next Q:=by
 have h1:=AJ hf hx
 have h0:first=#[]:=by simpa using h0
 subst h0
 refine aX (x:=.func (.func f) #[] (cap.map a.eval)) (by simp [execOp,ho,Instr.makeFunc]) (hc.same hs hw ?_)
 have e:(cap.toList.map a.eval).toArray=cap.map a.eval:=by
  apply Array.ext'
  simp
 rw [e] at h1
 exact .fn _ _ _ _ _ rfl h1.1 (fun j v x hj=>by simp at hj) h1.2
end
open Go
def gN (E:Env) (w:World) (b o:Nat) (cs:List V):Prop:=
 ∀ j v,cs[j]? =some v->∃ x,bM w b (o+j)=some x/\Rel E v x/\x.oneCell'=true
theorem fF.one {I:AH} {v:V} {x:Value} (h:fF I v x):x.oneCell'=true:=by cases h<;>rfl
theorem gN.mono {E F:Env} (h:E.Le F) {w:World} {b o:Nat} {cs:List V} (hc:gN E w b o cs):gN F w b o cs:=
 fun j v hj=>let ⟨x,a,c,d⟩:=hc j v hj;⟨x,a,c.mono h,d⟩
theorem gN.sub {E:Env} {w:World} {b o:Nat} {cs:List V} (hc:gN E w b o cs) (off n:Nat):gN E w b (o+off) ((cs.drop off).take n):=by
 intro j v hj
 rw [List.getElem?_take] at hj
 split at hj
 · rw [List.getElem?_drop] at hj
   rw [Nat.add_assoc]
   exact hc _ v hj
 · cases hj
theorem iH.AK {z:Nat} {E:Env} {w:World} {L:Loc} {cs:List V} (h:iH z E w L cs):gN E w L.bS L.base cs:=by
 obtain ⟨cells,t,fz,h1,_,_,_,h5⟩:=h
 intro j v hj
 obtain ⟨x,hx,hr,ho⟩:=h5 j v hj
 exact ⟨x,by simp [bM,h1,hx],hr,ho⟩
theorem cH.Wc {E:Env} {st:St} {w:World} (h:cH E st w) {cs:List V} {b o:Nat} {val:Nat->Value} (hv:∀ j d,cs[j]? =some d->E.I b (o+j)=some (val j))
 (hr:∀ j d,cs[j]? =some d->fF E.I d (val j)):gN E w b o cs:=
 fun j v hj=>⟨val j,h.j6 _ _ _ (hv j v hj),.deep (hr j v hj),(hr j v hj).one⟩
theorem gN.list {E:Env} {w:World} {b:Nat}:∀ {cs:List V} {o:Nat},gN E w b o cs->
 ∃ xs:List Value,xs.length=cs.length/\w.rangeAt b o xs/\eT E cs xs.toArray/\∀ x∈xs,x.oneCell'=true:=by
 intro cs
 induction cs with
 |nil=>exact fun _=>⟨[],rfl,fun j v hj=>by simp at hj,⟨rfl,fun j v x hj=>by simp at hj⟩,fun x hx=>by simp at hx⟩
 |cons v r ih=>
  intro o h
  obtain ⟨x,hx,hr,ho⟩:=h 0 v rfl
  obtain ⟨xs,h1,h2,h3,h4⟩:=ih (o:=o+1) (fun j u hj=>by
   have:=h (j+1) u (by simpa using hj)
   rw [show o+1+j=o+(j+1) by omega];exact this)
  refine ⟨x::xs,by simp [h1],?_,⟨by simp [h1],?_⟩,?_⟩
  · intro j u hj
    cases j with
    |zero=>
     simp at hj
     subst hj
     rw [lY];exact hx
    |succ j=>
     have:=h2 j u (by simpa using hj)
     rw [show o+(j+1)=o+1+j by omega];exact this
  · intro j u y hj hy
    cases j with
    |zero=>
     simp at hj hy
     subst hj;subst hy;exact hr
    |succ j=>exact h3.2 j u y (by simpa using hj) (by simpa using hy)
  · intro y hy
    cases hy with
    |head=>exact ho
    |tail _ hy=>exact h4 y hy
theorem vQ {P:Program} {E:Env} {w:World} {t:TypeId} {n:Option Nat} (hn:vP P t n=true) {b o:Nat} {cs:List V} (h:gN E w b o cs) {off:Nat} {v:V}
 (hv:dS cs off n=some v):∃ x,(loadVar t ⟨b,o+off,none⟩).run P w=.ok x w/\Rel E v x:=by
 unfold vP at hn
 split at hn
 · rename_i d hd
   obtain ⟨x,hx,hr,_⟩:=h off v hv
   refine ⟨x,?_,hr⟩
   have hf:d.isRow=false:=by simpa using hn
   have hc:w.cell? ⟨b,o+off,none⟩=some x:=by rw [lY];exact hx
   simp [loadVar,BK hd,hf,load,Sem.run,hc]
 · rename_i k d hd
   simp only [Bool.and_eq_true,beq_iff_eq] at hn
   obtain ⟨hl,rfl⟩:=CC hv
   obtain ⟨xs,h1,h2,h3,h4⟩:=(h.sub off k).list
   have hk:xs.length=k:=by rw [h1];simp;omega
   refine ⟨.agg xs.toArray,run_loadVar_mid w b (o+off) t xs d h2 hd hn.1 (by rw [hn.2,hk]),.agg _ _ h3.1 ?_ h3.2⟩
   intro j x hx
   exact h4 x (List.mem_of_getElem? (i:=j) (by simpa using hx))
 · cases hn
def sU:Array Value->Nat->List Value->Array Value
 |c,_,[]=>c
 |c,o,v::r=>sU (c.setIfInBounds o v) (o+1) r
theorem jP:∀ (vs:List Value) (c:Array Value) (o:Nat),(sU c o vs).size=c.size
 |[],_,_=>rfl
 |v::r,c,o=>by rw [sU,jP r];simp
theorem nB:∀ (vs:List Value) (c:Array Value) (o j:Nat),o+vs.length<=c.size->
 (sU c o vs)[j]? =if o<=j/\j<o+vs.length then vs[j - o]? else c[j]?
 |[],c,o,j,_=>by simp [sU];omega
 |v::r,c,o,j,h=>by
  simp only [List.length_cons] at h
  rw [sU,nB r _ _ _ (by simp;omega)]
  by_cases h1:j=o
  · subst h1
    rw [if_neg (by omega),if_pos (by simp)]
    simp [show j<c.size by omega]
  · by_cases h2:o+1<=j/\j<o+1+r.length
    · rw [if_pos h2,if_pos (by simp;omega)]
      rw [show j - o=(j - (o+1))+1 by omega]
      simp
    · rw [if_neg h2,if_neg (by simp;omega)]
      rw [Array.getElem?_setIfInBounds_ne (fun e=>h1 e.symm)]
theorem jQ:∀ (vs cs:List V) (o:Nat),(dT cs o vs).length=cs.length
 |[],_,_=>rfl
 |v::r,c,o=>by rw [dT,jQ r];simp
theorem jR:∀ (vs cs:List V) (o j:Nat),o+vs.length<=cs.length->
 (dT cs o vs)[j]? =if o<=j/\j<o+vs.length then vs[j - o]? else cs[j]?
 |[],c,o,j,_=>by simp [dT];omega
 |v::r,c,o,j,h=>by
  simp only [List.length_cons] at h
  rw [dT,jR r _ _ _ (by simp;omega)]
  by_cases h1:j=o
  · subst h1
    rw [if_neg (by omega),if_pos (by simp)]
    simp [show j<c.length by omega]
  · by_cases h2:o+1<=j/\j<o+1+r.length
    · rw [if_pos h2,if_pos (by simp;omega)]
      rw [show j - o=(j - (o+1))+1 by omega]
      simp
    · rw [if_neg h2,if_neg (by simp;omega)]
      rw [List.getElem?_set_ne (fun e=>h1 e.symm)]
theorem lB (b:Nat):∀ (vs:List Value) (o:Nat) (w:World) {c:Array Value} {t:TypeId} {fz:Nat×Nat},w.heap[b]? =some (.cells c t fz)->
 (w.setCells b o vs).heap[b]? =some (.cells (sU c o vs) t fz)
 |[],_,_,_,_,_,h=>h
 |v::r,o,w,c,t,fz,h=>by
  refine lB b r (o+1) _ ?_
  simp only [World.setCell,Array.getElem?_modify,h,if_true,Option.map_some]
  rfl
theorem mA (b:Nat) {k:Nat} (hk:k≠b):∀ (vs:List Value) (o:Nat) (w:World),(w.setCells b o vs).heap[k]? =w.heap[k]?
 |[],_,_=>rfl
 |v::r,o,w=>by
  rw [World.setCells,mA b hk r]
  simp only [World.setCell,Array.getElem?_modify]
  rw [if_neg (by omega)]
theorem nP (b:Nat):∀ (vs:List Value) (o:Nat) (w:World),(w.setCells b o vs).heap.size=w.heap.size/\(w.setCells b o vs).os=w.os/\(w.setCells b o vs).output=w.output/\(w.setCells b o vs).tape=w.tape
 |[],_,_=>⟨rfl,rfl,rfl,rfl⟩
 |v::r,o,w=>by
  obtain ⟨h1,h2,h3,h4⟩:=nP b r (o+1) (w.setCell ⟨b,o,none⟩ v)
  exact ⟨h1.trans (by simp [World.setCell]),h2,h3,h4⟩
theorem Fz.free {z:Nat} {w:World} {b:Nat} {c:Array Value} {t:TypeId} {fz:Nat×Nat} (hb:w.heap[b]? =some (.cells c t fz)) (hf:tU z fz c.size) {j:Nat} (hj:j<c.size):w.frozen? ⟨b,j,none⟩=false:=by
 obtain ⟨lo,hi⟩:=fz
 simp only [World.frozen?,hb,Bool.and_eq_false_iff,decide_eq_false_iff_not]
 rcases hf with h|h
 · simp only at h;omega
 · simp only at h;omega
theorem Row.there {z:Nat} {w:World} {b:Nat} {c:Array Value} {t:TypeId} {fz:Nat×Nat} (hb:w.heap[b]? =some (.cells c t fz)) (hf:tU z fz c.size) {o n:Nat} (hn:o+n<=c.size):w.there b o n:=by
 intro j hj
 refine ⟨?_,Fz.free hb hf (by omega)⟩
 rw [lY]
 simp only [bM,hb]
 simp [show o+j<c.size by omega]
theorem cH.write {E:Env} {st:St} {w:World} (h:cH E st w) {k:Key} {o0:Obj} (hk:st.get k=some o0) {cells:Array Value} {t:TypeId} {fz:Nat×Nat}
 (hb:w.heap[(E.μ k).bS]? =some (.cells cells t fz)) (zS:(E.μ k).fin<=cells.size) {pos:Nat} {xs:List Value} (h1:(E.μ k).base<=pos) (h2:pos+xs.length<=(E.μ k).fin) (o':Obj)
 (Wb:Holds (E.at k) (w.setCells (E.μ k).bS pos xs) (E.μ k) o'):
 cH E (st.set k o') (w.setCells (E.μ k).bS pos xs)/\Ext E st w E (st.set k o') (w.setCells (E.μ k).bS pos xs):=by
 obtain ⟨r1,r2,r3,r4⟩:=nP (E.μ k).bS xs pos w
 refine h.set hk o' r1 (fun b dJ=>mA _ dJ _ _ _) r2 r3 r4 ?_ Wb
 intro j x hx
 have hI:=h.j6 _ _ _ hx
 simp only [bM,hb,lB _ xs pos w hb] at hI ⊢
 rw [nB _ _ _ _ (by omega)]
 by_cases cY:pos<=j/\j<pos+xs.length
 · have:=h.own k ⟨o0,hk⟩ j (by omega) (by omega)
   rw [this] at hx;cases hx
 · rw [if_neg cY];exact hI
theorem iH.written {z:Nat} {E:Env} {w:World} {L:Loc} {cs:List V} {cells:Array Value} {t:TypeId} {fz:Nat×Nat} (hb:w.heap[L.bS]? =some (.cells cells t fz)) (hf:tU z fz cells.size)
 (h1:L.base+cs.length<=L.fin) (h2:L.fin<=cells.size) (h3:∀ j v,cs[j]? =some v->∃ x,cells[L.base+j]? =some x/\Rel E v x/\x.oneCell'=true)
 {off:Nat} {vs:List V} {xs:List Value} (hr:eT E vs xs.toArray) (ho:∀ x∈xs,x.oneCell'=true) (cY:off+vs.length<=cs.length):
 iH z E (w.setCells L.bS (L.base+off) xs) L (dT cs off vs):=by
 have hl:xs.length=vs.length:=by simpa using hr.1
 refine ⟨_,t,fz,lB _ xs _ w hb,by rw [jP];exact hf,by rw [jQ];exact h1,by rw [jP];exact h2,?_⟩
 intro j v hj
 rw [jR _ _ _ _ cY] at hj
 rw [nB _ _ _ _ (by omega)]
 by_cases hc:off<=j/\j<off+vs.length
 · rw [if_pos hc] at hj
   rw [if_pos (by omega)]
   obtain ⟨x,hx,xU⟩:=hr.get hj
   rw [show L.base+j - (L.base+off)=j - off by omega]
   exact ⟨x,by simpa using hx,xU,ho x (List.mem_of_getElem? (i:=j - off) (by simpa using hx))⟩
 · rw [if_neg hc] at hj
   rw [if_neg (by omega)]
   exact h3 j v hj
section
variable {P:Program} {o:Oper} {a:Act} {E:Env} {N:Nat} {st:St} {w:World} {fr:Fr} {next:Act->World->Prop} {Q:Exit->Act->World->Prop} {K:R->Prop}
theorem cH.cs {k:Key} {c:List V} (hs:cH E st w) (hk:st.get k=some (.cs c)):iH 1 (E.at k) w (E.μ k) c:=(hs.obj k _ hk).2
theorem cH.D8 {k:Key} {c:List V} (hs:cH E st w) (hk:st.get k=some (.cs c)):(E.μ k).base=0:=(hs.obj k _ hk).1
theorem pZ {sz:Nat}:∀ {es:List (List V)},(∀ e∈es,e.length=sz)->∀ {ix j:Nat} {e:List V},es[ix]? =some e->j<sz->es.flatten[ix*sz+j]? =e[j]? :=by
 intro es
 induction es with
 |nil=>intro _ ix j e h;simp at h
 |cons d r ih=>
  intro hl ix j e h hj
  have hd:d.length=sz:=hl d (.head _)
  rw [List.flatten_cons]
  cases ix with
  |zero=>
   simp at h
   subst h
   rw [Nat.zero_mul,Nat.zero_add,List.getElem?_append_left (by omega)]
  |succ ix=>
   rw [List.getElem?_append_right (by rw [hd,Nat.succ_mul];omega),hd]
   rw [show (ix+1)*sz+j - sz=ix*sz+j by rw [Nat.succ_mul];omega]
   exact ih (fun e he=>hl e (.tail _ he)) (by simpa using h) hj
theorem dA {sz:Nat}:∀ {es:List (List V)},(∀ e∈es,e.length=sz)->es.flatten.length=es.length*sz:=by
 intro es
 induction es with
 |nil=>intro _;simp
 |cons d r ih=>
  intro hl
  rw [List.flatten_cons,List.length_append,ih (fun e he=>hl e (.tail _ he)),hl d (.head _),List.length_cons,Nat.succ_mul]
  omega
theorem nC {sz:Nat}:∀ {es:List (List V)},(∀ e∈es,e.length=sz)->∀ n,(es.take n).flatten=es.flatten.take (n*sz):=by
 intro es
 induction es with
 |nil=>intro _ n;simp
 |cons d r ih=>
  intro hl n
  have hd:d.length=sz:=hl d (.head _)
  cases n with
  |zero=>simp
  |succ n=>
   rw [List.take_succ_cons,List.flatten_cons,List.flatten_cons,ih (fun e he=>hl e (.tail _ he)),List.take_append,hd,Nat.succ_mul]
   rw [List.take_of_length_le (l:=d) (by omega),show n*sz+sz - sz=n*sz by omega]
theorem nD {sz:Nat}:∀ {es:List (List V)},(∀ e∈es,e.length=sz)->∀ n,(es.drop n).flatten=es.flatten.drop (n*sz):=by
 intro es
 induction es with
 |nil=>intro _ n;simp
 |cons d r ih=>
  intro hl n
  have hd:d.length=sz:=hl d (.head _)
  cases n with
  |zero=>simp
  |succ n=>
   rw [List.drop_succ_cons,List.flatten_cons,ih (fun e he=>hl e (.tail _ he)),List.drop_append,hd,Nat.succ_mul]
   have h0:d.drop (n*sz+sz)=[]:=List.drop_eq_nil_of_le (by omega)
   rw [h0,List.nil_append,show n*sz+sz - sz=n*sz by omega]
theorem elem_at {w:World} {b base sz:Nat} {es:List (List V)} (hl:∀ e∈es,e.length=sz) (h:gN E w b base es.flatten) {ix:Nat} {e:List V} (he:es[ix]? =some e):
 gN E w b (base+ix*sz) e:=by
 intro j v hj
 have GG:j<sz:=by
  have:=(List.getElem?_eq_some_iff.1 hj).1
  rw [hl e (List.mem_of_getElem? he)] at this;exact this
 rw [Nat.add_assoc]
 exact h _ v (by rw [pZ hl he GG];exact hj)
theorem OX {t:TypeId} {x:Operand} {d:bL} {n:Option Nat} (ho:o.op=.load t x) (hx:eL x d=true) (hn:vP P t n=true) (hs:cH E st w) (hf:bB E N fr a)
 (hw:(step (.load n d) fr st).wp (aC P) K) (hc:fV E st w o a next K):o.wp P a w next Q:=by
 have h1:=bG hx hf
 have fin:∀ {b c:Nat} {cs:List V} {off:Nat} {v:V},a.eval x=.pointer (some ⟨b,c+off,none⟩)->gN E w b c cs->dS cs off n=some v->K (v,st)->o.wp P a w next Q:=by
  intro b c cs off v hp zT hv hk
  obtain ⟨z,GF,Jt⟩:=vQ (P:=P) hn zT hv
  exact aX (x:=z) (by simp [execOp,ho,hp,Instr.loadAt,Instr.sureAddr,GF]) (hc.same hs hk Jt)
 simp only [step] at hw
 split at hw
 · rename_i k off e1
   rw [e1] at h1
   generalize hy:a.eval x=y at h1
   cases h1 with
   |deep hd=>cases hd
   |p _ _ hk=>
    obtain ⟨ob,eO,hw⟩:=hw
    dsimp only at hw
    split at hw
    · rename_i c
      unfold T.opt at hw
      split at hw
      · rename_i v hv
        exact fin hy ((hs.cs eO).AK.mono (E.D2 k)) hv hw
      · exact hw.elim
    · exact hw.elim
 · rename_i k sz ix off e1
   rw [e1] at h1
   generalize hy:a.eval x=y at h1
   cases h1 with
   |deep hd=>cases hd
   |pa _ _ _ _ hk=>
    obtain ⟨ob,eO,hw⟩:=hw
    dsimp only at hw
    split at hw
    · rename_i eD es
      split at hw
      · rename_i hz
        subst hz
        obtain ⟨e,he,hw⟩:=hw
        dsimp only at hw
        unfold T.opt at hw
        split at hw
        · rename_i v hv
          have dR:=hs.obj k _ eO
          have:=elem_at dR.1 (dR.2.AK.mono (E.D2 k)) he
          exact fin hy this hv hw
        · exact hw.elim
      · exact hw.elim
    · exact hw.elim
 · rename_i cs off e1
   rw [e1] at h1
   generalize hy:a.eval x=y at h1
   cases h1 with
   |deep hd=>cases hd
   |pc _ _ bS c0 val hv hr=>
    unfold T.opt at hw
    split at hw
    · rename_i v Xq
      exact fin hy (hs.Wc hv hr) Xq hw
    · exact hw.elim
 · exact hw.elim
end
open Go
section
variable {P:Program} {o:Oper} {a:Act} {E:Env} {N:Nat} {st:St} {w:World} {fr:Fr} {next:Act->World->Prop} {Q:Exit->Act->World->Prop} {K:R->Prop}
theorem BL {v:V} {x:Value} (hs:v.V7=true) (hr:Rel E v x):eT E v.cells x.cells/\∀ y∈x.cells.toList,y.oneCell'=true:=by
 cases hr with
 |agg cs b hb h1 Xp=>
  refine ⟨⟨hb,Xp⟩,fun y hy=>?_⟩
  obtain ⟨j,hj⟩:=List.getElem?_of_mem hy
  have GG:b.toList[j]? =some y:=hj
  rw [Array.getElem?_toList] at GG
  exact h1 j y GG
 |gD=>cases hs
 |bY=>cases hs
 |pc=>cases hs
 |deep hd=>
  have h1:=hd.one
  have hc:x.cells=#[x]:=by cases x<;>first|rfl|(simp [Value.oneCell'] at h1)
  have hv:v.cells=[v]:=by cases hd<;>rfl
  rw [hc,hv]
  refine ⟨⟨rfl,fun j u y hj hy=>?_⟩,fun y hy=>by simp at hy;subst hy;exact h1⟩
  cases j with
  |zero=>simp at hj hy;subst hj;subst hy;exact .deep hd
  |succ j=>simp at hj
 |lJ=>exact ⟨⟨rfl,fun j u y hj hy=>by cases j<;>simp [V.cells,Value.cells] at hj hy;subst hj;subst hy;exact .lJ⟩,fun y hy=>by simp [Value.cells] at hy;subst hy;rfl⟩
 |p k off hk=>exact ⟨⟨rfl,fun j u y hj hy=>by cases j<;>simp [V.cells,Value.cells] at hj hy;subst hj;subst hy;exact .p _ _ hk⟩,fun y hy=>by simp [Value.cells] at hy;subst hy;rfl⟩
 |pa k sz ix off hk=>exact ⟨⟨rfl,fun j u y hj hy=>by cases j<;>simp [V.cells,Value.cells] at hj hy;subst hj;subst hy;exact .pa _ _ _ _ hk⟩,fun y hy=>by simp [Value.cells] at hy;subst hy;rfl⟩
 |F4 k sz es a cap hk hd H0 Ay=>exact ⟨⟨rfl,fun j u y hj hy=>by cases j<;>simp [V.cells,Value.cells] at hj hy;subst hj;subst hy;exact .F4 _ _ _ _ _ hk hd H0 Ay⟩,fun y hy=>by simp [Value.cells] at hy;subst hy;rfl⟩
 |ms k sz st len a cap hk h1 h2 h4 h3=>exact ⟨⟨rfl,fun j u y hj hy=>by cases j<;>simp [V.cells,Value.cells] at hj hy;subst hj;subst hy;exact .ms _ _ _ _ _ _ hk h1 h2 h4 h3⟩,fun y hy=>by simp [Value.cells] at hy;subst hy;rfl⟩
 |gS=>exact ⟨⟨rfl,fun j u y hj hy=>by cases j<;>simp [V.cells,Value.cells] at hj hy;subst hj;subst hy;exact .gS⟩,fun y hy=>by simp [Value.cells] at hy;subst hy;rfl⟩
 |m k hk=>exact ⟨⟨rfl,fun j u y hj hy=>by cases j<;>simp [V.cells,Value.cells] at hj hy;subst hj;subst hy;exact .m _ hk⟩,fun y hy=>by simp [Value.cells] at hy;subst hy;rfl⟩
 |fn f p q p' q' h1 h2 h3 h4=>exact ⟨⟨rfl,fun j u y hj hy=>by cases j<;>simp [V.cells,Value.cells] at hj hy;subst hj;subst hy;exact .fn _ _ _ _ _ h1 h2 h3 h4⟩,fun y hy=>by simp [Value.cells] at hy;subst hy;rfl⟩
 |lK=>exact ⟨⟨rfl,fun j u y hj hy=>by cases j<;>simp [V.cells,Value.cells] at hj hy;subst hj;subst hy;exact .lK⟩,fun y hy=>by simp [Value.cells] at hy;subst hy;rfl⟩
def Env.Ju (E:Env) (g:Bool):Env:=
 match g with
 |true=>E.cut
 |false=>E
theorem vR {g:Bool} {l l':List V} {xs:Array Value} (h:tS g l=some l') (hr:eT E l xs):eT (E.Ju g) l' xs:=by
 cases g with
 |true=>exact D6 h hr
 |false=>simp only [tS,Option.some.injEq] at h;subst h;exact hr
theorem Env.zU (E:Env) (k:Key):E.at k=E.Ju k.sC:=by cases k<;>rfl
theorem C9 {t:TypeId} {x:Value} {b c:Nat} (hi:(P.info? t).map (·.size)=some x.cells.size) (ht:w.there b c x.cells.size) (h1:∀ y∈x.cells.toList,y.oneCell'=true):
 (storeVar t ⟨b,c,none⟩ x).run P w=.ok () (w.setCells b c x.cells.toList):=by
 have:=run_storeCells_cells (P:=P) b c x.cells.toList 0 w (fun j hj=>by simpa using (ht j (by simpa using hj)).1) (fun j hj=>by simpa using (ht j (by simpa using hj)).2) h1
 cases hq:P.info? t with
 |none=>simp [hq] at hi
 |some i=>
  have hs:x.cells.size=i.size:=by simp [hq] at hi;omega
  simp only [Nat.add_zero] at this
  simp [storeVar,sizeOf,typeInfo,hq,hs,this]
theorem JE {sz:Nat}:∀ {es:List (List V)},(∀ e∈es,e.length=sz)->∀ {ix:Nat} {e:List V},es[ix]? =some e->∀ (off:Nat) (vs:List V),off+vs.length<=sz->
 (es.set ix (dT e off vs)).flatten=dT es.flatten (ix*sz+off) vs:=by
 intro es hl ix e he off vs cY
 have cO:ix<es.length:=(List.getElem?_eq_some_iff.1 he).1
 have hle:e.length=sz:=hl e (List.mem_of_getElem? he)
 have y9:∀ d∈es.set ix (dT e off vs),d.length=sz:=by
  intro d hd
  rcases List.mem_or_eq_of_mem_set hd with h|h
  · exact hl d h
  · rw [h,jQ];exact hle
 have hmul:(ix+1)*sz<=es.length*sz:=Nat.mul_le_mul_right _ cO
 rw [Nat.succ_mul] at hmul
 apply List.ext_getElem?
 intro j
 have aaE:=dA y9
 have Wd:=dA hl
 rw [jR _ _ _ _ (by rw [Wd];omega)]
 by_cases hj:j<es.length*sz
 · have lI:0<sz:=by
    rcases Nat.eq_zero_or_pos sz with h|h
    · subst h;simp at hj
    · exact h
   have hd:j=j/sz*sz+j%sz:=by rw [Nat.mul_comm];exact (Nat.div_add_mod j sz).symm
   have hm:j%sz<sz:=Nat.mod_lt _ lI
   have hq:j/sz<es.length:=(Nat.div_lt_iff_lt_mul lI).2 hj
   generalize j/sz=q at hd hq
   generalize j%sz=m at hd hm
   subst hd
   obtain ⟨d,hdq⟩:∃ d,es[q]? =some d:=⟨es[q],by simp [hq]⟩
   rw [pZ hl hdq hm]
   by_cases hqi:q=ix
   · subst hqi
     rw [he] at hdq
     cases hdq
     rw [pZ y9 (e:=dT e off vs) (by simp [hq]) hm,jR _ _ _ _ (by omega)]
     by_cases hc:off<=m/\m<off+vs.length
     · rw [if_pos hc,if_pos (by omega)]
       congr 1;omega
     · rw [if_neg hc,if_neg (by omega)]
   · rw [pZ y9 (e:=d) (by rw [List.getElem?_set_ne (fun e=>hqi e.symm)];exact hdq) hm]
     rw [if_neg]
     rintro ⟨h1,h2⟩
     have:q=ix:=by
      rcases Nat.lt_trichotomy q ix with h|h|h
      · have:(q+1)*sz<=ix*sz:=Nat.mul_le_mul_right _ h
        rw [Nat.succ_mul] at this;omega
      · exact h
      · have:(ix+1)*sz<=q*sz:=Nat.mul_le_mul_right _ h
        rw [Nat.succ_mul] at this;omega
     exact hqi this
 · rw [List.getElem?_eq_none (by rw [aaE];simp;omega),if_neg (by omega),List.getElem?_eq_none (by rw [Wd];omega)]
theorem LU {t:TypeId} {x y:Operand} {d e:bL} {n:Nat} (ho:o.op=.store t x y) (hx:eL x d=true) (hy:eL y e=true) (hn:(P.info? t).map (·.size)=some n)
 (hs:cH E st w) (hf:bB E N fr a) (hw:(step (.store n d e) fr st).wp (aC P) K) (hc:fV E st w o a next K):o.wp P a w next Q:=by
 have h1:=bG hx hf
 have h2:=bG hy hf
 simp only [step] at hw
 split at hw
 case isFalse=>exact hw.elim
 rename_i mY
 obtain ⟨Xr,hlen⟩:=mY
 obtain ⟨mV,iW⟩:=BL Xr h2
 have lI:(a.eval y).cells.size=n:=by rw [mV.1];exact hlen
 have eI:∀ {b c:Nat},a.eval x=.pointer (some ⟨b,c,none⟩)->w.there b c (a.eval y).cells.size->(execOp a.eval o).run P w=.ok .skip (w.setCells b c (a.eval y).cells.toList):=by
  intro b c hp ht
  have:=C9 (P:=P) (t:=t) (x:=a.eval y) (by rw [hn,lI]) ht iW
  simp [execOp,ho,hp,Instr.storeAt,Instr.sureAddr,this]
 have Q8:Rel E (.bY []) undef:=.bY _ _ rfl (fun j v x hj=>by simp at hj)
 split at hw
 · rename_i k off e1
   rw [e1] at h1
   generalize hp:a.eval x=z at h1
   cases h1 with
   |deep hd=>cases hd
   |p _ _ hk=>
    unfold T.opt at hw
    split at hw
    case h_2=>exact hw.elim
    rename_i vs Xs
    obtain ⟨ob,eO,hw⟩:=hw
    dsimp only at hw
    split at hw
    case h_2=>exact hw.elim
    rename_i c
    split at hw
    case h_2=>exact hw.elim
    rename_i Da
    have Da:off+vs.length<=c.length:=by simpa [pV] using Da
    have vH:=vR Xs mV
    rw [<-Env.zU] at vH
    obtain ⟨cells,ty,fz,r1,r2,r3,r4,r5⟩:=hs.cs eO
    have Jv:(a.eval y).cells.size=vs.length:=vH.1
    have dR:=iH.written r1 r2 r3 r4 r5 (vs:=vs) (xs:=(a.eval y).cells.toList) vH iW Da
    obtain ⟨s1,s2⟩:=hs.write eO r1 r4 (pos:=(E.μ k).base+off) (xs:=(a.eval y).cells.toList) (by omega) (by simp [Jv];omega) (.cs (dT c off vs)) ⟨hs.D8 eO,dR⟩
    exact HZ (eI hp (Row.there r1 r2 (by rw [Jv];omega))) (hc _ _ _ _ _ hw s1 s2 Q8)
 · rename_i k sz ix off e1
   rw [e1] at h1
   generalize hp:a.eval x=z at h1
   cases h1 with
   |deep hd=>cases hd
   |pa _ _ _ _ hk=>
    unfold T.opt at hw
    split at hw
    case h_2=>exact hw.elim
    rename_i vs Xs
    obtain ⟨ob,eO,hw⟩:=hw
    dsimp only at hw
    split at hw
    case h_2=>exact hw.elim
    rename_i eD es
    split at hw
    case isFalse=>exact hw.elim
    rename_i hz
    subst hz
    obtain ⟨el,nQ,hw⟩:=hw
    dsimp only at hw
    split at hw
    case h_2=>exact hw.elim
    rename_i Da
    have Da:off+vs.length<=el.length:=by simpa [pV] using Da
    have vH:=vR Xs mV
    rw [<-Env.zU] at vH
    have OY:=hs.obj k _ eO
    obtain ⟨hl,aaF⟩:=OY
    obtain ⟨cells,ty,fz,r1,r2,r3,r4,r5⟩:=aaF
    have Jv:(a.eval y).cells.size=vs.length:=vH.1
    have agJ:el.length=eD:=hl el (List.mem_of_getElem? nQ)
    have cO:ix<es.length:=(List.getElem?_eq_some_iff.1 nQ).1
    have hmul:(ix+1)*eD<=es.length*eD:=Nat.mul_le_mul_right _ cO
    rw [Nat.succ_mul] at hmul
    have vG:=dA hl
    have LV:=JE hl nQ off vs (by omega)
    have dR:=iH.written r1 r2 r3 r4 r5 (off:=ix*eD+off) (vs:=vs) (xs:=(a.eval y).cells.toList) vH iW (by omega)
    rw [<-LV,<-Nat.add_assoc] at dR
    have y9:∀ d∈es.set ix (dT el off vs),d.length=eD:=by
     intro d hd
     rcases List.mem_or_eq_of_mem_set hd with h|h
     · exact hl d h
     · rw [h,jQ];exact agJ
    obtain ⟨s1,s2⟩:=hs.write eO r1 r4 (pos:=(E.μ k).base+ix*eD+off) (xs:=(a.eval y).cells.toList) (by omega) (by simp [Jv];omega) (.arr eD (es.set ix (dT el off vs))) ⟨y9,dR⟩
    exact HZ (eI hp (Row.there r1 r2 (by rw [Jv];omega))) (hc _ _ _ _ _ hw s1 s2 Q8)
 · exact hw.elim
end
end Go.Eng
