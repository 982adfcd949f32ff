/-
The check that an abstract operation stands for the model's, and that it then does.
-/
import Derived.Test.YtmfelikepmmjkaaGreatX06
import Derived.Test.YtmfelikepmmjkaaGreatX01
set_option linter.unusedVariables false
set_option linter.unusedSimpArgs false
namespace Go.Eng
open Go
def JU (P:Program) (t:TypeId):Option (TypeId×Nat×Nat):=
 match P.underlying t with
 |some (.slice el)=>match P.info? el with
  |some i=>some (el,i.size,i.bytes)
  |none=>none
 |_=>none
theorem iV {P:Program} {t el:TypeId} {sz bytes:Nat} (h:JU P t=some (el,sz,bytes)):P.underlying t=some (.slice el)/\(P.info? el).map (·.size)=some sz:=by
 unfold JU at h
 split at h
 · split at h
   · rename_i hi
     cases h
     exact ⟨‹_›,by rw [hi];rfl⟩
   · cases h
 · cases h
def blt (op:Op) (b:Builtin):Option (List Operand×Option TypeId×Option TypeId):=
 match op with
 |.call c=>match c.callee with
  |.builtin b'=>if b'=b then some (c.args.toList,c.argTypes[0]?,c.argTypes[1]?) else none
  |_=>none
 |_=>none
theorem mD {op:Op} {b:Builtin} {xs:List Operand} {t0 t1:Option TypeId} (h:blt op b=some (xs,t0,t1)):∃ ts:Array TypeId,op=.call { callee:=.builtin b,args:=xs.toArray,argTypes:=ts }/\ts[0]? =t0/\ts[1]? =t1:=by
 unfold blt at h
 split at h
 · rename_i c
   split at h
   · rename_i b' hb
     split at h
     · rename_i hbb
       subst hbb
       simp only [Option.some.injEq,Prod.mk.injEq] at h
       obtain ⟨rfl,h0,h1⟩:=h
       refine ⟨c.argTypes,?_,h0,h1⟩
       cases c
       simp only at hb
       subst hb
       rfl
     · cases h
   · cases h
 · cases h
def Mh (P:Program) (op:Op) (A:AE):Bool:=
 match A with
 |.mv d=>match op with
  |.move x=>eL x d
  |_=>false
 |.Nv d=>match op with
  |.assign x=>eL x d
  |_=>false
 |.pick c d e=>match op with
  |.pick x y z=>eL x c&&eL y d&&eL z e
  |_=>false
 |.alloc _ zero=>match op with
  |.alloc t=>mB P t zero
  |_=>false
 |.box _ d=>match op with
  |.box _ x=>eL x d
  |_=>false
 |.Ul zero qs=>match op with
  |.build t ps=>mB P t zero&&(match P.underlying t with
   |some (.struct fs)=>(fs.toList.all fun f=>(P.info? f.type).isSome)&&xW P fs ps.toList qs
   |some (.array _ e)=>(match P.info? e with
    |some i=>sV i.size ps.toList qs
    |none=>false)
   |_=>false)
  |_=>false
 |.Um _ sz len zero qs=>match op with
  |.buildSlice t l ps=>decide (l=len)&&(match JU P t with
   |some (el,_,bytes)=>Gd P el sz bytes&&mB P el zero&&decide (len*sz<=16777216)&&sX ps.toList qs
   |none=>false)
  |_=>false
 |.load n d=>match op with
  |.load t x=>eL x d&&vP P t n
  |_=>false
 |.store n d e=>match op with
  |.store t x y=>eL x d&&eL y e&&decide ((P.info? t).map (·.size)=some n)
  |_=>false
 |.DX d=>match op with
  |.nilCheck x=>eL x d
  |_=>false
 |.bin b d e=>match op with
  |.binOp b' _ x y _=>decide (b'=b)&&eL x d&&eL y e
  |_=>false
 |.UF row ks neg d e=>match op with
  |.binOp b t x y _=>decide (b=if neg then .neq else .eql)&&eL x d&&eL y e&&Rz P t row ks
  |_=>false
 |.Zv neg d e=>match op with
  |.binOp b t x y _=>decide (b=if neg then .neq else .eql)&&eL x d&&eL y e&&Rp P t e
  |_=>false
 |.un u d=>match op with
  |.unOp u' _ x=>decide (u'=u)&&eL x d
  |_=>false
 |.UG k d=>match op with
  |.convert s t x=>eL x d&&(P.underlying s).isSome&&(match P.underlying t with
   |some (.int k')=>decide (k'=k)
   |_=>false)
  |_=>false
 |.UH d=>match op with
  |.convert s t x=>eL x d&&(P.underlying s).isSome&&(match P.underlying t with
   |some .string=>true
   |_=>false)
  |_=>false
 |.Uo _ d=>match op with
  |.convert s t x=>eL x d&&(match P.underlying s,P.underlying t with
   |some .string,some (.slice el)=>(match P.underlying el with
    |some (.int .u8)=>true
    |_=>false)
   |_,_=>false)
  |_=>false
 |.UI d=>match op with
  |.convert s t x=>eL x d&&decide (s=t)&&(match P.underlying t with
   |some (.slice el)=>(match P.underlying el with
    |some (.int .u8)=>true
    |_=>false)
   |_=>false)
  |_=>false
 |.OO d=>match op with
  |.convert s t x=>eL x d&&(match P.underlying s,P.underlying t with
   |some (.slice el),some .string=>(match P.underlying el with
    |some (.int .u8)=>true
    |_=>false)
   |_,_=>false)
  |_=>false
 |.HQ f ds=>match op with
  |.makeFunc g first cap=>(match g with
   |.func f'=>decide (f'=f)&&decide (first.size=0)&&D7 cap.toList ds
   |_=>false)
  |_=>false
 |.DY _ _=>match op with
  |.makeMap _ none=>true
  |_=>false
 |.LL _ sz bytes zero d e=>match op with
  |.makeSlice t x y=>eL x d&&eL y e&&(match P.underlying t with
   |some (.slice el)=>Gd P el sz bytes&&mB P el zero
   |_=>false)
  |_=>false
 |.AG d l h=>match op with
  |.slice t x lo hi none=>eL x d&&vO lo l&&vO hi h&&(match P.underlying t with
   |some .string=>true
   |_=>false)
  |_=>false
 |.yQ sz d l h mx=>match op with
  |.slice t x lo hi none=>eL x d&&vO lo l&&vO hi h&&mx.isNone&&decide (0<sz)&&(match JU P t with
   |some (_,eD,_)=>decide (eD=sz)
   |none=>false)
  |.slice t x lo hi (some m)=>eL x d&&vO lo l&&vO hi h&&vO (some m) mx&&h.isSome&&mx.isSome&&decide (0<sz)&&(match JU P t with
   |some (_,eD,_)=>decide (eD=sz)
   |none=>false)
  |_=>false
 |.uW off d=>match op with
  |.fieldAddr t x f=>eL x d&&(match P.underlying t with
   |some (.struct fs)=>(match fs[f]? with
    |some fl=>decide (fl.offset=off)&&(match P.info? fl.type with
     |some i=>decide (i.size≠0)
     |none=>false)
    |none=>false)
   |_=>false)
  |_=>false
 |.Qu off n d=>match op with
  |.field t x f=>eL x d&&(match P.underlying t with
   |some (.struct fs)=>(match fs[f]? with
    |some fl=>decide (fl.offset=off)&&vP P fl.type n
    |none=>false)
   |_=>false)
  |_=>false
 |.Ga sz d c=>match op with
  |.indexAddr t x y=>eL x d&&eL y c&&(match JU P t with
   |some (_,eD,_)=>decide (eD=sz)
   |none=>false)
  |_=>false
 |.HR len sz d c=>match op with
  |.indexAddr t x y=>eL x d&&eL y c&&(match P.underlying t with
   |some (.array n e)=>decide (n=len)&&decide ((P.info? e).map (·.size)=some sz)
   |_=>false)
  |_=>false
 |.UJ d c=>match op with
  |.index t x y=>eL x d&&eL y c&&(match P.underlying t with
   |some .string=>true
   |_=>false)
  |_=>false
 |.QN len sz n d c=>match op with
  |.index t x y=>eL x d&&eL y c&&(match P.underlying t with
   |some (.array m e)=>decide (m=len)&&decide ((P.info? e).map (·.size)=some sz)&&vP P e n
   |_=>false)
  |_=>false
 |.Up kd zero d e ok=>match op with
  |.lookup t x y ok'=>eL x d&&eL y e&&decide (ok'=ok)&&(match P.underlying t with
   |some (.map kt el)=>AS P kt kd&&(match P.info? el with
    |some i=>(match i.zero with
     |some z=>rK 4 z zero
     |none=>false)
    |none=>false)
   |_=>false)
  |_=>false
 |.LM kd d e c=>match op with
  |.mapUpdate t x y v=>eL x d&&eL y e&&eL v c&&(match P.underlying t with
   |some (.map kt _)=>AS P kt kd
   |_=>false)
  |.insert t x y v=>eL x d&&eL y e&&eL v c&&(match P.underlying t with
   |some (.map kt _)=>AS P kt kd
   |_=>false)
  |_=>false
 |.ext d i=>match op with
  |.extract x j=>eL x d&&decide (j=i)
  |_=>false
 |.call f ds=>match op with
  |.call c=>(match c.callee with
   |.value (.func g)=>decide (g=f)&&D7 c.args.toList ds
   |_=>false)
  |_=>false
 |.y8 g ds=>match op with
  |.call c=>(match c.callee with
   |.value f=>eL f g&&D7 c.args.toList ds
   |_=>false)
  |_=>false
 |.HS d=>match blt op .len with
  |some ([x],some t,_)=>eL x d&&(match P.underlying t with
   |some .string=>true
   |_=>false)
  |_=>false
 |.Gb d=>match blt op .len with
  |some ([x],some t,_)=>eL x d&&(match P.underlying t with
   |some (.slice _)=>true
   |_=>false)
  |_=>false
 |.HT n=>match blt op .len with
  |some ([_],some t,_)=>(match P.underlying t with
   |some (.array m _)=>decide (m=n)
   |_=>false)
  |_=>false
 |.HU d=>match blt op .len with
  |some ([x],some t,_)=>eL x d&&(match P.underlying t with
   |some (.map _ _)=>true
   |_=>false)
  |_=>false
 |.BI max ds=>match blt op (if max then .max else .min) with
  |some (xs,_,_)=>D7 xs ds
  |none=>false
 |.append _ sz bytes d e=>match blt op .append with
  |some ([s,x],some t,t1)=>eL s d&&eL x e&&sF P t1&&(match P.underlying t with
   |some (.slice el)=>Gd P el sz bytes
   |_=>false)
  |_=>false
 |.copy sz d e=>match blt op .copy with
  |some ([x,y],some t,_)=>eL x d&&eL y e&&(match JU P t with
   |some (_,eD,_)=>decide (eD=sz)
   |none=>false)
  |_=>false
 |.delete kd d e=>match blt op .delete with
  |some ([x,y],some t,_)=>eL x d&&eL y e&&(match P.underlying t with
   |some (.map kt _)=>AS P kt kd
   |_=>false)
  |_=>false
 |.clear sz zero d=>match blt op .clear with
  |some ([x],some t,_)=>eL x d&&(match JU P t with
   |some (el,_,bytes)=>Gd P el sz bytes&&mB P el zero
   |none=>false)
  |_=>false
 |.no=>true
section
variable {P:Program} {o:Oper} {a:Act} {E:Env} {N:Nat} {st:St} {w:World} {fr:Fr} {next:Act->World->Prop} {Q:Exit->Act->World->Prop} {K:R->Prop}
theorem step_ok {A:AE} (h:Mh P o.op A=true) (hs:cH E st w) (hf:bB E N fr a) (hw:(step A fr st).wp (aC P) K) (hc:fV E st w o a next K):o.wp P a w next Q:=by
 cases A<;>simp only [Mh] at h
 case mv=>split at h<;>first|exact UO ‹_› h hs hf hw hc|cases h
 case Nv=>split at h<;>first|exact Q0 ‹_› h hs hf hw hc|cases h
 case pick=>
  split at h
  · simp only [Bool.and_eq_true] at h;exact OS ‹_› h.1.1 h.1.2 h.2 hs hf hw hc
  · cases h
 case alloc=>split at h<;>first|exact LW ‹_› h hs hw hc|cases h
 case box=>split at h<;>first|exact Q9 ‹_› h hs hf hw hc|cases h
 case Ul=>
  split at h
  · simp only [Bool.and_eq_true] at h
    obtain ⟨h1,h2⟩:=h
    split at h2
    · simp only [Bool.and_eq_true] at h2
      exact LY ‹_› h1 ‹_› h2.1 h2.2 hs hf hw hc
    · split at h2
      · rename_i hi
        exact LZ ‹_› h1 ‹_› (by rw [hi];rfl) h2 hs hf hw hc
      · cases h2
    · cases h2
  · cases h
 case Um=>
  split at h
  · simp only [Bool.and_eq_true,decide_eq_true_eq] at h
    obtain ⟨rfl,h2⟩:=h
    split at h2
    · rename_i he
      simp only [Bool.and_eq_true,decide_eq_true_eq] at h2
      exact Rj ‹_› (iV he).1 h2.1.1.1 h2.1.1.2 h2.1.2 h2.2 hs hf hw hc
    · cases h2
  · cases h
 case load=>
  split at h
  · simp only [Bool.and_eq_true] at h;exact OX ‹_› h.1 h.2 hs hf hw hc
  · cases h
 case store=>
  split at h
  · simp only [Bool.and_eq_true,decide_eq_true_eq] at h;exact LU ‹_› h.1.1 h.1.2 h.2 hs hf hw hc
  · cases h
 case DX=>split at h<;>first|exact OU ‹_› h hs hf hw hc|cases h
 case bin=>
  split at h
  · simp only [Bool.and_eq_true,decide_eq_true_eq] at h
    obtain ⟨⟨rfl,h1⟩,h2⟩:=h
    exact Q1 ‹_› h1 h2 hs hf hw hc
  · cases h
 case UF=>
  split at h
  · simp only [Bool.and_eq_true,decide_eq_true_eq] at h
    exact RA ‹_› h.1.1.1 h.1.1.2 h.1.2 h.2 hs hf hw hc
  · cases h
 case Zv=>
  split at h
  · simp only [Bool.and_eq_true,decide_eq_true_eq] at h
    exact Rr ‹_› h.1.1.1 h.1.1.2 h.1.2 h.2 hs hf hw hc
  · cases h
 case un=>
  split at h
  · simp only [Bool.and_eq_true,decide_eq_true_eq] at h
    obtain ⟨rfl,h1⟩:=h
    exact UQ ‹_› h1 hs hf hw hc
  · cases h
 case UG=>
  split at h
  · simp only [Bool.and_eq_true] at h
    obtain ⟨⟨h1,h2⟩,h3⟩:=h
    split at h3
    · simp only [decide_eq_true_eq] at h3
      subst h3
      exact Q2 ‹_› h1 h2 ‹_› hs hf hw hc
    · cases h3
  · cases h
 case UH=>
  split at h
  · simp only [Bool.and_eq_true] at h
    obtain ⟨⟨h1,h2⟩,h3⟩:=h
    split at h3
    · exact Q3 ‹_› h1 h2 ‹_› hs hf hw hc
    · cases h3
  · cases h
 case Uo=>
  split at h
  · simp only [Bool.and_eq_true] at h
    obtain ⟨h1,h3⟩:=h
    split at h3
    · rename_i hA hB
      split at h3
      · exact Rk ‹_› h1 hA hB ‹_› hs hf hw hc
      · cases h3
    · cases h3
  · cases h
 case UI=>
  split at h
  · simp only [Bool.and_eq_true,decide_eq_true_eq] at h
    obtain ⟨⟨h1,rfl⟩,h3⟩:=h
    split at h3
    · rename_i hA
      split at h3
      · exact Rm ‹_› h1 hA ‹_› hs hf hw hc
      · cases h3
    · cases h3
  · cases h
 case OO=>
  split at h
  · simp only [Bool.and_eq_true] at h
    obtain ⟨h1,h3⟩:=h
    split at h3
    · rename_i hA hB
      split at h3
      · exact Rn ‹_› h1 hA ‹_› hB hs hf hw hc
      · cases h3
    · cases h3
  · cases h
 case HQ=>
  split at h
  · split at h
    · simp only [Bool.and_eq_true,decide_eq_true_eq] at h
      obtain ⟨⟨rfl,h1⟩,h2⟩:=h
      exact OW ‹_› h1 h2 hs hf hw hc
    · cases h
  · cases h
 case DY=>split at h<;>first|exact LX ‹_› hs hw hc|cases h
 case LL=>
  split at h
  · simp only [Bool.and_eq_true] at h
    obtain ⟨⟨h1,h2⟩,h3⟩:=h
    split at h3
    · simp only [Bool.and_eq_true] at h3
      exact O1 ‹_› h1 h2 ‹_› h3.1 h3.2 hs hf hw hc
    · cases h3
  · cases h
 case AG=>
  split at h
  · simp only [Bool.and_eq_true] at h
    obtain ⟨⟨⟨h1,h2⟩,h3⟩,h4⟩:=h
    split at h4
    · exact Ma ‹_› ‹_› h1 h2 h3 hs hf hw hc
    · cases h4
  · cases h
 case yQ=>
  split at h
  · simp only [Bool.and_eq_true,decide_eq_true_eq,Option.isNone_iff_eq_none] at h
    obtain ⟨⟨⟨⟨⟨h1,h2⟩,h3⟩,rfl⟩,h5⟩,h4⟩:=h
    split at h4
    · rename_i he
      simp only [decide_eq_true_eq] at h4
      subst h4
      exact O7 ‹_› (iV he).1 (iV he).2 h5 h1 h2 h3 hs hf hw hc
    · cases h4
  · simp only [Bool.and_eq_true,decide_eq_true_eq] at h
    obtain ⟨⟨⟨⟨⟨⟨⟨h1,h2⟩,h3⟩,h6⟩,h7⟩,h8⟩,h5⟩,h4⟩:=h
    split at h4
    · rename_i he
      simp only [decide_eq_true_eq] at h4
      subst h4
      exact Mg ‹_› (iV he).1 (iV he).2 h5 h1 h2 h3 h6 h7 h8 hs hf hw hc
    · cases h4
  · cases h
 case uW=>
  split at h
  · simp only [Bool.and_eq_true] at h
    obtain ⟨h1,h2⟩:=h
    split at h2
    · rename_i hu
      split at h2
      · rename_i vG
        simp only [Bool.and_eq_true,decide_eq_true_eq] at h2
        obtain ⟨h3,h4⟩:=h2
        split at h4
        · rename_i i hi
          simp only [decide_eq_true_eq] at h4
          exact LR ‹_› h1 hu vG h3 ⟨i,hi,h4⟩ hs hf hw hc
        · cases h4
      · cases h2
    · cases h2
  · cases h
 case Qu=>
  split at h
  · simp only [Bool.and_eq_true] at h
    obtain ⟨h1,h2⟩:=h
    split at h2
    · rename_i hu
      split at h2
      · rename_i vG
        simp only [Bool.and_eq_true,decide_eq_true_eq] at h2
        exact Q4 ‹_› h1 hu vG h2.1 h2.2 hs hf hw hc
      · cases h2
    · cases h2
  · cases h
 case Ga=>
  split at h
  · simp only [Bool.and_eq_true] at h
    obtain ⟨⟨h1,h2⟩,h3⟩:=h
    split at h3
    · rename_i he
      simp only [decide_eq_true_eq] at h3
      subst h3
      exact O8 ‹_› h1 h2 (iV he).1 (iV he).2 hs hf hw hc
    · cases h3
  · cases h
 case HR=>
  split at h
  · simp only [Bool.and_eq_true] at h
    obtain ⟨⟨h1,h2⟩,h3⟩:=h
    split at h3
    · simp only [Bool.and_eq_true,decide_eq_true_eq] at h3
      obtain ⟨rfl,h4⟩:=h3
      exact OV ‹_› h1 h2 ‹_› h4 hs hf hw hc
    · cases h3
  · cases h
 case UJ=>
  split at h
  · simp only [Bool.and_eq_true] at h
    obtain ⟨⟨h1,h2⟩,h3⟩:=h
    split at h3
    · exact Q5 ‹_› h1 h2 ‹_› hs hf hw hc
    · cases h3
  · cases h
 case QN=>
  split at h
  · simp only [Bool.and_eq_true] at h
    obtain ⟨⟨h1,h2⟩,h3⟩:=h
    split at h3
    · simp only [Bool.and_eq_true,decide_eq_true_eq] at h3
      obtain ⟨⟨rfl,h4⟩,h5⟩:=h3
      exact Q6 ‹_› h1 h2 ‹_› h4 h5 hs hf hw hc
    · cases h3
  · cases h
 case Up=>
  split at h
  · simp only [Bool.and_eq_true,decide_eq_true_eq] at h
    obtain ⟨⟨⟨h1,h2⟩,rfl⟩,h3⟩:=h
    split at h3
    · rename_i hu
      simp only [Bool.and_eq_true] at h3
      obtain ⟨h4,h5⟩:=h3
      split at h5
      · rename_i hi
        split at h5
        · rename_i hz
          exact Ru ‹_› hu h4 hi hz h5 h1 h2 hs hf hw hc
        · cases h5
      · cases h5
    · cases h3
  · cases h
 case LM=>
  split at h
  · simp only [Bool.and_eq_true] at h
    obtain ⟨⟨⟨h1,h2⟩,h3⟩,h4⟩:=h
    split at h4
    · exact GR (.inl ‹_›) ‹_› h4 h1 h2 h3 hs hf hw hc
    · cases h4
  · simp only [Bool.and_eq_true] at h
    obtain ⟨⟨⟨h1,h2⟩,h3⟩,h4⟩:=h
    split at h4
    · exact GR (.inr ‹_›) ‹_› h4 h1 h2 h3 hs hf hw hc
    · cases h4
  · cases h
 case ext=>
  split at h
  · simp only [Bool.and_eq_true,decide_eq_true_eq] at h
    obtain ⟨h1,rfl⟩:=h
    exact Q7 ‹_› h1 hs hf hw hc
  · cases h
 case call=>
  split at h
  · rename_i c heq
    split at h
    · rename_i g H4
      simp only [Bool.and_eq_true,decide_eq_true_eq] at h
      obtain ⟨rfl,h2⟩:=h
      cases c
      simp only at H4 h2
      subst H4
      exact Pf heq h2 hs hf hw hc
    · cases h
  · cases h
 case y8=>
  split at h
  · rename_i c heq
    split at h
    · rename_i g H4
      simp only [Bool.and_eq_true] at h
      cases c
      simp only at H4 h
      subst H4
      exact Me heq h.1 h.2 hs hf hw hc
    · cases h
  · cases h
 case HS=>
  split at h
  · rename_i hb
    obtain ⟨ts,h1,h2,_⟩:=mD hb
    simp only [Bool.and_eq_true] at h
    obtain ⟨h3,h4⟩:=h
    split at h4
    · exact O2 h1 h2 ‹_› h3 hs hf hw hc
    · cases h4
  · cases h
 case Gb=>
  split at h
  · rename_i hb
    obtain ⟨ts,h1,h2,_⟩:=mD hb
    simp only [Bool.and_eq_true] at h
    obtain ⟨h3,h4⟩:=h
    split at h4
    · exact O3 h1 h2 ‹_› h3 hs hf hw hc
    · cases h4
  · cases h
 case HT=>
  split at h
  · rename_i hb
    obtain ⟨ts,h1,h2,_⟩:=mD hb
    split at h
    · simp only [decide_eq_true_eq] at h
      subst h
      exact O4 h1 h2 ‹_› hs hw hc
    · cases h
  · cases h
 case HU=>
  split at h
  · rename_i hb
    obtain ⟨ts,h1,h2,_⟩:=mD hb
    simp only [Bool.and_eq_true] at h
    obtain ⟨h3,h4⟩:=h
    split at h4
    · exact O5 h1 h2 ‹_› h3 hs hf hw hc
    · cases h4
  · cases h
 case BI=>
  split at h
  · rename_i hb
    obtain ⟨ts,h1,h2,_⟩:=mD hb
    exact Pb h1 (by simpa using h) hs hf hw hc
  · cases h
 case append=>
  split at h
  · rename_i hb
    obtain ⟨ts,h1,h2,XI⟩:=mD hb
    simp only [Bool.and_eq_true] at h
    obtain ⟨⟨⟨h3,h4⟩,h5⟩,h6⟩:=h
    split at h6
    · exact step_append h1 h2 ‹_› h6 (by rw [XI];exact h5) h3 h4 hs hf hw hc
    · cases h6
  · cases h
 case copy=>
  split at h
  · rename_i hb
    obtain ⟨ts,h1,h2,XI⟩:=mD hb
    simp only [Bool.and_eq_true] at h
    obtain ⟨⟨h3,h4⟩,h5⟩:=h
    split at h5
    · rename_i he
      simp only [decide_eq_true_eq] at h5
      subst h5
      exact Pa h1 h2 (iV he).1 (iV he).2 h3 h4 hs hf hw hc
    · cases h5
  · cases h
 case delete=>
  split at h
  · rename_i hb
    obtain ⟨ts,h1,h2,XI⟩:=mD hb
    simp only [Bool.and_eq_true] at h
    obtain ⟨⟨h3,h4⟩,h5⟩:=h
    split at h5
    · exact JP h1 h2 ‹_› h5 h3 h4 hs hf hw hc
    · cases h5
  · cases h
 case clear=>
  split at h
  · rename_i hb
    obtain ⟨ts,h1,h2,XI⟩:=mD hb
    simp only [Bool.and_eq_true] at h
    obtain ⟨h3,h5⟩:=h
    split at h5
    · rename_i he
      simp only [Bool.and_eq_true] at h5
      exact Mc h1 h2 (iV he).1 h5.1 h5.2 h3 hs hf hw hc
    · cases h5
  · cases h
 case no=>exact hw.elim
end
open Go
theorem dC {n:Nat}:∀ {l:List Nat},cN n l=true↔n∈l
 |[]=>by simp [cN]
 |k::r=>by
  simp only [cN,List.mem_cons]
  cases h:Nat.beq n k with
  |true=>have:=Nat.eq_of_beq_eq_true h;simp [this]
  |false=>
   have:n≠k:=Nat.ne_of_beq_eq_false h
   simp [this,dC]
theorem V.force_eq {α:Type} (v:V) (k:V->α):v.force k=k v:=by cases v<;>rfl
def Fr.oY (fr:Fr) (ks:List Nat):Fr:=fr.filter fun q=>!cN q.1 ks
theorem Fr.cU {α:Type} (ks:List Nat):∀ (fr:Fr) (k:Fr->α),fr.cut ks k=k (fr.oY ks)
 |[],k=>rfl
 |(n,v)::r,k=>by
  simp only [Fr.cut]
  cases h:cN n ks with
  |true=>simp only;rw [Fr.cU ks r];simp [Fr.oY,h]
  |false=>simp only;rw [Fr.cU ks r];simp [Fr.oY,h]
theorem Fr.iC (ks:List Nat) (t:Nat):∀ fr:Fr,(fr.oY ks).get t=if cN t ks then .gD else fr.get t
 |[]=>by simp [Fr.oY,Fr.get]
 |(n,v)::r=>by
  have ih:=Fr.iC ks t r
  simp only [Fr.oY] at ih ⊢
  by_cases hn:n=t
  · subst hn
    cases h:cN n ks with
    |true=>rw [List.filter_cons_of_neg (by simp [h])];rw [ih,h];rfl
    |false=>rw [List.filter_cons_of_pos (by simp [h])];simp [Fr.get]
  · by_cases h:cN n ks=true
    · rw [List.filter_cons_of_neg (by simp [h]),ih]
      simp [Fr.get,hn]
    · rw [List.filter_cons_of_pos (by simp [h])]
      simp only [Fr.get,if_neg hn]
      exact ih
def Fr.next (fr:Fr) (dst:Option Nat) (v:V) (kill:List Nat):Fr:=
 match dst with
 |some d=>match kill with
  |[]=>(d,v)::fr
  |x::ks=>if cN d (x::ks) then fr.oY (d::x::ks) else (d,v)::fr.oY (d::x::ks)
 |none=>match kill with
  |[]=>fr
  |x::ks=>fr.oY (x::ks)
theorem Fr.cW {α:Type} (fr:Fr) (dst:Option Nat) (v:V) (kill:List Nat) (k:Fr->α):fr.after dst v kill k=k (fr.next dst v kill):=by
 unfold Fr.after Fr.next
 cases dst with
 |none=>
  cases kill with
  |nil=>rfl
  |cons x ks=>simp only;rw [Fr.cU]
 |some d=>
  cases kill with
  |nil=>simp only;rw [V.force_eq]
  |cons x ks=>
   simp only
   cases h:cN d (x::ks) with
   |true=>simp only;rw [Fr.cU];simp
   |false=>simp only;rw [Fr.cU,V.force_eq];simp
theorem Fr.qE (fr:Fr) (dst:Option Nat) (v:V) (kill:List Nat) (t:Nat):(fr.next dst v kill).get t=if cN t kill then .gD else if dst=some t then v else fr.get t:=by
 cases dst with
 |none=>
  cases kill with
  |nil=>simp [Fr.next,cN]
  |cons x ks=>simp [Fr.next,Fr.iC]
 |some d=>
  cases kill with
  |nil=>
   simp only [Fr.next,Fr.get,cN,Bool.false_eq_true,if_false,Option.some.injEq]
  |cons x ks=>
   simp only [Fr.next,Option.some.injEq]
   by_cases hm:cN d (x::ks)=true
   · rw [if_pos hm,Fr.iC]
     by_cases ht:cN t (x::ks)=true
     · rw [if_pos ht,if_pos (by rw [dC] at ht ⊢;exact .tail _ ht)]
     · have dJ:¬d=t:=fun e=>ht (e▸hm)
       rw [if_neg ht,if_neg dJ,if_neg]
       rw [dC] at ht ⊢
       intro XJ
       rcases List.mem_cons.1 XJ with rfl|XJ
       · exact dJ rfl
       · exact ht XJ
   · rw [if_neg hm]
     simp only [Fr.get]
     by_cases hd:d=t
     · subst hd;rw [if_pos rfl,if_neg hm,if_pos rfl]
     · rw [if_neg hd,if_neg hd,Fr.iC]
       by_cases ht:cN t (x::ks)=true
       · rw [if_pos ht,if_pos (by rw [dC] at ht ⊢;exact .tail _ ht)]
       · rw [if_neg ht,if_neg]
         rw [dC] at ht ⊢
         intro XJ
         rcases List.mem_cons.1 XJ with rfl|XJ
         · exact hd rfl
         · exact ht XJ
theorem bB.next {E:Env} {N:Nat} {fr:Fr} {a:Act} (h:bB E N fr a) {dst:Option Nat} (hd:∀ d,dst=some d->d<N) {v:V} {x:Value} (hr:Rel E v x) (kill:List Nat):bB E N (fr.next dst v kill) (a.put dst x):=by
 refine ⟨by cases dst<;>simp [Act.put,h.size],fun t=>?_⟩
 rw [Fr.qE]
 split
 · exact .gD _
 · split
   · rename_i ht
     subst ht
     have cO:t<a.tmps.size:=by rw [h.size];exact hd t rfl
     simp only [Act.put,Array.getD_eq_getD_getElem?]
     simp [cO]
     exact hr
   · rename_i ht
     cases dst with
     |none=>exact h.rel t
     |some d=>
      have dJ:d≠t:=fun e=>ht (by rw [e])
      have:(a.put (some d) x).tmps.getD t undef=a.tmps.getD t undef:=by
       simp only [Act.put,Array.getD_eq_getD_getElem?]
       rw [Array.getElem?_setIfInBounds_ne dJ]
      rw [this]
      exact h.rel t
theorem put_defers (a:Act) (dst:Option Nat) (x:Value):(a.put dst x).defers=a.defers:=by cases dst<;>rfl
def mE (ops:Array Oper):Option (Nat×Bool)->Option (Nat×Bool)->Bool
 |none,none=>true
 |some (j,w),some (t,w')=>decide (w=w')&&(match ops[j]? with
  |some o=>decide (o.dst=some t)
  |none=>false)
 |_,_=>false
def JV (N:Nat):Option Nat->Bool
 |some d=>decide (d<N)
 |none=>true
def zF (P:Program) (N:Nat) (ops:Array Oper):List Oper->List dL->Bool
 |[],[]=>true
 |o::l,A::asV=>Mh P o.op A.op&&decide (A.dst=o.dst)&&JV N o.dst&&mE ops o.guard A.guard&&zF P N ops l asV
 |_,_=>false
theorem bB.same {E:Env} {N:Nat} {fr:Fr} {a:Act} (h:bB E N fr a) {t:Nat} {v:V} (hv:fr.get t=v):bB E N ((t,v)::fr.oY [t]) a:=by
 refine ⟨h.size,fun t'=>?_⟩
 simp only [Fr.get]
 by_cases ht:t=t'
 · subst ht;rw [if_pos rfl,<-hv];exact h.rel t
 · rw [if_neg ht,Fr.iC]
   split
   · exact .gD _
   · exact h.rel t'
section
variable {P:Program} {N:Nat} {ops:Array Oper} {Q:Exit->Act->World->Prop} {K:Fr×St->Prop}
theorem GU {E:Env} {fr:Fr} {a:Act} (hf:bB E N fr a) {j t:Nat} {o:Oper} (ho:ops[j]? =some o) (hd:o.dst=some t) {b:Bool} (hv:fr.get t=.b b):yielded ops a.tmps j=some b:=by
 have h:=hf.rel t
 rw [hv] at h
 have h:=h.bool
 simp only [yielded,ho,Option.bind_some,hd]
 simp only [Array.getD_eq_getD_getElem?] at h
 cases hq:a.tmps[t]? with
 |none=>rw [hq] at h;simp [undef] at h
 |some x=>rw [hq] at h;simp at h;rw [h]
theorem GV {E:Env} {fr:Fr} {a:Act} (hf:bB E N fr a) {j t:Nat} {o:Oper} (ho:ops[j]? =some o) (hd:o.dst=some t) {cs:List V} (hv:fr.get t=.bY cs):yielded ops a.tmps j=none:=by
 have h:=hf.rel t
 rw [hv] at h
 simp only [yielded,ho,Option.bind_some,hd]
 simp only [Array.getD_eq_getD_getElem?] at h
 cases hq:a.tmps[t]? with
 |none=>rfl
 |some x=>
  rw [hq] at h
  simp only [Option.getD_some] at h
  cases h with
  |deep hd=>cases hd
  |bY=>rfl
theorem Ep (more:List Nat):∀ (asV:List dL) (l:List Oper) (i:Nat),zF P N ops l asV=true->(∀ k o,l[k]? =some o->ops[i+k]? =some o)->
 ∀ {E:Env} {st:St} {w:World} {fr:Fr} {a:Act},cH E st w->bB E N fr a->(eF asV fr st).wp (aC P) K->
  (∀ cF cB E' a' w',K (cF,cB)->cH E' cB w'->Ext E st w E' cB w'->bB E' N cF a'->a'.defers=a.defers->wpOps P ops Q more a' w')->
  wpOps P ops Q (List.range' i l.length++more) a w
 |[],[],i,_,_,E,st,w,fr,a,hs,hf,hw,hQ=>hQ fr st E a w hw hs (.refl E st w) hf rfl
 |[],_::_,i,hk,_,E,st,w,fr,a,hs,hf,hw,hQ=>by simp [zF] at hk
 |_::_,[],i,hk,_,E,st,w,fr,a,hs,hf,hw,hQ=>by simp [zF] at hk
 |A::asV,o::l,i,hk,aaZ,E,st,w,fr,a,hs,hf,hw,hQ=>by
  simp only [zF,Bool.and_eq_true,decide_eq_true_eq] at hk
  obtain ⟨⟨⟨⟨k1,k2⟩,k3⟩,k4⟩,k5⟩:=hk
  have ho:ops[i]? =some o:=aaZ 0 o rfl
  have hdn:∀ d,o.dst=some d->d<N:=fun d hd=>by rw [hd] at k3;simpa [JV] using k3
  have aa1:∀ k o',l[k]? =some o'->ops[i+1+k]? =some o':=fun k o' h=>by
   have:=aaZ (k+1) o' (by simpa using h)
   rwa [show i+1+k=i+(k+1) by omega]
  -- LQ rest,from aa2 state LQ operation leaves
  have rest:∀ {E':Env} {cB:St} {w':World} {cF:Fr} {a':Act},cH E' cB w'->Ext E st w E' cB w'->bB E' N cF a'->a'.defers=a.defers->(eF asV cF cB).wp (aC P) K->wpOps P ops Q (List.range' (i+1) l.length++more) a' w':=by
   intro E' cB w' cF a' s1 s2 s3 s4 JI
   exact Ep more asV l (i+1) k5 aa1 s1 s3 JI (fun f2 st2 E2 a2 w2 h1 h2 h3 h4 h5=>hQ f2 st2 E2 a2 w2 h1 h2 (s2.trans h3) h4 (h5.trans s4))
  -- LQ operation is carried out
  have XK:∀ {sZ:Fr},bB E N sZ a->((step A.op sZ st).bind fun x=>match x with
   |(v,st)=>sZ.after A.dst v A.kill fun fr=>eF asV fr st).wp (aC P) K->o.wp P a w (wpOps P ops Q (List.range' (i+1) l.length++more)) Q:=by
   intro sZ Ic Uu
   rw [T.wp_bind] at Uu
   refine step_ok k1 hs Ic Uu ?_
   intro v cB E' w' x BT s1 s2 hr
   dsimp only at BT
   rw [Fr.cW] at BT
   refine rest s1 s2 (bB.next (Ic.mono s2.le) hdn hr A.kill) (put_defers _ _ _) ?_
   rw [<-k2];exact BT
  have skip:∀ {sZ:Fr},bB E N sZ a->(sZ.after A.dst (.bY []) A.kill fun fr=>eF asV fr st).wp (aC P) K->wpOps P ops Q (List.range' (i+1) l.length++more) (a.put o.dst undef) w:=by
   intro sZ Ic Uu
   rw [Fr.cW] at Uu
   refine rest hs (.refl E st w) (bB.next Ic hdn gC A.kill) (put_defers _ _ _) ?_
   rw [<-k2];exact Uu
  rw [List.length_cons,List.range'_succ,List.cons_append]
  simp only [wpOps,ho]
  simp only [eF] at hw
  split at hw
  · rename_i hgA
    have hg:o.guard=none:=by
     rw [hgA] at k4
     cases hg:o.guard with
     |none=>rfl
     |some q=>rw [hg] at k4;cases q;simp [mE] at k4
    rw [if_pos (by simp [Region.wanted,hg])]
    exact .inl (XK hf hw)
  · rename_i t want hgA
    rw [hgA] at k4
    cases hg:o.guard with
    |none=>rw [hg] at k4;simp [mE] at k4
    |some q=>
    obtain ⟨j,alB⟩:=q
    rw [hg] at k4
    simp only [mE,Bool.and_eq_true,decide_eq_true_eq] at k4
    obtain ⟨rfl,k4⟩:=k4
    split at k4
    case h_2=>cases k4
    rename_i oj hoj
    simp only [decide_eq_true_eq] at k4
    split at hw
    · rename_i x hx
      have hy:=GU hf hoj k4 hx
      have Ic:=hf.same hx
      split at hw
      · cases x with
        |true=>
         have hw:=hw.1 rfl
         rw [Fr.cU] at hw
         rw [if_pos (by simp [Region.wanted,hg,hy])]
         exact .inl (XK Ic hw)
        |false=>
         have hw:=hw.2 rfl
         rw [Fr.cU] at hw
         rw [if_neg (by simp [Region.wanted,hg,hy])]
         exact skip Ic hw
      · cases x with
        |true=>
         have hw:=hw.1 rfl
         rw [Fr.cU] at hw
         rw [if_neg (by simp [Region.wanted,hg,hy])]
         exact skip Ic hw
        |false=>
         have hw:=hw.2 rfl
         rw [Fr.cU] at hw
         rw [if_pos (by simp [Region.wanted,hg,hy])]
         exact .inl (XK Ic hw)
    · rename_i cs hx
      have hy:=GV hf hoj k4 hx
      rw [if_neg (by simp [Region.wanted,hg,hy])]
      exact skip hf hw
    · exact hw.elim
theorem ops_ok (asV:List dL) (l:List Oper) (i:Nat) (hk:zF P N ops l asV=true) (ho:∀ k o,l[k]? =some o->ops[i+k]? =some o)
 {E:Env} {st:St} {w:World} {fr:Fr} {a:Act} (hs:cH E st w) (hf:bB E N fr a) (hw:(eF asV fr st).wp (aC P) K)
  (hQ:∀ cF cB E' a' w',K (cF,cB)->cH E' cB w'->Ext E st w E' cB w'->bB E' N cF a'->a'.defers=a.defers->Q .normal a' w'):
  wpOps P ops Q (List.range' i l.length) a w:=by
 have:=Ep [] asV l i hk ho hs hf hw hQ
 rwa [List.append_nil] at this
end
open Go
mutual
theorem V.beq_eq:∀ {v u:V},V.beq v u=true->v=u
 |.b x,u,h=>by cases u<;>simp [V.beq] at h<;>simp [h]
 |.i k n,u,h=>by cases u<;>simp [V.beq] at h<;>simp [h]
 |.s x,u,h=>by cases u<;>simp [V.beq] at h<;>simp [h]
 |.lJ,u,h=>by cases u<;>simp [V.beq] at h<;>rfl
 |.p k o,u,h=>by cases u<;>simp [V.beq] at h<;>simp [h]
 |.pa k z j o,u,h=>by cases u<;>simp [V.beq] at h<;>simp [h]
 |.pc _ _,u,h=>by cases u<;>simp [V.beq] at h
 |.aS,u,h=>by cases u<;>simp [V.beq] at h<;>rfl
 |.sl t z es,u,h=>by
  cases u<;>simp [V.beq] at h
  have:=V.JW h.2
  simp [h.1,this]
 |.ms k z u' l,u,h=>by cases u<;>simp [V.beq] at h<;>simp [h]
 |.gS,u,h=>by cases u<;>simp [V.beq] at h<;>rfl
 |.m k,u,h=>by cases u<;>simp [V.beq] at h<;>simp [h]
 |.fn _ _ _,u,h=>by cases u<;>simp [V.beq] at h
 |.lK,u,h=>by cases u<;>simp [V.beq] at h<;>rfl
 |.agg cs,u,h=>by
  cases u<;>simp [V.beq] at h
  rw [V.Dy h]
 |.bY cs,u,h=>by
  cases u<;>simp [V.beq] at h
  rw [V.Dy h]
 |.gD,u,h=>by cases u<;>simp [V.beq] at h
theorem V.Dy:∀ {l r:List V},V.LN l r=true->l=r
 |[],r,h=>by cases r<;>simp [V.LN] at h<;>rfl
 |v::l,r,h=>by
  cases r<;>simp [V.LN] at h
  rw [V.beq_eq h.1,V.Dy h.2]
theorem V.JW:∀ {l r:List (List V)},V.JA l r=true->l=r
 |[],r,h=>by cases r<;>simp [V.JA] at h<;>rfl
 |v::l,r,h=>by
  cases r<;>simp [V.JA] at h
  rw [V.Dy h.1,V.JW h.2]
end
def T.dH (st:St):T R->Prop
 |.ret r=>r.2=st
 |.ite _ a b=>a.dH st/\b.dH st
 |.elem _ k=>∀ x,(k x).dH st
 |.byte _ k=>∀ x,(k x).dH st
 |.tQ _ k=>∀ x,(k x).dH st
 |.F2 _ k=>∀ x,(k x).dH st
 |.obj _ k=>∀ x,(k x).dH st
 |.mU _ n k=>n.dH st/\∀ x,(k x).dH st
 |.jL _ k=>k.dH st
 |.wrap _ _ k=>∀ x,(k x).dH st
 |.any _=>False
 |.same _ _ k=>k.dH st
 |.call _ _ _ _=>False
 |.fail=>True
def T.Yields (A:b7) (st:St) (t:T R) (v:V):Prop:=∀ K:R->Prop,K (v,st)->t.wp A K
theorem T.fJ {st:St} {A:b7}:∀ {t:T R} {K:R->Prop},t.dH st->t.wp A K->∃ v,t.Yields A st v/\K (v,st)
 |.ret r,K,hq,h=>by
  obtain ⟨v,s⟩:=r
  simp only [T.dH] at hq
  subst hq
  exact ⟨v,fun K' h'=>h',h⟩
 |.ite c a b,K,hq,h=>by
  cases c with
  |true=>
   obtain ⟨v,h1,h2⟩:=T.fJ hq.1 (h.1 rfl)
   exact ⟨v,fun K' h'=>QU rfl (h1 K' h'),h2⟩
  |false=>
   obtain ⟨v,h1,h2⟩:=T.fJ hq.2 (h.2 rfl)
   exact ⟨v,fun K' h'=>QV rfl (h1 K' h'),h2⟩
 |.elem o k,K,hq,⟨x,hx,h⟩=>by
  obtain ⟨v,h1,h2⟩:=T.fJ (hq x) h
  exact ⟨v,fun K' h'=>⟨x,hx,h1 K' h'⟩,h2⟩
 |.byte o k,K,hq,⟨x,hx,h⟩=>by
  obtain ⟨v,h1,h2⟩:=T.fJ (hq x) h
  exact ⟨v,fun K' h'=>⟨x,hx,h1 K' h'⟩,h2⟩
 |.tQ o k,K,hq,⟨x,hx,h⟩=>by
  obtain ⟨v,h1,h2⟩:=T.fJ (hq x) h
  exact ⟨v,fun K' h'=>⟨x,hx,h1 K' h'⟩,h2⟩
 |.F2 o k,K,hq,⟨x,hx,h⟩=>by
  obtain ⟨v,h1,h2⟩:=T.fJ (hq x) h
  exact ⟨v,fun K' h'=>⟨x,hx,h1 K' h'⟩,h2⟩
 |.obj o k,K,hq,⟨x,hx,h⟩=>by
  obtain ⟨v,h1,h2⟩:=T.fJ (hq x) h
  exact ⟨v,fun K' h'=>⟨x,hx,h1 K' h'⟩,h2⟩
 |.mU o n k,K,hq,h=>by
  cases o with
  |none=>
   obtain ⟨v,h1,h2⟩:=T.fJ hq.1 (h.1 rfl)
   exact ⟨v,fun K' h'=>QW rfl (h1 K' h'),h2⟩
  |some x=>
   obtain ⟨v,h1,h2⟩:=T.fJ (hq.2 x) (h.2 x rfl)
   exact ⟨v,fun K' h'=>QX rfl (h1 K' h'),h2⟩
 |.jL c k,K,hq,h=>by
  obtain ⟨v,h1,h2⟩:=T.fJ (t:=k) hq h.2
  exact ⟨v,fun K' h'=>⟨h.1,h1 K' h'⟩,h2⟩
 |.wrap kd n k,K,hq,h=>by
  obtain ⟨v,h1,h2⟩:=T.fJ (hq _) (pQ.1 h)
  exact ⟨v,fun K' h'=>.inl (h1 K' h'),h2⟩
 |.any k,K,hq,h=>hq.elim
 |.same v u k,K,hq,h=>by
  obtain ⟨x,h1,h2⟩:=T.fJ (t:=k) hq h.2
  exact ⟨x,fun K' h'=>⟨h.1,h1 K' h'⟩,h2⟩
 |.call _ _ _ _,K,hq,h=>hq.elim
 |.fail,K,_,h=>h.elim
def j8:AE->Bool
 |.mv _=>true
 |.Nv _=>true
 |.pick _ _ _=>true
 |.Ul _ _=>true
 |.load _ _=>true
 |.DX _=>true
 |.bin _ _ _=>true
 |.UF _ _ _ _ _=>true
 |.un _ _=>true
 |.UG _ _=>true
 |.UH _=>true
 |.Uo .fz _=>true
 |.Um .fz _ _ _ _=>true
 |.UI _=>true
 |.OO _=>true
 |.HQ _ _=>true
 |.AG _ _ _=>true
 |.yQ _ _ _ _ _=>true
 |.uW _ _=>true
 |.Qu _ _ _=>true
 |.Ga _ _ _=>true
 |.HR _ _ _ _=>true
 |.UJ _ _=>true
 |.QN _ _ _ _ _=>true
 |.Up _ _ _ _ _=>true
 |.ext _ _=>true
 |.HS _=>true
 |.Gb _=>true
 |.HT _=>true
 |.HU _=>true
 |.BI _ _=>true
 |_=>false
theorem T.dB {α:Type} {st:St} {o:Option α} {k:α->T R} (h:∀ x,(k x).dH st):(T.opt o k).dH st:=by
 cases o with
 |none=>trivial
 |some x=>exact h x
theorem Gi {op:BinOp} {x y:V} {st:St}:(rI op x y st).dH st:=by
 unfold rI
 split
 · cases op<;>simp only [T.dH]<;>(try split)<;>simp [T.dH]
 · cases op<;>simp [T.dH]
 · trivial
theorem Gj {sz:Nat} {st:St} {v:V} {k:List (List V)->T R} (h:∀ x,(k x).dH st):(j5 sz st v k).dH st:=by
 unfold j5
 split
 · exact h _
 · split
   · exact h _
   · trivial
 · split
   · intro o
     dsimp only
     split
     · split
       · exact h _
       · trivial
     · trivial
   · trivial
 · split
   · exact h _
   · trivial
 · trivial
theorem Er {o:AE} (h:j8 o=true) (fr:Fr) (st:St):(step o fr st).dH st:=by
 cases o<;>simp only [j8,Bool.false_eq_true] at h<;>simp only [step]
 case mv=>rfl
 case Nv=>rfl
 case pick=>split<;>simp [T.dH]
 case Ul=>exact T.dB fun _=>rfl
 case load=>
  split
  · intro o;dsimp only;split
    · exact T.dB fun _=>rfl
    · trivial
  · intro o;dsimp only;split
    · split
      · intro e;exact T.dB fun _=>rfl
      · trivial
    · trivial
  · exact T.dB fun _=>rfl
  · trivial
 case DX=>split<;>first|rfl|trivial
 case bin=>exact Gi
 case UF=>exact T.dB fun _=>T.dB fun _=>T.dB fun _=>by split<;>rfl
 case un=>split<;>simp [T.dH]
 case UG=>split<;>simp [T.dH]
 case UH=>split<;>first|rfl|trivial
 case Uo m x=>
  cases m<;>simp only [Bool.false_eq_true] at h
  split
  · intro e;rfl
  · trivial
 case Um m sz len zero parts=>
  cases m<;>simp only [Bool.false_eq_true] at h
  exact T.dB fun _ _=>rfl
 case UI=>
  split
  · intro o;dsimp only;split<;>first|rfl|trivial
  · intro o;dsimp only
    split
    · split<;>first|rfl|trivial
    · trivial
  · trivial
 case OO=>exact Gj fun _ _=>rfl
 case HQ=>rfl
 case AG=>
  split
  · exact T.dB fun _=>T.dB fun _=>rfl
  · trivial
 case yQ=>
  split
  · split
    · exact T.dB fun _=>T.dB fun _=>rfl
    · trivial
  · split
    · split
      · split
        · exact T.dB fun _=>rfl
        · exact T.dB fun _=>T.dB fun _=>rfl
      · trivial
    · trivial
  · split
    · exact T.dB fun _=>T.dB fun _=>by
       intro o
       dsimp only
       split
       · split
         · split
           · rfl
           · exact T.dB fun _=>rfl
         · trivial
       · trivial
    · trivial
  · trivial
 case uW=>split<;>first|rfl|trivial
 case Qu=>split<;>first|exact T.dB fun _=>rfl|trivial
 case Ga=>
  split
  · split
    · split
      · intro e;rfl
      · trivial
    · split
      · rfl
      · trivial
    · trivial
  · trivial
 case HR=>
  split
  · simp only [T.dH];split<;>first|rfl|trivial
  · trivial
 case UJ=>split<;>simp [T.dH]
 case QN=>
  split
  · exact T.dB fun _=>rfl
  · trivial
 case Up=>
  split
  · split
    · unfold tT;split<;>simp [T.dH]
    · intro o;dsimp only;split
      · split
        · unfold tT;split<;>simp [T.dH]
        · trivial
      · trivial
    · trivial
  · trivial
 case ext=>split<;>first|exact T.dB fun _=>rfl|trivial
 case HS=>split<;>first|rfl|trivial
 case Gb=>split<;>first|rfl|trivial
 case HT=>rfl
 case HU=>
  split
  · rfl
  · intro o;dsimp only;split<;>first|rfl|trivial
  · trivial
 case BI=>split<;>first|exact T.dB fun _=>rfl|trivial
def Es:AE->Bool
 |.load _ _=>false
 |.OO _=>false
 |.UI _=>false
 |.yQ _ _ _ _ _=>false
 |.Up _ _ _ _ _=>false
 |.HU _=>false
 |o=>j8 o
theorem jU {α:Type} {A':b7} {o:Option α} {k k':α->T R} {K K':R->Prop} (h:∀ x,(k x).wp A' K->(k' x).wp A' K'):(T.opt o k).wp A' K->(T.opt o k').wp A' K':=by
 cases o with
 |none=>exact id
 |some x=>exact h x
theorem Ie {A':b7} {op:BinOp} {x y:V} {st cB:St} {K:R->Prop}:(rI op x y st).wp A' (fun r=>K (r.1,cB))->(rI op x y cB).wp A' K:=by
 unfold rI
 split
 · rename_i k a k' c
   by_cases hk:k=k'
   · subst hk
     cases op<;>simp only [if_true]<;>exact id
   · cases op<;>simp only [if_neg hk]<;>exact id
 · cases op<;>exact id
 · exact False.elim
theorem Pg {o:AE} (h:Es o=true) (A':b7) (fr:Fr) (st cB:St) (K:R->Prop):(step o fr st).wp A' (fun r=>K (r.1,cB))->(step o fr cB).wp A' K:=by
 cases o<;>simp only [Es,j8,Bool.false_eq_true] at h<;>simp only [step]
 case mv=>exact id
 case Nv=>exact id
 case pick=>split<;>exact id
 case Ul=>exact jU fun _=>id
 case DX=>split<;>exact id
 case bin=>exact Ie
 case UF=>exact jU fun _=>jU fun _=>jU fun _=>by split<;>exact id
 case un=>split<;>exact id
 case UG=>split<;>exact id
 case UH=>split<;>exact id
 case HQ=>exact id
 case AG=>
  split
  · exact jU fun _=>jU fun _=>id
  · exact id
 case Um m sz len zero parts=>
  cases m with
  |fz=>exact jU fun _=>id
  |im g=>exact absurd h (by simp)
  |mu g=>exact absurd h (by simp)
 case Uo m x=>
  cases m with
  |fz=>split<;>exact id
  |im g=>exact absurd h (by simp)
  |mu g=>exact absurd h (by simp)
 case uW=>split<;>exact id
 case Qu=>
  split
  · exact jU fun _=>id
  · exact id
 case Ga=>
  split
  · split
    · split<;>exact id
    · split<;>exact id
    · exact id
  · exact id
 case HR=>
  split
  · simp only [T.wp]
    intro h
    refine ⟨h.1,?_⟩
    have h:=h.2
    revert h
    split<;>exact id
  · exact id
 case UJ=>split<;>exact id
 case QN=>
  split
  · intro h
    refine ⟨h.1,?_⟩
    have h:=h.2
    revert h
    exact jU fun _=>id
  · exact id
 case ext=>
  split
  · exact jU fun _=>id
  · exact id
 case HS=>split<;>exact id
 case Gb=>split<;>exact id
 case HT=>exact id
 case BI=>
  split
  · exact jU fun _=>id
  · exact id
def bL.cL:bL->List Nat
 |.t n=>[n]
 |.c _=>[]
def bL.BV:List bL->List Nat
 |[]=>[]
 |x::r=>x.cL++bL.BV r
def bL.BW:Option bL->List Nat
 |none=>[]
 |some x=>x.cL
def Mi:List (Nat×Nat×bL)->List Nat
 |[]=>[]
 |(_,_,x)::r=>x.cL++Mi r
def Mj:List (Nat×bL)->List Nat
 |[]=>[]
 |(_,x)::r=>x.cL++Mj r
def AE.cL:AE->List Nat
 |.mv x=>x.cL
 |.Nv x=>x.cL
 |.pick c a b=>c.cL++(a.cL++b.cL)
 |.alloc _ _=>[]
 |.box _ x=>x.cL
 |.Ul _ ps=>Mi ps
 |.Um _ _ _ _ ps=>Mj ps
 |.load _ a=>a.cL
 |.store _ a x=>a.cL++x.cL
 |.DX x=>x.cL
 |.bin _ x y=>x.cL++y.cL
 |.UF _ _ _ x y=>x.cL++y.cL
 |.Zv _ x y=>x.cL++y.cL
 |.un _ x=>x.cL
 |.UG _ x=>x.cL
 |.UH x=>x.cL
 |.Uo _ x=>x.cL
 |.UI x=>x.cL
 |.OO x=>x.cL
 |.HQ _ c=>bL.BV c
 |.DY _ _=>[]
 |.LL _ _ _ _ l c=>l.cL++c.cL
 |.AG x lo hi=>x.cL++(bL.BW lo++bL.BW hi)
 |.yQ _ x lo hi mx=>x.cL++(bL.BW lo++(bL.BW hi++bL.BW mx))
 |.uW _ x=>x.cL
 |.Qu _ _ x=>x.cL
 |.Ga _ x i=>x.cL++i.cL
 |.HR _ _ x i=>x.cL++i.cL
 |.UJ x i=>x.cL++i.cL
 |.QN _ _ _ x i=>x.cL++i.cL
 |.Up _ _ m k _=>m.cL++k.cL
 |.LM _ m k v=>m.cL++(k.cL++v.cL)
 |.ext x _=>x.cL
 |.call _ asV=>bL.BV asV
 |.y8 f asV=>f.cL++bL.BV asV
 |.HS x=>x.cL
 |.Gb x=>x.cL
 |.HT _=>[]
 |.HU x=>x.cL
 |.BI _ xs=>bL.BV xs
 |.append _ _ _ s x=>s.cL++x.cL
 |.copy _ d x=>d.cL++x.cL
 |.delete _ m k=>m.cL++k.cL
 |.clear _ _ x=>x.cL
 |.no=>[]
section
variable {fr cF:Fr}
theorem gP {x:bL} (h:∀ t∈x.cL,fr.get t=cF.get t):x.ev fr=x.ev cF:=by
 cases x with
 |t n=>exact h n (.head _)
 |c v=>rfl
theorem BX:∀ {l:List bL},(∀ t∈bL.BV l,fr.get t=cF.get t)->bL.HV fr l=bL.HV cF l
 |[],_=>rfl
 |x::r,h=>by
  simp only [bL.HV]
  rw [gP (fun t ht=>h t (List.mem_append_left _ ht)),BX (fun t ht=>h t (List.mem_append_right _ ht))]
theorem x7 {x:Option bL} (h:∀ t∈bL.BW x,fr.get t=cF.get t):bL.Dq fr x=bL.Dq cF x:=by
 cases x with
 |none=>rfl
 |some x=>simp only [bL.Dq];rw [gP h]
theorem GW:∀ {l:List (Nat×Nat×bL)},(∀ t∈Mi l,fr.get t=cF.get t)->eE fr l=eE cF l
 |[],_=>rfl
 |(a,b,x)::r,h=>by
  simp only [eE]
  rw [gP (fun t ht=>h t (List.mem_append_left _ ht)),GW (fun t ht=>h t (List.mem_append_right _ ht))]
theorem GX:∀ {l:List (Nat×bL)},(∀ t∈Mj l,fr.get t=cF.get t)->gM fr l=gM cF l
 |[],_=>rfl
 |(a,x)::r,h=>by
  simp only [gM]
  rw [gP (fun t ht=>h t (List.mem_append_left _ ht)),GX (fun t ht=>h t (List.mem_append_right _ ht))]
theorem qF {o:AE} (h:∀ t∈o.cL,fr.get t=cF.get t) (st:St):step o fr st=step o cF st:=by
 cases o<;>simp only [AE.cL,List.mem_append,or_imp,forall_and] at h<;>simp only [step]
 case yQ sz x lo hi mx=>
  rw [gP h.1,x7 h.2.1,x7 h.2.2.1]
  cases mx with
  |none=>rfl
  |some m=>
   have hm:m.ev fr=m.ev cF:=gP h.2.2.2
   simp only [hm]
 all_goals first
  |rfl
  |rw [gP h]
  |rw [BX h]
  |rw [GW h]
  |rw [GX h]
  |rw [gP h.1,gP h.2]
  |rw [gP h.1,gP h.2.1,gP h.2.2]
  |rw [gP h.1,x7 h.2.1,x7 h.2.2]
  |rw [gP h.1,BX h.2]
end
end Go.Eng
