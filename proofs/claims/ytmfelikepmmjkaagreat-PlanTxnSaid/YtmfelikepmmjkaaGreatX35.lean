/-
What may be, by the document: then the program says so too (names, pairs, terms, tolerations).
-/
import Derived.Test.YtmfelikepmmjkaaGreatX25
import Derived.Test.YtmfelikepmmjkaaGreatX32
import Derived.Test.YtmfelikepmmjkaaGreatX33
import Derived.Test.YtmfelikepmmjkaaGreatX27
import Derived.Test.YtmfelikepmmjkaaGreatX34
import Derived.Test.YtmfelikepmmjkaaGreatX22
set_option linter.unusedVariables false
set_option linter.unusedSimpArgs false
set_option maxHeartbeats 16000000
set_option maxRecDepth 20000
namespace Go.Eng
open Go
theorem pA.imp {φ ψ:Prop} {u:V} (h:pA φ u) (hi:φ->ψ):pA ψ u:=let ⟨r,h1,h2⟩:=h;⟨r,h1,fun hr=>hi (h2 hr)⟩
theorem Pure.imp {P:Program} {f:Nat} {args:List V} {Q R:V->Prop} (h0:Pure P f args Q) (h:∀ u,Q u->R u):Pure P f args R:=
 aC.mono P f args iJ _ _ (fun v h' ⟨ρ,F,u,h1,h2,h3⟩=>⟨ρ,F,u,h1,h2,h u h3⟩) h0
theorem Oz {r:gW} (h:wQ r):Bk r=true:=by
 obtain ⟨⟨a1,a2⟩,⟨b1,b2⟩,⟨c1,c2⟩⟩:=h
 unfold Bk pN
 simp [a1,a2,b1,b2,c1,c2]
theorem Hy:∀ {l:List cX} {o:Option aU},(∀ x∈l,bI x.key=true/\bI x.val=true)->(l.Pairwise fun a b=>True)->(∀ y x,o=some y->l[0]? =some x->Op.bytesLess y x.key=true)->(∀ (j:Nat) (y x:cX),l[j]? =some y->l[j+1]? =some x->Op.bytesLess y.key x.key=true)->fO o l=true
 |[],o,_,_,_,_=>by cases o<;>rfl
 |x::r,o,h1,hp,h2,h3=>by
  rw [rW]
  have ih:=Hy (l:=r) (o:=some x.key) (fun y hy=>h1 y (.tail _ hy)) (List.pairwise_cons.1 hp).2 (fun y z hy hz=>by cases hy;exact h3 0 x z rfl (by simpa using hz)) (fun j y z hy hz=>h3 (j+1) y z (by simpa using hy) (by simpa using hz))
  rw [ih,(h1 x (.head _)).1,(h1 x (.head _)).2]
  cases o with
  |none=>rfl
  |some y=>simp [show Op.bytesLess y x.key=true from h2 y x rfl rfl]
theorem Hz:∀ {l:List Int} {o:Option Int},(∀ x∈l,1<=x/\x<=65535)->(∀ y x,o=some y->l[0]? =some x->y<x)->(∀ (j:Nat) (y x:Int),l[j]? =some y->l[j+1]? =some x->y<x)->nL o l=true
 |[],o,_,_,_=>by cases o<;>rfl
 |x::r,o,h1,h2,h3=>by
  rw [wZ]
  have ih:=Hz (l:=r) (o:=some x) (fun y hy=>h1 y (.tail _ hy)) (fun y z hy hz=>by cases hy;exact h3 0 x z rfl (by simpa using hz)) (fun j y z hy hz=>h3 (j+1) y z (by simpa using hy) (by simpa using hz))
  obtain ⟨a,b⟩:=h1 x (.head _)
  rw [ih,decide_eq_true a,decide_eq_true b]
  cases o with
  |none=>rfl
  |some y=>simp [show y<x from h2 y x rfl rfl]
def Cu (l:List cX) (i:Nat):Prop:=∀ (j:Nat) (y x:cX),j+1<i->l[j]? =some y->l[j+1]? =some x->Op.bytesLess y.key x.key=true
def Jd (l:List Int) (i:Nat):Prop:=∀ (j:Nat) (y x:Int),j+1<i->l[j]? =some y->l[j+1]? =some x->y<x
theorem yL {l:List cX} {i:Nat} (h:i<=1):Cu l i:=fun j y x hj=>by omega
theorem HA {l:List cX} {i:Nat} {f e:cX} (h:Cu l i) (hf:l[i - 1]? =some f) (he:l[i]? =some e) (hl:Op.bytesLess f.key e.key=true):Cu l (i+1):=fun j y x hj hy hx=>by
 by_cases c:j+1<i
 · exact h j y x c hy hx
 · obtain rfl:i=j+1:=by omega
   rw [Nat.add_sub_cancel] at hf
   rw [hf] at hy;rw [he] at hx
   cases hy;cases hx;exact hl
theorem Ng {l:List Int} {i:Nat} {f e:Int} (h:Jd l i) (hf:l[i - 1]? =some f) (he:l[i]? =some e) (hl:f<e):Jd l (i+1):=fun j y x hj hy hx=>by
 by_cases c:j+1<i
 · exact h j y x c hy hx
 · obtain rfl:i=j+1:=by omega
   rw [Nat.add_sub_cancel] at hf
   rw [hf] at hy;rw [he] at hx
   cases hy;cases hx;exact hl
theorem HB {l:List cX} (h1:∀ x∈l,bI x.key=true/\bI x.val=true) (h2:Cu l l.length):fO none l=true:=
 Hy h1 (List.pairwise_of_forall fun _ _=>trivial) (fun y x h=>by cases h) fun j y x hy hx=>h2 j y x (List.getElem?_eq_some_iff.1 hx).1 hy hx
section
variable {P:Program} (hG:bP P AF.fns.get)
include hG
theorem rnameB_ok (s:aU) (hs:s.length<=9223372036854775807):Pure P 36 [.s s] (pA (bI s=true)):=by
 refine aP (hG _ AF.f36 rfl) rfl ?_
 (refine zr ?_)
 refine bD.by (fun q fr st=>∃ i:Nat,i<=s.length/\q=s.length - i/\(∀ c∈s.take i,nU c.toNat=true)/\fr=[(3,.i .i64 i),(0,.s s)]/\st=dP iJ)
  s.length ⟨_,_,?_,0,Nat.zero_le _,rfl,(fun c hc=>by cases hc),rfl,rfl⟩ ?_
 · exact Ak
 rintro q fr st ⟨i,hi,rfl,Bj,rfl,rfl⟩ R hR
 (conv=>whnf)
 refine aH.ds (fun cO=>?_) (fun fE=>?_)
 · have cZ:i<s.length:=by omega
   have Nw:=List.getElem?_eq_getElem cZ
   have he:s[((i:Nat):Int).toNat]? =some s[i]:=by rw [Int.toNat_natCast];exact List.getElem?_eq_getElem cZ
   generalize s[i]=e at he Nw
   ((conv=>whnf);repeat' ((first|refine ye (he) ?_|refine zz ?_|refine aH.ds (fun _=>?_) (fun _=>?_)|refine aH.ns (fun _=>?_) (fun _=>?_)|refine aH.mk (fun _=>?_) (fun _=>?_)|(intro r hr;cases r))<;>(conv=>whnf)))
   all_goals first
    |exact aG rfl ⟨false,rfl,fun h=>by cases h⟩
    |(refine hR (s.length - (i+1)) _ _ (by omega) ⟨_,_,?_,i+1,by omega,rfl,jZ Bj Nw (by rw [Fy];simp only [Bool.or_eq_true,Bool.and_eq_true,decide_eq_true_eq];omega),rfl,rfl⟩;exact Ak)
 · obtain rfl:i=s.length:=by omega
   rw [List.take_length] at Bj
   have fH:(s.all fun c=>nU c.toNat)=true:=List.all_eq_true.2 Bj
   ((conv=>whnf);repeat' ((first|refine zz ?_|refine aH.ds (fun _=>?_) (fun _=>?_)|refine aH.ns (fun _=>?_) (fun _=>?_)|refine aH.mk (fun _=>?_) (fun _=>?_)|(intro r hr;cases r))<;>(conv=>whnf)))
   all_goals exact aG rfl ⟨_,rfl,fun h=>by first|(cases h;done)|(unfold bI;rw [fH];simp at h ⊢;omega)⟩
theorem rpairsB_ok (l:List cX) (hl:bQ l) (hs:∀ x∈l,x.Ba):Pure P 38 [.sl none 2 (l.map aY)] (pA ((fO none l&&decide (l.length<=6))=true)):=by
 have gK:(l.map aY).length=l.length:=List.length_map _
 unfold bQ at hl
 refine aP (hG _ AF.f38 rfl) rfl ?_
 (refine zr ?_)
 refine bD.by (fun q fr st=>∃ i:Nat,i<=l.length/\q=l.length - i/\(∀ x∈l.take i,bI x.key=true/\bI x.val=true)/\Cu l i/\fr=[(6,.i .i64 i),(5,.i .i64 (l.map aY).length),(0,.sl none 2 (l.map aY))]/\st=dP iJ)
  l.length ⟨_,_,?_,0,Nat.zero_le _,rfl,(fun x hx=>by cases hx),yL (Nat.zero_le _),rfl,rfl⟩ ?_
 · exact Ak
 rintro q fr st ⟨i,hi,rfl,Bj,P9,rfl,rfl⟩ R hR
 (conv=>whnf)
 refine aH.ds (fun cO=>?_) (fun fE=>?_)
 · have cZ:i<l.length:=by omega
   have he:=List.getElem?_eq_getElem cZ
   have hm:=hs _ (List.getElem_mem cZ)
   generalize l[i]=e at he hm
   rcases Nat.eq_zero_or_pos i with h0|h0
   · ((conv=>whnf);repeat' ((first|refine cA (Pure.any (rnameB_ok hG _ hm.1) rfl) ?_|refine cA (Pure.any (rnameB_ok hG _ hm.2) rfl) ?_|refine ye (aF (by simp) he) ?_|refine zz ?_|refine aH.ds (fun _=>?_) (fun _=>?_)|refine aH.ns (fun _=>?_) (fun _=>?_)|refine aH.mk (fun _=>?_) (fun _=>?_)|(intro r hr;cases r))<;>(conv=>whnf)))
     all_goals first
      |exact aG rfl ⟨false,rfl,fun h=>by cases h⟩
      |(refine hR (l.length - (i+1)) _ _ (by omega) ⟨_,_,?_,i+1,by omega,rfl,jZ Bj he ⟨(by assumption:true=true->bI e.key=true) rfl,(by assumption:true=true->bI e.val=true) rfl⟩,yL (by omega),rfl,rfl⟩;exact Ak)
   · have Ny:i - 1<l.length:=by omega
     have hf:=List.getElem?_eq_getElem Ny
     generalize l[i - 1]=f at hf
     ((conv=>whnf);repeat' ((first|refine cA (Pure.any (rnameB_ok hG _ hm.1) rfl) ?_|refine cA (Pure.any (rnameB_ok hG _ hm.2) rfl) ?_|refine ye (aF (by omega) he) ?_|refine ye (aF (by omega) hf) ?_|refine zz ?_|refine aH.ds (fun _=>?_) (fun _=>?_)|refine aH.ns (fun _=>?_) (fun _=>?_)|refine aH.mk (fun _=>?_) (fun _=>?_)|(intro r hr;cases r))<;>(conv=>whnf)))
     all_goals first
      |exact aG rfl ⟨false,rfl,fun h=>by cases h⟩
      |(refine hR (l.length - (i+1)) _ _ (by omega) ⟨_,_,?_,i+1,by omega,rfl,jZ Bj he ⟨(by assumption:true=true->bI e.key=true) rfl,(by assumption:true=true->bI e.val=true) rfl⟩,HA P9 hf he (by simp_all),rfl,rfl⟩;exact Ak)
 · obtain rfl:i=l.length:=by omega
   rw [List.take_length] at Bj
   have fH:=HB Bj P9
   ((conv=>whnf);repeat' ((first|refine zz ?_|refine aH.ds (fun _=>?_) (fun _=>?_)|refine aH.ns (fun _=>?_) (fun _=>?_)|refine aH.mk (fun _=>?_) (fun _=>?_)|(intro r hr;cases r))<;>(conv=>whnf)))
   all_goals exact aG rfl ⟨_,rfl,fun h=>by rw [fH];simp at h ⊢;omega⟩
theorem rtaintsB_ok (l:List cX) (hl:bQ l) (hs:∀ x∈l,x.Ba):Pure P 101 [.sl none 2 (l.map aY)] (pA ((fO none l&&decide (l.length<=6))=true)):=by
 have gK:(l.map aY).length=l.length:=List.length_map _
 unfold bQ at hl
 refine aP (hG _ AF.f101 rfl) rfl ?_
 (refine zr ?_)
 refine bD.by (fun q fr st=>∃ i:Nat,i<=l.length/\q=l.length - i/\(∀ x∈l.take i,bI x.key=true/\bI x.val=true)/\Cu l i/\fr=[(6,.i .i64 i),(5,.i .i64 (l.map aY).length),(0,.sl none 2 (l.map aY))]/\st=dP iJ)
  l.length ⟨_,_,?_,0,Nat.zero_le _,rfl,(fun x hx=>by cases hx),yL (Nat.zero_le _),rfl,rfl⟩ ?_
 · exact Ak
 rintro q fr st ⟨i,hi,rfl,Bj,P9,rfl,rfl⟩ R hR
 (conv=>whnf)
 refine aH.ds (fun cO=>?_) (fun fE=>?_)
 · have cZ:i<l.length:=by omega
   have he:=List.getElem?_eq_getElem cZ
   have hm:=hs _ (List.getElem_mem cZ)
   generalize l[i]=e at he hm
   rcases Nat.eq_zero_or_pos i with h0|h0
   · ((conv=>whnf);repeat' ((first|refine cA (Pure.any (rnameB_ok hG _ hm.1) rfl) ?_|refine cA (Pure.any (rnameB_ok hG _ hm.2) rfl) ?_|refine ye (aF (by simp) he) ?_|refine zz ?_|refine aH.ds (fun _=>?_) (fun _=>?_)|refine aH.ns (fun _=>?_) (fun _=>?_)|refine aH.mk (fun _=>?_) (fun _=>?_)|(intro r hr;cases r))<;>(conv=>whnf)))
     all_goals first
      |exact aG rfl ⟨false,rfl,fun h=>by cases h⟩
      |(refine hR (l.length - (i+1)) _ _ (by omega) ⟨_,_,?_,i+1,by omega,rfl,jZ Bj he ⟨(by assumption:true=true->bI e.key=true) rfl,(by assumption:true=true->bI e.val=true) rfl⟩,yL (by omega),rfl,rfl⟩;exact Ak)
   · have Ny:i - 1<l.length:=by omega
     have hf:=List.getElem?_eq_getElem Ny
     generalize l[i - 1]=f at hf
     ((conv=>whnf);repeat' ((first|refine cA (Pure.any (rnameB_ok hG _ hm.1) rfl) ?_|refine cA (Pure.any (rnameB_ok hG _ hm.2) rfl) ?_|refine ye (aF (by omega) he) ?_|refine ye (aF (by omega) hf) ?_|refine zz ?_|refine aH.ds (fun _=>?_) (fun _=>?_)|refine aH.ns (fun _=>?_) (fun _=>?_)|refine aH.mk (fun _=>?_) (fun _=>?_)|(intro r hr;cases r))<;>(conv=>whnf)))
     all_goals first
      |exact aG rfl ⟨false,rfl,fun h=>by cases h⟩
      |(refine hR (l.length - (i+1)) _ _ (by omega) ⟨_,_,?_,i+1,by omega,rfl,jZ Bj he ⟨(by assumption:true=true->bI e.key=true) rfl,(by assumption:true=true->bI e.val=true) rfl⟩,HA P9 hf he (by simp_all),rfl,rfl⟩;exact Ak)
 · obtain rfl:i=l.length:=by omega
   rw [List.take_length] at Bj
   have fH:=HB Bj P9
   ((conv=>whnf);repeat' ((first|refine zz ?_|refine aH.ds (fun _=>?_) (fun _=>?_)|refine aH.ns (fun _=>?_) (fun _=>?_)|refine aH.mk (fun _=>?_) (fun _=>?_)|(intro r hr;cases r))<;>(conv=>whnf)))
   all_goals exact aG rfl ⟨_,rfl,fun h=>by rw [fH];simp at h ⊢;omega⟩
theorem rtolsB_ok (l:List lC) (hl:bQ l) (hs:∀ x∈l,x.Ba):Pure P 40 [.sl none 3 (l.map eP)] (pA (xA l=true)):=by
 have gK:(l.map eP).length=l.length:=List.length_map _
 unfold bQ at hl
 refine aP (hG _ AF.f40 rfl) rfl ?_
 (refine zr ?_)
 refine bD.by (fun q fr st=>∃ i:Nat,i<=l.length/\q=l.length - i/\(∀ x∈l.take i,FA x=true)/\fr=[(7,.i .i64 i),(6,.i .i64 (l.map eP).length),(0,.sl none 3 (l.map eP))]/\st=dP iJ)
  l.length ⟨_,_,?_,0,Nat.zero_le _,rfl,(fun x hx=>by cases hx),rfl,rfl⟩ ?_
 · exact Ak
 rintro q fr st ⟨i,hi,rfl,Bj,rfl,rfl⟩ R hR
 (conv=>whnf)
 refine aH.ds (fun cO=>?_) (fun fE=>?_)
 · have cZ:i<l.length:=by omega
   have he:=List.getElem?_eq_getElem cZ
   have hm:=hs _ (List.getElem_mem cZ)
   generalize l[i]=e at he hm
   obtain ⟨ek,ev,ea⟩:=e
   cases ea
   all_goals
    ((conv=>whnf);repeat' ((first|refine cA (Pure.any (rnameB_ok hG ek hm.1) rfl) ?_|refine cA (Pure.any (rnameB_ok hG ev hm.2) rfl) ?_|refine ye (aF (by omega) he) ?_|refine zz ?_|refine aH.ds (fun _=>?_) (fun _=>?_)|refine aH.ns (fun _=>?_) (fun _=>?_)|refine aH.mk (fun _=>?_) (fun _=>?_)|(intro r hr;cases r))<;>(conv=>whnf)))
   all_goals first
    |exact aG rfl ⟨false,rfl,fun h=>by cases h⟩
    |(refine hR (l.length - (i+1)) _ _ (by omega) ⟨_,_,?_,i+1,by omega,rfl,jZ Bj he (by unfold FA;simp_all),rfl,rfl⟩;exact Ak)
 · obtain rfl:i=l.length:=by omega
   rw [List.take_length] at Bj
   have fH:l.all FA=true:=List.all_eq_true.2 Bj
   ((conv=>whnf);repeat' ((first|refine zz ?_|refine aH.ds (fun _=>?_) (fun _=>?_)|refine aH.ns (fun _=>?_) (fun _=>?_)|refine aH.mk (fun _=>?_) (fun _=>?_)|(intro r hr;cases r))<;>(conv=>whnf)))
   all_goals exact aG rfl ⟨_,rfl,fun h=>by first|(cases h;done)|(unfold xA;rw [fH];simp at h ⊢;omega)⟩
end
open Go
section
variable {P:Program} (hG:bP P AF.fns.get)
include hG
theorem rtermsB_ok (l:List cM) (hl:bQ l) (ho:∀ x∈l,x.ok) (hs:∀ x∈l,x.Ba):Pure P 39 [.sl none 3 (l.map bA)] (pA (fY l=true)):=by
 have gK:(l.map bA).length=l.length:=List.length_map _
 unfold bQ at hl
 refine aP (hG _ AF.f39 rfl) rfl ?_
 (refine zr ?_)
 refine bD.by (fun q fr st=>∃ i:Nat,i<=l.length/\q=l.length - i/\(∀ x∈l.take i,mO x=true)/\fr=[(9,.i .i64 i),(8,.i .i64 (l.map bA).length),(0,.sl none 3 (l.map bA))]/\st=dP iJ)
  l.length ⟨_,_,?_,0,Nat.zero_le _,rfl,(fun x hx=>by cases hx),rfl,rfl⟩ ?_
 · exact Ak
 rintro q fr st ⟨i,hi,rfl,Bj,rfl,rfl⟩ R hR
 (conv=>whnf)
 refine aH.ds (fun cO=>?_) (fun fE=>?_)
 · have cZ:i<l.length:=by omega
   have he:=List.getElem?_eq_getElem cZ
   have hm:=hs _ (List.getElem_mem cZ)
   have hv:l[i].bF.length<=9223372036854775807:=ho _ (List.getElem_mem cZ)
   generalize l[i]=e at he hm hv
   have hvm:(e.bF.map bE).length=e.bF.length:=List.length_map _
   ((conv=>whnf);repeat' ((first|refine cA (Pure.any (rnameB_ok hG e.key hm.1) rfl) ?_|refine ye (aF (by omega) he) ?_|refine zz ?_|refine aH.ds (fun _=>?_) (fun _=>?_)|refine aH.ns (fun _=>?_) (fun _=>?_)|refine aH.mk (fun _=>?_) (fun _=>?_)|(intro r hr;cases r))<;>(conv=>whnf)))
   all_goals try exact aG rfl ⟨false,rfl,fun h=>by cases h⟩
   all_goals
    have lX:bI e.key=true:=(by assumption:true=true->bI e.key=true) rfl
    have adQ:(if e.kind=1\/e.kind=2 then decide (1<=e.bF.length)&&decide (e.bF.length<=6) else decide (e.kind=3\/e.kind=4)&&decide (e.bF.length=0))=true:=by
     split
     · simp only [Bool.and_eq_true,decide_eq_true_eq];omega
     · simp only [Bool.and_eq_true,decide_eq_true_eq];omega
    refine bD.by (fun q fr st=>∃ j:Nat,j<=e.bF.length/\q=e.bF.length - j/\(∀ v∈e.bF.take j,bI v=true)/\fr=[(58,.i .i64 j),(57,.i .i64 (e.bF.map bE).length),(4,.p (.l 0) 0),(9,.i .i64 i),(8,.i .i64 (l.map bA).length),(0,.sl none 3 (l.map bA))]/\st=⟨iJ,⟨1,[(0,.cs (bA e))]⟩⟩)
     e.bF.length ⟨_,_,?_,0,Nat.zero_le _,rfl,(fun x hx=>by cases hx),rfl,rfl⟩ ?_
    · exact tL [0]
    rintro q fr st ⟨j,hj,rfl,Jv,rfl,rfl⟩ R2 I5
    (conv=>whnf)
    refine aH.ds (fun Mp=>?_) (fun YU=>?_)
    · have GG:j<e.bF.length:=by omega
      have hf:=List.getElem?_eq_getElem GG
      have We:=hm.2 _ (List.getElem_mem GG)
      generalize e.bF[j]=f at hf We
      ((conv=>whnf);repeat' ((first|refine cA (Pure.any (rnameB_ok hG f We) rfl) ?_|refine ye (aF (by omega) hf) ?_|refine zz ?_|refine aH.ds (fun _=>?_) (fun _=>?_)|refine aH.ns (fun _=>?_) (fun _=>?_)|refine aH.mk (fun _=>?_) (fun _=>?_)|(intro r hr;cases r))<;>(conv=>whnf)))
      all_goals first
       |exact aG rfl ⟨false,rfl,fun h=>by cases h⟩
       |(refine I5 (e.bF.length - (j+1)) _ _ (by omega) ⟨_,_,?_,j+1,by omega,rfl,jZ Jv hf ((by assumption:true=true->bI f=true) rfl),rfl,rfl⟩;exact tL [0])
    · obtain rfl:j=e.bF.length:=by omega
      rw [List.take_length] at Jv
      have YC:e.bF.all bI=true:=List.all_eq_true.2 Jv
      (refine zr ?_)
      refine hR (l.length - (i+1)) _ _ (by omega) ⟨_,_,?_,i+1,by omega,rfl,jZ Bj he (by unfold mO;rw [adQ,lX,YC];rfl),rfl,rfl⟩
      exact Ak
 · obtain rfl:i=l.length:=by omega
   rw [List.take_length] at Bj
   have fH:l.all mO=true:=List.all_eq_true.2 Bj
   ((conv=>whnf);repeat' ((first|refine zz ?_|refine aH.ds (fun _=>?_) (fun _=>?_)|refine aH.ns (fun _=>?_) (fun _=>?_)|refine aH.mk (fun _=>?_) (fun _=>?_)|(intro r hr;cases r))<;>(conv=>whnf)))
   all_goals exact aG rfl ⟨_,rfl,fun h=>by first|(cases h;done)|(unfold fY;rw [fH];simp at h ⊢;omega)⟩
theorem rnodeB_ok (n:bK) (hn:n.ok) (hs:n.Ba):Pure P 34 [.agg (aK n)] (pA (CV n=true)):=by
 have k1:=(rmay_ok hG n.cap).imp fun u h=>h.imp Oz
 refine aP (hG _ AF.f34 rfl) rfl ?_
 ((conv=>whnf);repeat' ((first|refine cA (Pure.any (rnameB_ok hG n.name hs.name) rfl) ?_|refine cA (Pure.any k1 rfl) ?_|refine cA (Pure.any (rpairsB_ok hG _ hn.labels hs.labels) rfl) ?_|refine cA (Pure.any (rtaintsB_ok hG _ hn.cR hs.cR) rfl) ?_|refine zz ?_|refine aH.ds (fun _=>?_) (fun _=>?_)|refine aH.ns (fun _=>?_) (fun _=>?_)|refine aH.mk (fun _=>?_) (fun _=>?_)|(intro r hr;cases r))<;>(conv=>whnf)))
 all_goals first
  |exact aG rfl ⟨false,rfl,fun h=>by cases h⟩
  |exact aG rfl ⟨_,rfl,fun h=>by first|(cases h;done)|(unfold CV;simp_all)⟩
theorem rpodB_ok (p:aL) (hp:p.ok) (hs:p.Ba):Pure P 7 [.agg (aI p)] (pA (gY p=true)):=by
 have gK:(p.aN.map fA).length=p.aN.length:=List.length_map _
 have hl:=hp.aN
 unfold bQ at hl
 have acJ:(p.cV.map bA).length=p.cV.length:=List.length_map _
 have k1:=(rmay_ok hG p.fQ).imp fun u h=>h.imp Oz
 refine aP (hG _ AF.f7 rfl) rfl ?_
 (refine zr ?_)
 refine bD.by (fun q fr st=>∃ i:Nat,i<=p.aN.length/\q=p.aN.length - i/\(∀ x∈p.aN.take i,1<=x/\x<=65535)/\Jd p.aN i/\fr=[(7,.i .i64 i),(6,.i .i64 (p.aN.map fA).length),(1,.p (.l 0) 0)]/\st=⟨iJ,⟨1,[(0,.cs (aI p))]⟩⟩)
  p.aN.length ⟨_,_,?_,0,Nat.zero_le _,rfl,(fun x hx=>by cases hx),(fun j y x hj=>by omega),rfl,rfl⟩ ?_
 · exact tL [0]
 rintro q fr st ⟨i,hi,rfl,Bj,P9,rfl,rfl⟩ R hR
 (conv=>whnf)
 refine aH.ds (fun cO=>?_) (fun fE=>?_)
 · have cZ:i<p.aN.length:=by omega
   have he:=List.getElem?_eq_getElem cZ
   generalize p.aN[i]=e at he
   rcases Nat.eq_zero_or_pos i with h0|h0
   · ((conv=>whnf);repeat' ((first|refine ye (aF (by omega) he) ?_|refine zz ?_|refine aH.ds (fun _=>?_) (fun _=>?_)|refine aH.ns (fun _=>?_) (fun _=>?_)|refine aH.mk (fun _=>?_) (fun _=>?_)|(intro r hr;cases r))<;>(conv=>whnf)))
     all_goals first
      |exact aG rfl ⟨false,rfl,fun h=>by cases h⟩
      |(refine hR (p.aN.length - (i+1)) _ _ (by omega) ⟨_,_,?_,i+1,by omega,rfl,jZ Bj he (by omega),(fun j y x hj=>by omega),rfl,rfl⟩;exact tL [0])
   · have Ny:i - 1<p.aN.length:=by omega
     have hf:=List.getElem?_eq_getElem Ny
     generalize p.aN[i - 1]=f at hf
     ((conv=>whnf);repeat' ((first|refine ye (aF (by omega) he) ?_|refine ye (aF (by omega) hf) ?_|refine zz ?_|refine aH.ds (fun _=>?_) (fun _=>?_)|refine aH.ns (fun _=>?_) (fun _=>?_)|refine aH.mk (fun _=>?_) (fun _=>?_)|(intro r hr;cases r))<;>(conv=>whnf)))
     all_goals first
      |exact aG rfl ⟨false,rfl,fun h=>by cases h⟩
      |(refine hR (p.aN.length - (i+1)) _ _ (by omega) ⟨_,_,?_,i+1,by omega,rfl,jZ Bj he (by omega),Ng P9 hf he (by omega),rfl,rfl⟩;exact tL [0])
 · obtain rfl:i=p.aN.length:=by omega
   rw [List.take_length] at Bj
   have Y2:nL none p.aN=true:=Hz Bj (fun y x h=>by cases h) fun j y x hy hx=>P9 j y x (List.getElem?_eq_some_iff.1 hx).1 hy hx
   ((conv=>whnf);repeat' ((first|refine cA (Pure.any (rnameB_ok hG p.name hs.name) rfl) ?_|refine cA (Pure.any (rnameB_ok hG p.eG hs.eG) rfl) ?_|refine cA (Pure.any (rnameB_ok hG p.node hs.node) rfl) ?_|refine cA (Pure.any k1 rfl) ?_|refine cA (Pure.any (rpairsB_ok hG _ hp.labels hs.labels) rfl) ?_|refine cA (Pure.any (rtermsB_ok hG p.lM hp.lM.len hp.lM.each hs.lM) rfl) ?_|refine cA (Pure.any (rtermsB_ok hG p.cV hp.cV.len hp.cV.each hs.cV) rfl) ?_|refine cA (Pure.any (rtermsB_ok hG p.even hp.even.len hp.even.each hs.even) rfl) ?_|refine cA (Pure.any (rtolsB_ok hG p.bW hp.bW hs.bW) rfl) ?_|refine zz ?_|refine aH.ds (fun _=>?_) (fun _=>?_)|refine aH.ns (fun _=>?_) (fun _=>?_)|refine aH.mk (fun _=>?_) (fun _=>?_)|(intro r hr;cases r))<;>(conv=>whnf)))
   all_goals first
    |exact aG rfl ⟨false,rfl,fun h=>by cases h⟩
    |exact aG rfl ⟨_,rfl,fun h=>by
      have q1:bI p.name=true:=(by assumption:true=true->bI p.name=true) rfl
      have q2:Bk p.fQ=true:=(by assumption:true=true->Bk p.fQ=true) rfl
      have q3:(fO none p.labels&&decide (p.labels.length<=6))=true:=(by assumption:true=true->(fO none p.labels&&decide (p.labels.length<=6))=true) rfl
      have q4:fY p.lM=true:=(by assumption:true=true->fY p.lM=true) rfl
      have q5:fY p.cV=true:=(by assumption:true=true->fY p.cV=true) rfl
      have q6:fY p.even=true:=(by assumption:true=true->fY p.even=true) rfl
      have q7:xA p.bW=true:=(by assumption:true=true->xA p.bW=true) rfl
      unfold gY Bl Hq
      rw [q1,q2,q3,q4,q5,q6,q7,Y2]
      first|(simp_all;done)|(simp_all;omega)⟩
end
open Go
abbrev lV (l:List aL):Prop:=l.Pairwise fun a b=>bR a.name b.name
theorem iP {a b:aU} (h:bR a b):a≠b:=fun e=>by unfold bR at h;rw [e,iS] at h;cases h
theorem FK {t:Bool} {p:aL}:∀ {l:List aL},(∀ q∈l,q.name≠p.name)->nM t p true l=l
 |[],_=>rfl
 |e::r,h=>by
  have h1:(e.name==p.name)=false:=beq_false_of_ne (h e (.head _))
  rw [nM,h1,FK fun q hq=>h q (.tail _ hq)]
  simp
theorem Je {t:Bool} {p e:aL}:∀ {A B:List aL},(∀ q∈A,q.name≠p.name)->(∀ q∈B,q.name≠p.name)->e.name=p.name->nM true p false (A++e::B)=A++p::B
 |[],B,_,hB,he=>by
  have h1:(e.name==p.name)=true:=by rw [he];simp
  rw [List.nil_append,nM,h1,FK hB];rfl
 |a::A,B,hA,hB,he=>by
  have h1:(a.name==p.name)=false:=beq_false_of_ne (hA a (.head _))
  rw [List.cons_append,nM,h1,Je (t:=t) (fun q hq=>hA q (.tail _ hq)) hB he]
  simp
theorem Jf {p:aL}:∀ {l:List aL},lV l->(∀ q∈l,q.name≠p.name)->∃ A B,l=A++B/\nM false p false l=A++p::B/\(∀ q∈A,bR q.name p.name)/\∀ q∈B,bR p.name q.name
 |[],_,_=>⟨[],[],rfl,rfl,(fun q h=>by cases h),fun q h=>by cases h⟩
 |e::r,hr,hn=>by
  have h1:(e.name==p.name)=false:=beq_false_of_ne (hn e (.head _))
  have h2:=List.pairwise_cons.1 hr
  rw [nM,h1]
  cases hl:Op.bytesLess e.name p.name
  · have JQ:=oS hl (hn e (.head _))
    refine ⟨[],e::r,rfl,?_,(fun q h=>by cases h),fun q hq=>?_⟩
    · rw [FK fun q hq=>hn q (.tail _ hq)];simp
    · cases hq with
      |head=>exact JQ
      |tail _ hq=>exact jY JQ (h2.1 q hq)
  · obtain ⟨A,B,q1,q2,q3,q4⟩:=Jf h2.2 fun q hq=>hn q (.tail _ hq)
    refine ⟨e::A,B,by rw [q1];rfl,?_,fun q hq=>?_,q4⟩
    · rw [q2];simp
    · cases hq with
      |head=>exact hl
      |tail _ hq=>exact q3 q hq
theorem FL {A B:List aL} {p:aL} (h:lV (A++B)) (hA:∀ q∈A,bR q.name p.name) (hB:∀ q∈B,bR p.name q.name):lV (A++p::B):=by
 obtain ⟨h1,h2,h3⟩:=List.pairwise_append.1 h
 refine List.pairwise_append.2 ⟨h1,List.pairwise_cons.2 ⟨hB,h2⟩,fun a ha b hb=>?_⟩
 cases hb with
 |head=>exact hA a ha
 |tail _ hb=>exact h3 a ha b hb
structure adR (s:dY) (p:aL) (w:dY):Prop where
 nodes:w.nodes=s.nodes
 jK:lV w.aE
 mem:∀ q,q∈w.aE↔q=p\/(q∈s.aE/\q.name≠p.name)
 len:w.aE.length<=s.aE.length+1
theorem xF {s:dY} {p:aL} (h:lV s.aE):adR s p (kV s p):=by
 unfold kV
 cases ha:s.aE.any fun q=>q.name==p.name
 · have hn:∀ q∈s.aE,q.name≠p.name:=fun q hq he=>by
    have:=List.any_eq_false.1 ha q hq
    simp [he] at this
   obtain ⟨A,B,q1,q2,q3,q4⟩:=Jf h hn
   rw [q2]
   refine ⟨rfl,FL (by rw [<-q1];exact h) q3 q4,fun q=>?_,?_⟩
   · show q∈A++p::B↔_
     rw [q1]
     simp only [List.mem_append,List.mem_cons]
     constructor
     · rintro (h|h|h)
       · exact .inr ⟨.inl h,hn q (by rw [q1];simp [h])⟩
       · exact .inl h
       · exact .inr ⟨.inr h,hn q (by rw [q1];simp [h])⟩
     · rintro (h|⟨h|h,_⟩)
       · exact .inr (.inl h)
       · exact .inl h
       · exact .inr (.inr h)
   · show (A++p::B).length<=_
     rw [q1];simp;omega
 · obtain ⟨e,he,yT⟩:=List.any_eq_true.1 ha
   have yT:e.name=p.name:=by simpa using yT
   obtain ⟨A,B,hl⟩:=List.append_of_mem he
   have h':=h
   rw [hl] at h'
   obtain ⟨h1,h2,h3⟩:=List.pairwise_append.1 h'
   have h4:=List.pairwise_cons.1 h2
   have hA:∀ q∈A,bR q.name p.name:=fun q hq=>yT▸h3 q hq e (.head _)
   have hB:∀ q∈B,bR p.name q.name:=fun q hq=>yT▸h4.1 q hq
   rw [hl,Je (t:=true) (fun q hq=>iP (hA q hq)) (fun q hq=>(iP (hB q hq)).symm) yT]
   refine ⟨rfl,FL (List.pairwise_append.2 ⟨h1,h4.2,fun a ha b hb=>h3 a ha b (.tail _ hb)⟩) hA hB,fun q=>?_,?_⟩
   · show q∈A++p::B↔q=p\/(q∈s.aE/\_)
     rw [hl]
     simp only [List.mem_append,List.mem_cons]
     constructor
     · rintro (h|h|h)
       · exact .inr ⟨.inl h,iP (hA q h)⟩
       · exact .inl h
       · exact .inr ⟨.inr (.inr h),(iP (hB q h)).symm⟩
     · rintro (h|⟨h|h|h,dJ⟩)
       · exact .inr (.inl h)
       · exact .inl h
       · exact absurd (h▸yT) dJ
       · exact .inr (.inr h)
   · show (A++p::B).length<=s.aE.length+1
     rw [hl];simp
theorem TI {l q:List aL} (h1:lV l) (h2:lV q) (h:∀ x,x∈l↔x∈q):l=q:=by
 have n1:l.Nodup:=h1.imp fun {a b} h (e:a=b)=>iP h (congrArg _ e)
 have n2:q.Nodup:=h2.imp fun {a b} h (e:a=b)=>iP h (congrArg _ e)
 refine List.Perm.eq_of_pairwise (le:=fun a b=>bR a.name b.name) (fun a b _ _ h3 h4=>?_) h1 h2 ((List.perm_ext_iff_of_nodup n1 n2).2 h)
 have:=qS h3
 rw [h4] at this;cases this
theorem gL {s:aU} (h:bI s=true):1<=s.length/\s.length<=12:=by
 unfold bI at h
 simp only [Bool.and_eq_true,decide_eq_true_eq] at h
 exact h.1
theorem VQ:bI Kz=false:=by decide
theorem Bu {n:bK} (h:CV n=true):n.labels.length<=6/\n.cR.length<=6/\n.name≠Kz/\1<=n.name.length/\wQ n.cap:=by
 unfold CV Bk pN at h
 simp only [Bool.and_eq_true,decide_eq_true_eq] at h
 obtain ⟨h1,⟨⟨h2,h3⟩,h4⟩,⟨_,h5⟩,_,h6⟩:=h
 exact ⟨h5,h6,(fun (e:n.name=Kz)=>by rw [e,VQ] at h1;cases h1),(gL h1).1,⟨h2,h3,h4⟩⟩
theorem qZ {p:aL} (h:gY p=true):IY p:=by
 have tm:∀ {l:List cM},fY l=true->wR l:=fun {l} h=>by
  unfold fY at h
  simp only [Bool.and_eq_true,decide_eq_true_eq,List.all_eq_true] at h
  refine ⟨h.1,fun t ht=>?_⟩
  have:=h.2 t ht
  unfold mO at this
  simp only [Bool.and_eq_true] at this
  have:=this.1.1
  split at this<;>simp only [Bool.and_eq_true,decide_eq_true_eq] at this<;>omega
 unfold gY Bl Bk pN xA at h
 simp only [Bool.and_eq_true,decide_eq_true_eq] at h
 obtain ⟨_,_,_,_,_,⟨⟨h2,h3⟩,h4⟩,⟨_,h5⟩,⟨_,h6⟩,h7,h8,⟨_,_,h9,GM,_⟩,_⟩:=h
 exact ⟨h5,h6,tm h7,h8.1,tm h9,tm GM,⟨h2,h3,h4⟩⟩
structure uQ (s:dY) (ns:List bK):Prop where
 of:Bf s ns
 b:∀ n∈ns,CV n=true
theorem uQ.nil {s:dY}:uQ s []:=⟨⟨Nat.zero_le _,(fun n h=>by cases h),List.Pairwise.nil,List.Pairwise.nil⟩,fun n h=>by cases h⟩
theorem uQ.ins {s:dY} {A B:List bK} {e:bK} (h:uQ s (A++B)) (hl:(A++B).length<6) (hm:e∈s.nodes) (hb:CV e=true) (hn:∀ x∈A++B,(x.name==e.name)=false) (hA:∀ x∈A,bR x.name e.name) (hB:∀ x∈B,bR e.name x.name):uQ s (A++[e]++B):=by
 refine ⟨h.of.ins hl ⟨hm,Bu hb⟩ hn hA hB,fun n hm=>?_⟩
 simp only [List.append_assoc,List.mem_append,List.mem_singleton] at hm
 rcases hm with hm|hm|hm
 · exact h.b n (List.mem_append.2 (.inl hm))
 · rw [hm];exact hb
 · exact h.b n (List.mem_append.2 (.inr hm))
structure GA (s w:dY):Prop where
 of:acT s w
 nb:∀ n∈w.nodes,CV n=true
 pb:∀ p∈w.aE,gY p=true
 jK:lV w.aE
theorem GA.nil {s:dY} {ns:List bK} (h:uQ s ns):GA s ⟨ns,[]⟩:=⟨⟨h.of,Nat.zero_le _,(fun n h=>by cases h),(fun n h=>by cases h),List.Pairwise.nil⟩,h.b,(fun p h=>by cases h),List.Pairwise.nil⟩
theorem GA.step {s w:dY} {e:aL} (h:GA s w) (he:e∈s.aE) (hb:gY e=true) (hl:w.aE.length<16):GA s (kV w e):=by
 have x:=xF (p:=e) h.jK
 refine ⟨⟨by rw [x.nodes];exact h.of.nodes,by have:=x.len;omega,fun p hp=>?_,fun p hp=>?_,x.jK.imp iP⟩,by rw [x.nodes];exact h.nb,fun p hp=>?_,x.jK⟩
 · rcases (x.mem p).1 hp with rfl|⟨h1,_⟩
   · exact he
   · exact h.of.Yw p h1
 · rcases (x.mem p).1 hp with rfl|⟨h1,_⟩
   · exact qZ hb
   · exact h.of.aiF p h1
 · rcases (x.mem p).1 hp with rfl|⟨h1,_⟩
   · exact hb
   · exact h.pb p h1
section
variable {P:Program} (hG:bP P AF.fns.get)
include hG
theorem cutX_ok (s:dY) (hn:bQ s.nodes) (hp:bQ s.aE) (pH:∀ n∈s.nodes,n.ok/\n.Ba) (RK:∀ p∈s.aE,p.ok/\p.Ba):Pure P 6 [kS s] (fun u=>∃ w,u=kS w/\GA s w):=by
 have gK:(s.nodes.map aK).length=s.nodes.length:=List.length_map _
 have Xy:(s.aE.map aI).length=s.aE.length:=List.length_map _
 unfold bQ at hn hp
 refine aP (hG _ AF.f6 rfl) rfl ?_
 (refine zr ?_)
 refine bD.by (fun q fr st=>∃ (i:Nat) (ns:List bK),i<=s.nodes.length/\q=s.nodes.length - i/\uQ s ns/\
  fr=[(4,.i .i64 i),(3,.p (.l 2) 0),(2,.p (.l 1) 0),(1,.p (.l 0) 0)]/\
  st=⟨iJ,⟨3,[(2,.cs [.sl none 6 (ns.map aK),.sl none 16 (List.map aI [])]),(1,.cs [.aS,.aS]),(0,.cs [.sl none 6 (s.nodes.map aK),.sl none 16 (s.aE.map aI)])]⟩⟩)
  s.nodes.length ⟨_,_,?_,0,[],Nat.zero_le _,rfl,uQ.nil,rfl,rfl⟩ ?_
 · exact tL [0,1,2]
 rintro q fr st ⟨i,ns,hi,rfl,Qy,rfl,rfl⟩ R hR
 have hnm:(ns.map aK).length=ns.length:=List.length_map _
 (refine zr ?_)
 refine aH.ds (fun cO=>?_) (fun fE=>?_)
 · (refine zr ?_)
   refine aH.ds (fun h6=>?_) (fun h6=>?_)
   · have cZ:i<s.nodes.length:=by omega
     have he:=List.getElem?_eq_getElem cZ
     have hm:=List.getElem_mem cZ
     generalize s.nodes[i]=e at he hm
     (refine cD @he ?_)
     refine dF.mk (Pure.any (rnodeB_ok hG e (pH e hm).1 (pH e hm).2) rfl fun r hr=>?_)
     cases r
     · (refine zr ?_)
       refine hR (s.nodes.length - (i+1)) _ _ (by omega) ⟨_,_,?_,i+1,ns,by omega,rfl,Qy,rfl,rfl⟩
       exact tL [0,1,2]
     · have Qb:=rgetnode_ok hG ⟨ns,[]⟩ e.name (by unfold bQ;have:=Qy.of.len;show ns.length<=_;omega)
       cases L5:(dY.nodes ⟨ns,[]⟩).find? (fun p=>p.name==e.name) with
       |some x=>
        rw [L5] at Qb
        (refine cD @Qb ?_)
        refine hR (s.nodes.length - (i+1)) _ _ (by omega) ⟨_,_,?_,i+1,ns,by omega,rfl,Qy,rfl,rfl⟩
        exact tL [0,1,2]
       |none=>
        rw [L5] at Qb
        have yR:∀ x∈ns,(x.name==e.name)=false:=fun x hx=>by simpa using List.find?_eq_none.1 L5 x hx
        (refine cD @Qb ?_)
        refine bD.by (fun q fr st=>∃ k:Nat,k<=ns.length/\q=ns.length - k/\(∀ x∈ns.take k,bR x.name e.name)/\
         fr=[(8,.i .i64 k),(5,.p (.l 3) 0),(4,.i .i64 i),(3,.p (.l 2) 0),(2,.p (.l 1) 0),(1,.p (.l 0) 0)]/\
         st=⟨iJ,⟨4,[(3,.cs (aK e)),(2,.cs [.sl none 6 (ns.map aK),.sl none 16 (List.map aI [])]),(1,.cs [.aS,.aS]),(0,.cs [.sl none 6 (s.nodes.map aK),.sl none 16 (s.aE.map aI)])]⟩⟩)
         ns.length ⟨_,_,?_,0,Nat.zero_le _,rfl,(fun x hx=>by cases hx),rfl,rfl⟩ ?_
        · exact tL [0,1,2,3]
        rintro q fr st ⟨k,hk,rfl,TJ,rfl,rfl⟩ R2 I5
        obtain ⟨A,hA⟩:∃ A,A=ns.take k:=⟨_,rfl⟩
        obtain ⟨B,hB⟩:∃ B,B=ns.drop k:=⟨_,rfl⟩
        have ZY:ns=A++B:=by rw [hA,hB,List.take_append_drop]
        have hT:((ns.map aK).take ((k:Nat):Int).toNat).drop (Int.toNat 0)=A.map aK:=by rw [Int.toNat_natCast,<-List.map_take,hA];rfl
        have hD:(ns.map aK).drop ((k:Nat):Int).toNat=B.map aK:=by rw [Int.toNat_natCast,<-List.map_drop,hB]
        have hl6:ns.length<6:=by omega
        have hAl:A.length<=6:=by rw [hA];exact Nat.le_trans (List.length_take_le _ _) (by omega)
        have hBl:B.length<=6:=by rw [hB,List.length_drop];omega
        have Dg:(∀ x∈ns.drop k,bR e.name x.name)->uQ s (A++[e]++B):=fun RG=>by
         rw [<-hB] at RG
         rw [<-hA] at TJ
         rw [ZY] at Qy yR hl6
         exact Qy.ins hl6 hm (hr rfl) yR TJ RG
        (refine zr ?_)
        refine aH.ds (fun Mp=>?_) (fun YU=>?_)
        · have iT:k<ns.length:=by omega
          have hf:=List.getElem?_eq_getElem iT
          generalize ns[k]=f at hf
          (refine cD @hf ?_)
          refine aH.mk (fun hc=>?_) (fun hc=>?_)
          · (refine cD @hf ?_)
            refine I5 (ns.length - (k+1)) _ _ (by omega) ⟨_,_,?_,k+1,by omega,rfl,jZ TJ hf hc,rfl,rfl⟩
            exact tL [0,1,2,3]
          · have Dg:=Dg (PM Qy.of.so hf (oS hc fun h=>by have:=yR f (List.mem_of_getElem? hf);simp [h] at this))
            cases A<;>cases B
            all_goals ((conv=>whnf);repeat ((first|refine ye (congrArg some hT) ?_|refine ye (congrArg some hD) ?_|refine aT.mk (congrArg (V.sl none 6) hD.symm) ?_|refine ye (gI (R:=aK) (fun _=>rfl) _) ?_|refine ye (congrArg some (List.map_append (f:=aK) (l₂:=[e])).symm) ?_|refine ye (congrArg some (List.map_append (f:=aK)).symm) ?_|refine aM.mk (by simp only [bT,List.length_map,List.length_append,List.length_cons,List.length_nil,decide_eq_true_eq] at*;omega) ?_|refine ye (aF (by omega) hf) ?_|refine zz ?_)<;>(conv=>whnf)))
            all_goals refine hR (s.nodes.length - (i+1)) _ _ (by omega) ⟨_,_,?_,i+1,_,by omega,rfl,Dg,rfl,rfl⟩
            all_goals (try rw [List.append_nil])
            all_goals exact tL [0,1,2]
        · have Dg:=Dg (by rw [List.drop_eq_nil_of_le (by omega)];intro x hx;cases hx)
          cases A<;>cases B
          all_goals ((conv=>whnf);repeat ((first|refine ye (congrArg some hT) ?_|refine ye (congrArg some hD) ?_|refine aT.mk (congrArg (V.sl none 6) hD.symm) ?_|refine ye (gI (R:=aK) (fun _=>rfl) _) ?_|refine ye (congrArg some (List.map_append (f:=aK) (l₂:=[e])).symm) ?_|refine ye (congrArg some (List.map_append (f:=aK)).symm) ?_|refine aM.mk (by simp only [bT,List.length_map,List.length_append,List.length_cons,List.length_nil,decide_eq_true_eq] at*;omega) ?_|refine zz ?_)<;>(conv=>whnf)))
          all_goals refine hR (s.nodes.length - (i+1)) _ _ (by omega) ⟨_,_,?_,i+1,_,by omega,rfl,Dg,rfl,rfl⟩
          all_goals (try rw [List.append_nil])
          all_goals exact tL [0,1,2]
   · (refine zr ?_)
     refine bD.by (fun q fr st=>∃ (i:Nat) (w:dY),i<=s.aE.length/\q=s.aE.length - i/\GA s w/\
      fr=[(9,.i .i64 i),(3,.p (.l 2) 0),(2,.p (.l 1) 0),(1,.p (.l 0) 0)]/\
      st=⟨iJ,⟨3,[(2,.cs [.sl none 6 (w.nodes.map aK),.sl none 16 (w.aE.map aI)]),(1,.cs [.aS,.aS]),(0,.cs [.sl none 6 (s.nodes.map aK),.sl none 16 (s.aE.map aI)])]⟩⟩)
      s.aE.length ⟨_,_,?_,0,⟨ns,[]⟩,Nat.zero_le _,rfl,GA.nil Qy,rfl,rfl⟩ ?_
     · exact tL [0,1,2]
     clear hR Qy
     rintro q fr st ⟨i,w,hi,rfl,hw,rfl,rfl⟩ R hR
     have hwm:(w.aE.map aI).length=w.aE.length:=List.length_map _
     have CS:=hw.of.Yv
     (refine zr ?_)
     refine aH.ds (fun cO=>?_) (fun fE=>?_)
     · (refine zr ?_)
       refine aH.ds (fun Vz=>?_) (fun Vz=>?_)
       · have cZ:i<s.aE.length:=by omega
         have he:=List.getElem?_eq_getElem cZ
         have hm:=List.getElem_mem cZ
         generalize s.aE[i]=e at he hm
         (refine cD @he ?_)
         refine dF.mk (Pure.any (rpodB_ok hG e (RK e hm).1 (RK e hm).2) rfl fun r hr=>?_)
         cases r
         · (refine zr ?_)
           refine hR (s.aE.length - (i+1)) _ _ (by omega) ⟨_,_,?_,i+1,w,by omega,rfl,hw,rfl,rfl⟩
           exact tL [0,1,2]
         · (refine cD @he ?_)
           refine dF.app (Pure.go (rwithX_ok hG w e (by omega)) rfl) ?_
           (refine zr ?_)
           refine hR (s.aE.length - (i+1)) _ _ (by omega) ⟨_,_,?_,i+1,kV w e,by omega,rfl,hw.step hm (hr rfl) (by omega),rfl,rfl⟩
           exact tL [0,1,2]
       · (refine zr ?_)
         exact aG rfl ⟨w,rfl,hw⟩
     · (refine zr ?_)
       exact aG rfl ⟨w,rfl,hw⟩
 · (refine zr ?_)
   refine bD.by (fun q fr st=>∃ (i:Nat) (w:dY),i<=s.aE.length/\q=s.aE.length - i/\GA s w/\
    fr=[(9,.i .i64 i),(3,.p (.l 2) 0),(2,.p (.l 1) 0),(1,.p (.l 0) 0)]/\
    st=⟨iJ,⟨3,[(2,.cs [.sl none 6 (w.nodes.map aK),.sl none 16 (w.aE.map aI)]),(1,.cs [.aS,.aS]),(0,.cs [.sl none 6 (s.nodes.map aK),.sl none 16 (s.aE.map aI)])]⟩⟩)
    s.aE.length ⟨_,_,?_,0,⟨ns,[]⟩,Nat.zero_le _,rfl,GA.nil Qy,rfl,rfl⟩ ?_
   · exact tL [0,1,2]
   clear hR Qy
   rintro q fr st ⟨i,w,hi,rfl,hw,rfl,rfl⟩ R hR
   have hwm:(w.aE.map aI).length=w.aE.length:=List.length_map _
   have CS:=hw.of.Yv
   (refine zr ?_)
   refine aH.ds (fun cO=>?_) (fun fE=>?_)
   · (refine zr ?_)
     refine aH.ds (fun Vz=>?_) (fun Vz=>?_)
     · have cZ:i<s.aE.length:=by omega
       have he:=List.getElem?_eq_getElem cZ
       have hm:=List.getElem_mem cZ
       generalize s.aE[i]=e at he hm
       (refine cD @he ?_)
       refine dF.mk (Pure.any (rpodB_ok hG e (RK e hm).1 (RK e hm).2) rfl fun r hr=>?_)
       cases r
       · (refine zr ?_)
         refine hR (s.aE.length - (i+1)) _ _ (by omega) ⟨_,_,?_,i+1,w,by omega,rfl,hw,rfl,rfl⟩
         exact tL [0,1,2]
       · (refine cD @he ?_)
         refine dF.app (Pure.go (rwithX_ok hG w e (by omega)) rfl) ?_
         (refine zr ?_)
         refine hR (s.aE.length - (i+1)) _ _ (by omega) ⟨_,_,?_,i+1,kV w e,by omega,rfl,hw.step hm (hr rfl) (by omega),rfl,rfl⟩
         exact tL [0,1,2]
     · (refine zr ?_)
       exact aG rfl ⟨w,rfl,hw⟩
   · (refine zr ?_)
     exact aG rfl ⟨w,rfl,hw⟩
end
open Go
def vF:Nat->List bK->List dG
 |_,[]=>[]
 |i,n::r=>⟨dK n.name,1+i,dO n⟩::vF (i+1) r
def uR:Nat->List aL->List dG
 |_,[]=>[]
 |i,p::r=>⟨bO p.name,20+i,bZ p⟩::uR (i+1) r
theorem HC:∀ {l:List bK} {i k:Nat} {e:bK},l[i]? =some e->vF k (l.take (i+1))=vF k (l.take i)++[⟨dK e.name,1+(k+i:Nat),dO e⟩]
 |[],i,k,e,h=>by simp at h
 |n::r,0,k,e,h=>by
  simp at h;subst h
  simp [vF]
 |n::r,i+1,k,e,h=>by
  rw [List.take_succ_cons,List.take_succ_cons,vF,vF,HC (l:=r) (i:=i) (k:=k+1) (by simpa using h),List.cons_append]
  rw [show k+1+i=k+(i+1) by omega]
theorem HD:∀ {l:List aL} {i k:Nat} {e:aL},l[i]? =some e->uR k (l.take (i+1))=uR k (l.take i)++[⟨bO e.name,20+(k+i:Nat),bZ e⟩]
 |[],i,k,e,h=>by simp at h
 |n::r,0,k,e,h=>by
  simp at h;subst h
  simp [uR]
 |n::r,i+1,k,e,h=>by
  rw [List.take_succ_cons,List.take_succ_cons,uR,uR,HD (l:=r) (i:=i) (k:=k+1) (by simpa using h),List.cons_append]
  rw [show k+1+i=k+(i+1) by omega]
theorem xG:∀ (l:List bK) (k:Nat),(vF k l).length=l.length
 |[],_=>rfl
 |_::r,k=>by rw [vF,List.length_cons,xG r];rfl
theorem Bv:∀ (l:List aL) (k:Nat),(uR k l).length=l.length
 |[],_=>rfl
 |_::r,k=>by rw [uR,List.length_cons,Bv r];rfl
def sM (s:dY):List dG:=vF 0 s.nodes++uR 0 s.aE
theorem OA {n:bK} (h:CV n=true):Ot n:=by
 have hm:=Bu h
 unfold CV at h
 simp only [Bool.and_eq_true] at h
 obtain ⟨h1,_,⟨h2,_⟩,h3,_⟩:=h
 exact ⟨by have:=(gL h1).2;omega,by omega,fun q hq=>by have:=pairsB_ok h2 q hq;exact ⟨by have:=this.1.1;omega,by have:=this.2.1;omega⟩,by omega,fun q hq=>by have:=pairsB_ok h3 q hq;exact ⟨by have:=this.1.1;omega,by have:=this.2.1;omega⟩⟩
theorem xH {p:aL} (h:gY p=true):pE p:=by
 have hm:=qZ h
 have tl:∀ {l:List cM},fY l=true->xB l:=fun {l} h=>by
  have h2:=termsB_ok h
  exact ⟨by omega,fun t ht=>by
   have h3:=h2.2 t ht
   unfold fY at h
   simp only [Bool.and_eq_true,List.all_eq_true] at h
   have h4:=h.2 t ht
   unfold mO at h4
   simp only [Bool.and_eq_true,List.all_eq_true] at h4
   have h5:=h4.1.1
   have hv:t.bF.length<=6:=by split at h5<;>simp only [Bool.and_eq_true,decide_eq_true_eq] at h5<;>omega
   exact ⟨by have:=(gL h4.1.2).2;omega,by omega,fun v hv=>by have:=(gL (h4.2 v hv)).2;omega⟩⟩
 unfold gY Bl Hq at h
 simp only [Bool.and_eq_true,Bool.or_eq_true,decide_eq_true_eq] at h
 obtain ⟨h1,_,_,_,_,_,⟨_,h5⟩,⟨h6,h7⟩,h8,h9,⟨_,_,GM,LI,Jx⟩,Vy⟩:=h
 have ht:=tolsB_ok h9
 exact ⟨by have:=(gL h1).2;omega,by omega,by omega,fun q hq=>by have:=pairsB_ok h6 q hq;exact ⟨by have:=this.1.1;omega,by have:=this.2.1;omega⟩,tl h8,by omega,fun t h=>by have:=ht.2 t h;exact ⟨by have:=this.1.1;omega,by have:=this.2.1;omega⟩,
  by rcases Jx with e|e;exact (by have:=(gL e).2;omega);rw [e.1];exact Nat.zero_le _,tl GM,tl LI,by rcases Vy with e|e;exact (by have:=(gL e.1).2;omega);rw [e.1];exact Nat.zero_le _⟩
section
variable {P:Program} (hG:bP P AF.fns.get)
include hG
theorem OB (n:bK) (h:CV n=true):Pure P 108 [.agg (aK n)] (·=.b true):=mnode_at hG n (OA h) (aG rfl (by rw [h]))
theorem TK (p:aL) (h:gY p=true):Pure P 115 [.agg (aI p)] (·=.b true):=mpod_at hG p (xH h) (aG rfl (by rw [h]))
theorem entries_at (eN:dQ P 285) {h:aA} (s:dY) (hn:s.nodes.length<=1000) (hp:s.aE.length<=1000) (uS:∀ n∈s.nodes,CV n=true) (Jg:∀ p∈s.aE,gY p=true) (Gx:∀ p∈s.aE,p.term<=9223372036854775807) {K:V->aA->Prop}
 (hK:∀ lv h',YX lv (sM s)->aA.aJ (fun _=>False) h h'->K lv h'):aC P 12 [kS s] h K:=by
 have hnm:(s.nodes.map aK).length=s.nodes.length:=List.length_map _
 have XQ:(s.aE.map aI).length=s.aE.length:=List.length_map _
 refine dU (hG _ AF.f12 rfl) rfl ?_
 (refine zr ?_)
 refine cS.by (fun q fr st=>∃ (i:Nat) (hh lo:aA) (ev:V),i<=s.nodes.length/\q=s.nodes.length - i/\aA.aJ (fun _=>False) h hh/\0<lo.next/\lo.get 0=some (.cs [.sl none 6 (s.nodes.map aK),.sl none 16 (s.aE.map aI)])/\
  ((vF 0 (s.nodes.take i)=[]/\ev=.aS)\/(0<i/\∃ t,ev=.sl (some (.l t)) 3 ((vF 0 (s.nodes.take i)).map lG)/\0<t/\t<lo.next/\lo.get t=some .spare))/\
  Fr.le [(9,.i .i64 i),(8,.i .i64 (s.nodes.map aK).length),(3,ev),(1,.p (.l 0) 0)] fr/\st=⟨hh,lo⟩)
  s.nodes.length ⟨0,h,_,.aS,Nat.zero_le _,rfl,.refl _ _,Nat.zero_lt_one,rfl,.inl ⟨rfl,rfl⟩,cT,rfl⟩ ?_
 rintro q fr st ⟨i,hh,lo,ev,hi,rfl,hk,u9,g0,uT,dE,rfl⟩
 refine ⟨_,dE,fun R hR=>?_⟩
 by_cases cY:i<s.nodes.length
 · have he:=List.getElem?_eq_getElem cY
   have hb:=uS _ (List.getElem_mem cY)
   generalize s.nodes[i]=e at he hb
   have GN:=HC (k:=0) he
   have nQ:(vF 0 (s.nodes.take i)).length<=1000:=by rw [xG,List.length_take];omega
   have hm:=Bu hb
   have amM:=OA hb
   have tO:e.name.length<=12:=by unfold CV at hb;simp only [Bool.and_eq_true] at hb;exact (gL hb.1).2
   have hw:=fun K hK=>wputn_at (K:=K) hG eN e (by omega) (by omega) (OB hG e hb) (h:=hh) hK
   have a1:∀ o,(lo.push o).get 0=some (.cs [.sl none 6 (s.nodes.map aK),.sl none 16 (s.aE.map aI)]):=fun o=>aA.gp (by omega) g0
   rw [Nat.zero_add] at GN
   generalize vF 0 (s.nodes.take i)=L at uT GN nQ
   have hLm:(L.map lG).length=L.length:=List.length_map _
   rcases uT with ⟨rfl,rfl⟩|⟨Ds,t,rfl,YW,Jy,yU⟩
   · (refine IV (show (i:Int)<(s.nodes.map aK).length by omega) @hw (decide_eq_true (show ((([110,47]:aU).length+e.name.length:Nat):Int)<=9223372036854775807 by simp;omega)) @he @g0 ?_)
     intro h' KZ
     (refine qR @he @g0 @a1 ?_)
     refine hR (s.nodes.length - (i+1)) _ _ (by omega) ⟨i+1,h',_,_,by omega,rfl,hk.trans KZ,Nat.succ_pos _,aA.gp (by show 0≠lo.next+1;omega) (aA.gp (by omega) g0),.inr ⟨Nat.succ_pos _,lo.next+1,?_,Nat.succ_pos _,Nat.lt_succ_self _,aA.aB _ _⟩,cT,rfl⟩
     rw [GN];rfl
   · have p1:(lo.push .spare).get t=some .spare:=aA.gp (by omega) yU
     (refine IV (show (i:Int)<(s.nodes.map aK).length by omega) @hw (decide_eq_true (show ((([110,47]:aU).length+e.name.length:Nat):Int)<=9223372036854775807 by simp;omega)) @he @g0 ?_)
     intro h' KZ
     (refine zx4 @he @g0 @a1 @p1 ?_)
     refine hR (s.nodes.length - (i+1)) _ _ (by omega) ⟨i+1,h',_,_,by omega,rfl,hk.trans KZ,Nat.succ_pos _,aA.gp (by show 0≠lo.next+1;omega) (aA.gr (by omega) (aA.gp (by omega) g0)),.inr ⟨Nat.succ_pos _,lo.next+1,?_,Nat.succ_pos _,Nat.lt_succ_self _,aA.aB _ _⟩,cT,rfl⟩
     rw [GN,List.map_append];rfl
 obtain rfl:i=s.nodes.length:=by omega
 rw [List.take_length] at uT
 clear hR
 (refine iG (show ¬((s.nodes.length:Nat):Int)<(s.nodes.map aK).length by omega) @g0 ?_)
 have ajD:(vF 0 s.nodes).length<=1000:=by rw [xG];exact hn
 unfold sM at hK
 generalize vF 0 s.nodes=N0 at uT ajD hK
 have adS:(N0=[]/\ev=.aS)\/∃ t,ev=.sl (some (.l t)) 3 (N0.map lG)/\0<t/\t<lo.next/\lo.get t=some .spare:=by
  rcases uT with h1|⟨_,h1⟩
  · exact .inl h1
  · exact .inr h1
 clear uT dE
 refine cS.by (fun q fr st=>∃ (i:Nat) (hh lo:aA) (ev:V),i<=s.aE.length/\q=s.aE.length - i/\aA.aJ (fun _=>False) h hh/\0<lo.next/\lo.get 0=some (.cs [.sl none 6 (s.nodes.map aK),.sl none 16 (s.aE.map aI)])/\
  ((N0++uR 0 (s.aE.take i)=[]/\ev=.aS)\/∃ t,ev=.sl (some (.l t)) 3 ((N0++uR 0 (s.aE.take i)).map lG)/\0<t/\t<lo.next/\lo.get t=some .spare)/\
  Fr.le [(35,.i .i64 i),(34,.i .i64 (s.aE.map aI).length),(3,ev),(1,.p (.l 0) 0)] fr/\st=⟨hh,lo⟩)
  s.aE.length ⟨0,hh,lo,ev,Nat.zero_le _,rfl,hk,u9,g0,by simpa [uR] using adS,cT,rfl⟩ ?_
 clear adS hk u9 g0
 rintro q fr st ⟨i,hh,lo,ev,hi,rfl,hk,u9,g0,uT,dE,rfl⟩
 refine ⟨_,dE,fun R hR=>?_⟩
 by_cases cY:i<s.aE.length
 · have he:=List.getElem?_eq_getElem cY
   have hb:=Jg _ (List.getElem_mem cY)
   have Gx:=Gx _ (List.getElem_mem cY)
   generalize s.aE[i]=e at he hb Gx
   have GN:N0++uR 0 (s.aE.take (i+1))=N0++uR 0 (s.aE.take i)++[⟨bO e.name,20+(i:Nat),bZ e⟩]:=by rw [HD (k:=0) he,Nat.zero_add,List.append_assoc]
   have nQ:(N0++uR 0 (s.aE.take i)).length<=2000:=by rw [List.length_append,Bv,List.length_take];omega
   have tO:e.name.length<=12:=by unfold gY at hb;simp only [Bool.and_eq_true] at hb;exact (gL hb.1).2
   have hw:=fun K hK=>wput_at (K:=K) hG eN e (FF hb Gx).small (TK hG e hb) (h:=hh) hK
   have a1:∀ o,(lo.push o).get 0=some (.cs [.sl none 6 (s.nodes.map aK),.sl none 16 (s.aE.map aI)]):=fun o=>aA.gp (by omega) g0
   generalize N0++uR 0 (s.aE.take i)=L at uT GN nQ
   have hLm:(L.map lG).length=L.length:=List.length_map _
   rcases uT with ⟨rfl,rfl⟩|⟨t,rfl,YW,Jy,yU⟩
   · (refine IV (show (i:Int)<(s.aE.map aI).length by omega) @hw (decide_eq_true (show ((([112,47]:aU).length+e.name.length:Nat):Int)<=9223372036854775807 by simp;omega)) @he @g0 ?_)
     intro h' KZ
     (refine qR @he @g0 @a1 ?_)
     refine hR (s.aE.length - (i+1)) _ _ (by omega) ⟨i+1,h',_,_,by omega,rfl,hk.trans KZ,Nat.succ_pos _,aA.gp (by show 0≠lo.next+1;omega) (aA.gp (by omega) g0),.inr ⟨lo.next+1,?_,Nat.succ_pos _,Nat.lt_succ_self _,aA.aB _ _⟩,cT,rfl⟩
     rw [GN];rfl
   · have p1:(lo.push .spare).get t=some .spare:=aA.gp (by omega) yU
     (refine IV (show (i:Int)<(s.aE.map aI).length by omega) @hw (decide_eq_true (show ((([112,47]:aU).length+e.name.length:Nat):Int)<=9223372036854775807 by simp;omega)) @he @g0 ?_)
     intro h' KZ
     (refine zx4 @he @g0 @a1 @p1 ?_)
     refine hR (s.aE.length - (i+1)) _ _ (by omega) ⟨i+1,h',_,_,by omega,rfl,hk.trans KZ,Nat.succ_pos _,aA.gp (by show 0≠lo.next+1;omega) (aA.gr (by omega) (aA.gp (by omega) g0)),.inr ⟨lo.next+1,?_,Nat.succ_pos _,Nat.lt_succ_self _,aA.aB _ _⟩,cT,rfl⟩
     rw [GN,List.map_append];rfl
 · obtain rfl:i=s.aE.length:=by omega
   rw [List.take_length] at uT
   rcases uT with ⟨h1,rfl⟩|⟨t,rfl,_⟩
   · (refine cD (show ¬((s.aE.length:Nat):Int)<(s.aE.map aI).length by omega) ?_)
     exact hK _ hh (.inl ⟨rfl,h1⟩) hk
   · (refine cD (show ¬((s.aE.length:Nat):Int)<(s.aE.map aI).length by omega) ?_)
     exact hK _ hh (.inr rfl) hk
end
open Go
def LeL:List V->List V->Prop
 |[],[]=>True
 |u::r,v::q=>(u=v\/Uw gV ⟨0,0⟩ gG u v)/\LeL r q
 |_,_=>False
theorem LeL.spec:∀ {l r:List V},LeL l r->l.length=r.length/\∀ (j:Nat) (v:V),r[j]? =some v->∃ u,l[j]? =some u/\(u=v\/Uw gV ⟨0,0⟩ gG u v)
 |[],[],_=>⟨rfl,fun j v h=>by simp at h⟩
 |[],_::_,h=>h.elim
 |_::_,[],h=>h.elim
 |u::r,v::q,h=>by
  obtain ⟨h1,h2⟩:=h
  obtain ⟨c1,c2⟩:=LeL.spec h2
  refine ⟨by simp [c1],fun j x hj=>?_⟩
  cases j with
  |zero=>simp at hj;subst hj;exact ⟨u,rfl,h1⟩
  |succ j=>simp at hj;obtain ⟨y,hy,hc⟩:=c2 j x hj;exact ⟨y,by simpa using hy,hc⟩
theorem aC.leq {P:Program} {f:Nat} {args args':List V} {h:aA} {K:V->aA->Prop} (hr:LeL args args') (h0:aC P f args' h K):aC P f args h K:=by
 refine ⟨h0.1,fun E w vs tO hs hv=>h0.2 E w vs tO hs ?_⟩
 obtain ⟨c1,c2⟩:=hr.spec
 refine ⟨by have:=hv.1;omega,fun j v x hj hx=>?_⟩
 obtain ⟨u,hu,hc|hc⟩:=c2 j v hj
 · subst hc;exact hv.2 j u x hu hx
 · exact EU hc (hv.2 j u x hu hx)
theorem aC.tell {P:Program} {f:Nat} {args:List V} {h:aA} {K K2:V->aA->Prop} (hA:aC P f args h K) (hm:∀ v h',K v h'->∃ v',(∀ (E:Env) (x:Value),Rel E v x->Rel E v' x)/\K2 v' h'):aC P f args h K2:=
 ⟨hA.1,fun E w vs hn hs hv=>(hA.2 E w vs hn hs hv).mono fun _ _ ⟨v,x,h',E',h1,h2,h3,h4,h5,h6⟩=>by
  obtain ⟨v',q1,q2⟩:=hm v h' h1
  exact ⟨v',x,h',E',q2,h2,h3,h4,h5,q1 E' x h6⟩⟩
theorem Bw (k:Nat) (rows:List (List V)):Ce gV ⟨0,0⟩ gG (.sl none k rows) (.sl none k rows):=.Cd (N8 _).symm trivial
theorem Y3 {u v:V} (hc:Ce gV ⟨0,0⟩ gG u v) (E:Env) (x:Value) (h:Rel E u x):Rel E v x:=EU (.inl hc) h
theorem VR {cs ds:List V} (hc:Ah gV ⟨0,0⟩ gG cs ds) (E:Env) (x:Value) (h:Rel E (.agg cs) x):Rel E (.agg ds) x:=EU (.inr (.inl ⟨_,_,rfl,rfl,hc⟩)) h
end Go.Eng
