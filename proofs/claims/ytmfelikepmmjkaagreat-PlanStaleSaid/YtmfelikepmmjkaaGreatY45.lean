/-
What may be, by the document: then the program says so too (names, pairs, terms, tolerations).
-/
import Derived.Test.YtmfelikepmmjkaaGreatY32
import Derived.Test.YtmfelikepmmjkaaGreatY42
set_option linter.unusedVariables false
set_option linter.unusedSimpArgs false
set_option maxHeartbeats 4000000
namespace Go.Eng
open Go
theorem nH.imp {φ ψ:Prop} {u:V} (h:nH φ u) (hi:φ->ψ):nH ψ u:=let ⟨r,h1,h2⟩:=h;⟨r,h1,fun hr=>hi (h2 hr)⟩
theorem Pure.imp {P:Program} {f:Nat} {args:List V} {Q R:V->Prop} (h0:Pure P f args Q) (h:∀ u,Q u->R u):Pure P f args R:=
 aB.mono P f args gZ _ _ (fun v h' ⟨ρ,F,u,h1,h2,h3⟩=>⟨ρ,F,u,h1,h2,h u h3⟩) h0
theorem M3 {r:hU} (h:Bd r):Bj r=true:=by
 obtain ⟨⟨a1,a2⟩,⟨b1,b2⟩,⟨c1,c2⟩⟩:=h
 unfold Bj qG
 simp [a1,a2,b1,b2,c1,c2]
theorem Gn:∀ {l:List dE} {o:Option aU},(∀ x∈l,bK x.key=true/\bK x.val=true)->(l.Pairwise fun a b=>True)->(∀ y x,o=some y->l[0]? =some x->Op.bytesLess y x.key=true)->(∀ (j:Nat) (y x:dE),l[j]? =some y->l[j+1]? =some x->Op.bytesLess y.key x.key=true)->fB o l=true
 |[],o,_,_,_,_=>by cases o<;>rfl
 |x::r,o,h1,hp,h2,h3=>by
  rw [qH]
  have ih:=Gn (l:=r) (o:=some x.key) (fun y hy=>h1 y (.tail _ hy)) (List.pairwise_cons.1 hp).2 (fun y z hy hz=>by cases hy;exact h3 0 x z rfl (by simpa using hz)) (fun j y z hy hz=>h3 (j+1) y z (by simpa using hy) (by simpa using hz))
  rw [ih,(h1 x (.head _)).1,(h1 x (.head _)).2]
  cases o with
  |none=>rfl
  |some y=>simp [show Op.bytesLess y x.key=true from h2 y x rfl rfl]
theorem Gp:∀ {l:List Int} {o:Option Int},(∀ x∈l,1<=x/\x<=65535)->(∀ y x,o=some y->l[0]? =some x->y<x)->(∀ (j:Nat) (y x:Int),l[j]? =some y->l[j+1]? =some x->y<x)->mJ o l=true
 |[],o,_,_,_=>by cases o<;>rfl
 |x::r,o,h1,h2,h3=>by
  rw [vA]
  have ih:=Gp (l:=r) (o:=some x) (fun y hy=>h1 y (.tail _ hy)) (fun y z hy hz=>by cases hy;exact h3 0 x z rfl (by simpa using hz)) (fun j y z hy hz=>h3 (j+1) y z (by simpa using hy) (by simpa using hz))
  obtain ⟨a,b⟩:=h1 x (.head _)
  rw [ih,decide_eq_true a,decide_eq_true b]
  cases o with
  |none=>rfl
  |some y=>simp [show y<x from h2 y x rfl rfl]
def Bo (l:List dE) (i:Nat):Prop:=∀ (j:Nat) (y x:dE),j+1<i->l[j]? =some y->l[j+1]? =some x->Op.bytesLess y.key x.key=true
def HS (l:List Int) (i:Nat):Prop:=∀ (j:Nat) (y x:Int),j+1<i->l[j]? =some y->l[j+1]? =some x->y<x
theorem wJ {l:List dE} {i:Nat} (h:i<=1):Bo l i:=fun j y x hj=>by omega
theorem Gq {l:List dE} {i:Nat} {f e:dE} (h:Bo l i) (hf:l[i - 1]? =some f) (he:l[i]? =some e) (hl:Op.bytesLess f.key e.key=true):Bo l (i+1):=fun j y x hj hy hx=>by
 by_cases c:j+1<i
 · exact h j y x c hy hx
 · obtain rfl:i=j+1:=by omega
   rw [Nat.add_sub_cancel] at hf
   rw [hf] at hy;rw [he] at hx
   cases hy;cases hx;exact hl
theorem LP {l:List Int} {i:Nat} {f e:Int} (h:HS l i) (hf:l[i - 1]? =some f) (he:l[i]? =some e) (hl:f<e):HS l (i+1):=fun j y x hj hy hx=>by
 by_cases c:j+1<i
 · exact h j y x c hy hx
 · obtain rfl:i=j+1:=by omega
   rw [Nat.add_sub_cancel] at hf
   rw [hf] at hy;rw [he] at hx
   cases hy;cases hx;exact hl
theorem Gr {l:List dE} (h1:∀ x∈l,bK x.key=true/\bK x.val=true) (h2:Bo l l.length):fB none l=true:=
 Gn h1 (List.pairwise_of_forall fun _ _=>trivial) (fun y x h=>by cases h) fun j y x hy hx=>h2 j y x (List.getElem?_eq_some_iff.1 hx).1 hy hx
section
variable {P:Program} (hG:bN P AF.fns.get)
include hG
theorem rnameB_ok (s:aU) (hs:s.length<=9223372036854775807):Pure P 36 [.s s] (nH (bK s=true)):=by
 refine aM (hG _ AF.f36 rfl) rfl ?_
 (refine zr ?_)
 refine bC.by (fun q fr st=>∃ i:Nat,i<=s.length/\q=s.length - i/\(∀ c∈s.take i,mR c.toNat=true)/\fr=[(3,.i .i64 i),(0,.s s)]/\st=dG gZ)
  s.length ⟨_,_,?_,0,Nat.zero_le _,rfl,(fun c hc=>by cases hc),rfl,rfl⟩ ?_
 · exact yN
 rintro q fr st ⟨i,hi,rfl,Ar,rfl,rfl⟩ R hR
 (conv=>whnf)
 refine aH.ds (fun cL=>?_) (fun fC=>?_)
 · have cZ:i<s.length:=by omega
   have ON:=List.getElem?_eq_getElem cZ
   have he:s[((i:Nat):Int).toNat]? =some s[i]:=by rw [Int.toNat_natCast];exact List.getElem?_eq_getElem cZ
   generalize s[i]=e at he ON
   ((conv=>whnf);repeat' ((first|refine ye (he) ?_|refine zz ?_|refine aH.ds (fun _=>?_) (fun _=>?_)|refine aH.ns (fun _=>?_) (fun _=>?_)|refine aH.mk (fun _=>?_) (fun _=>?_)|(intro r hr;cases r))<;>(conv=>whnf)))
   all_goals first
    |exact aE rfl ⟨false,rfl,fun h=>by cases h⟩
    |(refine hR (s.length - (i+1)) _ _ (by omega) ⟨_,_,?_,i+1,by omega,rfl,jF Ar ON (by rw [Es];simp only [Bool.or_eq_true,Bool.and_eq_true,decide_eq_true_eq];omega),rfl,rfl⟩;exact yN)
 · obtain rfl:i=s.length:=by omega
   rw [List.take_length] at Ar
   have eV:(s.all fun c=>mR c.toNat)=true:=List.all_eq_true.2 Ar
   ((conv=>whnf);repeat' ((first|refine zz ?_|refine aH.ds (fun _=>?_) (fun _=>?_)|refine aH.ns (fun _=>?_) (fun _=>?_)|refine aH.mk (fun _=>?_) (fun _=>?_)|(intro r hr;cases r))<;>(conv=>whnf)))
   all_goals exact aE rfl ⟨_,rfl,fun h=>by first|(cases h;done)|(unfold bK;rw [eV];simp at h ⊢;omega)⟩
theorem rpairsB_ok (l:List dE) (hl:bP l) (hs:∀ x∈l,x.Af):Pure P 38 [.sl none 2 (l.map bJ)] (nH ((fB none l&&decide (l.length<=6))=true)):=by
 have iO:(l.map bJ).length=l.length:=List.length_map _
 unfold bP at hl
 refine aM (hG _ AF.f38 rfl) rfl ?_
 (refine zr ?_)
 refine bC.by (fun q fr st=>∃ i:Nat,i<=l.length/\q=l.length - i/\(∀ x∈l.take i,bK x.key=true/\bK x.val=true)/\Bo l i/\fr=[(6,.i .i64 i),(5,.i .i64 (l.map bJ).length),(0,.sl none 2 (l.map bJ))]/\st=dG gZ)
  l.length ⟨_,_,?_,0,Nat.zero_le _,rfl,(fun x hx=>by cases hx),wJ (Nat.zero_le _),rfl,rfl⟩ ?_
 · exact yN
 rintro q fr st ⟨i,hi,rfl,Ar,Sx,rfl,rfl⟩ R hR
 (conv=>whnf)
 refine aH.ds (fun cL=>?_) (fun fC=>?_)
 · have cZ:i<l.length:=by omega
   have he:=List.getElem?_eq_getElem cZ
   have hm:=hs _ (List.getElem_mem cZ)
   generalize l[i]=e at he hm
   rcases Nat.eq_zero_or_pos i with h0|h0
   · ((conv=>whnf);repeat' ((first|refine cA (Pure.any (rnameB_ok hG _ hm.1) rfl) ?_|refine cA (Pure.any (rnameB_ok hG _ hm.2) rfl) ?_|refine ye (aG (by simp) he) ?_|refine zz ?_|refine aH.ds (fun _=>?_) (fun _=>?_)|refine aH.ns (fun _=>?_) (fun _=>?_)|refine aH.mk (fun _=>?_) (fun _=>?_)|(intro r hr;cases r))<;>(conv=>whnf)))
     all_goals first
      |exact aE rfl ⟨false,rfl,fun h=>by cases h⟩
      |(refine hR (l.length - (i+1)) _ _ (by omega) ⟨_,_,?_,i+1,by omega,rfl,jF Ar he ⟨(by assumption:true=true->bK e.key=true) rfl,(by assumption:true=true->bK e.val=true) rfl⟩,wJ (by omega),rfl,rfl⟩;exact yN)
   · have L8:i - 1<l.length:=by omega
     have hf:=List.getElem?_eq_getElem L8
     generalize l[i - 1]=f at hf
     ((conv=>whnf);repeat' ((first|refine cA (Pure.any (rnameB_ok hG _ hm.1) rfl) ?_|refine cA (Pure.any (rnameB_ok hG _ hm.2) rfl) ?_|refine ye (aG (by omega) he) ?_|refine ye (aG (by omega) hf) ?_|refine zz ?_|refine aH.ds (fun _=>?_) (fun _=>?_)|refine aH.ns (fun _=>?_) (fun _=>?_)|refine aH.mk (fun _=>?_) (fun _=>?_)|(intro r hr;cases r))<;>(conv=>whnf)))
     all_goals first
      |exact aE rfl ⟨false,rfl,fun h=>by cases h⟩
      |(refine hR (l.length - (i+1)) _ _ (by omega) ⟨_,_,?_,i+1,by omega,rfl,jF Ar he ⟨(by assumption:true=true->bK e.key=true) rfl,(by assumption:true=true->bK e.val=true) rfl⟩,Gq Sx hf he (by simp_all),rfl,rfl⟩;exact yN)
 · obtain rfl:i=l.length:=by omega
   rw [List.take_length] at Ar
   have eV:=Gr Ar Sx
   ((conv=>whnf);repeat' ((first|refine zz ?_|refine aH.ds (fun _=>?_) (fun _=>?_)|refine aH.ns (fun _=>?_) (fun _=>?_)|refine aH.mk (fun _=>?_) (fun _=>?_)|(intro r hr;cases r))<;>(conv=>whnf)))
   all_goals exact aE rfl ⟨_,rfl,fun h=>by rw [eV];simp at h ⊢;omega⟩
theorem rtaintsB_ok (l:List dE) (hl:bP l) (hs:∀ x∈l,x.Af):Pure P 101 [.sl none 2 (l.map bJ)] (nH ((fB none l&&decide (l.length<=6))=true)):=by
 have iO:(l.map bJ).length=l.length:=List.length_map _
 unfold bP at hl
 refine aM (hG _ AF.f101 rfl) rfl ?_
 (refine zr ?_)
 refine bC.by (fun q fr st=>∃ i:Nat,i<=l.length/\q=l.length - i/\(∀ x∈l.take i,bK x.key=true/\bK x.val=true)/\Bo l i/\fr=[(6,.i .i64 i),(5,.i .i64 (l.map bJ).length),(0,.sl none 2 (l.map bJ))]/\st=dG gZ)
  l.length ⟨_,_,?_,0,Nat.zero_le _,rfl,(fun x hx=>by cases hx),wJ (Nat.zero_le _),rfl,rfl⟩ ?_
 · exact yN
 rintro q fr st ⟨i,hi,rfl,Ar,Sx,rfl,rfl⟩ R hR
 (conv=>whnf)
 refine aH.ds (fun cL=>?_) (fun fC=>?_)
 · have cZ:i<l.length:=by omega
   have he:=List.getElem?_eq_getElem cZ
   have hm:=hs _ (List.getElem_mem cZ)
   generalize l[i]=e at he hm
   rcases Nat.eq_zero_or_pos i with h0|h0
   · ((conv=>whnf);repeat' ((first|refine cA (Pure.any (rnameB_ok hG _ hm.1) rfl) ?_|refine cA (Pure.any (rnameB_ok hG _ hm.2) rfl) ?_|refine ye (aG (by simp) he) ?_|refine zz ?_|refine aH.ds (fun _=>?_) (fun _=>?_)|refine aH.ns (fun _=>?_) (fun _=>?_)|refine aH.mk (fun _=>?_) (fun _=>?_)|(intro r hr;cases r))<;>(conv=>whnf)))
     all_goals first
      |exact aE rfl ⟨false,rfl,fun h=>by cases h⟩
      |(refine hR (l.length - (i+1)) _ _ (by omega) ⟨_,_,?_,i+1,by omega,rfl,jF Ar he ⟨(by assumption:true=true->bK e.key=true) rfl,(by assumption:true=true->bK e.val=true) rfl⟩,wJ (by omega),rfl,rfl⟩;exact yN)
   · have L8:i - 1<l.length:=by omega
     have hf:=List.getElem?_eq_getElem L8
     generalize l[i - 1]=f at hf
     ((conv=>whnf);repeat' ((first|refine cA (Pure.any (rnameB_ok hG _ hm.1) rfl) ?_|refine cA (Pure.any (rnameB_ok hG _ hm.2) rfl) ?_|refine ye (aG (by omega) he) ?_|refine ye (aG (by omega) hf) ?_|refine zz ?_|refine aH.ds (fun _=>?_) (fun _=>?_)|refine aH.ns (fun _=>?_) (fun _=>?_)|refine aH.mk (fun _=>?_) (fun _=>?_)|(intro r hr;cases r))<;>(conv=>whnf)))
     all_goals first
      |exact aE rfl ⟨false,rfl,fun h=>by cases h⟩
      |(refine hR (l.length - (i+1)) _ _ (by omega) ⟨_,_,?_,i+1,by omega,rfl,jF Ar he ⟨(by assumption:true=true->bK e.key=true) rfl,(by assumption:true=true->bK e.val=true) rfl⟩,Gq Sx hf he (by simp_all),rfl,rfl⟩;exact yN)
 · obtain rfl:i=l.length:=by omega
   rw [List.take_length] at Ar
   have eV:=Gr Ar Sx
   ((conv=>whnf);repeat' ((first|refine zz ?_|refine aH.ds (fun _=>?_) (fun _=>?_)|refine aH.ns (fun _=>?_) (fun _=>?_)|refine aH.mk (fun _=>?_) (fun _=>?_)|(intro r hr;cases r))<;>(conv=>whnf)))
   all_goals exact aE rfl ⟨_,rfl,fun h=>by rw [eV];simp at h ⊢;omega⟩
theorem rtolsB_ok (l:List j8) (hl:bP l) (hs:∀ x∈l,x.Af):Pure P 40 [.sl none 3 (l.map eO)] (nH (vB l=true)):=by
 have iO:(l.map eO).length=l.length:=List.length_map _
 unfold bP at hl
 refine aM (hG _ AF.f40 rfl) rfl ?_
 (refine zr ?_)
 refine bC.by (fun q fr st=>∃ i:Nat,i<=l.length/\q=l.length - i/\(∀ x∈l.take i,Et x=true)/\fr=[(7,.i .i64 i),(6,.i .i64 (l.map eO).length),(0,.sl none 3 (l.map eO))]/\st=dG gZ)
  l.length ⟨_,_,?_,0,Nat.zero_le _,rfl,(fun x hx=>by cases hx),rfl,rfl⟩ ?_
 · exact yN
 rintro q fr st ⟨i,hi,rfl,Ar,rfl,rfl⟩ R hR
 (conv=>whnf)
 refine aH.ds (fun cL=>?_) (fun fC=>?_)
 · have cZ:i<l.length:=by omega
   have he:=List.getElem?_eq_getElem cZ
   have hm:=hs _ (List.getElem_mem cZ)
   generalize l[i]=e at he hm
   obtain ⟨ek,ev,ea⟩:=e
   cases ea
   all_goals
    ((conv=>whnf);repeat' ((first|refine cA (Pure.any (rnameB_ok hG ek hm.1) rfl) ?_|refine cA (Pure.any (rnameB_ok hG ev hm.2) rfl) ?_|refine ye (aG (by omega) he) ?_|refine zz ?_|refine aH.ds (fun _=>?_) (fun _=>?_)|refine aH.ns (fun _=>?_) (fun _=>?_)|refine aH.mk (fun _=>?_) (fun _=>?_)|(intro r hr;cases r))<;>(conv=>whnf)))
   all_goals first
    |exact aE rfl ⟨false,rfl,fun h=>by cases h⟩
    |(refine hR (l.length - (i+1)) _ _ (by omega) ⟨_,_,?_,i+1,by omega,rfl,jF Ar he (by unfold Et;simp_all),rfl,rfl⟩;exact yN)
 · obtain rfl:i=l.length:=by omega
   rw [List.take_length] at Ar
   have eV:l.all Et=true:=List.all_eq_true.2 Ar
   ((conv=>whnf);repeat' ((first|refine zz ?_|refine aH.ds (fun _=>?_) (fun _=>?_)|refine aH.ns (fun _=>?_) (fun _=>?_)|refine aH.mk (fun _=>?_) (fun _=>?_)|(intro r hr;cases r))<;>(conv=>whnf)))
   all_goals exact aE rfl ⟨_,rfl,fun h=>by first|(cases h;done)|(unfold vB;rw [eV];simp at h ⊢;omega)⟩
end
end Go.Eng
