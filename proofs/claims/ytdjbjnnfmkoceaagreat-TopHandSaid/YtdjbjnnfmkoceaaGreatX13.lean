/-
Whether nothing under a key was touched since: store.Store.holds.
-/
import Derived.Test.YtdjbjnnfmkoceaaGreatX09
import Derived.Test.YtdjbjnnfmkoceaaGreatX10
set_option linter.unusedVariables false
set_option linter.unusedSimpArgs false
set_option maxHeartbeats 8000000
namespace Go.Eng
open Go
def sX (s p:wD):Bool:=decide (p.length<=s.length)&&(s.take p.length==p)
def Pz (t:wD×Int):V×V:=(.s t.1,.i .i64 t.2)
def uC (key:wD) (rev:Int) (T:List (wD×Int)):Bool:=T.all fun t=>!(decide (rev<t.2)&&sX t.1 key)
theorem H6 {T:List (wD×Int)} {L1 L2:List (V×V)} {x:V×V} (h:T.map Pz=L1++x::L2):∃ T1 e T2,T=T1++e::T2/\L1=T1.map Pz/\x=(.s e.1,.i .i64 e.2)/\L2=T2.map Pz:=by
 obtain ⟨T1,r,rfl,h1,h2⟩:=List.map_eq_append_iff.1 h
 obtain ⟨e,T2,rfl,h3,h4⟩:=List.map_eq_cons_iff.1 h2
 exact ⟨T1,e,T2,rfl,h1.symm,h3.symm,h4.symm⟩
section
variable {P:Program} (hG:yD P AF.fns.get)
include hG
theorem hasq1_ok (s p:wD) (hs:s.length<=9223372036854775807) (hp:p.length<=9223372036854775807):Pure P 405 [.s s,.s p] (·=.b (sX s p)):=by
 refine Ch (hG _ AF.f405 rfl) rfl ?_
 unfold sX
 by_cases h:p.length<=s.length
 · rw [decide_eq_true h,Bool.true_and]
   have hd:((s.take ((p.length:Nat):Int).toNat).drop (Int.toNat 0))=s.take p.length:=by rw [Int.toNat_natCast];rfl
   (refine Um (show ((s.length:Nat):Int)>=((p.length:Nat):Int) by omega) ?_)
   exact tZ rfl rfl
 · rw [decide_eq_false h,Bool.false_and]
   (refine Um (show ¬((s.length:Nat):Int)>=((p.length:Nat):Int) by omega) ?_)
   exact tZ rfl rfl
theorem hasq_ok (s p:wD) (hs:s.length<=9223372036854775807) (hp:p.length<=9223372036854775807):Pure P 379 [.s s,.s p] (·=.b (sX s p)):=by
 have h:=hasq1_ok hG s p hs hp
 refine Ch (hG _ AF.f379 rfl) rfl ?_
 (refine Um @h ?_)
 exact tZ rfl rfl
variable (hH:GY P 317 AF.Lk=true)
include hH
theorem holdsU_at {h:aA} {a m0 m1 lg:Nat} {R rd wr:Int} (ha:h.get a=some (.cs [.i .i64 R,.m (.g m0),.m (.g m1),.p (.g lg) 0,.i .i64 rd,.i .i64 wr])) {T:List (wD×Int)} (h1:h.get m1=some (.mp none (T.map Pz))) (hT:∀ t∈T,t.1.length<=9223372036854775807) (key:wD) (rev:Int) (hg:key.length<=9223372036854775807) {K:V->aA->Prop}
 (hK:K (.b (uC key rev T)) h):aB P 317 [.p (.g a) 0,.agg [.s key,.i .i64 rev,.b true]] h K:=by
 unfold uC at hK
 refine We hH rfl ?_
 (refine Yl @ha @h1 ?_)
 refine Px.by (fun left fr st=>∃ (Tl:List (wD×Int)) (lo:aA),left=Tl.map Pz/\(∀ t∈Tl,t∈T)/\(T.all fun t=>!(decide (rev<t.2)&&sX t.1 key))=(Tl.all fun t=>!(decide (rev<t.2)&&sX t.1 key))/\lo.get 0=some (.cs [.s key,.i .i64 rev,.b true])/\
  Fr.le [(25,.p (.l 1) 0),(3,.p (.l 0) 0)] fr/\st=⟨h.remove m1,lo⟩) ⟨T,_,rfl,(fun t ht=>ht),rfl,rfl,IT,rfl⟩ ?_
 rintro left fr st ⟨Tl,lo,rfl,Wf,vU,g0,Cj,rfl⟩
 refine ⟨_,Cj,fun R hR=>⟨rfl,fun C9=>?_,fun L1 x L2 hx=>?_⟩⟩
 · have hT:Tl=[]:=List.map_eq_nil_iff.1 C9
   subst hT
   rw [vU] at hK
   refine ⟨⟨h,lo⟩,St.Bl h1,?_⟩
   (refine zr ?_)
   exact hK
 · obtain ⟨T1,e,T2,rfl,rfl,rfl,rfl⟩:=H6 hx
   have T6:=Wf e (by simp)
   have hp:=hasq_ok hG e.1 key (hT e T6) hg
   have next:(decide (rev<e.2)&&sX e.1 key)=false->∀ bH aR,Fr.le [(25,.p (.l 1) 0),(3,.p (.l 0) 0)] bH->aR=⟨h.remove m1,lo⟩->R (T1.map Pz++T2.map Pz) bH aR:=fun hf bH aR hle wK=>
    hR _ _ _ (by simp) ⟨T1++T2,lo,by simp,(fun t ht=>Wf t (by simp at ht ⊢;rcases ht with h|h;exact .inl h;exact .inr (.inr h))),by rw [vU];simp only [List.all_append,List.all_cons,hf,Bool.not_false,Bool.true_and],g0,hle,wK⟩
   by_cases c1:e.2>rev
   · cases c2:sX e.1 key
     · rw [c2] at hp
       (refine W6 @c1 @hp @g0 ?_)
       exact next (by rw [c2,Bool.and_false]) _ _ IT rfl
     · rw [c2] at hp
       have hf:(T.all fun t=>!(decide (rev<t.2)&&sX t.1 key))=false:=by
        rw [List.all_eq_false]
        exact ⟨e,T6,by rw [c2,decide_eq_true (show rev<e.2 by omega)];decide⟩
       rw [hf] at hK
       (refine W6 @c1 @hp @g0 ?_)
       refine ⟨⟨h,lo⟩,St.Bl h1,?_⟩
       (refine zr ?_)
       exact hK
   · (refine Yl @c1 @g0 ?_)
     exact next (by rw [decide_eq_false (show ¬rev<e.2 by omega),Bool.false_and]) _ _ IT rfl
end
end Go.Eng
