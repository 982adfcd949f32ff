/-
Whether nothing under a key was touched since: store.Store.holds.
-/
import Derived.Test.YtdjbjnnfmkoceaaGreatY12
import Derived.Test.YtdjbjnnfmkoceaaGreatY07
import Derived.Test.YtdjbjnnfmkoceaaGreatY10
import Derived.Test.YtdjbjnnfmkoceaaGreatY09
set_option linter.unusedVariables false
set_option linter.unusedSimpArgs false
set_option maxHeartbeats 8000000
namespace Go.Eng
open Go
def AP (s p:Ck):Bool:=decide (p.length<=s.length)&&(s.take p.length==p)
def tsQ (t:Ck×Int):V×V:=(.s t.1,.i .i64 t.2)
def Br (key:Ck) (rev:Int) (T:List (Ck×Int)):Bool:=T.all fun t=>!(decide (rev<t.2)&&AP t.1 key)
theorem RP {T:List (Ck×Int)} {L1 L2:List (V×V)} {x:V×V} (h:T.map tsQ=L1++x::L2):∃ T1 e T2,T=T1++e::T2/\L1=T1.map tsQ/\x=(.s e.1,.i .i64 e.2)/\L2=T2.map tsQ:=by
 obtain ⟨T1,r,rfl,h1,h2⟩:=List.map_eq_append_iff.1 h
 obtain ⟨e,T2,rfl,h3,h4⟩:=List.map_eq_cons_iff.1 h2
 exact ⟨T1,e,T2,rfl,h1.symm,h3.symm,h4.symm⟩
section
variable {P:Program} (hG:BL P AF.fns.get)
include hG
theorem hasq1_ok (s p:Ck) (hs:s.length<=9223372036854775807) (hp:p.length<=9223372036854775807):Pure P 405 [.s s,.s p] (·=.b (AP s p)):=by
 refine CN (hG _ AF.f405 rfl) rfl ?_
 unfold AP
 by_cases h:p.length<=s.length
 · rw [decide_eq_true h,Bool.true_and]
   have hd:((s.take ((p.length:Nat):Int).toNat).drop (Int.toNat 0))=s.take p.length:=by rw [Int.toNat_natCast];rfl
   (refine zr1 (show ((s.length:Nat):Int)>=((p.length:Nat):Int) by omega) ?_)
   exact rZ rfl rfl
 · rw [decide_eq_false h,Bool.false_and]
   (refine zr1 (show ¬((s.length:Nat):Int)>=((p.length:Nat):Int) by omega) ?_)
   exact rZ rfl rfl
theorem hasq_ok (s p:Ck) (hs:s.length<=9223372036854775807) (hp:p.length<=9223372036854775807):Pure P 379 [.s s,.s p] (·=.b (AP s p)):=by
 have h:=hasq1_ok hG s p hs hp
 refine CN (hG _ AF.f379 rfl) rfl ?_
 (refine zr1 @h ?_)
 exact rZ rfl rfl
variable (hH:QD P 317 AF.Wt=true)
include hH
theorem holdsU_at {h:aC} {a m0 m1 lg:Nat} {R rd wr:Int} (ha:h.get a=some (.cs [.i .i64 R,.m (.g m0),.m (.g m1),.p (.g lg) 0,.i .i64 rd,.i .i64 wr])) {T:List (Ck×Int)} (h1:h.get m1=some (.mp none (T.map tsQ))) (hT:∀ t∈T,t.1.length<=9223372036854775807) (key:Ck) (rev:Int) (hg:key.length<=9223372036854775807) {K:V->aC->Prop}
 (hK:K (.b (Br key rev T)) h):aE P 317 [.p (.g a) 0,.agg [.s key,.i .i64 rev,.b true]] h K:=by
 unfold Br at hK
 refine apU hH rfl ?_
 (refine zr2 @ha @h1 ?_)
 refine afT.by (fun left fr st=>∃ (Tl:List (Ck×Int)) (lo:aC),left=Tl.map tsQ/\(∀ t∈Tl,t∈T)/\(T.all fun t=>!(decide (rev<t.2)&&AP t.1 key))=(Tl.all fun t=>!(decide (rev<t.2)&&AP t.1 key))/\lo.get 0=some (.cs [.s key,.i .i64 rev,.b true])/\
  Fr.le [(25,.p (.l 1) 0),(3,.p (.l 0) 0)] fr/\st=⟨h.remove m1,lo⟩) ⟨T,_,rfl,(fun t ht=>ht),rfl,rfl,Uc,rfl⟩ ?_
 rintro left fr st ⟨Tl,lo,rfl,aqA,B7,g0,Jd,rfl⟩
 refine ⟨_,Jd,fun R hR=>⟨rfl,fun KE=>?_,fun L1 x L2 hx=>?_⟩⟩
 · have hT:Tl=[]:=List.map_eq_nil_iff.1 KE
   subst hT
   rw [B7] at hK
   refine ⟨⟨h,lo⟩,St.Gv h1,?_⟩
   (refine zr ?_)
   exact hK
 · obtain ⟨T1,e,T2,rfl,rfl,rfl,rfl⟩:=RP hx
   have hem:=aqA e (by simp)
   have hp:=hasq_ok hG e.1 key (hT e hem) hg
   have next:(decide (rev<e.2)&&AP e.1 key)=false->∀ bV bA,Fr.le [(25,.p (.l 1) 0),(3,.p (.l 0) 0)] bV->bA=⟨h.remove m1,lo⟩->R (T1.map tsQ++T2.map tsQ) bV bA:=fun hf bV bA hle CA=>
    hR _ _ _ (by simp) ⟨T1++T2,lo,by simp,(fun t ht=>aqA t (by simp at ht ⊢;rcases ht with h|h;exact .inl h;exact .inr (.inr h))),by rw [B7];simp only [List.all_append,List.all_cons,hf,Bool.not_false,Bool.true_and],g0,hle,CA⟩
   by_cases c1:e.2>rev
   · cases c2:AP e.1 key
     · rw [c2] at hp
       (refine zr3 @c1 @hp @g0 ?_)
       exact next (by rw [c2,Bool.and_false]) _ _ Uc rfl
     · rw [c2] at hp
       have hf:(T.all fun t=>!(decide (rev<t.2)&&AP t.1 key))=false:=by
        rw [List.all_eq_false]
        exact ⟨e,hem,by rw [c2,decide_eq_true (show rev<e.2 by omega)];decide⟩
       rw [hf] at hK
       (refine zr3 @c1 @hp @g0 ?_)
       refine ⟨⟨h,lo⟩,St.Gv h1,?_⟩
       (refine zr ?_)
       exact hK
   · (refine zr2 @c1 @g0 ?_)
     exact next (by rw [decide_eq_false (show ¬rev<e.2 by omega),Bool.false_and]) _ _ Uc rfl
end
end Go.Eng
