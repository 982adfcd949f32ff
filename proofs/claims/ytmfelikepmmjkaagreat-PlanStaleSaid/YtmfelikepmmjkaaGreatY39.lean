/-
Pods by their names, where names are unlike; how many go at most.
-/
import Derived.Test.YtmfelikepmmjkaaGreatY36
import Derived.Test.YtmfelikepmmjkaaGreatY32
import Derived.Test.YtmfelikepmmjkaaGreatY22
import Derived.Test.YtmfelikepmmjkaaGreatY34
import Derived.Test.YtmfelikepmmjkaaGreatY25
import Derived.Test.YtmfelikepmmjkaaGreatY35
import Derived.Test.YtmfelikepmmjkaaGreatY33
set_option linter.unusedVariables false
set_option linter.unusedSimpArgs false
namespace Go.Eng
open Go
theorem MJ {s:eG} {p:aO} {node:aU}:∀ {lo:List aO} {gone:List aU},(gO s p node lo gone).length<=gone.length
 |[],_=>Nat.le_refl _
 |q::r,gone=>by
  rw [gO]
  refine Nat.le_trans MJ ?_
  split
  · exact List.length_filter_le _ _
  · exact Nat.le_refl _
theorem Jx {s:eG} {p:aO} {node:aU} {l:List aU} (h:lI s p node=some l):l.length<=s.aF.length:=by
 unfold lI at h
 split at h
 · cases h
   have h1:(rL (gO s p node (lH s p node) ((lH s p node).map (·.name)))).length=_:=(List.mergeSort_perm _ _).length_eq
   have h2:=MJ (s:=s) (p:=p) (node:=node) (lo:=lH s p node) (gone:=(lH s p node).map (·.name))
   have h3:(lH s p node).length<=s.aF.length:=by
    unfold lH gW
    rw [sO]
    simp only [List.length_nil,Nat.zero_add]
    exact Nat.le_trans (List.length_filter_le _ _) (List.length_filter_le _ _)
   rw [List.length_map] at h2
   omega
 · cases h
open Go
structure An (s:eG) (ns:List cI):Prop where
 len:ns.length<=6
 sub:∀ n∈ns,n∈s.nodes/\n.labels.length<=6/\n.eW.length<=6/\n.name≠Jo/\1<=n.name.length/\Bd n.cap
 names:ns.Pairwise fun a b=>a.name≠b.name
 so:ns.Pairwise fun a b=>cC a.name b.name
structure ZF (s w:eG):Prop where
 nodes:An s w.nodes
 Wv:w.aF.length<=16
 Ww:∀ p∈w.aF,p∈s.aF
 aeU:∀ p∈w.aF,HF p
 akQ:w.aF.Pairwise fun a b=>a.name≠b.name
theorem Oc {l:List cI} {k:Nat} {f e:cI} (h:l.Pairwise fun a b=>cC a.name b.name) (hf:l[k]? =some f) (hef:cC e.name f.name):∀ x∈l.drop k,cC e.name x.name:=by
 intro x hx
 obtain ⟨j,hj⟩:=List.mem_iff_getElem?.1 hx
 rw [List.getElem?_drop] at hj
 cases j with
 |zero=>
  rw [Nat.add_zero,hf] at hj
  cases hj
  exact hef
 |succ j=>exact jE hef (Ag h (by omega) hf hj)
theorem An.ins {s:eG} {A B:List cI} {e:cI} (h:An s (A++B)) (hl:(A++B).length<6) (he:e∈s.nodes/\e.labels.length<=6/\e.eW.length<=6/\e.name≠Jo/\1<=e.name.length/\Bd e.cap) (hn:∀ x∈A++B,(x.name==e.name)=false) (hA:∀ x∈A,cC x.name e.name) (hB:∀ x∈B,cC e.name x.name):An s (A++[e]++B):=by
 refine ⟨by simp at hl ⊢;omega,fun n hm=>?_,?_,?_⟩
 · simp only [List.append_assoc,List.mem_append,List.mem_singleton] at hm
   rcases hm with hm|hm|hm
   · exact h.sub n (List.mem_append.2 (.inl hm))
   · rw [hm];exact he
   · exact h.sub n (List.mem_append.2 (.inr hm))
 · have hp:=h.names
   rw [List.pairwise_append] at hp
   have ne:∀ x∈A++B,x.name≠e.name:=fun x hx h=>by have:=hn x hx;simp [h] at this
   rw [List.append_assoc,List.pairwise_append]
   refine ⟨hp.1,?_,?_⟩
   · show List.Pairwise _ (e::B)
     rw [List.pairwise_cons]
     exact ⟨fun b hb=>(ne b (List.mem_append.2 (.inr hb))).symm,hp.2.1⟩
   · intro a ha b hb
     simp only [List.mem_append,List.mem_singleton] at hb
     rcases hb with hb|hb
     · rw [hb];exact ne a (List.mem_append.2 (.inl ha))
     · exact hp.2.2 a ha b hb
 · have hp:=h.so
   rw [List.pairwise_append] at hp
   rw [List.append_assoc,List.pairwise_append]
   refine ⟨hp.1,?_,?_⟩
   · show List.Pairwise _ (e::B)
     rw [List.pairwise_cons]
     exact ⟨hB,hp.2.1⟩
   · intro a ha b hb
     simp only [List.mem_append,List.mem_singleton] at hb
     rcases hb with hb|hb
     · rw [hb];exact hA a ha
     · exact hp.2.2 a ha b hb
theorem Pure.state {P:Program} {f:Nat} {args:List V} {φ:eG->Prop} (h0:Pure P f args (fun u=>∃ w,u=lT w/\φ w)) (ha:args.all V.pB=true) {h:aA} {K:V->aA->Prop} (hK:∀ w,φ w->K (lT w) h):aB P f args h K:=
 h0.use (DQ ha) fun _ _ ⟨w,hu,hw⟩=>hu▸hK w hw
open Go
def nP (p:aO) (x:aU):aO:={ p with node:=x,term:=1 }
end Go.Eng
