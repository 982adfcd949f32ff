/-
A state that is cut: what may be may be by the program too; nodes and pods rise.
-/
import Derived.Test.YtmfelikepmmjkaaGreatY40
import Derived.Test.YtmfelikepmmjkaaGreatY39
import Derived.Test.YtmfelikepmmjkaaGreatY46
set_option linter.unusedVariables false
set_option linter.unusedSimpArgs false
set_option maxHeartbeats 8000000
set_option maxRecDepth 20000
namespace Go.Eng
open Go
abbrev xV (l:List aO):Prop:=l.Pairwise fun a b=>cC a.name b.name
theorem qI {a b:aU} (h:cC a b):a≠b:=fun e=>by unfold cC at h;rw [e,kB] at h;cases h
theorem EF {t:Bool} {p:aO}:∀ {l:List aO},(∀ q∈l,q.name≠p.name)->mK t p true l=l
 |[],_=>rfl
 |e::r,h=>by
  have h1:(e.name==p.name)=false:=beq_false_of_ne (h e (.head _))
  rw [mK,h1,EF fun q hq=>h q (.tail _ hq)]
  simp
theorem M4 {t:Bool} {p e:aO}:∀ {A B:List aO},(∀ q∈A,q.name≠p.name)->(∀ q∈B,q.name≠p.name)->e.name=p.name->mK true p false (A++e::B)=A++p::B
 |[],B,_,hB,he=>by
  have h1:(e.name==p.name)=true:=by rw [he];simp
  rw [List.nil_append,mK,h1,EF hB];rfl
 |a::A,B,hA,hB,he=>by
  have h1:(a.name==p.name)=false:=beq_false_of_ne (hA a (.head _))
  rw [List.cons_append,mK,h1,M4 (t:=t) (fun q hq=>hA q (.tail _ hq)) hB he]
  simp
theorem M5 {p:aO}:∀ {l:List aO},xV l->(∀ q∈l,q.name≠p.name)->∃ A B,l=A++B/\mK false p false l=A++p::B/\(∀ q∈A,cC q.name p.name)/\∀ q∈B,cC p.name q.name
 |[],_,_=>⟨[],[],rfl,rfl,(fun q h=>by cases h),fun q h=>by cases h⟩
 |e::r,hr,hn=>by
  have h1:(e.name==p.name)=false:=beq_false_of_ne (hn e (.head _))
  have h2:=List.pairwise_cons.1 hr
  rw [mK,h1]
  cases hl:Op.bytesLess e.name p.name
  · have KM:=nA hl (hn e (.head _))
    refine ⟨[],e::r,rfl,?_,(fun q h=>by cases h),fun q hq=>?_⟩
    · rw [EF fun q hq=>hn q (.tail _ hq)];simp
    · cases hq with
      |head=>exact KM
      |tail _ hq=>exact jE KM (h2.1 q hq)
  · obtain ⟨A,B,q1,q2,q3,q4⟩:=M5 h2.2 fun q hq=>hn q (.tail _ hq)
    refine ⟨e::A,B,by rw [q1];rfl,?_,fun q hq=>?_,q4⟩
    · rw [q2];simp
    · cases hq with
      |head=>exact hl
      |tail _ hq=>exact q3 q hq
theorem JV {A B:List aO} {p:aO} (h:xV (A++B)) (hA:∀ q∈A,cC q.name p.name) (hB:∀ q∈B,cC p.name q.name):xV (A++p::B):=by
 obtain ⟨h1,h2,h3⟩:=List.pairwise_append.1 h
 refine List.pairwise_append.2 ⟨h1,List.pairwise_cons.2 ⟨hB,h2⟩,fun a ha b hb=>?_⟩
 cases hb with
 |head=>exact hA a ha
 |tail _ hb=>exact h3 a ha b hb
structure aaI (s:eG) (p:aO) (w:eG):Prop where
 nodes:w.nodes=s.nodes
 rO:xV w.aF
 mem:∀ q,q∈w.aF↔q=p\/(q∈s.aF/\q.name≠p.name)
 len:w.aF.length<=s.aF.length+1
theorem JW {s:eG} {p:aO} (h:xV s.aF):aaI s p (sU s p):=by
 unfold sU
 cases ha:s.aF.any fun q=>q.name==p.name
 · have hn:∀ q∈s.aF,q.name≠p.name:=fun q hq he=>by
    have:=List.any_eq_false.1 ha q hq
    simp [he] at this
   obtain ⟨A,B,q1,q2,q3,q4⟩:=M5 h hn
   rw [q2]
   refine ⟨rfl,JV (by rw [<-q1];exact h) q3 q4,fun q=>?_,?_⟩
   · show q∈A++p::B↔_
     rw [q1]
     simp only [List.mem_append,List.mem_cons]
     constructor
     · rintro (h|h|h)
       · exact .inr ⟨.inl h,hn q (by rw [q1];simp [h])⟩
       · exact .inl h
       · exact .inr ⟨.inr h,hn q (by rw [q1];simp [h])⟩
     · rintro (h|⟨h|h,_⟩)
       · exact .inr (.inl h)
       · exact .inl h
       · exact .inr (.inr h)
   · show (A++p::B).length<=_
     rw [q1];simp;omega
 · obtain ⟨e,he,wP⟩:=List.any_eq_true.1 ha
   have wP:e.name=p.name:=by simpa using wP
   obtain ⟨A,B,hl⟩:=List.append_of_mem he
   have h':=h
   rw [hl] at h'
   obtain ⟨h1,h2,h3⟩:=List.pairwise_append.1 h'
   have h4:=List.pairwise_cons.1 h2
   have hA:∀ q∈A,cC q.name p.name:=fun q hq=>wP▸h3 q hq e (.head _)
   have hB:∀ q∈B,cC p.name q.name:=fun q hq=>wP▸h4.1 q hq
   rw [hl,M4 (t:=true) (fun q hq=>qI (hA q hq)) (fun q hq=>(qI (hB q hq)).symm) wP]
   refine ⟨rfl,JV (List.pairwise_append.2 ⟨h1,h4.2,fun a ha b hb=>h3 a ha b (.tail _ hb)⟩) hA hB,fun q=>?_,?_⟩
   · show q∈A++p::B↔q=p\/(q∈s.aF/\_)
     rw [hl]
     simp only [List.mem_append,List.mem_cons]
     constructor
     · rintro (h|h|h)
       · exact .inr ⟨.inl h,qI (hA q h)⟩
       · exact .inl h
       · exact .inr ⟨.inr (.inr h),(qI (hB q h)).symm⟩
     · rintro (h|⟨h|h|h,dM⟩)
       · exact .inr (.inl h)
       · exact .inl h
       · exact absurd (h▸wP) dM
       · exact .inr (.inr h)
   · show (A++p::B).length<=s.aF.length+1
     rw [hl];simp
theorem iC {s:aU} (h:bK s=true):1<=s.length/\s.length<=12:=by
 unfold bK at h
 simp only [Bool.and_eq_true,decide_eq_true_eq] at h
 exact h.1
theorem T5:bK Jo=false:=by decide
theorem CS {n:cI} (h:HP n=true):n.labels.length<=6/\n.eW.length<=6/\n.name≠Jo/\1<=n.name.length/\Bd n.cap:=by
 unfold HP Bj qG at h
 simp only [Bool.and_eq_true,decide_eq_true_eq] at h
 obtain ⟨h1,⟨⟨h2,h3⟩,h4⟩,⟨_,h5⟩,_,h6⟩:=h
 exact ⟨h5,h6,(fun (e:n.name=Jo)=>by rw [e,T5] at h1;cases h1),(iC h1).1,⟨h2,h3,h4⟩⟩
theorem AA {p:aO} (h:j0 p=true):HF p:=by
 have tm:∀ {l:List cM},fI l=true->Ah l:=fun {l} h=>by
  unfold fI at h
  simp only [Bool.and_eq_true,decide_eq_true_eq,List.all_eq_true] at h
  refine ⟨h.1,fun t ht=>?_⟩
  have:=h.2 t ht
  unfold lM at this
  simp only [Bool.and_eq_true] at this
  have:=this.1.1
  split at this<;>simp only [Bool.and_eq_true,decide_eq_true_eq] at this<;>omega
 unfold j0 Au Bj qG vB at h
 simp only [Bool.and_eq_true,decide_eq_true_eq] at h
 obtain ⟨_,_,_,_,_,⟨⟨h2,h3⟩,h4⟩,⟨_,h5⟩,⟨_,h6⟩,h7,h8,⟨_,_,h9,EZ,_⟩,_⟩:=h
 exact ⟨h5,h6,tm h7,h8.1,tm h9,tm EZ,⟨h2,h3,h4⟩⟩
structure sY (s:eG) (ns:List cI):Prop where
 of:An s ns
 b:∀ n∈ns,HP n=true
theorem sY.nil {s:eG}:sY s []:=⟨⟨Nat.zero_le _,(fun n h=>by cases h),List.Pairwise.nil,List.Pairwise.nil⟩,fun n h=>by cases h⟩
theorem sY.ins {s:eG} {A B:List cI} {e:cI} (h:sY s (A++B)) (hl:(A++B).length<6) (hm:e∈s.nodes) (hb:HP e=true) (hn:∀ x∈A++B,(x.name==e.name)=false) (hA:∀ x∈A,cC x.name e.name) (hB:∀ x∈B,cC e.name x.name):sY s (A++[e]++B):=by
 refine ⟨h.of.ins hl ⟨hm,CS hb⟩ hn hA hB,fun n hm=>?_⟩
 simp only [List.append_assoc,List.mem_append,List.mem_singleton] at hm
 rcases hm with hm|hm|hm
 · exact h.b n (List.mem_append.2 (.inl hm))
 · rw [hm];exact hb
 · exact h.b n (List.mem_append.2 (.inr hm))
structure Fy (s w:eG):Prop where
 of:ZF s w
 nb:∀ n∈w.nodes,HP n=true
 pb:∀ p∈w.aF,j0 p=true
 rO:xV w.aF
theorem Fy.nil {s:eG} {ns:List cI} (h:sY s ns):Fy s ⟨ns,[]⟩:=⟨⟨h.of,Nat.zero_le _,(fun n h=>by cases h),(fun n h=>by cases h),List.Pairwise.nil⟩,h.b,(fun p h=>by cases h),List.Pairwise.nil⟩
theorem Fy.step {s w:eG} {e:aO} (h:Fy s w) (he:e∈s.aF) (hb:j0 e=true) (hl:w.aF.length<16):Fy s (sU w e):=by
 have x:=JW (p:=e) h.rO
 refine ⟨⟨by rw [x.nodes];exact h.of.nodes,by have:=x.len;omega,fun p hp=>?_,fun p hp=>?_,x.rO.imp qI⟩,by rw [x.nodes];exact h.nb,fun p hp=>?_,x.rO⟩
 · rcases (x.mem p).1 hp with rfl|⟨h1,_⟩
   · exact he
   · exact h.of.Ww p h1
 · rcases (x.mem p).1 hp with rfl|⟨h1,_⟩
   · exact AA hb
   · exact h.of.aeU p h1
 · rcases (x.mem p).1 hp with rfl|⟨h1,_⟩
   · exact hb
   · exact h.pb p h1
section
variable {P:Program} (hG:bN P AF.fns.get)
include hG
theorem cutX_ok (s:eG) (hn:bP s.nodes) (hp:bP s.aF) (nY:∀ n∈s.nodes,n.ok/\n.Af) (UC:∀ p∈s.aF,p.ok/\p.Af):Pure P 6 [lT s] (fun u=>∃ w,u=lT w/\Fy s w):=by
 have iO:(s.nodes.map aS).length=s.nodes.length:=List.length_map _
 have Yf:(s.aF.map aJ).length=s.aF.length:=List.length_map _
 unfold bP at hn hp
 refine aM (hG _ AF.f6 rfl) rfl ?_
 (refine zr ?_)
 refine bC.by (fun q fr st=>∃ (i:Nat) (ns:List cI),i<=s.nodes.length/\q=s.nodes.length - i/\sY s ns/\
  fr=[(4,.i .i64 i),(3,.p (.l 2) 0),(2,.p (.l 1) 0),(1,.p (.l 0) 0)]/\
  st=⟨gZ,⟨3,[(2,.cs [.sl none 6 (ns.map aS),.sl none 16 (List.map aJ [])]),(1,.cs [.aV,.aV]),(0,.cs [.sl none 6 (s.nodes.map aS),.sl none 16 (s.aF.map aJ)])]⟩⟩)
  s.nodes.length ⟨_,_,?_,0,[],Nat.zero_le _,rfl,sY.nil,rfl,rfl⟩ ?_
 · exact tL [0,1,2]
 rintro q fr st ⟨i,ns,hi,rfl,OS,rfl,rfl⟩ R hR
 have hnm:(ns.map aS).length=ns.length:=List.length_map _
 (refine zr ?_)
 refine aH.ds (fun cL=>?_) (fun fC=>?_)
 · (refine zr ?_)
   refine aH.ds (fun h6=>?_) (fun h6=>?_)
   · have cZ:i<s.nodes.length:=by omega
     have he:=List.getElem?_eq_getElem cZ
     have hm:=List.getElem_mem cZ
     generalize s.nodes[i]=e at he hm
     (refine cJ @he ?_)
     refine cY.mk (Pure.any (rnodeB_ok hG e (nY e hm).1 (nY e hm).2) rfl fun r hr=>?_)
     cases r
     · (refine zr ?_)
       refine hR (s.nodes.length - (i+1)) _ _ (by omega) ⟨_,_,?_,i+1,ns,by omega,rfl,OS,rfl,rfl⟩
       exact tL [0,1,2]
     · have Vf:=rgetnode_ok hG ⟨ns,[]⟩ e.name (by unfold bP;have:=OS.of.len;show ns.length<=_;omega)
       cases KC:(eG.nodes ⟨ns,[]⟩).find? (fun p=>p.name==e.name) with
       |some x=>
        rw [KC] at Vf
        (refine cJ @Vf ?_)
        refine hR (s.nodes.length - (i+1)) _ _ (by omega) ⟨_,_,?_,i+1,ns,by omega,rfl,OS,rfl,rfl⟩
        exact tL [0,1,2]
       |none=>
        rw [KC] at Vf
        have zB:∀ x∈ns,(x.name==e.name)=false:=fun x hx=>by simpa using List.find?_eq_none.1 KC x hx
        (refine cJ @Vf ?_)
        refine bC.by (fun q fr st=>∃ k:Nat,k<=ns.length/\q=ns.length - k/\(∀ x∈ns.take k,cC x.name e.name)/\
         fr=[(8,.i .i64 k),(5,.p (.l 3) 0),(4,.i .i64 i),(3,.p (.l 2) 0),(2,.p (.l 1) 0),(1,.p (.l 0) 0)]/\
         st=⟨gZ,⟨4,[(3,.cs (aS e)),(2,.cs [.sl none 6 (ns.map aS),.sl none 16 (List.map aJ [])]),(1,.cs [.aV,.aV]),(0,.cs [.sl none 6 (s.nodes.map aS),.sl none 16 (s.aF.map aJ)])]⟩⟩)
         ns.length ⟨_,_,?_,0,Nat.zero_le _,rfl,(fun x hx=>by cases hx),rfl,rfl⟩ ?_
        · exact tL [0,1,2,3]
        rintro q fr st ⟨k,hk,rfl,RK,rfl,rfl⟩ R2 Rm
        obtain ⟨A,hA⟩:∃ A,A=ns.take k:=⟨_,rfl⟩
        obtain ⟨B,hB⟩:∃ B,B=ns.drop k:=⟨_,rfl⟩
        have hAB:ns=A++B:=by rw [hA,hB,List.take_append_drop]
        have hT:((ns.map aS).take ((k:Nat):Int).toNat).drop (Int.toNat 0)=A.map aS:=by rw [Int.toNat_natCast,<-List.map_take,hA];rfl
        have hD:(ns.map aS).drop ((k:Nat):Int).toNat=B.map aS:=by rw [Int.toNat_natCast,<-List.map_drop,hB]
        have hl6:ns.length<6:=by omega
        have hAl:A.length<=6:=by rw [hA];exact Nat.le_trans (List.length_take_le _ _) (by omega)
        have hBl:B.length<=6:=by rw [hB,List.length_drop];omega
        have Ck:(∀ x∈ns.drop k,cC e.name x.name)->sY s (A++[e]++B):=fun PZ=>by
         rw [<-hB] at PZ
         rw [<-hA] at RK
         rw [hAB] at OS zB hl6
         exact OS.ins hl6 hm (hr rfl) zB RK PZ
        (refine zr ?_)
        refine aH.ds (fun NN=>?_) (fun Z4=>?_)
        · have hZ:k<ns.length:=by omega
          have hf:=List.getElem?_eq_getElem hZ
          generalize ns[k]=f at hf
          (refine cJ @hf ?_)
          refine aH.mk (fun hc=>?_) (fun hc=>?_)
          · (refine cJ @hf ?_)
            refine Rm (ns.length - (k+1)) _ _ (by omega) ⟨_,_,?_,k+1,by omega,rfl,jF RK hf hc,rfl,rfl⟩
            exact tL [0,1,2,3]
          · have Ck:=Ck (Oc OS.of.so hf (nA hc fun h=>by have:=zB f (List.mem_of_getElem? hf);simp [h] at this))
            cases A<;>cases B
            all_goals ((conv=>whnf);repeat ((first|refine ye (congrArg some hT) ?_|refine ye (congrArg some hD) ?_|refine aP.mk (congrArg (V.sl none 6) hD.symm) ?_|refine ye (fP (R:=aS) (fun _=>rfl) _) ?_|refine ye (congrArg some (List.map_append (f:=aS) (l₂:=[e])).symm) ?_|refine ye (congrArg some (List.map_append (f:=aS)).symm) ?_|refine aK.mk (by simp only [bR,List.length_map,List.length_append,List.length_cons,List.length_nil,decide_eq_true_eq] at*;omega) ?_|refine ye (aG (by omega) hf) ?_|refine zz ?_)<;>(conv=>whnf)))
            all_goals refine hR (s.nodes.length - (i+1)) _ _ (by omega) ⟨_,_,?_,i+1,_,by omega,rfl,Ck,rfl,rfl⟩
            all_goals (try rw [List.append_nil])
            all_goals exact tL [0,1,2]
        · have Ck:=Ck (by rw [List.drop_eq_nil_of_le (by omega)];intro x hx;cases hx)
          cases A<;>cases B
          all_goals ((conv=>whnf);repeat ((first|refine ye (congrArg some hT) ?_|refine ye (congrArg some hD) ?_|refine aP.mk (congrArg (V.sl none 6) hD.symm) ?_|refine ye (fP (R:=aS) (fun _=>rfl) _) ?_|refine ye (congrArg some (List.map_append (f:=aS) (l₂:=[e])).symm) ?_|refine ye (congrArg some (List.map_append (f:=aS)).symm) ?_|refine aK.mk (by simp only [bR,List.length_map,List.length_append,List.length_cons,List.length_nil,decide_eq_true_eq] at*;omega) ?_|refine zz ?_)<;>(conv=>whnf)))
          all_goals refine hR (s.nodes.length - (i+1)) _ _ (by omega) ⟨_,_,?_,i+1,_,by omega,rfl,Ck,rfl,rfl⟩
          all_goals (try rw [List.append_nil])
          all_goals exact tL [0,1,2]
   · (refine zr ?_)
     refine bC.by (fun q fr st=>∃ (i:Nat) (w:eG),i<=s.aF.length/\q=s.aF.length - i/\Fy s w/\
      fr=[(9,.i .i64 i),(3,.p (.l 2) 0),(2,.p (.l 1) 0),(1,.p (.l 0) 0)]/\
      st=⟨gZ,⟨3,[(2,.cs [.sl none 6 (w.nodes.map aS),.sl none 16 (w.aF.map aJ)]),(1,.cs [.aV,.aV]),(0,.cs [.sl none 6 (s.nodes.map aS),.sl none 16 (s.aF.map aJ)])]⟩⟩)
      s.aF.length ⟨_,_,?_,0,⟨ns,[]⟩,Nat.zero_le _,rfl,Fy.nil OS,rfl,rfl⟩ ?_
     · exact tL [0,1,2]
     clear hR OS
     rintro q fr st ⟨i,w,hi,rfl,hw,rfl,rfl⟩ R hR
     have hwm:(w.aF.map aJ).length=w.aF.length:=List.length_map _
     have Bf:=hw.of.Wv
     (refine zr ?_)
     refine aH.ds (fun cL=>?_) (fun fC=>?_)
     · (refine zr ?_)
       refine aH.ds (fun TK=>?_) (fun TK=>?_)
       · have cZ:i<s.aF.length:=by omega
         have he:=List.getElem?_eq_getElem cZ
         have hm:=List.getElem_mem cZ
         generalize s.aF[i]=e at he hm
         (refine cJ @he ?_)
         refine cY.mk (Pure.any (rpodB_ok hG e (UC e hm).1 (UC e hm).2) rfl fun r hr=>?_)
         cases r
         · (refine zr ?_)
           refine hR (s.aF.length - (i+1)) _ _ (by omega) ⟨_,_,?_,i+1,w,by omega,rfl,hw,rfl,rfl⟩
           exact tL [0,1,2]
         · (refine cJ @he ?_)
           refine cY.app (Pure.go (rwithX_ok hG w e (by omega)) rfl) ?_
           (refine zr ?_)
           refine hR (s.aF.length - (i+1)) _ _ (by omega) ⟨_,_,?_,i+1,sU w e,by omega,rfl,hw.step hm (hr rfl) (by omega),rfl,rfl⟩
           exact tL [0,1,2]
       · (refine zr ?_)
         exact aE rfl ⟨w,rfl,hw⟩
     · (refine zr ?_)
       exact aE rfl ⟨w,rfl,hw⟩
 · (refine zr ?_)
   refine bC.by (fun q fr st=>∃ (i:Nat) (w:eG),i<=s.aF.length/\q=s.aF.length - i/\Fy s w/\
    fr=[(9,.i .i64 i),(3,.p (.l 2) 0),(2,.p (.l 1) 0),(1,.p (.l 0) 0)]/\
    st=⟨gZ,⟨3,[(2,.cs [.sl none 6 (w.nodes.map aS),.sl none 16 (w.aF.map aJ)]),(1,.cs [.aV,.aV]),(0,.cs [.sl none 6 (s.nodes.map aS),.sl none 16 (s.aF.map aJ)])]⟩⟩)
    s.aF.length ⟨_,_,?_,0,⟨ns,[]⟩,Nat.zero_le _,rfl,Fy.nil OS,rfl,rfl⟩ ?_
   · exact tL [0,1,2]
   clear hR OS
   rintro q fr st ⟨i,w,hi,rfl,hw,rfl,rfl⟩ R hR
   have hwm:(w.aF.map aJ).length=w.aF.length:=List.length_map _
   have Bf:=hw.of.Wv
   (refine zr ?_)
   refine aH.ds (fun cL=>?_) (fun fC=>?_)
   · (refine zr ?_)
     refine aH.ds (fun TK=>?_) (fun TK=>?_)
     · have cZ:i<s.aF.length:=by omega
       have he:=List.getElem?_eq_getElem cZ
       have hm:=List.getElem_mem cZ
       generalize s.aF[i]=e at he hm
       (refine cJ @he ?_)
       refine cY.mk (Pure.any (rpodB_ok hG e (UC e hm).1 (UC e hm).2) rfl fun r hr=>?_)
       cases r
       · (refine zr ?_)
         refine hR (s.aF.length - (i+1)) _ _ (by omega) ⟨_,_,?_,i+1,w,by omega,rfl,hw,rfl,rfl⟩
         exact tL [0,1,2]
       · (refine cJ @he ?_)
         refine cY.app (Pure.go (rwithX_ok hG w e (by omega)) rfl) ?_
         (refine zr ?_)
         refine hR (s.aF.length - (i+1)) _ _ (by omega) ⟨_,_,?_,i+1,sU w e,by omega,rfl,hw.step hm (hr rfl) (by omega),rfl,rfl⟩
         exact tL [0,1,2]
     · (refine zr ?_)
       exact aE rfl ⟨w,rfl,hw⟩
   · (refine zr ?_)
     exact aE rfl ⟨w,rfl,hw⟩
end
end Go.Eng
