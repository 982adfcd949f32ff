/-
Who has to go, in plain lists.
-/
import Derived.Test.YtmfelikepmmjkaaGreatY35
import Derived.Test.YtmfelikepmmjkaaGreatY26
import Derived.Test.YtmfelikepmmjkaaGreatY21
import Derived.Test.YtmfelikepmmjkaaGreatY25
import Derived.Test.YtmfelikepmmjkaaGreatY32
set_option linter.unusedVariables false
set_option linter.unusedSimpArgs false
set_option maxHeartbeats 4000000
set_option maxRecDepth 10000
namespace Go.Eng
open Go
theorem Fo {s:eG} {l q:List aU} (h:∀ x,x∈l↔x∈q):cH s l=cH s q:=by
 unfold cH
 congr 1
 refine List.filter_congr fun a _=>?_
 congr 1
 rw [Bool.eq_iff_iff,List.any_eq_true,List.any_eq_true]
 exact ⟨fun ⟨x,h1,h2⟩=>⟨x,(h x).1 h1,h2⟩,fun ⟨x,h1,h2⟩=>⟨x,(h x).2 h1,h2⟩⟩
theorem Jv (s:eG):cH s []=s:=by
 have:s.aF.filter (fun q=>!(([]:List aU).any fun g=>q.name==g))=s.aF:=List.filter_eq_self.2 fun q _=>rfl
 unfold cH
 rw [this]
def Q8 (a b:aO):Int:=if Be b.prio a.prio=0 then mF a.name b.name else Be b.prio a.prio
def lH (s:eG) (p:aO) (node:aU):List aO:=gW (fun a b=>decide (Q8 a b<0)) ((HC s node).filter fun q=>!decide (p.prio<=q.prio))
def D9 (gone:List aU) (q:aO):List aU:=gone.filter fun n=>!(n==q.name)
def gO (s:eG) (p:aO) (node:aU):List aO->List aU->List aU
 |[],gone=>gone
 |q::r,gone=>gO s p node r (if hY (cH s (D9 gone q)) p node then D9 gone q else gone)
def rL (l:List aU):List aU:=l.mergeSort fun x y=>!decide (mF y x<0)
def lI (s:eG) (p:aO) (node:aU):Option (List aU):=
 if hY (cH s ((lH s p node).map (·.name))) p node then some (rL (gO s p node (lH s p node) ((lH s p node).map (·.name)))) else none
theorem F5 {l:List aU} {x:aU}:x∈rL l↔x∈l:=(List.mergeSort_perm l _).mem_iff
theorem N5 {s:eG} {p q:aO} {node:aU}:q∈lH s p node↔(q∈s.aF/\q.node=node/\node≠[]/\q.prio<p.prio):=by
 unfold lH
 rw [(BM _).mem_iff,List.mem_filter,HC,List.mem_filter]
 simp only [Bool.and_eq_true,beq_iff_eq,Bool.not_eq_true',decide_eq_false_iff_not,Int.not_le,beq_eq_false_iff_ne]
 exact ⟨fun ⟨⟨a,b,c⟩,d⟩=>⟨a,b,c,d⟩,fun ⟨a,b,c,d⟩=>⟨⟨a,b,c⟩,d⟩⟩
theorem F6 {s:eG} {p:aO} {node:aU}:∀ {lo:List aO} {gone:List aU},hY (cH s gone) p node=true->hY (cH s (gO s p node lo gone)) p node=true
 |[],_,h=>h
 |q::r,gone,h=>by
  rw [gO]
  refine F6 ?_
  split
  · rename_i h1;exact h1
  · exact h
theorem Jw {s:eG} {p:aO} {node:aU}:∀ {lo:List aO} {gone:List aU} {x:aU},x∈gO s p node lo gone->x∈gone
 |[],_,_,h=>h
 |q::r,gone,x,h=>by
  rw [gO] at h
  have:=Jw h
  split at this
  · exact (List.mem_filter.1 this).1
  · exact this
theorem N6 {s:eG} {p:aO} {node:aU} {l:List aU} (h:lI s p node=some l):hY (cH s l) p node=true/\∀ x∈l,∃ q∈s.aF,q.name=x/\q.node=node/\q.prio<p.prio:=by
 unfold lI at h
 split at h
 · rename_i hf
   cases h
   refine ⟨?_,fun x hx=>?_⟩
   · rw [Fo (fun x=>F5)]
     exact F6 hf
   · have:=Jw (F5.1 hx)
     obtain ⟨q,hq,rfl⟩:=List.mem_map.1 this
     obtain ⟨a,b,_,d⟩:=N5.1 hq
     exact ⟨q,a,rfl,b,d⟩
 · cases h
open Go
theorem Zw (gs ls:List Nat) {n m:Nat} {uN uO:List (Nat×Obj)} {fr bZ:Fr} {st:St} (hn:gs.length=n:=by rfl) (hm:ls.length=m:=by rfl) (hd:gs.Nodup:=by decide) (he:ls.Nodup:=by decide) (hN:∀ i,i<1->gs.getD i 0=i:=by exact fun i hi=>match i,hi with|0,_=>rfl) (Zn:1<=n:=by decide)
 (hg:wU ⟨fun i=>gs.getD i 0,fun i=>ls.getD i 0⟩ gA .g (fun i=>gs.getD i 0) n ⟨n,0⟩ st.g uN:=by ((repeat (first|exact trivial|refine ⟨⟨Nat.le_of_ble_eq_true rfl,rfl,_,rfl,by first|exact trivial|exact ⟨rfl,trivial⟩|exact fO rfl|exact ⟨rfl,lF (fun _=>rfl) _⟩|exact ⟨rfl,fO rfl,trivial⟩|exact ⟨rfl,Ac _⟩|exact ⟨rfl,uR (by assumption)⟩|exact (by ((repeat (first|exact trivial|refine ⟨by first|exact iM rfl|exact .nil|exact .tok|exact .A6 rfl (Nat.le_of_ble_eq_true rfl)|exact .rows (by ((repeat (first|exact .nil|refine .cons (by ((repeat (first|exact .nil|refine .cons (by first|exact .refl _|exact .nil _) ?_));first|done|fail)) ?_));first|done|fail)),?_⟩));first|done|fail))⟩,?_⟩));first|done|fail)) (hl:wU ⟨fun i=>gs.getD i 0,fun i=>ls.getD i 0⟩ gA .l (fun i=>ls.getD i 0) m ⟨n,m⟩ st.l uO:=by ((repeat (first|exact trivial|refine ⟨⟨Nat.le_of_ble_eq_true rfl,rfl,_,rfl,by first|exact trivial|exact ⟨rfl,trivial⟩|exact fO rfl|exact ⟨rfl,lF (fun _=>rfl) _⟩|exact ⟨rfl,fO rfl,trivial⟩|exact ⟨rfl,Ac _⟩|exact ⟨rfl,uR (by assumption)⟩|exact (by ((repeat (first|exact trivial|refine ⟨by first|exact iM rfl|exact .nil|exact .tok|exact .A6 rfl (Nat.le_of_ble_eq_true rfl)|exact .rows (by ((repeat (first|exact .nil|refine .cons (by ((repeat (first|exact .nil|refine .cons (by first|exact .refl _|exact .nil _) ?_));first|done|fail)) ?_));first|done|fail)),?_⟩));first|done|fail))⟩,?_⟩));first|done|fail))
 (hf:BJ ⟨fun i=>gs.getD i 0,fun i=>ls.getD i 0⟩ ⟨n,m⟩ gA bZ fr:=by ((repeat (first|exact BJ.nil|refine BJ.cons (by first|exact uM rfl|exact QM rfl (Nat.le_of_ble_eq_true rfl)|exact QN rfl (Nat.le_of_ble_eq_true rfl)|exact Zs rfl (Nat.le_of_ble_eq_true rfl)|exact Hx rfl (Nat.le_of_ble_eq_true rfl)|exact rH|exact Aa|exact .inl (.inl (.rows (by ((repeat (first|exact .nil|refine .cons (by ((repeat (first|exact .nil|refine .cons (by first|exact .refl _|exact .nil _) ?_));first|done|fail)) ?_));first|done|fail))))|exact .inl (.inr (.inl ⟨_,_,rfl,rfl,(by ((repeat (first|exact trivial|refine ⟨by first|exact iM rfl|exact .nil|exact .tok|exact .A6 rfl (Nat.le_of_ble_eq_true rfl)|exact .rows (by ((repeat (first|exact .nil|refine .cons (by ((repeat (first|exact .nil|refine .cons (by first|exact .refl _|exact .nil _) ?_));first|done|fail)) ?_));first|done|fail)),?_⟩));first|done|fail))⟩))) ?_));first|done|fail)):yK 1 fr st bZ ⟨⟨n,uN⟩,⟨m,uO⟩⟩:=Wg 1 gs ls hn hm hd he hN Zn hg hl hf
theorem N7 {h':aA} {es ds:List (List V)} {gs:List aU} {ns:List (List V)} {n:Nat} (h0:h'.get 0=some (.arr 1 (gs.map bG))) (h1:h'.get 1=some (.arr 16 es)) (hd:dR es=some ds) (hn:0+n<=ds.length):
 yK 1 [(0,.agg [.sl none 6 ns,.ms (.g 1) 16 0 n])] (dG h') [(0,.agg [.sl none 6 ns,.sl none 16 ((ds.drop 0).take n)])] ⟨⟨1,[(0,.arr 1 (gs.map bG))]⟩,⟨0,[]⟩⟩:=
 Ln.of (ρ:=gV) (F:=Sq 1 16 ds) (Hy h1 hd) ⟨⟨Nat.zero_lt_one,rfl,_,h0,⟨rfl,lF (fun _=>rfl) _⟩⟩,trivial⟩ trivial (fun i hi j hj _=>by
  have a:i<1:=hi
  have b:j<1:=hj
  omega) (fun i hi=>absurd hi (Nat.not_lt_zero _)) (BJ.cons (.inl (.inr (.inl ⟨_,_,rfl,rfl,⟨iM rfl,.XI (by simp [Sq]) hn rfl,trivial⟩⟩))) BJ.nil) (fun i hi=>rfl) (Nat.le_refl _)
theorem N8 {h':aA} {gs:List aU} {ns:List (List V)} (h0:h'.get 0=some (.arr 1 (gs.map bG))):
 yK 1 [(0,.agg [.sl none 6 ns,.aV])] (dG h') [(0,.agg [.sl none 6 ns,.sl none 16 []])] ⟨⟨1,[(0,.arr 1 (gs.map bG))]⟩,⟨0,[]⟩⟩:=
 Ln.of (ρ:=gV) (F:=gA) lD ⟨⟨Nat.zero_lt_one,rfl,_,h0,⟨rfl,lF (fun _=>rfl) _⟩⟩,trivial⟩ trivial (fun i hi j hj _=>by
  have a:i<1:=hi
  have b:j<1:=hj
  omega) (fun i hi=>absurd hi (Nat.not_lt_zero _)) (BJ.cons (.inl (.inr (.inl ⟨_,_,rfl,rfl,⟨iM rfl,.nil,trivial⟩⟩))) BJ.nil) (fun i hi=>rfl) (Nat.le_refl _)
def Zx (b:Bool) (n:Nat):V:=
 match b with
 |true=>.ms (.g 1) 16 0 n
 |false=>.aV
def Zy (b:Bool) (gs:List aU) (es:List aO):aA:=
 match b with
 |true=>⟨2,[(1,.arr 16 (es.map aJ)),(0,.arr 1 (gs.map bG))]⟩
 |false=>⟨1,[(0,.arr 1 (gs.map bG))]⟩
section
variable {P:Program} (hG:bN P AF.fns.get)
include hG
theorem Q9 (l:List aU) (x:aU) (hl:l.length<=9223372036854775807) {k:Nat} {h:aA} (hk:h.get k=some (.arr 1 (l.map bG))) {K:V->aA->Prop} (hK:K (.i .i64 (gB (fun e=>x==e) l)) h):aB P 245 [.ms (.g k) 1 0 l.length,.s x] h K:=by
 have iO:(l.map bG).length=l.length:=List.length_map _
 refine aN (hG _ AF.f245 rfl) rfl ?_
 ((conv=>whnf);repeat ((first|refine aH.ff rfl ?_|refine aH.tt rfl ?_|refine aZ.of rfl ?_|refine aK.mk rfl ?_|refine aP.mk rfl ?_|refine cD.of rfl ?_)<;>(conv=>whnf)))
 refine bV.by (fun q fr st=>∃ i:Nat,i<=l.length/\q=l.length - i/\cS (fun e=>x==e) l i/\Fr.le [(8,.i .i64 i),(7,.i .i64 l.length),(1,.s x),(0,.ms (.g k) 1 0 l.length)] fr/\st=dG h)
  l.length ⟨0,Nat.zero_le _,rfl,cS.zero,dK,rfl⟩ ?_
 rintro q fr st ⟨i,hi,rfl,dZ,hle,rfl⟩
 refine ⟨_,hle,fun R hR=>?_⟩
 ((conv=>whnf);repeat ((first|refine aH.ff rfl ?_|refine aH.tt rfl ?_|refine aZ.of rfl ?_|refine aK.mk rfl ?_|refine aP.mk rfl ?_|refine cD.of rfl ?_)<;>(conv=>whnf)))
 refine aH.ds (fun cL=>?_) (fun fC=>?_)
 · have cZ:i<l.length:=by omega
   have he:=List.getElem?_eq_getElem cZ
   generalize l[i]=e at he
   ((conv=>whnf);repeat ((first|refine aK.ix (by omega) (by omega) ?_|refine aH.ff rfl ?_|refine aH.tt rfl ?_|refine aZ.of rfl ?_|refine aK.mk rfl ?_|refine aP.mk rfl ?_|refine cD.of (hk) ?_|refine cD.of (aG (by simp) he) ?_|refine cD.of rfl ?_)<;>(conv=>whnf)))
   refine aH.mk (fun hp=>?_) (fun hp=>?_)
   · ((conv=>whnf);repeat ((first|refine aH.ff rfl ?_|refine aH.tt rfl ?_|refine aZ.of rfl ?_|refine aK.mk rfl ?_|refine aP.mk rfl ?_|refine cD.of rfl ?_)<;>(conv=>whnf)))
     rw [cX he hp dZ] at hK
     exact hK
   · ((conv=>whnf);repeat ((first|refine aQ.gS (by omega) (by omega) ?_|refine aH.ff rfl ?_|refine aH.tt rfl ?_|refine aZ.of rfl ?_|refine aK.mk rfl ?_|refine aP.mk rfl ?_|refine cD.of rfl ?_)<;>(conv=>whnf)))
     exact hR (l.length - (i+1)) _ _ (by omega) ⟨i+1,by omega,rfl,dZ.succ he hp,dK,rfl⟩
 · ((conv=>whnf);repeat ((first|refine aH.ff rfl ?_|refine aH.tt rfl ?_|refine aZ.of rfl ?_|refine aK.mk rfl ?_|refine aP.mk rfl ?_|refine cD.of rfl ?_)<;>(conv=>whnf)))
   rw [dF fun j x hx=>dZ j x (by have:=(List.getElem?_eq_some_iff.1 hx).1;omega) hx] at hK
   exact hK
theorem Ra (l:List aU) (x:aU) (hl:l.length<=9223372036854775807) {k:Nat} {h:aA} (hk:h.get k=some (.arr 1 (l.map bG))) {K:V->aA->Prop} (hK:K (.b (l.any fun e=>x==e)) h):aB P 154 [.ms (.g k) 1 0 l.length,.s x] h K:=by
 refine aN (hG _ AF.f154 rfl) rfl ?_
 ((conv=>whnf);repeat ((first|refine cY.app (Q9 hG l x hl hk) ?_|refine aH.ff rfl ?_|refine aH.tt rfl ?_|refine aZ.of rfl ?_|refine aK.mk rfl ?_|refine aP.mk rfl ?_|refine cD.of rfl ?_)<;>(conv=>whnf)))
 rw [<-jQ] at hK
 exact hK
theorem Fp (s:eG) (gs:List aU) (HZ:gs.length<=1000) (h6:s.nodes.length<=1000) (hs:s.ok) (y5:Small s) (hr:∀ q∈s.aF,iP q):
 aB P 77 [lT s,.ms (.g 0) 1 0 gs.length] (A8 1 (gs.map bG)) (Ba 1 fun u es=>u=lT (cH s gs)/\es=gs.map bG):=by
 have iO:(s.aF.map aJ).length=s.aF.length:=List.length_map _
 have hl:=hs.aF
 have Iv:=hs.some
 unfold bP at hl
 have hn:=nodes_ok hG s h6 y5
 obtain ⟨f,hf⟩:∃ f:aO->Bool,f=fun q=>!(gs.any fun g=>q.name==g):=⟨_,rfl⟩
 refine Zm (hG _ AF.f77 rfl) rfl ?_
 (refine cJ @hn ?_)
 refine bC.by (fun q fr st=>∃ (i:Nat) (b:Bool) (es:List aO) (n:Nat),i<=s.aF.length/\q=s.aF.length - i/\es=(s.aF.take i).filter f/\(b=false->es=[])/\n=es.length/\
  fr=[(14,.i .i64 i),(13,.i .i64 (s.aF.map aJ).length),(12,.sl none 16 (s.aF.map aJ)),(5,.p (.l 1) 0),(4,.p (.l 0) 0),(1,.ms (.g 0) 1 0 gs.length)]/\
  st=⟨Zy b gs es,⟨2,[(1,.cs [.sl none 6 (s.nodes.map aS),Zx b n]),(0,.cs [.aV,.aV])]⟩⟩)
  s.aF.length ⟨_,_,?_,0,false,[],0,Nat.zero_le _,rfl,rfl,fun _=>rfl,rfl,rfl,rfl⟩ ?_
 · exact Zw [0] [1,2]
 rintro q fr st ⟨i,b,es,n,hi,rfl,nR,hb,hn,rfl,rfl⟩ R hR
 have DW:es.length<=i:=by
  rw [nR]
  exact Nat.le_trans (List.length_filter_le _ _) (List.length_take_le _ _)
 have BA:(es.map aJ).length=es.length:=List.length_map _
 (conv=>whnf)
 refine aH.ds (fun cL=>?_) (fun fC=>?_)
 · have cZ:i<s.aF.length:=by omega
   have he:=List.getElem?_eq_getElem cZ
   have QZ:=hr _ (List.getElem_mem cZ)
   generalize s.aF[i]=e at he QZ
   have hc:=copyPod_ok hG e QZ
   have pR:f e=!(gs.any fun g=>e.name==g):=by rw [hf]
   have h1:f e=true->es++[e]=(s.aF.take (i+1)).filter f:=fun h=>by
    rw [cG he,List.filter_append,<-nR]
    simp [h]
   have h0:f e=false->es=(s.aF.take (i+1)).filter f:=fun h=>by
    rw [cG he,List.filter_append,<-nR]
    simp [h]
   rw [pR] at h1 h0
   have Q0:∀ (h:aA) (K:V->aA->Prop),h.get 0=some (.arr 1 (gs.map bG))->K (.b (gs.any fun g=>e.name==g)) h->aB P 154 [.ms (.g 0) 1 0 gs.length,.s e.name] h K:=fun h K hh hK=>Ra hG gs e.name (by omega) hh hK
   generalize (gs.any fun g=>e.name==g)=a at Q0 h1 h0
   cases a<;>cases b
   · obtain rfl:es=[]:=hb rfl
     (refine pU (Q0 _ _ rfl) @hc @he ?_)
     refine hR (s.aF.length - (i+1)) _ _ (by omega) ⟨_,_,?_,i+1,true,[]++[e],1,by omega,rfl,h1 rfl,(fun h=>by cases h),rfl,rfl,rfl⟩
     exact Zw [0,2] [0,1]
   · (refine zx3 (Q0 _ _ rfl) @hc @he ?_)
     refine hR (s.aF.length - (i+1)) _ _ (by omega) ⟨_,_,?_,i+1,true,es++[e],n+1,by omega,rfl,h1 rfl,(fun h=>by cases h),by simp [hn],rfl,rfl⟩
     exact Zw [0,3] [0,1]
   · obtain rfl:es=[]:=hb rfl
     (refine iU (Q0 _ _ rfl) @he ?_)
     refine hR (s.aF.length - (i+1)) _ _ (by omega) ⟨_,_,?_,i+1,false,[],0,by omega,rfl,h0 rfl,(fun _=>rfl),rfl,rfl,rfl⟩
     exact Zw [0] [0,1]
   · (refine iU (Q0 _ _ rfl) @he ?_)
     refine hR (s.aF.length - (i+1)) _ _ (by omega) ⟨_,_,?_,i+1,true,es,n,by omega,rfl,h0 rfl,(fun h=>by cases h),hn,rfl,rfl⟩
     exact Zw [0,1] [0,1]
 · have eV:es=(cH s gs).aF:=by
    rw [nR,List.take_of_length_le (by omega),hf]
    rfl
   have vO:lT (cH s gs)=.agg [.sl none 6 (s.nodes.map aS),.sl none 16 (((cH s gs).aF.map aJ))]:=rfl
   rw [<-eV] at vO
   cases b
   · obtain rfl:es=[]:=hb rfl
     (refine zr ?_)
     exact Ba.of (u:=.agg [.sl none 6 (s.nodes.map aS),.sl none 16 []]) (es:=gs.map bG) (N8 rfl) rfl (fun e he=>by obtain ⟨q,_,rfl⟩:=List.mem_map.1 he;rfl) ⟨vO.symm,rfl⟩
   · (refine zr ?_)
     refine Ba.of (u:=.agg [.sl none 6 (s.nodes.map aS),.sl none 16 (((es.map aJ).drop 0).take n)]) (es:=gs.map bG) (N7 rfl rfl (fP (fun _=>rfl) es) (by omega)) rfl (fun e he=>by obtain ⟨q,_,rfl⟩:=List.mem_map.1 he;rfl) ⟨?_,rfl⟩
     rw [vO,List.drop_zero,List.take_of_length_le (by omega)]
theorem HG (s:eG) (gs:List aU) (HZ:gs.length<=1000) (h6:s.nodes.length<=1000) (hs:s.ok) (y5:Small s) (hr:∀ q∈s.aF,iP q) {k:Nat} {h:aA} (hk:h.get k=some (.arr 1 (gs.map bG))) {K:V->aA->Prop} (hK:K (lT (cH s gs)) h):
 aB P 77 [lT s,.ms (.g k) 1 0 gs.length] h K:=by
 refine aB.aeH (args:=[lT s,.ms (.g 0) 1 0 gs.length]) (Fp hG s gs HZ h6 hs y5 hr) rfl (fun e he=>by obtain ⟨q,_,rfl⟩:=List.mem_map.1 he;rfl) hk fun u es ⟨hu,nR⟩=>?_
 subst hu;subst nR
 rw [gF hk]
 exact hK
end
open Go
section plain
variable {α:Type}
theorem Rb {l:List α} {i:Nat} {x:α} (h:i<l.length):(l.set i x).take (i+1)=l.take i++[x]:=by
 rw [cG (x:=x) (by rw [List.getElem?_set_self h])]
 congr 1
 apply List.ext_getElem?
 intro t
 by_cases ht:t<i
 · rw [List.getElem?_take,List.getElem?_take,if_pos ht,if_pos ht,List.getElem?_set_ne (by omega)]
 · rw [List.getElem?_take,List.getElem?_take,if_neg ht,if_neg ht]
structure nL (eK:α->Bool) (l row:List α) (i j:Nat):Prop where
 len:row.length=l.length
 pre:row.take i=(l.take j).filter eK
 cnt:i=((l.take j).filter eK).length
 rest:∀ t,j<=t->row[t]? =l[t]?
 lt:i<j
 le:j<=l.length
theorem nL.start {eK:α->Bool} {l:List α} {i:Nat} {x:α} (hx:l[i]? =some x) (hk:eK x=false) (h:∀ (j:Nat) (y:α),j<i->l[j]? =some y->eK y=true):nL eK l l i (i+1):=by
 have hi:=(List.getElem?_eq_some_iff.1 hx).1
 have h1:(l.take (i+1)).filter eK=l.take i:=by
  rw [cG hx,List.filter_append]
  have:(l.take i).filter eK=l.take i:=List.filter_eq_self.2 fun y hy=>by
   obtain ⟨j,hj⟩:=List.mem_iff_getElem?.1 hy
   have xF:j<i:=by have:=(List.getElem?_eq_some_iff.1 hj).1;rw [List.length_take] at this;omega
   rw [List.getElem?_take,if_pos xF] at hj
   exact h j y xF hj
  rw [this]
  simp [hk]
 refine ⟨rfl,by rw [h1],by rw [h1,List.length_take];omega,fun t _=>rfl,by omega,hi⟩
theorem nL.skip {eK:α->Bool} {l row:List α} {i j:Nat} {x:α} (h:nL eK l row i j) (hx:l[j]? =some x) (hk:eK x=false):nL eK l row i (j+1):=by
 have h1:(l.take (j+1)).filter eK=(l.take j).filter eK:=by
  rw [cG hx,List.filter_append];simp [hk]
 have hj:=(List.getElem?_eq_some_iff.1 hx).1
 exact ⟨h.len,by rw [h1];exact h.pre,by rw [h1];exact h.cnt,fun t ht=>h.rest t (by omega),by have:=h.lt;omega,hj⟩
theorem nL.eK {eK:α->Bool} {l row:List α} {i j:Nat} {x:α} (h:nL eK l row i j) (hx:l[j]? =some x) (hk:eK x=true):nL eK l (row.set i x) (i+1) (j+1):=by
 have h1:(l.take (j+1)).filter eK=(l.take j).filter eK++[x]:=by
  rw [cG hx,List.filter_append];simp [hk]
 have hj:=(List.getElem?_eq_some_iff.1 hx).1
 have cL:=h.lt
 have hi:i<row.length:=by rw [h.len];omega
 refine ⟨by rw [List.length_set];exact h.len,by rw [h1,Rb hi,h.pre],by rw [h1,List.length_append,<-h.cnt];rfl,fun t ht=>by rw [List.getElem?_set_ne (by omega)];exact h.rest t (by omega),by omega,hj⟩
theorem nL.end {eK:α->Bool} {l row:List α} {i j:Nat} (h:nL eK l row i j) (hj:l.length<=j):i=(l.filter eK).length/\row.take i=l.filter eK:=by
 have:l.take j=l:=List.take_of_length_le hj
 exact ⟨by have:=h.cnt;rwa [‹l.take j=l›] at this,by have:=h.pre;rwa [‹l.take j=l›] at this⟩
end plain
theorem TA {P:Program} {f:Nat} (hk:gE P f (iN 1 none)=true) {l:List aU} {g:Nat} {k r:Nat} {h:aA} {p:aU->Bool} (hl:l.length<=9223372036854775807) (hr:h.get r=some (.arr 1 (l.map bG)))
 (hg:∀ e∈l,∀ K:V->aA->Prop,K (.b (p e)) h->aB P g [.s e,.p (.g k) 0] h K) {K:V->aA->Prop} (hK:K (.i .i64 (gB p l)) h):aB P f [.ms (.g r) 1 0 l.length,.fn g [] [.p (.g k) 0]] h K:=by
 have iO:(l.map bG).length=l.length:=List.length_map _
 refine aN hk rfl ?_
 ((conv=>whnf);repeat ((first|refine aH.ff rfl ?_|refine aH.tt rfl ?_|refine aZ.of rfl ?_|refine aK.mk rfl ?_|refine aP.mk rfl ?_|refine cD.of rfl ?_)<;>(conv=>whnf)))
 refine bV.by (fun q fr st=>∃ i:Nat,i<=l.length/\q=l.length - i/\(∀ (j:Nat) (e:aU),j<i->l[j]? =some e->p e=false)/\Fr.le [(8,.i .i64 i),(7,.i .i64 l.length),(1,.fn g [] [.p (.g k) 0]),(0,.ms (.g r) 1 0 l.length)] fr/\st=dG h)
  l.length ⟨0,Nat.zero_le _,rfl,fun j e hj=>absurd hj (Nat.not_lt_zero _),dK,rfl⟩ ?_
 rintro q fr st ⟨i,hi,rfl,dZ,hle,rfl⟩
 refine ⟨_,hle,fun R hR=>?_⟩
 ((conv=>whnf);repeat ((first|refine aH.ff rfl ?_|refine aH.tt rfl ?_|refine aZ.of rfl ?_|refine aK.mk rfl ?_|refine aP.mk rfl ?_|refine cD.of rfl ?_)<;>(conv=>whnf)))
 refine aH.ds (fun cL=>?_) (fun fC=>?_)
 · have cZ:i<l.length:=by omega
   have he:=List.getElem?_eq_getElem cZ
   have hm:=List.getElem_mem cZ
   generalize l[i]=e at he hm
   ((conv=>whnf);repeat ((first|refine aK.ix (by omega) (by omega) ?_|refine aH.ff rfl ?_|refine aH.tt rfl ?_|refine aZ.of rfl ?_|refine aK.mk rfl ?_|refine aP.mk rfl ?_|refine cD.of (hr) ?_|refine cD.of (aG (by simp) he) ?_|refine cD.of rfl ?_)<;>(conv=>whnf)))
   refine cY.mk (hg e hm _ ?_)
   ((conv=>whnf);repeat ((first|refine aH.ff rfl ?_|refine aH.tt rfl ?_|refine aZ.of rfl ?_|refine aK.mk rfl ?_|refine aP.mk rfl ?_|refine cD.of rfl ?_)<;>(conv=>whnf)))
   refine aH.mk (fun hp=>?_) (fun hp=>?_)
   · ((conv=>whnf);repeat ((first|refine aH.ff rfl ?_|refine aH.tt rfl ?_|refine aZ.of rfl ?_|refine aK.mk rfl ?_|refine aP.mk rfl ?_|refine cD.of rfl ?_)<;>(conv=>whnf)))
     rw [cX he hp dZ] at hK
     exact hK
   · ((conv=>whnf);repeat ((first|refine aQ.gS (by omega) (by omega) ?_|refine aH.ff rfl ?_|refine aH.tt rfl ?_|refine aZ.of rfl ?_|refine aK.mk rfl ?_|refine aP.mk rfl ?_|refine cD.of rfl ?_)<;>(conv=>whnf)))
     refine hR (l.length - (i+1)) _ _ (by omega) ⟨i+1,by omega,rfl,fun j x hj hx=>?_,dK,rfl⟩
     by_cases xF:j<i
     · exact dZ j x xF hx
     · obtain rfl:j=i:=by omega
       rw [he] at hx;cases hx;exact hp
 · ((conv=>whnf);repeat ((first|refine aH.ff rfl ?_|refine aH.tt rfl ?_|refine aZ.of rfl ?_|refine aK.mk rfl ?_|refine aP.mk rfl ?_|refine cD.of rfl ?_)<;>(conv=>whnf)))
   rw [dF fun j x hx=>dZ j x (by have:=(List.getElem?_eq_some_iff.1 hx).1;omega) hx] at hK
   exact hK
section
variable {P:Program} (hG:bN P AF.fns.get)
include hG
theorem BN {k:Nat} {h:aA} (hn:k≠h.next) (hk:h.get k=some (.arr 1 (([]:List aU).map bG))) {K:V->aA->Prop} (hK:K (.ms (.g h.next) 1 0 0) (h.push (.arr 1 []))):aB P 79 [.ms (.g k) 1 0 0] h K:=by
 refine aN (hG _ AF.f79 rfl) rfl ?_
 ((conv=>whnf);repeat ((first|refine aH.ff rfl ?_|refine aH.tt rfl ?_|refine aZ.of rfl ?_|refine aK.mk rfl ?_|refine aP.mk rfl ?_|refine cD.of (aA.gp hn hk) ?_|refine cD.of rfl ?_)<;>(conv=>whnf)))
 exact hK
theorem Ak (x:aU) (r:List aU) (hl:(x::r).length<=1000) {k:Nat} {h:aA} (hn:k≠h.next) (hk:h.get k=some (.arr 1 ((x::r).map bG))) {K:V->aA->Prop}
 (hK:K (.ms (.g (h.next+1)) 1 0 (x::r).length) (((h.push (.arr 1 [])).remove h.next).push (.arr 1 ((x::r).map bG)))):aB P 79 [.ms (.g k) 1 0 (x::r).length] h K:=by
 have U2:List.take (x::r).length (List.drop 0 (List.map bG (x::r)))=(x::r).map bG:=by simp [List.take_of_length_le]
 refine aN (hG _ AF.f79 rfl) rfl ?_
 ((conv=>whnf);repeat ((first|refine aK.d (by rw [List.length_map];omega) ?_|refine cD.of (by rw [U2];exact Ae (fun _=>rfl) (x::r)) ?_|refine aK.mk (by rw [U2];simp [bR] at hl ⊢;omega) ?_|refine aH.df (by rw [List.length_map];simp only [List.length_cons,List.length_nil];omega) ?_|refine aH.ff rfl ?_|refine aH.tt rfl ?_|refine aZ.of rfl ?_|refine aK.mk rfl ?_|refine aP.mk rfl ?_|refine cD.of (aA.gp hn hk) ?_|refine cD.of (aA.aC h (.arr 1 [])) ?_|refine cD.of rfl ?_)<;>(conv=>whnf)))
 rw [List.length_map]
 show K (.ms _ 1 0 (0+(x::r).length)) _
 rw [Nat.zero_add]
 exact hK
theorem N9 {l:List aU} {g k r:Nat} {h:aA} {p:aU->Bool} (hl:l.length<=1000) (hr:h.get r=some (.arr 1 (l.map bG)))
 (hg:∀ e∈l,∀ (rows:List aU) (K:V->aA->Prop),K (.b (p e)) (h.set r (.arr 1 (rows.map bG)))->aB P g [.s e,.p (.g k) 0] (h.set r (.arr 1 (rows.map bG))) K) {K:V->aA->Prop}
 (hK:K (.ms (.g r) 1 0 (l.filter fun e=>!p e).length) (h.set r (.arr 1 ((l.filter fun e=>!p e).map bG)))):
 aB P 78 [.ms (.g r) 1 0 l.length,.fn g [] [.p (.g k) 0]] h K:=by
 have lQ:∀ (n:Int),gB p l=n->∀ {K:V->aA->Prop},K (.i .i64 n) h->aB P 155 [.ms (.g r) 1 0 l.length,.fn g [] [.p (.g k) 0]] h K:=fun n hn K hK=>
  TA (hG _ AF.f155 rfl) (p:=p) (by omega) hr (fun e he K hK=>by
   have:=hg e he l K
   rw [gF hr] at this
   exact this hK) (hn▸hK)
 refine aB.shrink (r:=r) (sz:=1) (aN (hG _ AF.f78 rfl) rfl ?_)
 cases Fa:l.findIdx? p with
 |none=>
  ((conv=>whnf);repeat ((first|refine cY.app (lQ (-1) (D3 Fa)) ?_|refine aH.ff rfl ?_|refine aH.tt rfl ?_|refine aZ.of rfl ?_|refine aK.mk rfl ?_|refine aP.mk rfl ?_|refine cD.of rfl ?_)<;>(conv=>whnf)))
  have eV:(l.filter fun e=>!p e)=l:=List.filter_eq_self.2 fun e he=>by
   have:=List.findIdx?_eq_none_iff.1 Fa e he
   simp [this]
  rw [eV] at hK
  exact ⟨_,l.length,hr,by rw [List.take_of_length_le (by rw [List.length_map];omega)];exact hK⟩
 |some i0=>
  rw [List.findIdx?_eq_some_iff_getElem] at Fa
  obtain ⟨Cs,E6,wB⟩:=Fa
  have Fa:l.findIdx? p=some i0:=by rw [List.findIdx?_eq_some_iff_getElem];exact ⟨Cs,E6,wB⟩
  have Lx:nL (fun e=>!p e) l l i0 (i0+1):=nL.start (List.getElem?_eq_getElem Cs) (by simp [E6]) fun j y hj hy=>by
   have:=wB j hj
   rw [List.getElem?_eq_getElem (by omega)] at hy
   cases hy
   simpa using this
  ((conv=>whnf);repeat ((first|refine cY.app (lQ i0 (D2 Fa)) ?_|refine aH.df (by omega) ?_|refine aQ.gS (by omega) (by omega) ?_|refine aH.ff rfl ?_|refine aH.tt rfl ?_|refine aZ.of rfl ?_|refine aK.mk rfl ?_|refine aP.mk rfl ?_|refine cD.of rfl ?_)<;>(conv=>whnf)))
  refine bV.by (fun q fr st=>∃ (i j:Nat) (row:List aU),q=l.length - j/\nL (fun e=>!p e) l row i j/\
   Fr.le [(6,.i .i64 j),(5,.i .i64 i),(1,.fn g [] [.p (.g k) 0]),(0,.ms (.g r) 1 0 l.length)] fr/\st=dG (h.set r (.arr 1 (row.map bG))))
   (l.length - (i0+1)) ⟨i0,i0+1,l,rfl,Lx,dK,by rw [gF hr]⟩ ?_
  rintro q fr st ⟨i,j,row,rfl,H5,hle,rfl⟩
  refine ⟨_,hle,fun R hR=>?_⟩
  have eC:∀ rows:List aU,(h.set r (.arr 1 (rows.map bG))).get r=some (.arr 1 (rows.map bG)):=fun rows=>aA.aD hr
  have KA:=H5.len
  have cL:=H5.lt
  have Pj:=H5.le
  have XP:(row.map bG).length=row.length:=List.length_map _
  ((conv=>whnf);repeat ((first|refine aH.ff rfl ?_|refine aH.tt rfl ?_|refine aZ.of rfl ?_|refine aK.mk rfl ?_|refine aP.mk rfl ?_|refine cD.of rfl ?_)<;>(conv=>whnf)))
  refine aH.ds (fun Ic=>?_) (fun fC=>?_)
  · have hj:j<l.length:=by omega
    have he:=List.getElem?_eq_getElem hj
    have hm:=List.getElem_mem hj
    generalize l[j]=e at he hm
    have E3:row[j]? =some e:=by rw [H5.rest j (Nat.le_refl _)];exact he
    ((conv=>whnf);repeat ((first|refine aK.ix (by omega) (by omega) ?_|refine aH.ff rfl ?_|refine aH.tt rfl ?_|refine aZ.of rfl ?_|refine aK.mk rfl ?_|refine aP.mk rfl ?_|refine cD.of (eC _) ?_|refine cD.of (aG (by omega) E3) ?_|refine cD.of rfl ?_)<;>(conv=>whnf)))
    refine cY.mk (hg e hm row _ ?_)
    ((conv=>whnf);repeat ((first|refine aH.ff rfl ?_|refine aH.tt rfl ?_|refine aZ.of rfl ?_|refine aK.mk rfl ?_|refine aP.mk rfl ?_|refine cD.of rfl ?_)<;>(conv=>whnf)))
    cases KM:p e
    · have hy:=List.getElem?_eq_getElem (by omega:i<row.length)
      generalize row[i]'(by omega)=y at hy
      ((conv=>whnf);repeat ((first|refine aH.tt (by rw [KM];rfl) ?_|refine aK.ix (by omega) (by omega) ?_|refine aQ.gS (by omega) (by omega) ?_|refine aH.ff rfl ?_|refine aH.tt rfl ?_|refine aZ.of rfl ?_|refine aK.mk rfl ?_|refine aP.mk rfl ?_|refine cD.of (eC _) ?_|refine cD.of (aG (by omega) hy) ?_|refine cD.of rfl ?_)<;>(conv=>whnf)))
      refine hR (l.length - (j+1)) _ _ (by omega) ⟨i+1,j+1,row.set i e,rfl,H5.eK he (by simp [KM]),dK,?_⟩
      show dG ((h.set r (.arr 1 (row.map bG))).set r (.arr 1 ((row.map bG).set (0+((i:Nat):Int).toNat) (bG e))))=_
      rw [kR,D7,Nat.zero_add]
      rfl
    · ((conv=>whnf);repeat ((first|refine aH.ff (by rw [KM];rfl) ?_|refine aQ.gS (by omega) (by omega) ?_|refine aH.ff rfl ?_|refine aH.tt rfl ?_|refine aZ.of rfl ?_|refine aK.mk rfl ?_|refine aP.mk rfl ?_|refine cD.of rfl ?_)<;>(conv=>whnf)))
      exact hR (l.length - (j+1)) _ _ (by omega) ⟨i,j+1,row,rfl,H5.skip he (by simp [KM]),dK,rfl⟩
  · obtain ⟨h1,h2⟩:=H5.end (by omega)
    have hi:i<=row.length:=by omega
    ((conv=>whnf);repeat ((first|refine aK.d3 (by omega) (by omega) (by omega) ?_|refine aK.d (by omega) ?_|refine aK.d3 (by omega) (by omega) (by simp [KA];omega) ?_|refine aH.ff rfl ?_|refine aH.tt rfl ?_|refine aZ.of rfl ?_|refine aK.mk rfl ?_|refine aP.mk rfl ?_|refine cD.of (eC _) ?_|refine cD.of (aA.aD (eC _)) ?_|refine cD.of rfl ?_)<;>(conv=>whnf)))
    have e0:∀ X:List (List V),List.take i (List.take (0+i) (row.map bG)++X++List.drop (0+i+(l.length - i)) (row.map bG))=(l.filter fun e=>!p e).map bG:=fun X=>by
     rw [Nat.zero_add,List.append_assoc,List.take_append_of_le_length (by rw [List.length_take];omega),List.take_of_length_le (by rw [List.length_take];omega),<-List.map_take,h2]
    refine ⟨_,i,aA.aD (eC _),?_⟩
    show K (.ms (.g r) 1 0 i) (((h.set r (.arr 1 (row.map bG))).set r _).set r (.arr 1 (List.take i (List.take (0+i) (row.map bG)++List.replicate (l.length - i) [vS]++List.drop (0+i+(l.length - i)) (row.map bG)))))
    rw [kR,kR,e0,h1]
    exact hK
end
open Go
def Ly:List V:=[.s [],.i .i64 0,.i .i64 0,.i .i64 0,.i .i64 0,.i .i64 0,.aV,.aV,.aV,.aV,.s [],.aV,.i .i64 0,.aV,.s [],.i .i64 0]
section
variable {P:Program} (hG:bN P AF.fns.get)
include hG
theorem Oa {l:List aO} {g k r:Nat} {h:aA} {p:aO->Bool} (hl:l.length<=1000) (hr:h.get r=some (.arr 16 (l.map aJ)))
 (hg:∀ e∈l,∀ (rows:List aO) (K:V->aA->Prop),K (.b (p e)) (h.set r (.arr 16 (rows.map aJ)))->aB P g [.agg (aJ e),.p (.g k) 0] (h.set r (.arr 16 (rows.map aJ))) K) {K:V->aA->Prop}
 (hK:K (.ms (.g r) 16 0 (l.filter fun e=>!p e).length) (h.set r (.arr 16 ((l.filter fun e=>!p e).map aJ)))):
 aB P 72 [.ms (.g r) 16 0 l.length,.fn g [] [.p (.g k) 0]] h K:=by
 have lQ:∀ (n:Int),gB p l=n->∀ {K:V->aA->Prop},K (.i .i64 n) h->aB P 85 [.ms (.g r) 16 0 l.length,.fn g [] [.p (.g k) 0]] h K:=fun n hn K hK=>
  Ty (hG _ AF.f85 rfl) (p:=p) (by omega) hr (fun e he K hK=>by
   have:=hg e he l K
   rw [gF hr] at this
   exact this hK) n hn hK
 refine aB.shrink (r:=r) (sz:=16) (aN (hG _ AF.f72 rfl) rfl ?_)
 cases Fa:l.findIdx? p with
 |none=>
  ((conv=>whnf);repeat ((first|refine cY.app (lQ (-1) (D3 Fa)) ?_|refine aH.ff rfl ?_|refine aH.tt rfl ?_|refine aZ.of rfl ?_|refine aK.mk rfl ?_|refine aP.mk rfl ?_|refine cD.of rfl ?_)<;>(conv=>whnf)))
  have eV:(l.filter fun e=>!p e)=l:=List.filter_eq_self.2 fun e he=>by
   have:=List.findIdx?_eq_none_iff.1 Fa e he
   simp [this]
  rw [eV] at hK
  exact ⟨_,l.length,hr,by rw [List.take_of_length_le (by rw [List.length_map];omega)];exact hK⟩
 |some i0=>
  rw [List.findIdx?_eq_some_iff_getElem] at Fa
  obtain ⟨Cs,E6,wB⟩:=Fa
  have Fa:l.findIdx? p=some i0:=by rw [List.findIdx?_eq_some_iff_getElem];exact ⟨Cs,E6,wB⟩
  have Lx:nL (fun e=>!p e) l l i0 (i0+1):=nL.start (List.getElem?_eq_getElem Cs) (by simp [E6]) fun j y hj hy=>by
   have:=wB j hj
   rw [List.getElem?_eq_getElem (by omega)] at hy
   cases hy
   simpa using this
  ((conv=>whnf);repeat ((first|refine cY.app (lQ i0 (D2 Fa)) ?_|refine aH.df (by omega) ?_|refine aQ.gS (by omega) (by omega) ?_|refine aH.ff rfl ?_|refine aH.tt rfl ?_|refine aZ.of rfl ?_|refine aK.mk rfl ?_|refine aP.mk rfl ?_|refine cD.of rfl ?_)<;>(conv=>whnf)))
  refine bV.by (fun q fr st=>∃ (i j:Nat) (row:List aO),q=l.length - j/\nL (fun e=>!p e) l row i j/\
   Fr.le [(6,.i .i64 j),(5,.i .i64 i),(1,.fn g [] [.p (.g k) 0]),(0,.ms (.g r) 16 0 l.length)] fr/\∃ L:aA,st=⟨h.set r (.arr 16 (row.map aJ)),L⟩)
   (l.length - (i0+1)) ⟨i0,i0+1,l,rfl,Lx,dK,Ia,by rw [gF hr]⟩ ?_
  rintro q fr st ⟨i,j,row,rfl,H5,hle,L,rfl⟩
  refine ⟨_,hle,fun R hR=>?_⟩
  have eC:∀ rows:List aO,(h.set r (.arr 16 (rows.map aJ))).get r=some (.arr 16 (rows.map aJ)):=fun rows=>aA.aD hr
  have KA:=H5.len
  have cL:=H5.lt
  have Pj:=H5.le
  have XP:(row.map aJ).length=row.length:=List.length_map _
  ((conv=>whnf);repeat ((first|refine aH.ff rfl ?_|refine aH.tt rfl ?_|refine aZ.of rfl ?_|refine aK.mk rfl ?_|refine aP.mk rfl ?_|refine cD.of rfl ?_)<;>(conv=>whnf)))
  refine aH.ds (fun Ic=>?_) (fun fC=>?_)
  · have hj:j<l.length:=by omega
    have he:=List.getElem?_eq_getElem hj
    have hm:=List.getElem_mem hj
    generalize l[j]=e at he hm
    have E3:row[j]? =some e:=by rw [H5.rest j (Nat.le_refl _)];exact he
    ((conv=>whnf);repeat ((first|refine aK.ix (by omega) (by omega) ?_|refine aH.ff rfl ?_|refine aH.tt rfl ?_|refine aZ.of rfl ?_|refine aK.mk rfl ?_|refine aP.mk rfl ?_|refine cD.of (eC _) ?_|refine cD.of (aG (by omega) E3) ?_|refine cD.of rfl ?_)<;>(conv=>whnf)))
    refine cD.of (aA.aC L _) ?_
    ((conv=>whnf);repeat ((first|refine aH.ff rfl ?_|refine aH.tt rfl ?_|refine aZ.of rfl ?_|refine aK.mk rfl ?_|refine aP.mk rfl ?_|refine cD.of rfl ?_)<;>(conv=>whnf)))
    refine cD.of (x:=.cs (aJ e)) (aA.aD (aA.aC L _)) ?_
    ((conv=>whnf);repeat ((first|refine aH.ff rfl ?_|refine aH.tt rfl ?_|refine aZ.of rfl ?_|refine aK.mk rfl ?_|refine aP.mk rfl ?_|refine cD.of rfl ?_)<;>(conv=>whnf)))
    refine cY.mk (hg e hm row _ ?_)
    ((conv=>whnf);repeat ((first|refine aH.ff rfl ?_|refine aH.tt rfl ?_|refine aZ.of rfl ?_|refine aK.mk rfl ?_|refine aP.mk rfl ?_|refine cD.of rfl ?_)<;>(conv=>whnf)))
    cases KM:p e
    · have hy:=List.getElem?_eq_getElem (by omega:i<row.length)
      generalize row[i]'(by omega)=y at hy
      ((conv=>whnf);repeat ((first|refine aH.tt (by rw [KM];rfl) ?_|refine aK.ix (by omega) (by omega) ?_|refine aH.ff rfl ?_|refine aH.tt rfl ?_|refine aZ.of rfl ?_|refine aK.mk rfl ?_|refine aP.mk rfl ?_|refine cD.of (eC _) ?_|refine cD.of rfl ?_)<;>(conv=>whnf)))
      refine cD.of (x:=.cs (aJ e)) (aA.aD (aA.aC L _)) ?_
      ((conv=>whnf);repeat ((first|refine aK.ix (by omega) (by omega) ?_|refine aQ.gS (by omega) (by omega) ?_|refine aH.ff rfl ?_|refine aH.tt rfl ?_|refine aZ.of rfl ?_|refine aK.mk rfl ?_|refine aP.mk rfl ?_|refine cD.of (eC _) ?_|refine cD.of (aG (by omega) hy) ?_|refine cD.of rfl ?_)<;>(conv=>whnf)))
      refine hR (l.length - (j+1)) _ _ (by omega) ⟨i+1,j+1,row.set i e,rfl,H5.eK he (by simp [KM]),dK,(L.push (.cs Ly)).set L.next (.cs (aJ e)),?_⟩
      show (⟨(h.set r (.arr 16 (row.map aJ))).set r (.arr 16 ((row.map aJ).set (0+((i:Nat):Int).toNat) (aJ e))),(L.push (.cs Ly)).set L.next (.cs (aJ e))⟩:St)=_
      rw [kR,D7,Nat.zero_add]
      rfl
    · ((conv=>whnf);repeat ((first|refine aH.ff (by rw [KM];rfl) ?_|refine aQ.gS (by omega) (by omega) ?_|refine aH.ff rfl ?_|refine aH.tt rfl ?_|refine aZ.of rfl ?_|refine aK.mk rfl ?_|refine aP.mk rfl ?_|refine cD.of rfl ?_)<;>(conv=>whnf)))
      exact hR (l.length - (j+1)) _ _ (by omega) ⟨i,j+1,row,rfl,H5.skip he (by simp [KM]),dK,_,rfl⟩
  · obtain ⟨h1,h2⟩:=H5.end (by omega)
    have hi:i<=row.length:=by omega
    ((conv=>whnf);repeat ((first|refine aK.d3 (by omega) (by omega) (by omega) ?_|refine aK.d (by omega) ?_|refine aK.d3 (by omega) (by omega) (by simp [KA];omega) ?_|refine aH.ff rfl ?_|refine aH.tt rfl ?_|refine aZ.of rfl ?_|refine aK.mk rfl ?_|refine aP.mk rfl ?_|refine cD.of (eC _) ?_|refine cD.of (aA.aD (eC _)) ?_|refine cD.of rfl ?_)<;>(conv=>whnf)))
    have e0:∀ X:List (List V),List.take i (List.take (0+i) (row.map aJ)++X++List.drop (0+i+(l.length - i)) (row.map aJ))=(l.filter fun e=>!p e).map aJ:=fun X=>by
     rw [Nat.zero_add,List.append_assoc,List.take_append_of_le_length (by rw [List.length_take];omega),List.take_of_length_le (by rw [List.length_take];omega),<-List.map_take,h2]
    refine ⟨_,i,aA.aD (eC _),?_⟩
    show K (.ms (.g r) 16 0 i) (((h.set r (.arr 16 (row.map aJ))).set r _).set r (.arr 16 (List.take i (List.take (0+i) (row.map aJ)++List.replicate (l.length - i) Ly++List.drop (0+i+(l.length - i)) (row.map aJ)))))
    rw [kR,kR,e0,h1]
    exact hK
end
end Go.Eng
