/-
Rows that are written to: names looked for, copied, deleted.
-/
import Derived.Test.YtmfelikepmmjkaaGreatX23
import Derived.Test.YtmfelikepmmjkaaGreatX25
import Derived.Test.YtmfelikepmmjkaaGreatX24
set_option linter.unusedVariables false
set_option linter.unusedSimpArgs false
set_option maxHeartbeats 16000000
set_option maxRecDepth 20000
namespace Go.Eng
open Go
theorem tG1 (gs ls:List Nat) {n m:Nat} {wJ wK:List (Nat×Obj)} {fr cF:Fr} {st:St} (hn:gs.length=n:=by rfl) (hm:ls.length=m:=by rfl) (hd:gs.Nodup:=by decide) (he:ls.Nodup:=by decide) (hN:∀ i,i<1->gs.getD i 0=i:=by exact fun i hi=>match i,hi with|0,_=>rfl) (hN2:1<=n:=by decide)
 (hg:yY ⟨fun i=>gs.getD i 0,fun i=>ls.getD i 0⟩ gG .g (fun i=>gs.getD i 0) n ⟨n,0⟩ st.g wJ:=by ((repeat (first|exact trivial|refine ⟨⟨Nat.le_of_ble_eq_true rfl,rfl,_,rfl,by first|exact trivial|exact ⟨rfl,trivial⟩|exact gH rfl|exact ⟨rfl,mH (fun _=>rfl) _⟩|exact ⟨rfl,gH rfl,trivial⟩|exact ⟨rfl,tC _⟩|exact ⟨rfl,wM (by assumption)⟩|exact (by ((repeat (first|exact trivial|refine ⟨by first|exact jG rfl|exact .nil|exact .tok|exact .Cd rfl (Nat.le_of_ble_eq_true rfl)|exact .rows (by ((repeat (first|exact .nil|refine .cons (by ((repeat (first|exact .nil|refine .cons (by first|exact .refl _|exact .nil _) ?_));first|done|fail)) ?_));first|done|fail)),?_⟩));first|done|fail))⟩,?_⟩));first|done|fail)) (hl:yY ⟨fun i=>gs.getD i 0,fun i=>ls.getD i 0⟩ gG .l (fun i=>ls.getD i 0) m ⟨n,m⟩ st.l wK:=by ((repeat (first|exact trivial|refine ⟨⟨Nat.le_of_ble_eq_true rfl,rfl,_,rfl,by first|exact trivial|exact ⟨rfl,trivial⟩|exact gH rfl|exact ⟨rfl,mH (fun _=>rfl) _⟩|exact ⟨rfl,gH rfl,trivial⟩|exact ⟨rfl,tC _⟩|exact ⟨rfl,wM (by assumption)⟩|exact (by ((repeat (first|exact trivial|refine ⟨by first|exact jG rfl|exact .nil|exact .tok|exact .Cd rfl (Nat.le_of_ble_eq_true rfl)|exact .rows (by ((repeat (first|exact .nil|refine .cons (by ((repeat (first|exact .nil|refine .cons (by first|exact .refl _|exact .nil _) ?_));first|done|fail)) ?_));first|done|fail)),?_⟩));first|done|fail))⟩,?_⟩));first|done|fail))
 (hf:CN ⟨fun i=>gs.getD i 0,fun i=>ls.getD i 0⟩ ⟨n,m⟩ gG cF fr:=by ((repeat (first|exact CN.nil|refine CN.cons (by first|exact wI rfl|exact SA rfl (Nat.le_of_ble_eq_true rfl)|exact SB rfl (Nat.le_of_ble_eq_true rfl)|exact WK rfl (Nat.le_of_ble_eq_true rfl)|exact IS rfl (Nat.le_of_ble_eq_true rfl)|exact tA|exact A6|exact .inl (.inl (.rows (by ((repeat (first|exact .nil|refine .cons (by ((repeat (first|exact .nil|refine .cons (by first|exact .refl _|exact .nil _) ?_));first|done|fail)) ?_));first|done|fail))))|exact .inl (.inr (.inl ⟨_,_,rfl,rfl,(by ((repeat (first|exact trivial|refine ⟨by first|exact jG rfl|exact .nil|exact .tok|exact .Cd rfl (Nat.le_of_ble_eq_true rfl)|exact .rows (by ((repeat (first|exact .nil|refine .cons (by ((repeat (first|exact .nil|refine .cons (by first|exact .refl _|exact .nil _) ?_));first|done|fail)) ?_));first|done|fail)),?_⟩));first|done|fail))⟩))) ?_));first|done|fail)):Ai 1 fr st cF ⟨⟨n,wJ⟩,⟨m,wK⟩⟩:=Yi 1 gs ls hn hm hd he hN hN2 hg hl hf
theorem PG {h':aA} {es ds:List (List V)} {gs:List aU} {ns:List (List V)} {n:Nat} (h0:h'.get 0=some (.arr 1 (gs.map bE))) (h1:h'.get 1=some (.arr 16 es)) (hd:eC es=some ds) (hn:0+n<=ds.length):
 Ai 1 [(0,.agg [.sl none 6 ns,.ms (.g 1) 16 0 n])] (dP h') [(0,.agg [.sl none 6 ns,.sl none 16 ((ds.drop 0).take n)])] ⟨⟨1,[(0,.arr 1 (gs.map bE))]⟩,⟨0,[]⟩⟩:=
 ML.of (ρ:=gV) (F:=Uz 1 16 ds) (IT h1 hd) ⟨⟨Nat.zero_lt_one,rfl,_,h0,⟨rfl,mH (fun _=>rfl) _⟩⟩,trivial⟩ trivial (fun i hi j hj _=>by
  have a:i<1:=hi
  have b:j<1:=hj
  omega) (fun i hi=>absurd hi (Nat.not_lt_zero _)) (CN.cons (.inl (.inr (.inl ⟨_,_,rfl,rfl,⟨jG rfl,.ZD (by simp [Uz]) hn rfl,trivial⟩⟩))) CN.nil) (fun i hi=>rfl) (Nat.le_refl _)
theorem PH {h':aA} {gs:List aU} {ns:List (List V)} (h0:h'.get 0=some (.arr 1 (gs.map bE))):
 Ai 1 [(0,.agg [.sl none 6 ns,.aS])] (dP h') [(0,.agg [.sl none 6 ns,.sl none 16 []])] ⟨⟨1,[(0,.arr 1 (gs.map bE))]⟩,⟨0,[]⟩⟩:=
 ML.of (ρ:=gV) (F:=gG) mG ⟨⟨Nat.zero_lt_one,rfl,_,h0,⟨rfl,mH (fun _=>rfl) _⟩⟩,trivial⟩ trivial (fun i hi j hj _=>by
  have a:i<1:=hi
  have b:j<1:=hj
  omega) (fun i hi=>absurd hi (Nat.not_lt_zero _)) (CN.cons (.inl (.inr (.inl ⟨_,_,rfl,rfl,⟨jG rfl,.nil,trivial⟩⟩))) CN.nil) (fun i hi=>rfl) (Nat.le_refl _)
def acM (b:Bool) (n:Nat):V:=
 match b with
 |true=>.ms (.g 1) 16 0 n
 |false=>.aS
def acN (b:Bool) (gs:List aU) (es:List aL):aA:=
 match b with
 |true=>⟨2,[(1,.arr 16 (es.map aI)),(0,.arr 1 (gs.map bE))]⟩
 |false=>⟨1,[(0,.arr 1 (gs.map bE))]⟩
section
variable {P:Program} (hG:bP P AF.fns.get)
include hG
theorem SX (l:List aU) (x:aU) (hl:l.length<=9223372036854775807) {k:Nat} {h:aA} (hk:h.get k=some (.arr 1 (l.map bE))) {K:V->aA->Prop} (hK:K (.i .i64 (gQ (fun e=>x==e) l)) h):aC P 245 [.ms (.g k) 1 0 l.length,.s x] h K:=by
 have gK:(l.map bE).length=l.length:=List.length_map _
 refine aQ (hG _ AF.f245 rfl) rfl ?_
 ((conv=>whnf);repeat ((first|refine aH.ff rfl ?_|refine aH.tt rfl ?_|refine bC.of rfl ?_|refine aM.mk rfl ?_|refine aT.mk rfl ?_|refine cK.of rfl ?_)<;>(conv=>whnf)))
 refine b8.by (fun q fr st=>∃ i:Nat,i<=l.length/\q=l.length - i/\cJ (fun e=>x==e) l i/\Fr.le [(8,.i .i64 i),(7,.i .i64 l.length),(1,.s x),(0,.ms (.g k) 1 0 l.length)] fr/\st=dP h)
  l.length ⟨0,Nat.zero_le _,rfl,cJ.zero,cT,rfl⟩ ?_
 rintro q fr st ⟨i,hi,rfl,dW,hle,rfl⟩
 refine ⟨_,hle,fun R hR=>?_⟩
 ((conv=>whnf);repeat ((first|refine aH.ff rfl ?_|refine aH.tt rfl ?_|refine bC.of rfl ?_|refine aM.mk rfl ?_|refine aT.mk rfl ?_|refine cK.of rfl ?_)<;>(conv=>whnf)))
 refine aH.ds (fun cO=>?_) (fun fE=>?_)
 · have cZ:i<l.length:=by omega
   have he:=List.getElem?_eq_getElem cZ
   generalize l[i]=e at he
   ((conv=>whnf);repeat ((first|refine aM.ix (by omega) (by omega) ?_|refine aH.ff rfl ?_|refine aH.tt rfl ?_|refine bC.of rfl ?_|refine aM.mk rfl ?_|refine aT.mk rfl ?_|refine cK.of (hk) ?_|refine cK.of (aF (by simp) he) ?_|refine cK.of rfl ?_)<;>(conv=>whnf)))
   refine aH.mk (fun hp=>?_) (fun hp=>?_)
   · ((conv=>whnf);repeat ((first|refine aH.ff rfl ?_|refine aH.tt rfl ?_|refine bC.of rfl ?_|refine aM.mk rfl ?_|refine aT.mk rfl ?_|refine cK.of rfl ?_)<;>(conv=>whnf)))
     rw [dD he hp dW] at hK
     exact hK
   · ((conv=>whnf);repeat ((first|refine aR.gA (by omega) (by omega) ?_|refine aH.ff rfl ?_|refine aH.tt rfl ?_|refine bC.of rfl ?_|refine aM.mk rfl ?_|refine aT.mk rfl ?_|refine cK.of rfl ?_)<;>(conv=>whnf)))
     exact hR (l.length - (i+1)) _ _ (by omega) ⟨i+1,by omega,rfl,dW.succ he hp,cT,rfl⟩
 · ((conv=>whnf);repeat ((first|refine aH.ff rfl ?_|refine aH.tt rfl ?_|refine bC.of rfl ?_|refine aM.mk rfl ?_|refine aT.mk rfl ?_|refine cK.of rfl ?_)<;>(conv=>whnf)))
   rw [dN fun j x hx=>dW j x (by have:=(List.getElem?_eq_some_iff.1 hx).1;omega) hx] at hK
   exact hK
theorem SY (l:List aU) (x:aU) (hl:l.length<=9223372036854775807) {k:Nat} {h:aA} (hk:h.get k=some (.arr 1 (l.map bE))) {K:V->aA->Prop} (hK:K (.b (l.any fun e=>x==e)) h):aC P 154 [.ms (.g k) 1 0 l.length,.s x] h K:=by
 refine aQ (hG _ AF.f154 rfl) rfl ?_
 ((conv=>whnf);repeat ((first|refine dF.app (SX hG l x hl hk) ?_|refine aH.ff rfl ?_|refine aH.tt rfl ?_|refine bC.of rfl ?_|refine aM.mk rfl ?_|refine aT.mk rfl ?_|refine cK.of rfl ?_)<;>(conv=>whnf)))
 rw [<-kC] at hK
 exact hK
theorem Gs (s:dY) (gs:List aU) (Js:gs.length<=1000) (h6:s.nodes.length<=1000) (hs:s.ok) (wO:Small s) (hr:∀ q∈s.aE,iM q):
 aC P 77 [kS s,.ms (.g 0) 1 0 gs.length] (Cg 1 (gs.map bE)) (Ci 1 fun u es=>u=kS (aW s gs)/\es=gs.map bE):=by
 have gK:(s.aE.map aI).length=s.aE.length:=List.length_map _
 have hl:=hs.aE
 have GP:=hs.some
 unfold bQ at hl
 have hn:=nodes_ok hG s h6 wO
 obtain ⟨f,hf⟩:∃ f:aL->Bool,f=fun q=>!(gs.any fun g=>q.name==g):=⟨_,rfl⟩
 refine acB (hG _ AF.f77 rfl) rfl ?_
 (refine cD @hn ?_)
 refine bD.by (fun q fr st=>∃ (i:Nat) (b:Bool) (es:List aL) (n:Nat),i<=s.aE.length/\q=s.aE.length - i/\es=(s.aE.take i).filter f/\(b=false->es=[])/\n=es.length/\
  fr=[(14,.i .i64 i),(13,.i .i64 (s.aE.map aI).length),(12,.sl none 16 (s.aE.map aI)),(5,.p (.l 1) 0),(4,.p (.l 0) 0),(1,.ms (.g 0) 1 0 gs.length)]/\
  st=⟨acN b gs es,⟨2,[(1,.cs [.sl none 6 (s.nodes.map aK),acM b n]),(0,.cs [.aS,.aS])]⟩⟩)
  s.aE.length ⟨_,_,?_,0,false,[],0,Nat.zero_le _,rfl,rfl,fun _=>rfl,rfl,rfl,rfl⟩ ?_
 · exact tG1 [0] [1,2]
 rintro q fr st ⟨i,b,es,n,hi,rfl,o8,hb,hn,rfl,rfl⟩ R hR
 have E6:es.length<=i:=by
  rw [o8]
  exact Nat.le_trans (List.length_filter_le _ _) (List.length_take_le _ _)
 have Dw:(es.map aI).length=es.length:=List.length_map _
 (conv=>whnf)
 refine aH.ds (fun cO=>?_) (fun fE=>?_)
 · have cZ:i<s.aE.length:=by omega
   have he:=List.getElem?_eq_getElem cZ
   have SN:=hr _ (List.getElem_mem cZ)
   generalize s.aE[i]=e at he SN
   have hc:=copyPod_ok hG e SN
   have jE:f e=!(gs.any fun g=>e.name==g):=by rw [hf]
   have h1:f e=true->es++[e]=(s.aE.take (i+1)).filter f:=fun h=>by
    rw [cG he,List.filter_append,<-o8]
    simp [h]
   have h0:f e=false->es=(s.aE.take (i+1)).filter f:=fun h=>by
    rw [cG he,List.filter_append,<-o8]
    simp [h]
   rw [jE] at h1 h0
   have SO:∀ (h:aA) (K:V->aA->Prop),h.get 0=some (.arr 1 (gs.map bE))->K (.b (gs.any fun g=>e.name==g)) h->aC P 154 [.ms (.g 0) 1 0 gs.length,.s e.name] h K:=fun h K hh hK=>SY hG gs e.name (by omega) hh hK
   generalize (gs.any fun g=>e.name==g)=a at SO h1 h0
   cases a<;>cases b
   · obtain rfl:es=[]:=hb rfl
     (refine qR (SO _ _ rfl) @hc @he ?_)
     refine hR (s.aE.length - (i+1)) _ _ (by omega) ⟨_,_,?_,i+1,true,[]++[e],1,by omega,rfl,h1 rfl,(fun h=>by cases h),rfl,rfl,rfl⟩
     exact tG1 [0,2] [0,1]
   · (refine zx3 (SO _ _ rfl) @hc @he ?_)
     refine hR (s.aE.length - (i+1)) _ _ (by omega) ⟨_,_,?_,i+1,true,es++[e],n+1,by omega,rfl,h1 rfl,(fun h=>by cases h),by simp [hn],rfl,rfl⟩
     exact tG1 [0,3] [0,1]
   · obtain rfl:es=[]:=hb rfl
     (refine iG (SO _ _ rfl) @he ?_)
     refine hR (s.aE.length - (i+1)) _ _ (by omega) ⟨_,_,?_,i+1,false,[],0,by omega,rfl,h0 rfl,(fun _=>rfl),rfl,rfl,rfl⟩
     exact tG1 [0] [0,1]
   · (refine iG (SO _ _ rfl) @he ?_)
     refine hR (s.aE.length - (i+1)) _ _ (by omega) ⟨_,_,?_,i+1,true,es,n,by omega,rfl,h0 rfl,(fun h=>by cases h),hn,rfl,rfl⟩
     exact tG1 [0,1] [0,1]
 · have fH:es=(aW s gs).aE:=by
    rw [o8,List.take_of_length_le (by omega),hf]
    rfl
   have mY:kS (aW s gs)=.agg [.sl none 6 (s.nodes.map aK),.sl none 16 (((aW s gs).aE.map aI))]:=rfl
   rw [<-fH] at mY
   cases b
   · obtain rfl:es=[]:=hb rfl
     (refine zr ?_)
     exact Ci.of (u:=.agg [.sl none 6 (s.nodes.map aK),.sl none 16 []]) (es:=gs.map bE) (PH rfl) rfl (fun e he=>by obtain ⟨q,_,rfl⟩:=List.mem_map.1 he;rfl) ⟨mY.symm,rfl⟩
   · (refine zr ?_)
     refine Ci.of (u:=.agg [.sl none 6 (s.nodes.map aK),.sl none 16 (((es.map aI).drop 0).take n)]) (es:=gs.map bE) (PG rfl rfl (gI (fun _=>rfl) es) (by omega)) rfl (fun e he=>by obtain ⟨q,_,rfl⟩:=List.mem_map.1 he;rfl) ⟨?_,rfl⟩
     rw [mY,List.drop_zero,List.take_of_length_le (by omega)]
theorem IZ (s:dY) (gs:List aU) (Js:gs.length<=1000) (h6:s.nodes.length<=1000) (hs:s.ok) (wO:Small s) (hr:∀ q∈s.aE,iM q) {k:Nat} {h:aA} (hk:h.get k=some (.arr 1 (gs.map bE))) {K:V->aA->Prop} (hK:K (kS (aW s gs)) h):
 aC P 77 [kS s,.ms (.g k) 1 0 gs.length] h K:=by
 refine aC.ah1 (args:=[kS s,.ms (.g 0) 1 0 gs.length]) (Gs hG s gs Js h6 hs wO hr) rfl (fun e he=>by obtain ⟨q,_,rfl⟩:=List.mem_map.1 he;rfl) hk fun u es ⟨hu,o8⟩=>?_
 subst hu;subst o8
 rw [gX hk]
 exact hK
end
open Go
section plain
variable {α:Type}
theorem SZ {l:List α} {i:Nat} {x:α} (h:i<l.length):(l.set i x).take (i+1)=l.take i++[x]:=by
 rw [cG (x:=x) (by rw [List.getElem?_set_self h])]
 congr 1
 apply List.ext_getElem?
 intro t
 by_cases ht:t<i
 · rw [List.getElem?_take,List.getElem?_take,if_pos ht,if_pos ht,List.getElem?_set_ne (by omega)]
 · rw [List.getElem?_take,List.getElem?_take,if_neg ht,if_neg ht]
structure pI (dZ:α->Bool) (l row:List α) (i j:Nat):Prop where
 len:row.length=l.length
 pre:row.take i=(l.take j).filter dZ
 cnt:i=((l.take j).filter dZ).length
 rest:∀ t,j<=t->row[t]? =l[t]?
 lt:i<j
 le:j<=l.length
theorem pI.start {dZ:α->Bool} {l:List α} {i:Nat} {x:α} (hx:l[i]? =some x) (hk:dZ x=false) (h:∀ (j:Nat) (y:α),j<i->l[j]? =some y->dZ y=true):pI dZ l l i (i+1):=by
 have hi:=(List.getElem?_eq_some_iff.1 hx).1
 have h1:(l.take (i+1)).filter dZ=l.take i:=by
  rw [cG hx,List.filter_append]
  have:(l.take i).filter dZ=l.take i:=List.filter_eq_self.2 fun y hy=>by
   obtain ⟨j,hj⟩:=List.mem_iff_getElem?.1 hy
   have zE:j<i:=by have:=(List.getElem?_eq_some_iff.1 hj).1;rw [List.length_take] at this;omega
   rw [List.getElem?_take,if_pos zE] at hj
   exact h j y zE hj
  rw [this]
  simp [hk]
 refine ⟨rfl,by rw [h1],by rw [h1,List.length_take];omega,fun t _=>rfl,by omega,hi⟩
theorem pI.skip {dZ:α->Bool} {l row:List α} {i j:Nat} {x:α} (h:pI dZ l row i j) (hx:l[j]? =some x) (hk:dZ x=false):pI dZ l row i (j+1):=by
 have h1:(l.take (j+1)).filter dZ=(l.take j).filter dZ:=by
  rw [cG hx,List.filter_append];simp [hk]
 have hj:=(List.getElem?_eq_some_iff.1 hx).1
 exact ⟨h.len,by rw [h1];exact h.pre,by rw [h1];exact h.cnt,fun t ht=>h.rest t (by omega),by have:=h.lt;omega,hj⟩
theorem pI.dZ {dZ:α->Bool} {l row:List α} {i j:Nat} {x:α} (h:pI dZ l row i j) (hx:l[j]? =some x) (hk:dZ x=true):pI dZ l (row.set i x) (i+1) (j+1):=by
 have h1:(l.take (j+1)).filter dZ=(l.take j).filter dZ++[x]:=by
  rw [cG hx,List.filter_append];simp [hk]
 have hj:=(List.getElem?_eq_some_iff.1 hx).1
 have cO:=h.lt
 have hi:i<row.length:=by rw [h.len];omega
 refine ⟨by rw [List.length_set];exact h.len,by rw [h1,SZ hi,h.pre],by rw [h1,List.length_append,<-h.cnt];rfl,fun t ht=>by rw [List.getElem?_set_ne (by omega)];exact h.rest t (by omega),by omega,hj⟩
theorem pI.end {dZ:α->Bool} {l row:List α} {i j:Nat} (h:pI dZ l row i j) (hj:l.length<=j):i=(l.filter dZ).length/\row.take i=l.filter dZ:=by
 have:l.take j=l:=List.take_of_length_le hj
 exact ⟨by have:=h.cnt;rwa [‹l.take j=l›] at this,by have:=h.pre;rwa [‹l.take j=l›] at this⟩
end plain
theorem Vr {P:Program} {f:Nat} (hk:gU P f (jH 1 none)=true) {l:List aU} {g:Nat} {k r:Nat} {h:aA} {p:aU->Bool} (hl:l.length<=9223372036854775807) (hr:h.get r=some (.arr 1 (l.map bE)))
 (hg:∀ e∈l,∀ K:V->aA->Prop,K (.b (p e)) h->aC P g [.s e,.p (.g k) 0] h K) {K:V->aA->Prop} (hK:K (.i .i64 (gQ p l)) h):aC P f [.ms (.g r) 1 0 l.length,.fn g [] [.p (.g k) 0]] h K:=by
 have gK:(l.map bE).length=l.length:=List.length_map _
 refine aQ hk rfl ?_
 ((conv=>whnf);repeat ((first|refine aH.ff rfl ?_|refine aH.tt rfl ?_|refine bC.of rfl ?_|refine aM.mk rfl ?_|refine aT.mk rfl ?_|refine cK.of rfl ?_)<;>(conv=>whnf)))
 refine b8.by (fun q fr st=>∃ i:Nat,i<=l.length/\q=l.length - i/\(∀ (j:Nat) (e:aU),j<i->l[j]? =some e->p e=false)/\Fr.le [(8,.i .i64 i),(7,.i .i64 l.length),(1,.fn g [] [.p (.g k) 0]),(0,.ms (.g r) 1 0 l.length)] fr/\st=dP h)
  l.length ⟨0,Nat.zero_le _,rfl,fun j e hj=>absurd hj (Nat.not_lt_zero _),cT,rfl⟩ ?_
 rintro q fr st ⟨i,hi,rfl,dW,hle,rfl⟩
 refine ⟨_,hle,fun R hR=>?_⟩
 ((conv=>whnf);repeat ((first|refine aH.ff rfl ?_|refine aH.tt rfl ?_|refine bC.of rfl ?_|refine aM.mk rfl ?_|refine aT.mk rfl ?_|refine cK.of rfl ?_)<;>(conv=>whnf)))
 refine aH.ds (fun cO=>?_) (fun fE=>?_)
 · have cZ:i<l.length:=by omega
   have he:=List.getElem?_eq_getElem cZ
   have hm:=List.getElem_mem cZ
   generalize l[i]=e at he hm
   ((conv=>whnf);repeat ((first|refine aM.ix (by omega) (by omega) ?_|refine aH.ff rfl ?_|refine aH.tt rfl ?_|refine bC.of rfl ?_|refine aM.mk rfl ?_|refine aT.mk rfl ?_|refine cK.of (hr) ?_|refine cK.of (aF (by simp) he) ?_|refine cK.of rfl ?_)<;>(conv=>whnf)))
   refine dF.mk (hg e hm _ ?_)
   ((conv=>whnf);repeat ((first|refine aH.ff rfl ?_|refine aH.tt rfl ?_|refine bC.of rfl ?_|refine aM.mk rfl ?_|refine aT.mk rfl ?_|refine cK.of rfl ?_)<;>(conv=>whnf)))
   refine aH.mk (fun hp=>?_) (fun hp=>?_)
   · ((conv=>whnf);repeat ((first|refine aH.ff rfl ?_|refine aH.tt rfl ?_|refine bC.of rfl ?_|refine aM.mk rfl ?_|refine aT.mk rfl ?_|refine cK.of rfl ?_)<;>(conv=>whnf)))
     rw [dD he hp dW] at hK
     exact hK
   · ((conv=>whnf);repeat ((first|refine aR.gA (by omega) (by omega) ?_|refine aH.ff rfl ?_|refine aH.tt rfl ?_|refine bC.of rfl ?_|refine aM.mk rfl ?_|refine aT.mk rfl ?_|refine cK.of rfl ?_)<;>(conv=>whnf)))
     refine hR (l.length - (i+1)) _ _ (by omega) ⟨i+1,by omega,rfl,fun j x hj hx=>?_,cT,rfl⟩
     by_cases zE:j<i
     · exact dW j x zE hx
     · obtain rfl:j=i:=by omega
       rw [he] at hx;cases hx;exact hp
 · ((conv=>whnf);repeat ((first|refine aH.ff rfl ?_|refine aH.tt rfl ?_|refine bC.of rfl ?_|refine aM.mk rfl ?_|refine aT.mk rfl ?_|refine cK.of rfl ?_)<;>(conv=>whnf)))
   rw [dN fun j x hx=>dW j x (by have:=(List.getElem?_eq_some_iff.1 hx).1;omega) hx] at hK
   exact hK
section
variable {P:Program} (hG:bP P AF.fns.get)
include hG
theorem CR {k:Nat} {h:aA} (hn:k≠h.next) (hk:h.get k=some (.arr 1 (([]:List aU).map bE))) {K:V->aA->Prop} (hK:K (.ms (.g h.next) 1 0 0) (h.push (.arr 1 []))):aC P 79 [.ms (.g k) 1 0 0] h K:=by
 refine aQ (hG _ AF.f79 rfl) rfl ?_
 ((conv=>whnf);repeat ((first|refine aH.ff rfl ?_|refine aH.tt rfl ?_|refine bC.of rfl ?_|refine aM.mk rfl ?_|refine aT.mk rfl ?_|refine cK.of (aA.gp hn hk) ?_|refine cK.of rfl ?_)<;>(conv=>whnf)))
 exact hK
theorem Bc (x:aU) (r:List aU) (hl:(x::r).length<=1000) {k:Nat} {h:aA} (hn:k≠h.next) (hk:h.get k=some (.arr 1 ((x::r).map bE))) {K:V->aA->Prop}
 (hK:K (.ms (.g (h.next+1)) 1 0 (x::r).length) (((h.push (.arr 1 [])).remove h.next).push (.arr 1 ((x::r).map bE)))):aC P 79 [.ms (.g k) 1 0 (x::r).length] h K:=by
 have WS:List.take (x::r).length (List.drop 0 (List.map bE (x::r)))=(x::r).map bE:=by simp [List.take_of_length_le]
 refine aQ (hG _ AF.f79 rfl) rfl ?_
 ((conv=>whnf);repeat ((first|refine aM.d (by rw [List.length_map];omega) ?_|refine cK.of (by rw [WS];exact A8 (fun _=>rfl) (x::r)) ?_|refine aM.mk (by rw [WS];simp [bT] at hl ⊢;omega) ?_|refine aH.df (by rw [List.length_map];simp only [List.length_cons,List.length_nil];omega) ?_|refine aH.ff rfl ?_|refine aH.tt rfl ?_|refine bC.of rfl ?_|refine aM.mk rfl ?_|refine aT.mk rfl ?_|refine cK.of (aA.gp hn hk) ?_|refine cK.of (aA.aB h (.arr 1 [])) ?_|refine cK.of rfl ?_)<;>(conv=>whnf)))
 rw [List.length_map]
 show K (.ms _ 1 0 (0+(x::r).length)) _
 rw [Nat.zero_add]
 exact hK
theorem PI {l:List aU} {g k r:Nat} {h:aA} {p:aU->Bool} (hl:l.length<=1000) (hr:h.get r=some (.arr 1 (l.map bE)))
 (hg:∀ e∈l,∀ (rows:List aU) (K:V->aA->Prop),K (.b (p e)) (h.set r (.arr 1 (rows.map bE)))->aC P g [.s e,.p (.g k) 0] (h.set r (.arr 1 (rows.map bE))) K) {K:V->aA->Prop}
 (hK:K (.ms (.g r) 1 0 (l.filter fun e=>!p e).length) (h.set r (.arr 1 ((l.filter fun e=>!p e).map bE)))):
 aC P 78 [.ms (.g r) 1 0 l.length,.fn g [] [.p (.g k) 0]] h K:=by
 have mT:∀ (n:Int),gQ p l=n->∀ {K:V->aA->Prop},K (.i .i64 n) h->aC P 155 [.ms (.g r) 1 0 l.length,.fn g [] [.p (.g k) 0]] h K:=fun n hn K hK=>
  Vr (hG _ AF.f155 rfl) (p:=p) (by omega) hr (fun e he K hK=>by
   have:=hg e he l K
   rw [gX hr] at this
   exact this hK) (hn▸hK)
 refine aC.shrink (r:=r) (sz:=1) (aQ (hG _ AF.f78 rfl) rfl ?_)
 cases Az:l.findIdx? p with
 |none=>
  ((conv=>whnf);repeat ((first|refine dF.app (mT (-1) (E9 Az)) ?_|refine aH.ff rfl ?_|refine aH.tt rfl ?_|refine bC.of rfl ?_|refine aM.mk rfl ?_|refine aT.mk rfl ?_|refine cK.of rfl ?_)<;>(conv=>whnf)))
  have fH:(l.filter fun e=>!p e)=l:=List.filter_eq_self.2 fun e he=>by
   have:=List.findIdx?_eq_none_iff.1 Az e he
   simp [this]
  rw [fH] at hK
  exact ⟨_,l.length,hr,by rw [List.take_of_length_le (by rw [List.length_map];omega)];exact hK⟩
 |some i0=>
  rw [List.findIdx?_eq_some_iff_getElem] at Az
  obtain ⟨Ds,F8,uH⟩:=Az
  have Az:l.findIdx? p=some i0:=by rw [List.findIdx?_eq_some_iff_getElem];exact ⟨Ds,F8,uH⟩
  have MV:pI (fun e=>!p e) l l i0 (i0+1):=pI.start (List.getElem?_eq_getElem Ds) (by simp [F8]) fun j y hj hy=>by
   have:=uH j hj
   rw [List.getElem?_eq_getElem (by omega)] at hy
   cases hy
   simpa using this
  ((conv=>whnf);repeat ((first|refine dF.app (mT i0 (E8 Az)) ?_|refine aH.df (by omega) ?_|refine aR.gA (by omega) (by omega) ?_|refine aH.ff rfl ?_|refine aH.tt rfl ?_|refine bC.of rfl ?_|refine aM.mk rfl ?_|refine aT.mk rfl ?_|refine cK.of rfl ?_)<;>(conv=>whnf)))
  refine b8.by (fun q fr st=>∃ (i j:Nat) (row:List aU),q=l.length - j/\pI (fun e=>!p e) l row i j/\
   Fr.le [(6,.i .i64 j),(5,.i .i64 i),(1,.fn g [] [.p (.g k) 0]),(0,.ms (.g r) 1 0 l.length)] fr/\st=dP (h.set r (.arr 1 (row.map bE))))
   (l.length - (i0+1)) ⟨i0,i0+1,l,rfl,MV,cT,by rw [gX hr]⟩ ?_
  rintro q fr st ⟨i,j,row,rfl,Jw,hle,rfl⟩
  refine ⟨_,hle,fun R hR=>?_⟩
  have eO:∀ rows:List aU,(h.set r (.arr 1 (rows.map bE))).get r=some (.arr 1 (rows.map bE)):=fun rows=>aA.aD hr
  have L0:=Jw.len
  have cO:=Jw.lt
  have QZ:=Jw.le
  have ZK:(row.map bE).length=row.length:=List.length_map _
  ((conv=>whnf);repeat ((first|refine aH.ff rfl ?_|refine aH.tt rfl ?_|refine bC.of rfl ?_|refine aM.mk rfl ?_|refine aT.mk rfl ?_|refine cK.of rfl ?_)<;>(conv=>whnf)))
  refine aH.ds (fun JD=>?_) (fun fE=>?_)
  · have hj:j<l.length:=by omega
    have he:=List.getElem?_eq_getElem hj
    have hm:=List.getElem_mem hj
    generalize l[j]=e at he hm
    have QC:row[j]? =some e:=by rw [Jw.rest j (Nat.le_refl _)];exact he
    ((conv=>whnf);repeat ((first|refine aM.ix (by omega) (by omega) ?_|refine aH.ff rfl ?_|refine aH.tt rfl ?_|refine bC.of rfl ?_|refine aM.mk rfl ?_|refine aT.mk rfl ?_|refine cK.of (eO _) ?_|refine cK.of (aF (by omega) QC) ?_|refine cK.of rfl ?_)<;>(conv=>whnf)))
    refine dF.mk (hg e hm row _ ?_)
    ((conv=>whnf);repeat ((first|refine aH.ff rfl ?_|refine aH.tt rfl ?_|refine bC.of rfl ?_|refine aM.mk rfl ?_|refine aT.mk rfl ?_|refine cK.of rfl ?_)<;>(conv=>whnf)))
    cases JQ:p e
    · have hy:=List.getElem?_eq_getElem (by omega:i<row.length)
      generalize row[i]'(by omega)=y at hy
      ((conv=>whnf);repeat ((first|refine aH.tt (by rw [JQ];rfl) ?_|refine aM.ix (by omega) (by omega) ?_|refine aR.gA (by omega) (by omega) ?_|refine aH.ff rfl ?_|refine aH.tt rfl ?_|refine bC.of rfl ?_|refine aM.mk rfl ?_|refine aT.mk rfl ?_|refine cK.of (eO _) ?_|refine cK.of (aF (by omega) hy) ?_|refine cK.of rfl ?_)<;>(conv=>whnf)))
      refine hR (l.length - (j+1)) _ _ (by omega) ⟨i+1,j+1,row.set i e,rfl,Jw.dZ he (by simp [JQ]),cT,?_⟩
      show dP ((h.set r (.arr 1 (row.map bE))).set r (.arr 1 ((row.map bE).set (0+((i:Nat):Int).toNat) (bE e))))=_
      rw [lT,Fe,Nat.zero_add]
      rfl
    · ((conv=>whnf);repeat ((first|refine aH.ff (by rw [JQ];rfl) ?_|refine aR.gA (by omega) (by omega) ?_|refine aH.ff rfl ?_|refine aH.tt rfl ?_|refine bC.of rfl ?_|refine aM.mk rfl ?_|refine aT.mk rfl ?_|refine cK.of rfl ?_)<;>(conv=>whnf)))
      exact hR (l.length - (j+1)) _ _ (by omega) ⟨i,j+1,row,rfl,Jw.skip he (by simp [JQ]),cT,rfl⟩
  · obtain ⟨h1,h2⟩:=Jw.end (by omega)
    have hi:i<=row.length:=by omega
    ((conv=>whnf);repeat ((first|refine aM.d3 (by omega) (by omega) (by omega) ?_|refine aM.d (by omega) ?_|refine aM.d3 (by omega) (by omega) (by simp [L0];omega) ?_|refine aH.ff rfl ?_|refine aH.tt rfl ?_|refine bC.of rfl ?_|refine aM.mk rfl ?_|refine aT.mk rfl ?_|refine cK.of (eO _) ?_|refine cK.of (aA.aD (eO _)) ?_|refine cK.of rfl ?_)<;>(conv=>whnf)))
    have e0:∀ X:List (List V),List.take i (List.take (0+i) (row.map bE)++X++List.drop (0+i+(l.length - i)) (row.map bE))=(l.filter fun e=>!p e).map bE:=fun X=>by
     rw [Nat.zero_add,List.append_assoc,List.take_append_of_le_length (by rw [List.length_take];omega),List.take_of_length_le (by rw [List.length_take];omega),<-List.map_take,h2]
    refine ⟨_,i,aA.aD (eO _),?_⟩
    show K (.ms (.g r) 1 0 i) (((h.set r (.arr 1 (row.map bE))).set r _).set r (.arr 1 (List.take i (List.take (0+i) (row.map bE)++List.replicate (l.length - i) [vS]++List.drop (0+i+(l.length - i)) (row.map bE)))))
    rw [lT,lT,e0,h1]
    exact hK
end
open Go
def MW:List V:=[.s [],.i .i64 0,.i .i64 0,.i .i64 0,.i .i64 0,.i .i64 0,.aS,.aS,.aS,.aS,.s [],.aS,.i .i64 0,.aS,.s [],.i .i64 0]
section
variable {P:Program} (hG:bP P AF.fns.get)
include hG
theorem PJ {l:List aL} {g k r:Nat} {h:aA} {p:aL->Bool} (hl:l.length<=1000) (hr:h.get r=some (.arr 16 (l.map aI)))
 (hg:∀ e∈l,∀ (rows:List aL) (K:V->aA->Prop),K (.b (p e)) (h.set r (.arr 16 (rows.map aI)))->aC P g [.agg (aI e),.p (.g k) 0] (h.set r (.arr 16 (rows.map aI))) K) {K:V->aA->Prop}
 (hK:K (.ms (.g r) 16 0 (l.filter fun e=>!p e).length) (h.set r (.arr 16 ((l.filter fun e=>!p e).map aI)))):
 aC P 72 [.ms (.g r) 16 0 l.length,.fn g [] [.p (.g k) 0]] h K:=by
 have mT:∀ (n:Int),gQ p l=n->∀ {K:V->aA->Prop},K (.i .i64 n) h->aC P 85 [.ms (.g r) 16 0 l.length,.fn g [] [.p (.g k) 0]] h K:=fun n hn K hK=>
  Vp (hG _ AF.f85 rfl) (p:=p) (by omega) hr (fun e he K hK=>by
   have:=hg e he l K
   rw [gX hr] at this
   exact this hK) n hn hK
 refine aC.shrink (r:=r) (sz:=16) (aQ (hG _ AF.f72 rfl) rfl ?_)
 cases Az:l.findIdx? p with
 |none=>
  ((conv=>whnf);repeat ((first|refine dF.app (mT (-1) (E9 Az)) ?_|refine aH.ff rfl ?_|refine aH.tt rfl ?_|refine bC.of rfl ?_|refine aM.mk rfl ?_|refine aT.mk rfl ?_|refine cK.of rfl ?_)<;>(conv=>whnf)))
  have fH:(l.filter fun e=>!p e)=l:=List.filter_eq_self.2 fun e he=>by
   have:=List.findIdx?_eq_none_iff.1 Az e he
   simp [this]
  rw [fH] at hK
  exact ⟨_,l.length,hr,by rw [List.take_of_length_le (by rw [List.length_map];omega)];exact hK⟩
 |some i0=>
  rw [List.findIdx?_eq_some_iff_getElem] at Az
  obtain ⟨Ds,F8,uH⟩:=Az
  have Az:l.findIdx? p=some i0:=by rw [List.findIdx?_eq_some_iff_getElem];exact ⟨Ds,F8,uH⟩
  have MV:pI (fun e=>!p e) l l i0 (i0+1):=pI.start (List.getElem?_eq_getElem Ds) (by simp [F8]) fun j y hj hy=>by
   have:=uH j hj
   rw [List.getElem?_eq_getElem (by omega)] at hy
   cases hy
   simpa using this
  ((conv=>whnf);repeat ((first|refine dF.app (mT i0 (E8 Az)) ?_|refine aH.df (by omega) ?_|refine aR.gA (by omega) (by omega) ?_|refine aH.ff rfl ?_|refine aH.tt rfl ?_|refine bC.of rfl ?_|refine aM.mk rfl ?_|refine aT.mk rfl ?_|refine cK.of rfl ?_)<;>(conv=>whnf)))
  refine b8.by (fun q fr st=>∃ (i j:Nat) (row:List aL),q=l.length - j/\pI (fun e=>!p e) l row i j/\
   Fr.le [(6,.i .i64 j),(5,.i .i64 i),(1,.fn g [] [.p (.g k) 0]),(0,.ms (.g r) 16 0 l.length)] fr/\∃ L:aA,st=⟨h.set r (.arr 16 (row.map aI)),L⟩)
   (l.length - (i0+1)) ⟨i0,i0+1,l,rfl,MV,cT,GD,by rw [gX hr]⟩ ?_
  rintro q fr st ⟨i,j,row,rfl,Jw,hle,L,rfl⟩
  refine ⟨_,hle,fun R hR=>?_⟩
  have eO:∀ rows:List aL,(h.set r (.arr 16 (rows.map aI))).get r=some (.arr 16 (rows.map aI)):=fun rows=>aA.aD hr
  have L0:=Jw.len
  have cO:=Jw.lt
  have QZ:=Jw.le
  have ZK:(row.map aI).length=row.length:=List.length_map _
  ((conv=>whnf);repeat ((first|refine aH.ff rfl ?_|refine aH.tt rfl ?_|refine bC.of rfl ?_|refine aM.mk rfl ?_|refine aT.mk rfl ?_|refine cK.of rfl ?_)<;>(conv=>whnf)))
  refine aH.ds (fun JD=>?_) (fun fE=>?_)
  · have hj:j<l.length:=by omega
    have he:=List.getElem?_eq_getElem hj
    have hm:=List.getElem_mem hj
    generalize l[j]=e at he hm
    have QC:row[j]? =some e:=by rw [Jw.rest j (Nat.le_refl _)];exact he
    ((conv=>whnf);repeat ((first|refine aM.ix (by omega) (by omega) ?_|refine aH.ff rfl ?_|refine aH.tt rfl ?_|refine bC.of rfl ?_|refine aM.mk rfl ?_|refine aT.mk rfl ?_|refine cK.of (eO _) ?_|refine cK.of (aF (by omega) QC) ?_|refine cK.of rfl ?_)<;>(conv=>whnf)))
    refine cK.of (aA.aB L _) ?_
    ((conv=>whnf);repeat ((first|refine aH.ff rfl ?_|refine aH.tt rfl ?_|refine bC.of rfl ?_|refine aM.mk rfl ?_|refine aT.mk rfl ?_|refine cK.of rfl ?_)<;>(conv=>whnf)))
    refine cK.of (x:=.cs (aI e)) (aA.aD (aA.aB L _)) ?_
    ((conv=>whnf);repeat ((first|refine aH.ff rfl ?_|refine aH.tt rfl ?_|refine bC.of rfl ?_|refine aM.mk rfl ?_|refine aT.mk rfl ?_|refine cK.of rfl ?_)<;>(conv=>whnf)))
    refine dF.mk (hg e hm row _ ?_)
    ((conv=>whnf);repeat ((first|refine aH.ff rfl ?_|refine aH.tt rfl ?_|refine bC.of rfl ?_|refine aM.mk rfl ?_|refine aT.mk rfl ?_|refine cK.of rfl ?_)<;>(conv=>whnf)))
    cases JQ:p e
    · have hy:=List.getElem?_eq_getElem (by omega:i<row.length)
      generalize row[i]'(by omega)=y at hy
      ((conv=>whnf);repeat ((first|refine aH.tt (by rw [JQ];rfl) ?_|refine aM.ix (by omega) (by omega) ?_|refine aH.ff rfl ?_|refine aH.tt rfl ?_|refine bC.of rfl ?_|refine aM.mk rfl ?_|refine aT.mk rfl ?_|refine cK.of (eO _) ?_|refine cK.of rfl ?_)<;>(conv=>whnf)))
      refine cK.of (x:=.cs (aI e)) (aA.aD (aA.aB L _)) ?_
      ((conv=>whnf);repeat ((first|refine aM.ix (by omega) (by omega) ?_|refine aR.gA (by omega) (by omega) ?_|refine aH.ff rfl ?_|refine aH.tt rfl ?_|refine bC.of rfl ?_|refine aM.mk rfl ?_|refine aT.mk rfl ?_|refine cK.of (eO _) ?_|refine cK.of (aF (by omega) hy) ?_|refine cK.of rfl ?_)<;>(conv=>whnf)))
      refine hR (l.length - (j+1)) _ _ (by omega) ⟨i+1,j+1,row.set i e,rfl,Jw.dZ he (by simp [JQ]),cT,(L.push (.cs MW)).set L.next (.cs (aI e)),?_⟩
      show (⟨(h.set r (.arr 16 (row.map aI))).set r (.arr 16 ((row.map aI).set (0+((i:Nat):Int).toNat) (aI e))),(L.push (.cs MW)).set L.next (.cs (aI e))⟩:St)=_
      rw [lT,Fe,Nat.zero_add]
      rfl
    · ((conv=>whnf);repeat ((first|refine aH.ff (by rw [JQ];rfl) ?_|refine aR.gA (by omega) (by omega) ?_|refine aH.ff rfl ?_|refine aH.tt rfl ?_|refine bC.of rfl ?_|refine aM.mk rfl ?_|refine aT.mk rfl ?_|refine cK.of rfl ?_)<;>(conv=>whnf)))
      exact hR (l.length - (j+1)) _ _ (by omega) ⟨i,j+1,row,rfl,Jw.skip he (by simp [JQ]),cT,_,rfl⟩
  · obtain ⟨h1,h2⟩:=Jw.end (by omega)
    have hi:i<=row.length:=by omega
    ((conv=>whnf);repeat ((first|refine aM.d3 (by omega) (by omega) (by omega) ?_|refine aM.d (by omega) ?_|refine aM.d3 (by omega) (by omega) (by simp [L0];omega) ?_|refine aH.ff rfl ?_|refine aH.tt rfl ?_|refine bC.of rfl ?_|refine aM.mk rfl ?_|refine aT.mk rfl ?_|refine cK.of (eO _) ?_|refine cK.of (aA.aD (eO _)) ?_|refine cK.of rfl ?_)<;>(conv=>whnf)))
    have e0:∀ X:List (List V),List.take i (List.take (0+i) (row.map aI)++X++List.drop (0+i+(l.length - i)) (row.map aI))=(l.filter fun e=>!p e).map aI:=fun X=>by
     rw [Nat.zero_add,List.append_assoc,List.take_append_of_le_length (by rw [List.length_take];omega),List.take_of_length_le (by rw [List.length_take];omega),<-List.map_take,h2]
    refine ⟨_,i,aA.aD (eO _),?_⟩
    show K (.ms (.g r) 16 0 i) (((h.set r (.arr 16 (row.map aI))).set r _).set r (.arr 16 (List.take i (List.take (0+i) (row.map aI)++List.replicate (l.length - i) MW++List.drop (0+i+(l.length - i)) (row.map aI)))))
    rw [lT,lT,e0,h1]
    exact hK
end
open Go
theorem Made.row {P:Program} {f:Nat} {args:List V} {es:List aL} (h0:aC P f args iJ (Ch fun u sz rs=>u=.ms (.g 0) 16 0 es.length/\sz=16/\rs=es.map aI)) (ha:args.all V.free=true) {h:aA} {K:V->aA->Prop}
 (hK:K (.ms (.g h.next) 16 0 es.length) (h.push (.arr 16 (es.map aI)))):aC P f args h K:=
 h0.made ha fun u sz rs ⟨h1,h2,h3⟩=>by subst h1;subst h2;subst h3;exact hK
section
variable {P:Program} (hG:bP P AF.fns.get)
include hG
theorem Vs (s:dY) (node:aU) (hs:s.ok) (hr:∀ q∈s.aE,iM q) (dJ:oJ s node≠[]):
 aC P 69 [kS s,.s node] iJ (Ch fun u sz rs=>u=.ms (.g 0) 16 0 (oJ s node).length/\sz=16/\rs=(oJ s node).map aI):=by
 have gK:(s.aE.map aI).length=s.aE.length:=List.length_map _
 have hl:=hs.aE
 have wO:=hs.some
 unfold bQ at hl
 obtain ⟨f,hf⟩:∃ f:aL->Bool,f=fun p=>p.node==node&&!(node==[]):=⟨_,rfl⟩
 refine WJ (hG _ AF.f69 rfl) rfl ?_
 (refine zr ?_)
 refine bD.by (fun q fr st=>∃ (i:Nat) (b:Bool) (es:List aL) (n:Nat),i<=s.aE.length/\q=s.aE.length - i/\es=(s.aE.take i).filter f/\(b=false->es=[])/\n=es.length/\
  fr=[(11,.i .i64 i),(10,.i .i64 (s.aE.map aI).length),(9,.sl none 16 (s.aE.map aI)),(5,Yo b 16 n),(1,.s node)]/\st=⟨Yp b 16 (es.map aI),GD⟩)
  s.aE.length ⟨_,_,?_,0,false,[],0,Nat.zero_le _,rfl,rfl,fun _=>rfl,rfl,rfl,rfl⟩ ?_
 · exact Ak
 rintro q fr st ⟨i,b,es,n,hi,rfl,o8,hb,hn,rfl,rfl⟩ R hR
 have E6:es.length<=i:=by
  rw [o8]
  exact Nat.le_trans (List.length_filter_le _ _) (List.length_take_le _ _)
 have Dw:(es.map aI).length=es.length:=List.length_map _
 (conv=>whnf)
 refine aH.ds (fun cO=>?_) (fun fE=>?_)
 · have cZ:i<s.aE.length:=by omega
   have he:=List.getElem?_eq_getElem cZ
   have SN:=hr _ (List.getElem_mem cZ)
   generalize s.aE[i]=e at he SN
   have hc:=copyPod_ok hG e SN
   have h1:f e=true->es++[e]=(s.aE.take (i+1)).filter f:=fun h=>by
    rw [cG he,List.filter_append,<-o8]
    simp [h]
   have h0:f e=false->es=(s.aE.take (i+1)).filter f:=fun h=>by
    rw [cG he,List.filter_append,<-o8]
    simp [h]
   cases b
   · obtain rfl:es=[]:=hb rfl
     ((conv=>whnf);repeat' ((first|refine cA (Pure.go hc rfl) ?_|refine ye (aF (by omega) he) ?_|refine zz ?_|refine aH.ds (fun _=>?_) (fun _=>?_)|refine aH.ns (fun _=>?_) (fun _=>?_)|refine aH.mk (fun _=>?_) (fun _=>?_)|(intro r hr;cases r))<;>(conv=>whnf)))
     · have jE:f e=true:=by rw [hf];simp_all
       refine hR (s.aE.length - (i+1)) _ _ (by omega) ⟨_,_,?_,i+1,true,[]++[e],1,by omega,rfl,h1 jE,(fun h=>by cases h),rfl,rfl,rfl⟩
       exact tG [1] []
     all_goals
      have jE:f e=false:=by rw [hf];simp_all
      refine hR (s.aE.length - (i+1)) _ _ (by omega) ⟨_,_,?_,i+1,false,[],0,by omega,rfl,h0 jE,(fun _=>rfl),rfl,rfl,rfl⟩
      exact Ak
   · ((conv=>whnf);repeat' ((first|refine cA (Pure.go hc rfl) ?_|refine aM.mk (by simp [bT];omega) ?_|refine aH.df (by simp only [List.length_cons,List.length_nil,List.length_map];omega) ?_|refine ye (aF (by omega) he) ?_|refine zz ?_|refine aH.ds (fun _=>?_) (fun _=>?_)|refine aH.ns (fun _=>?_) (fun _=>?_)|refine aH.mk (fun _=>?_) (fun _=>?_)|(intro r hr;cases r))<;>(conv=>whnf)))
     · have jE:f e=true:=by rw [hf];simp_all
       refine hR (s.aE.length - (i+1)) _ _ (by omega) ⟨_,_,?_,i+1,true,es++[e],n+1,by omega,rfl,h1 jE,(fun h=>by cases h),by simp [hn],rfl,rfl⟩
       exact tG [2] []
     all_goals
      have jE:f e=false:=by rw [hf];simp_all
      refine hR (s.aE.length - (i+1)) _ _ (by omega) ⟨_,_,?_,i+1,true,es,n,by omega,rfl,h0 jE,(fun h=>by cases h),hn,rfl,rfl⟩
      exact tG [0] []
 · have fH:es=oJ s node:=by
    rw [o8,List.take_of_length_le (by omega),hf]
    rfl
   cases b
   · exact absurd ((hb rfl).symm.trans fH).symm dJ
   · (refine zr ?_)
     rw [hn,fH]
     refine Ch.of (u:=.ms (.g 0) 16 0 (oJ s node).length) (sz:=16) (es:=(oJ s node).map aI) ?_ rfl (fun e he=>by obtain ⟨q,_,rfl⟩:=List.mem_map.1 he;rfl) ⟨rfl,rfl,rfl⟩
     exact tG [0] []
theorem prioGe_ok {e p:aL} {h:aA} {k:Nat} (hc:h.get k=some (.cs (aI p))) {K:V->aA->Prop} (hK:K (.b (decide (p.prio<=e.prio))) h):aC P 73 [.agg (aI e),.p (.g k) 0] h K:=by
 refine aQ (hG _ AF.f73 rfl) rfl ?_
 ((conv=>whnf);repeat ((first|refine aH.ff rfl ?_|refine aH.tt rfl ?_|refine bC.of rfl ?_|refine aM.mk rfl ?_|refine aT.mk rfl ?_|refine cK.of (hc) ?_|refine cK.of rfl ?_)<;>(conv=>whnf)))
 exact hK
theorem nameIs_ok {n:aU} {q:aL} {h:aA} {k:Nat} (hc:h.get k=some (.cs (aI q))) {K:V->aA->Prop} (hK:K (.b (n==q.name)) h):aC P 80 [.s n,.p (.g k) 0] h K:=by
 refine aQ (hG _ AF.f80 rfl) rfl ?_
 ((conv=>whnf);repeat ((first|refine aH.ff rfl ?_|refine aH.tt rfl ?_|refine bC.of rfl ?_|refine aM.mk rfl ?_|refine aT.mk rfl ?_|refine cK.of (hc) ?_|refine cK.of rfl ?_)<;>(conv=>whnf)))
 exact hK
theorem cmpV_ok (eK:gZ P) (a b:aL):Pure P 75 [.agg (aI a),.agg (aI b)] (·=.i .i64 (SV a b)):=by
 have h1:=cmpInt_ok hG b.prio a.prio
 have h2:=compare_ok hG eK a.name b.name
 unfold SV
 generalize Cl b.prio a.prio=u at h1
 generalize jV a.name b.name=v at h2
 refine aP (hG _ AF.f75 rfl) rfl ?_
 by_cases h:u=0
 · subst h
   (refine iG @h1 @h2 ?_)
   exact aG rfl rfl
 · (refine iG @h1 @h2 ?_)
   refine aG rfl ?_
   rw [if_neg h]
end
open Go
def Bd (P:Program) (f g:Nat):Prop:=
 ∀ (l:List aU) (r:Nat) (h:aA) (K:V->aA->Prop),l.length<=1000->h.get r=some (.arr 1 (l.map bE))->K (.bY []) (h.set r (.arr 1 ((tH l).map bE)))->aC P f [.ms (.g r) 1 0 l.length,.fn g [] []] h K
def acO (o:Option (List aU)):V:=
 match o with
 |some l=>.bY [.sl none 1 (l.map bE),.b true]
 |none=>.bY [.sl none 1 [],.b false]
theorem PK {Q:V->Prop} {k sz a n:Nat} {b:Bool} {es ds:List (List V)} {h':aA} (h:h'.get k=some (.arr sz es)) (hd:eC es=some ds) (hn:a+n<=ds.length) (hq:Q (.bY [.sl none sz ((ds.drop a).take n),.b b])):qQ Q (.bY [.ms (.g k) sz a n,.b b]) h':=
 yD (u:=.bY [.sl none sz ((ds.drop a).take n),.b b]) (Uz k sz ds) (IT h hd) (.inr ⟨_,_,rfl,rfl,.inl (.ZD (by simp [Uz]) hn rfl),qP rfl,trivial⟩) rfl hq
theorem tI {Q:V->Prop} {sz:Nat} {b:Bool} {h':aA} (hq:Q (.bY [.sl none sz [],.b b])):qQ Q (.bY [.aS,.b b]) h':=
 yD (u:=.bY [.sl none sz [],.b b]) gG mG (.inr ⟨_,_,rfl,rfl,.inl .nil,qP rfl,trivial⟩) rfl hq
def aiB (b:Bool) (n:Nat):V:=
 match b with
 |true=>.ms (.g 2) 1 0 n
 |false=>.aS
def acP (b:Bool) (p:aL) (lo:List aL) (gs:List aU):aA:=
 match b with
 |true=>⟨3,[(2,.arr 1 (gs.map bE)),(1,.arr 16 (lo.map aI)),(0,.cs (aI p))]⟩
 |false=>⟨2,[(1,.arr 16 (lo.map aI)),(0,.cs (aI p))]⟩
theorem dY.ok.NC {s:dY} (h:s.ok) (gs:List aU):(aW s gs).ok:=by
 have hl:(aW s gs).aE.length<=s.aE.length:=List.length_filter_le _ _
 exact ⟨h.nodes,Nat.le_trans hl h.aE,h.node,fun q hq=>h.pT q (List.mem_filter.1 hq).1,Nat.le_trans (Nat.mul_le_mul_right _ hl) h.some⟩
section
variable {P:Program} (hG:bP P AF.fns.get)
include hG
theorem vict_ok (eK:gZ P) (hS:Bd P 81 61)
 (s:dY) (p:aL) (node:aU) (hs:s.ok) (hp:p.fit) (wO:Small s) (h6:s.nodes.length<=1000) (h19:s.aE.length<=19) (hr:∀ q∈s.aE,iM q):
 Pure P 24 [kS s,.agg (aI p),.s node] (·=acO (mJ s p node)):=by
 have MT:(oJ s node).length<=19:=Nat.le_trans (List.length_filter_le _ _) h19
 have jE:=fun gs=>feas_ok hG (aW s gs) p node (hs.NC gs) hp (show Small (aW s gs) from wO)
 have Uu:=without_ok hG s [] h6 hs wO hr (Nat.zero_le _)
 refine aP (hG _ AF.f24 rfl) rfl ?_
 cases eN:oJ s node with
 |nil=>
  have ho:=on_ok hG s node hs hr
  rw [eN] at ho
  have hv:mJ s p node=if gR (aW s []) p node then some [] else none:=by
   unfold mJ mI
   rw [eN]
   simp [iN,iD,tH]
  rw [hv]
  have hf:=jE []
  generalize gR (aW s []) p node=x at hf
  cases x
  · ((conv=>whnf);repeat ((first|refine cA (Pure.go ho rfl) ?_|refine cA (Pure.EV Uu Yl rfl) ?_|refine cA (Pure.go hf rfl) ?_|refine cA (jX (hG _ _ rfl) rfl) ?_|refine sI.un rfl ?_|refine zz ?_|refine bD.un rfl ?_)<;>(conv=>whnf)))
    exact tI (sz:=1) rfl
  · ((conv=>whnf);repeat ((first|refine cA (Pure.go ho rfl) ?_|refine cA (Pure.EV Uu Yl rfl) ?_|refine cA (Pure.go hf rfl) ?_|refine cA (jX (hG _ _ rfl) rfl) ?_|refine sI.un rfl ?_|refine aR.of (by decide) (by decide) ?_|refine zz ?_|refine bD.un rfl ?_)<;>(conv=>whnf)))
    exact tI (sz:=1) rfl
 |cons q0 r0=>
  have hm:=Vs hG s node hs hr (by rw [eN];exact List.cons_ne_nil _ _)
  clear eN
  obtain ⟨on,iW⟩:∃ on,on=oJ s node:=⟨_,rfl⟩
  rw [<-iW] at hm MT
  obtain ⟨lo,O6⟩:∃ lo,lo=mI s p node:=⟨_,rfl⟩
  have acQ:iN (fun a b=>decide (SV a b<0)) (on.filter fun q=>!decide (p.prio<=q.prio))=lo:=by rw [O6,iW];rfl
  have vG:(on.filter fun q=>!decide (p.prio<=q.prio)).length<=19:=Nat.le_trans (List.length_filter_le _ _) MT
  have aiD:lo.length=(on.filter fun q=>!decide (p.prio<=q.prio)).length:=by rw [<-acQ,iN,uG];simp
  have Gt:∀ (h:aA) (K:V->aA->Prop),h.get 1=some (.arr 16 (on.map aI))->h.get 0=some (.cs (aI p))->K (.ms (.g 1) 16 0 (on.filter fun q=>!decide (p.prio<=q.prio)).length) (h.set 1 (.arr 16 ((on.filter fun q=>!decide (p.prio<=q.prio)).map aI)))->
   aC P 72 [.ms (.g 1) 16 0 on.length,.fn 73 [] [.p (.g 0) 0]] h K:=fun h K h1 h0 hK=>
   PJ hG (p:=fun q=>decide (p.prio<=q.prio)) (by omega) h1 (fun e _ rows K hK=>prioGe_ok hG (by rw [aA.iL (by decide)];exact h0) hK) hK
  have Ta:∀ (h:aA) (K:V->aA->Prop),h.get 1=some (.arr 16 ((on.filter fun q=>!decide (p.prio<=q.prio)).map aI))->K (.bY []) (h.set 1 (.arr 16 (lo.map aI)))->
   aC P 74 [.ms (.g 1) 16 0 (on.filter fun q=>!decide (p.prio<=q.prio)).length,.fn 75 [] []] h K:=fun h K h1 hK=>
   MU hG SV _ (fun a b=>cmpV_ok hG eK a b) _ vG h1 (by rw [acQ];exact hK)
  ((conv=>whnf);repeat ((first|refine cA (Made.row hm rfl) ?_|refine cA (Gt _ _ rfl rfl) ?_|refine cA (Ta _ _ rfl) ?_|refine zz ?_)<;>(conv=>whnf)))
  have gK:(lo.map aI).length=lo.length:=List.length_map _
  rw [<-aiD]
  refine bD.by (fun q fr st=>∃ (i:Nat) (b:Bool) (es:List aU) (n:Nat),i<=lo.length/\q=lo.length - i/\es=(lo.take i).map (·.name)/\(b=false->es=[])/\n=es.length/\
   fr=[(24,.i .i64 i),(23,.i .i64 lo.length),(22,.ms (.g 1) 16 0 lo.length),(9,aiB b n),(8,.ms (.g 1) 16 0 lo.length),(4,.p (.g 0) 0),(3,.p (.l 0) 0),(2,.s node)]/\
   st=⟨acP b p lo es,⟨1,[(0,.cs [.sl none 6 (s.nodes.map aK),.sl none 16 (s.aE.map aI)])]⟩⟩)
   lo.length ⟨_,_,?_,0,false,[],0,Nat.zero_le _,rfl,rfl,fun _=>rfl,rfl,rfl,rfl⟩ ?_
  · exact tG [0,1] [0]
  rintro q fr st ⟨i,b,es,n,hi,rfl,o8,hb,hn,rfl,rfl⟩ R hR
  have E6:es.length=i:=by rw [o8,List.length_map,List.length_take];omega
  (conv=>whnf)
  refine aH.ds (fun cO=>?_) (fun fE=>?_)
  · have cZ:i<lo.length:=by omega
    have he:=List.getElem?_eq_getElem cZ
    generalize lo[i]=e at he
    have h1:es++[e.name]=(lo.take (i+1)).map (·.name):=by rw [cG he,List.map_append,<-o8];rfl
    cases b
    · obtain rfl:es=[]:=hb rfl
      (refine cD @he ?_)
      refine hR (lo.length - (i+1)) _ _ (by omega) ⟨_,_,?_,i+1,true,[]++[e.name],1,by omega,rfl,h1,(fun h=>by cases h),rfl,rfl,rfl⟩
      exact tG [0,1,3] [0]
    · have Dw:(es.map bE).length=es.length:=List.length_map _
      have hint:List.drop 0 (List.take (0+n) (es.map bE))++[bE e.name]=(es++[e.name]).map bE:=by
       rw [Nat.zero_add,List.drop_zero,List.take_of_length_le (by omega),List.map_append];rfl
      (refine zx2 (congrArg some hint) @he ?_)
      refine hR (lo.length - (i+1)) _ _ (by omega) ⟨_,_,?_,i+1,true,es++[e.name],n+1,by omega,rfl,h1,(fun h=>by cases h),by simp [hn],rfl,rfl⟩
      exact tG [0,1,4] [0]
  clear hR
  have fH:es=lo.map (·.name):=by rw [o8,List.take_of_length_le (by omega)]
  have hv:mJ s p node=if gR (aW s es) p node then some (tH (iD s p node lo es)) else none:=by
   unfold mJ
   rw [<-O6,fH]
  rw [hv]
  have hf:=jE es
  cases b
  · obtain rfl:es=[]:=hb rfl
    have aiE:lo=[]:=List.map_eq_nil_iff.1 fH.symm
    subst aiE
    have Pm:tH (iD s p node [] [])=[]:=by simp [iD,tH]
    rw [Pm]
    generalize gR (aW s []) p node=x at hf
    cases x
    · ((conv=>whnf);repeat ((first|refine cA (Pure.EV Uu Yl rfl) ?_|refine cA (Pure.go hf rfl) ?_|refine zz ?_|refine bD.un rfl ?_)<;>(conv=>whnf)))
      exact tI (sz:=1) rfl
    · ((conv=>whnf);repeat ((first|refine cA (Pure.EV Uu Yl rfl) ?_|refine cA (Pure.go hf rfl) ?_|refine cA (jX (hG _ _ rfl) rfl) ?_|refine sI.un rfl ?_|refine aR.of (by decide) (by decide) ?_|refine zz ?_|refine bD.un rfl ?_)<;>(conv=>whnf)))
      exact tI (sz:=1) rfl
  · have CS:∀ (gs:List aU) (k:Nat) (h:aA) (K:V->aA->Prop),gs.length<=1000->h.get k=some (.arr 1 (gs.map bE))->K (kS (aW s gs)) h->aC P 77 [kS s,.ms (.g k) 1 0 gs.length] h K:=fun gs k h K Js hk hK=>IZ hG s gs Js h6 hs wO hr hk hK
    have acR:es.length<=19:=by omega
    subst hn
    generalize gR (aW s es) p node=x at hf
    cases x
    · ((conv=>whnf);repeat ((first|refine cA (CS es 2 _ _ (by omega) rfl) ?_|refine cA (Pure.go hf rfl) ?_|refine zz ?_)<;>(conv=>whnf)))
      exact tI (sz:=1) rfl
    · ((conv=>whnf);repeat ((first|refine cA (CS es 2 _ _ (by omega) rfl) ?_|refine cA (Pure.go hf rfl) ?_|refine zz ?_)<;>(conv=>whnf)))
      clear fH hv o8
      refine bD.by (fun q fr st=>∃ (i:Nat) (G:List aU),i<=lo.length/\q=lo.length - i/\G.length<=19/\iD s p node lo es=iD s p node (lo.drop i) G/\
       fr=[(43,.i .i64 i),(42,.i .i64 lo.length),(41,.ms (.g 1) 16 0 lo.length),(9,.ms (.g 2) 1 0 G.length),(4,.p (.g 0) 0),(3,.p (.l 0) 0),(2,.s node)]/\
       st=⟨acP true p lo G,⟨1,[(0,.cs [.sl none 6 (s.nodes.map aK),.sl none 16 (s.aE.map aI)])]⟩⟩)
        lo.length ⟨_,_,?_,0,es,Nat.zero_le _,rfl,acR,rfl,rfl,rfl⟩ ?_
      · exact tG [0,1,2] [0]
      clear hf acR
      generalize iD s p node lo es=KK
      rintro q fr st ⟨i,G,hi,rfl,hGl,hK,rfl,rfl⟩ R hR
      (conv=>whnf)
      refine aH.ds (fun cO=>?_) (fun fE=>?_)
      · have cZ:i<lo.length:=by omega
        have he:=List.getElem?_eq_getElem cZ
        have AB:lo.drop i=lo[i]::lo.drop (i+1):=List.drop_eq_getElem_cons cZ
        rw [AB,iD] at hK
        generalize lo[i]=e at he hK
        have hf:=jE (Fg G e)
        have L8:(Fg G e).length<=19:=Nat.le_trans (List.length_filter_le _ _) hGl
        have Gt:∀ (c:Nat) (h:aA) (K:V->aA->Prop),c≠3->h.get c=some (.arr 1 (G.map bE))->h.get 3=some (.cs (aI e))->K (.ms (.g c) 1 0 (Fg G e).length) (h.set c (.arr 1 ((Fg G e).map bE)))->
         aC P 78 [.ms (.g c) 1 0 G.length,.fn 80 [] [.p (.g 3) 0]] h K:=fun c h K hc h1 h0 hK=>
         PI hG (p:=fun n=>n==e.name) (by omega) h1 (fun n _ rows K hK=>nameIs_ok hG (by rw [aA.iL (Ne.symm hc)];exact h0) hK) hK
        generalize Fg G e=L at hf L8 Gt hK
        generalize gR (aW s L) p node=y at hf hK
        cases G with
        |nil=>
         cases y
         · ((conv=>whnf);repeat ((first|refine cA (CR hG (Nat.ne_of_beq_eq_false rfl) rfl) ?_|refine cA (Gt 4 _ _ (by decide) rfl rfl) ?_|refine cA (CS L 4 _ _ (by omega) rfl) ?_|refine cA (Pure.go hf rfl) ?_|refine ye (aF (by omega) he) ?_|refine zz ?_)<;>(conv=>whnf)))
           refine hR (lo.length - (i+1)) _ _ (by omega) ⟨_,_,?_,i+1,[],by omega,rfl,by simp,hK,rfl,rfl⟩
           exact tG [0,1,2] [0]
         · ((conv=>whnf);repeat ((first|refine cA (CR hG (Nat.ne_of_beq_eq_false rfl) rfl) ?_|refine cA (Gt 4 _ _ (by decide) rfl rfl) ?_|refine cA (CS L 4 _ _ (by omega) rfl) ?_|refine cA (Pure.go hf rfl) ?_|refine ye (aF (by omega) he) ?_|refine zz ?_)<;>(conv=>whnf)))
           refine hR (lo.length - (i+1)) _ _ (by omega) ⟨_,_,?_,i+1,L,by omega,rfl,L8,hK,rfl,rfl⟩
           exact tG [0,1,4] [0]
        |cons g0 gr=>
         cases y
         · ((conv=>whnf);repeat ((first|refine cA (Bc hG g0 gr (by omega) (Nat.ne_of_beq_eq_false rfl) rfl) ?_|refine cA (Gt 5 _ _ (by decide) rfl rfl) ?_|refine cA (CS L 5 _ _ (by omega) rfl) ?_|refine cA (Pure.go hf rfl) ?_|refine ye (aF (by omega) he) ?_|refine zz ?_)<;>(conv=>whnf)))
           refine hR (lo.length - (i+1)) _ _ (by omega) ⟨_,_,?_,i+1,g0::gr,by omega,rfl,hGl,hK,rfl,rfl⟩
           exact tG [0,1,2] [0]
         · ((conv=>whnf);repeat ((first|refine cA (Bc hG g0 gr (by omega) (Nat.ne_of_beq_eq_false rfl) rfl) ?_|refine cA (Gt 5 _ _ (by decide) rfl rfl) ?_|refine cA (CS L 5 _ _ (by omega) rfl) ?_|refine cA (Pure.go hf rfl) ?_|refine ye (aF (by omega) he) ?_|refine zz ?_)<;>(conv=>whnf)))
           refine hR (lo.length - (i+1)) _ _ (by omega) ⟨_,_,?_,i+1,L,by omega,rfl,L8,hK,rfl,rfl⟩
           exact tG [0,1,5] [0]
      · have Yu:lo.drop i=[]:=List.drop_of_length_le (by omega)
        rw [Yu,iD] at hK
        rw [hK]
        ((conv=>whnf);repeat ((first|refine cA (hS G 2 _ _ (by omega) rfl) ?_|refine zz ?_)<;>(conv=>whnf)))
        have XD:(tH G).length=G.length:=(List.mergeSort_perm G _).length_eq
        refine PK rfl (gI (fun _=>rfl) (tH G)) (by rw [List.length_map];omega) ?_
        rw [List.drop_zero,List.take_of_length_le (by rw [List.length_map];omega)]
        rfl
end
open Go
section
variable {P:Program} (hG:bP P AF.fns.get)
include hG
theorem statePod_ok (s:dY) (name:aU) (hl:bQ s.aE) (hs:∀ q∈s.aE,iM q):Pure P 217 [kS s,.s name] (·=Vo (s.aE.find? fun p=>p.name==name)):=by
 have gK:(s.aE.map aI).length=s.aE.length:=List.length_map _
 unfold bQ at hl
 refine aP (hG _ AF.f217 rfl) rfl ?_
 (refine zr ?_)
 refine bD.by (fun q fr st=>∃ i:Nat,i<=s.aE.length/\q=s.aE.length - i/\cJ (fun p=>p.name==name) s.aE i/\
  fr=[(11,.i .i64 i),(10,.i .i64 (s.aE.map aI).length),(9,.sl none 16 (s.aE.map aI)),(4,.p (.l 0) 0),(1,.s name)]/\st=⟨iJ,⟨1,[(0,.cs (aI KA))]⟩⟩)
  s.aE.length ⟨_,_,?_,0,Nat.zero_le _,rfl,cJ.zero,rfl,rfl⟩ ?_
 · exact tL [1]
 rintro q fr st ⟨i,hi,rfl,dW,rfl,rfl⟩ R hR
 (conv=>whnf)
 refine aH.ds (fun cO=>?_) (fun fE=>?_)
 · have cZ:i<s.aE.length:=by omega
   have he:=List.getElem?_eq_getElem cZ
   have hm:=List.getElem_mem cZ
   generalize s.aE[i]=e at he hm
   have hc:=copyPod_ok hG e (hs e hm)
   (refine cD @he ?_)
   refine aH.mk (fun hp=>?_) (fun hp=>?_)
   · (refine cD @hc ?_)
     rw [pR he hp dW]
     exact aG rfl rfl
   · (refine zr ?_)
     refine hR (s.aE.length - (i+1)) _ _ (by omega) ⟨_,_,?_,i+1,by omega,rfl,dW.succ he hp,rfl,rfl⟩
     exact tL [0]
 · (refine zr ?_)
   rw [pS (dW.all (by omega))]
   exact tE (ds:=aI KA) yZ rfl rfl
end
end Go.Eng
