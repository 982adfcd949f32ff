/-
slices.SortFunc of pods and nodes that are in order: up to 17 pods, up to 12 nodes.
-/
import Derived.Test.YtmfelikepmmjkaaGreatX38
import Derived.Test.YtmfelikepmmjkaaGreatX34
import Derived.Test.YtmfelikepmmjkaaGreatX35
import Derived.Test.YtmfelikepmmjkaaGreatX25
import Derived.Test.YtmfelikepmmjkaaGreatX36
import Derived.Test.YtmfelikepmmjkaaGreatX27
set_option linter.unusedVariables false
set_option linter.unusedSimpArgs false
set_option maxHeartbeats 16000000
set_option maxRecDepth 10000
namespace Go.Eng
open Go
section
variable {P:Program} (hG:bP P AF.fns.get)
include hG
theorem blen_at (n:Nat) (hn:n<=17):∃ r:Int,(13<=n->1<=r)/\∀ (h:aA) (K:V->aA->Prop),K (.i .i64 r) h->aC P 143 [.i .u64 n] h K:=by
 obtain ⟨v,hv⟩:∃ v,([0,1,2,2,3,3,3,3,4,4,4,4,4,4,4,4,5,5]:List Int)[n]? =some v:=⟨_,List.getElem?_eq_getElem (by simp;omega)⟩
 have:n=0\/n=1\/n=2\/n=3\/n=4\/n=5\/n=6\/n=7\/n=8\/n=9\/n=10\/n=11\/n=12\/n=13\/n=14\/n=15\/n=16\/n=17:=by omega
 refine ⟨v,?_,fun h K hK=>?_⟩
 · rcases this with rfl|rfl|rfl|rfl|rfl|rfl|rfl|rfl|rfl|rfl|rfl|rfl|rfl|rfl|rfl|rfl|rfl|rfl
   all_goals first|(intro Vy;omega)|(cases hv;intro _;decide)
 rcases this with rfl|rfl|rfl|rfl|rfl|rfl|rfl|rfl|rfl|rfl|rfl|rfl|rfl|rfl|rfl|rfl|rfl|rfl
 all_goals
  cases hv
  refine dU (hG _ AF.f143 rfl) rfl ?_
  ((conv=>whnf);repeat ((first|refine cA (dU (hG _ AF.f232 rfl) rfl) ?_|refine aR.of (by decide) (by decide) ?_|refine zz ?_)<;>(conv=>whnf)))
  exact hK
theorem so2_at (eK:gZ P) (es:List aL) (hl:es.length<=17) (hs:es.Pairwise fun a b=>bR a.name b.name) (i j:Nat) (Ry:i<j) (hj:j<es.length) (k:Nat) {h:aA} {K:V->aA->Prop} (hK:K (.bY [.i .i64 i,.i .i64 j]) h):
 aC P 343 [.sl none 16 (es.map aI),.i .i64 i,.i .i64 j,.p (.g k) 0,.fn 60 [] []] h K:=by
 have gK:(es.map aI).length=es.length:=List.length_map _
 have he:=List.getElem?_eq_getElem hj
 have hf:=List.getElem?_eq_getElem (show i<es.length by omega)
 generalize es[j]=e at he
 generalize es[i]'(by omega)=f at hf
 have jE:=fW (lF hs Ry hf he)
 have hc:=fun K hK=>scp_at (K:=K) hG eK e f (h:=h) hK
 generalize jV e.name f.name=c at jE hc
 refine dU (hG _ AF.f343 rfl) rfl ?_
 ((conv=>whnf);repeat ((first|refine aH.df (show ¬c<0 by omega) ?_|refine cA (hc _) ?_|refine aM.ix (by omega) (by omega) ?_|refine ye (aF (f:=aI) (by omega) he) ?_|refine ye (aF (f:=aI) (by omega) hf) ?_|refine zz ?_)<;>(conv=>whnf)))
 exact hK
theorem somed_at (eK:gZ P) (es:List aL) (hl:es.length<=17) (hs:es.Pairwise fun a b=>bR a.name b.name) (a b c:Nat) (PA:a<b) (hbc:b<c) (hc:c<es.length) (k:Nat) {h:aA} {K:V->aA->Prop} (hK:K (.i .i64 b) h):
 aC P 306 [.sl none 16 (es.map aI),.i .i64 a,.i .i64 b,.i .i64 c,.p (.g k) 0,.fn 60 [] []] h K:=by
 have h1:=fun K hK=>so2_at (K:=K) hG eK es hl hs a b PA (by omega) k (h:=h) hK
 have h2:=fun K hK=>so2_at (K:=K) hG eK es hl hs b c hbc (by omega) k (h:=h) hK
 refine dU (hG _ AF.f306 rfl) rfl ?_
 (refine iG @h1 @h2 ?_)
 exact hK
theorem soch_at (eK:gZ P) (es:List aL) (hl:es.length<=17) (h8:8<=es.length) (hs:es.Pairwise fun a b=>bR a.name b.name) {h:aA} {K:V->aA->Prop} (hK:∀ (h':aA) (r:Int),aA.aJ (fun _=>False) h h'->K (.bY [.i .i64 r,.i .i64 1]) h'):
 aC P 226 [.sl none 16 (es.map aI),.i .i64 0,.i .i64 (es.map aI).length,.fn 60 [] []] h K:=by
 have gK:(es.map aI).length=es.length:=List.length_map _
 obtain ⟨q,hq⟩:∃ q:Nat,q=es.length/4:=⟨_,rfl⟩
 have hd:Int.tdiv ((es.map aI).length:Int) 4=q:=by rw [gK,hq];rfl
 have h1:=fun K hK=>somed_at (K:=K) hG eK es hl hs q (q*2) (q*3) (by omega) (by omega) (by omega) h.next (h:=h.push (.cs [.i .i64 0])) hK
 have W8:(h.push (.cs [.i .i64 0])).get h.next=some (.cs [.i .i64 0]):=aA.aB _ _
 refine dU (hG _ AF.f226 rfl) rfl ?_
 ((conv=>whnf);repeat ((first|refine cA (h1 _) ?_|refine GB (Int.sub_zero _) (by omega) (by omega) ?_|refine GB hd (by omega) (by omega) ?_|refine GB (Int.mul_one _) (by omega) (by omega) ?_|refine GB (Int.zero_add _) (by omega) (by omega) ?_|refine GB (m:=((q*2:Nat):Int)) (by push_cast;rfl) (by omega) (by omega) ?_|refine GB (m:=((q*3:Nat):Int)) (by push_cast;rfl) (by omega) (by omega) ?_|refine aH.dt (show (((es.map aI).length:Nat):Int)>=8 by omega) ?_|refine aH.df (show ¬(((es.map aI).length:Nat):Int)>=50 by omega) ?_|refine ye (W8) ?_|refine zz ?_)<;>(conv=>whnf)))
 exact hK _ _ (.push (.refl _ _) _)
theorem sopi_at (eK:gZ P) (es:List aL) (hl:es.length<=17) (h8:8<=es.length) (hs:es.Pairwise fun a b=>bR a.name b.name) {h:aA} {K:V->aA->Prop} (hK:K (.b true) h):
 aC P 228 [.sl none 16 (es.map aI),.i .i64 0,.i .i64 (es.map aI).length,.fn 60 [] []] h K:=by
 have gK:(es.map aI).length=es.length:=List.length_map _
 refine dU (hG _ AF.f228 rfl) rfl ?_
 ((conv=>whnf);repeat ((first|refine GB (Int.zero_add _) (by omega) (by omega) ?_|refine zz ?_)<;>(conv=>whnf)))
 refine cS.un rfl ?_
 ((conv=>whnf);repeat ((first|refine zz ?_)<;>(conv=>whnf)))
 refine cS.by (fun q fr st=>∃ (i:Nat) (lo:aA),1<=i/\i<=es.length/\q=es.length - i/\
  Fr.le [(9,.i .i64 i),(10,.i .i64 0),(3,.fn 60 [] []),(2,.i .i64 (es.map aI).length),(1,.i .i64 0),(0,.sl none 16 (es.map aI))] fr/\st=⟨h,lo⟩)
  (es.length - 1) ⟨1,_,by omega,by omega,rfl,cT,rfl⟩ ?_
 rintro q fr st ⟨i,lo,Uv,hi,rfl,dE,rfl⟩
 refine ⟨_,dE,fun R' hR=>?_⟩
 by_cases cY:i<es.length
 · have he:=List.getElem?_eq_getElem cY
   have hf:=List.getElem?_eq_getElem (show i - 1<es.length by omega)
   generalize es[i]=e at he
   generalize es[i - 1]=f at hf
   have jE:=fW (lF hs (by omega:i - 1<i) hf he)
   have hc:=fun K hK=>scp_at (K:=K) hG eK e f (h:=h) hK
   generalize jV e.name f.name=c at jE hc
   ((conv=>whnf);repeat ((first|refine aH.dt (show (i:Int)<(es.map aI).length by omega) ?_|refine aH.df (show ¬c<0 by omega) ?_|refine cA (hc _) ?_|refine aM.ix (by omega) (by omega) ?_|refine aR.gA (by omega) (by omega) ?_|refine ye (aF (f:=aI) (by omega) he) ?_|refine ye (aF (f:=aI) (by omega) hf) ?_|refine zz ?_)<;>(conv=>whnf)))
   exact hR (es.length - (i+1)) _ _ (by omega) ⟨i+1,_,by omega,by omega,rfl,cT,rfl⟩
 · obtain rfl:i=es.length:=by omega
   ((conv=>whnf);repeat ((first|refine aH.df (show ¬((es.length:Nat):Int)<(es.map aI).length by omega) ?_|refine aH.tt (show ((es.length:Nat):Int)=(es.map aI).length by omega) ?_|refine aH.dt (show ((es.length:Nat):Int)=(es.map aI).length by omega) ?_|refine zz ?_)<;>(conv=>whnf)))
   trace_state
   exact hK
theorem sopdp_at (eK:gZ P) (es:List aL) (hl:es.length<=17) (hs:es.Pairwise fun a b=>bR a.name b.name) (m:Int) (hm:13<=es.length->1<=m) {h:aA} {K:V->aA->Prop} (hK:∀ h':aA,aA.aJ (fun _=>False) h h'->K (.bY []) h'):
 aC P 142 [.sl none 16 (es.map aI),.i .i64 0,.i .i64 (es.map aI).length,.i .i64 m,.fn 60 [] []] h K:=by
 have gK:(es.map aI).length=es.length:=List.length_map _
 refine dU (hG _ AF.f142 rfl) rfl ?_
 by_cases Jx:es.length<=12
 · have hc:=fun K hK=>sisp_at (K:=K) hG eK es (by omega) hs (h:=h) hK
   ((conv=>whnf);repeat ((first|refine cS.un rfl ?_|refine GB (Int.sub_zero _) (by omega) (by omega) ?_|refine aH.dt (show (((es.map aI).length:Nat):Int)<=12 by omega) ?_|refine cA (hc _) ?_|refine zz ?_)<;>(conv=>whnf)))
   exact hK h (.refl _ _)
 · have hc:=fun K hK=>soch_at (K:=K) hG eK es hl (by omega) hs (h:=h) hK
   ((conv=>whnf);repeat ((first|refine cS.un rfl ?_|refine GB (Int.sub_zero _) (by omega) (by omega) ?_|refine aH.df (show ¬(((es.map aI).length:Nat):Int)<=12 by omega) ?_|refine aH.df (show ¬m=0 by have:=hm (by omega);omega) ?_|refine cA (hc _) ?_|refine zz ?_)<;>(conv=>whnf)))
   intro h' r k'
   have NH:=fun K hK=>sopi_at (K:=K) hG eK es hl (by omega) hs (h:=h') hK
   ((conv=>whnf);repeat ((first|refine cS.un rfl ?_|refine cA (NH _) ?_|refine zz ?_)<;>(conv=>whnf)))
   exact hK h' k'
theorem sopdn_at (eK:gZ P) (es:List bK) (hl:es.length<=12) (hs:es.Pairwise fun a b=>bR a.name b.name) (m:Int) {h:aA} {K:V->aA->Prop} (hK:K (.bY []) h):
 aC P 145 [.sl none 6 (es.map aK),.i .i64 0,.i .i64 (es.map aK).length,.i .i64 m,.fn 63 [] []] h K:=by
 have gK:(es.map aK).length=es.length:=List.length_map _
 refine dU (hG _ AF.f145 rfl) rfl ?_
 have hc:=fun K hK=>sisn_at (K:=K) hG eK es (by omega) hs (h:=h) hK
 ((conv=>whnf);repeat ((first|refine cS.un rfl ?_|refine GB (Int.sub_zero _) (by omega) (by omega) ?_|refine aH.dt (show (((es.map aK).length:Nat):Int)<=12 by omega) ?_|refine cA (hc _) ?_|refine zz ?_)<;>(conv=>whnf)))
 exact hK
theorem sortp_at (eK:gZ P) (es:List aL) (hl:es.length<=17) (hs:es.Pairwise fun a b=>bR a.name b.name) {h:aA} {K:V->aA->Prop} (hK:∀ h':aA,aA.aJ (fun _=>False) h h'->K (.bY []) h'):
 aC P 59 [.sl none 16 (es.map aI),.fn 60 [] []] h K:=by
 have gK:(es.map aI).length=es.length:=List.length_map _
 obtain ⟨r,GL,hr⟩:=blen_at hG es.length hl
 have hb:=fun K hK=>hr h K hK
 rw [<-gK] at hb
 have hc:=fun K hK=>sopdp_at (K:=K) hG eK es hl hs r GL (h:=h) hK
 refine dU (hG _ AF.f59 rfl) rfl ?_
 ((conv=>whnf);repeat ((first|refine cA (hb _) ?_|refine cA (hc _) ?_|refine aR.wu (by omega) (by omega) ?_|refine zz ?_)<;>(conv=>whnf)))
 intro h' k'
 ((conv=>whnf);repeat ((first|refine zz ?_)<;>(conv=>whnf)))
 exact hK h' k'
theorem sortn_at (eK:gZ P) (es:List bK) (hl:es.length<=12) (hs:es.Pairwise fun a b=>bR a.name b.name) {h:aA} {K:V->aA->Prop} (hK:K (.bY []) h):
 aC P 62 [.sl none 6 (es.map aK),.fn 63 [] []] h K:=by
 have gK:(es.map aK).length=es.length:=List.length_map _
 obtain ⟨r,GL,hr⟩:=blen_at hG es.length (by omega)
 have hb:=fun K hK=>hr h K hK
 rw [<-gK] at hb
 have hc:=fun K hK=>sopdn_at (K:=K) hG eK es hl hs r (h:=h) hK
 refine dU (hG _ AF.f62 rfl) rfl ?_
 ((conv=>whnf);repeat ((first|refine cA (hb _) ?_|refine cA (hc _) ?_|refine aR.wu (by omega) (by omega) ?_|refine zz ?_)<;>(conv=>whnf)))
 exact hK
end
open Go
theorem VY {n:bK} (h:CV n=true):K6 n:=by
 unfold CV at h
 simp only [Bool.and_eq_true,decide_eq_true_eq] at h
 obtain ⟨h1,h2,⟨h3,h3'⟩,h4,h4'⟩:=h
 unfold Bk pN at h2
 simp only [Bool.and_eq_true,decide_eq_true_eq] at h2
 exact ⟨nameB_ok h1,⟨by omega,by omega,by omega⟩,by omega,pairsB_ok h3,by omega,pairsB_ok h4⟩
inductive It where
 |l (v:List Int)
 |n (x:bK)
 |p (x:aL)
def Dm:It×Int->dG
 |(.l v,r)=>⟨oT,r,v⟩
 |(.n x,r)=>⟨dK x.name,r,dO x⟩
 |(.p x,r)=>⟨bO x.name,r,bZ x⟩
def sQ:List (It×Int)->List bK
 |[]=>[]
 |(.n x,_)::r=>x::sQ r
 |_::r=>sQ r
def sR:List (It×Int)->List aL
 |[]=>[]
 |(.p x,_)::r=>x::sR r
 |_::r=>sR r
def Zg:It×Int->Prop
 |(.l _,_)=>True
 |(.n x,_)=>CV x=true
 |(.p x,_)=>gY x=true/\x.term<=9223372036854775807
theorem BB:∀ a b:List (It×Int),sQ (a++b)=sQ a++sQ b
 |[],_=>rfl
 |(.n x,_)::r,b=>by rw [List.cons_append,sQ,sQ,BB r b];rfl
 |(.p x,_)::r,b=>by rw [List.cons_append,sQ,sQ,BB r b]<;>simp
 |(.l x,_)::r,b=>by rw [List.cons_append,sQ,sQ,BB r b]<;>simp
theorem BC:∀ a b:List (It×Int),sR (a++b)=sR a++sR b
 |[],_=>rfl
 |(.p x,_)::r,b=>by rw [List.cons_append,sR,sR,BC r b];rfl
 |(.n x,_)::r,b=>by rw [List.cons_append,sR,sR,BC r b]<;>simp
 |(.l x,_)::r,b=>by rw [List.cons_append,sR,sR,BC r b]<;>simp
theorem DS:∀ l:List (It×Int),(sQ l).length<=l.length
 |[]=>Nat.le_refl _
 |(.n x,_)::r=>by rw [sQ,List.length_cons,List.length_cons];have:=DS r;omega
 |(.p x,_)::r=>by rw [sQ,List.length_cons];have:=DS r;omega;all_goals simp
 |(.l x,_)::r=>by rw [sQ,List.length_cons];have:=DS r;omega;all_goals simp
theorem DT:∀ l:List (It×Int),(sR l).length<=l.length
 |[]=>Nat.le_refl _
 |(.p x,_)::r=>by rw [sR,List.length_cons,List.length_cons];have:=DT r;omega
 |(.n x,_)::r=>by rw [sR,List.length_cons];have:=DT r;omega;all_goals simp
 |(.l x,_)::r=>by rw [sR,List.length_cons];have:=DT r;omega;all_goals simp
structure QL (lo:aA) (nv pv:V) (N:List bK) (Q:List aL):Prop where
 nx:1<lo.next
 g0:lo.get 0=some (.cs [.aS,.aS])
 g1:lo.get 1=some (.cs [nv,pv])
 n:(N=[]/\nv=.aS)\/∃ t,nv=.sl (some (.l t)) 6 (N.map aK)/\1<t/\t<lo.next/\lo.get t=some .spare
 p:(Q=[]/\pv=.aS)\/∃ t,pv=.sl (some (.l t)) 16 (Q.map aI)/\1<t/\t<lo.next/\lo.get t=some .spare
 ne:∀ t u a b,nv=.sl (some (.l t)) 6 a->pv=.sl (some (.l u)) 16 b->t≠u
theorem QL.dZ {lo lo':aA} {nv pv:V} {N:List bK} {Q:List aL} (h:QL lo nv pv N Q) (hn:lo.next<=lo'.next) (hs:∀ j,j<lo.next->lo'.get j=lo.get j):QL lo' nv pv N Q:=
 ⟨Nat.lt_of_lt_of_le h.nx hn,(hs 0 (by have:=h.nx;omega)).trans h.g0,(hs 1 h.nx).trans h.g1,
  h.n.imp id fun ⟨t,a,b,c,d⟩=>⟨t,a,b,Nat.lt_of_lt_of_le c hn,(hs t c).trans d⟩,h.p.imp id fun ⟨t,a,b,c,d⟩=>⟨t,a,b,Nat.lt_of_lt_of_le c hn,(hs t c).trans d⟩,h.ne⟩
theorem eR {lo:aA} {o o':Obj} (j:Nat) (hj:j<lo.next):((lo.push o).set lo.next o').get j=lo.get j:=by
 rw [aA.iL (by omega),aA.fI (by omega)]
theorem QL.n1 {lo:aA} {nv pv:V} {N:List bK} {Q:List aL} (h:QL lo nv pv N Q) {lo':aA} (x:bK) (k:Nat) (hk:lo.next<=k) (Tk:k<lo'.next) (Nh:lo'.get k=some .spare)
 (ZZ:lo'.get 1=some (.cs [.sl (some (.l k)) 6 ((N++[x]).map aK),pv])) (hs:∀ j,j<lo.next->j≠1->(∀ rows,nv≠.sl (some (.l j)) 6 rows)->lo'.get j=lo.get j):
 QL lo' (.sl (some (.l k)) 6 ((N++[x]).map aK)) pv (N++[x]) Q:=by
 have h0:=h.nx
 refine ⟨by omega,?_,ZZ,.inr ⟨k,rfl,by omega,Tk,Nh⟩,?_,fun t u a b e1 e2=>?_⟩
 · refine (hs 0 (by omega) (by omega) fun rows e=>?_).trans h.g0
   rcases h.n with ⟨_,e1⟩|⟨t,e1,e2,_⟩
   · rw [e1] at e;cases e
   · rw [e1] at e;cases e;omega
 · refine h.p.imp id fun ⟨t,a,b,c,d⟩=>⟨t,a,b,by omega,(hs t c (by omega) fun rows e=>h.ne t t _ _ e a rfl).trans d⟩
 · cases e1
   rcases h.p with ⟨_,e3⟩|⟨u',e3,_,e4,_⟩
   · rw [e3] at e2;cases e2
   · rw [e3] at e2;cases e2;omega
theorem QL.p1 {lo:aA} {nv pv:V} {N:List bK} {Q:List aL} (h:QL lo nv pv N Q) {lo':aA} (x:aL) (k:Nat) (hk:lo.next<=k) (Tk:k<lo'.next) (Nh:lo'.get k=some .spare)
 (ZZ:lo'.get 1=some (.cs [nv,.sl (some (.l k)) 16 ((Q++[x]).map aI)])) (hs:∀ j,j<lo.next->j≠1->(∀ rows,pv≠.sl (some (.l j)) 16 rows)->lo'.get j=lo.get j):
 QL lo' nv (.sl (some (.l k)) 16 ((Q++[x]).map aI)) N (Q++[x]):=by
 have h0:=h.nx
 refine ⟨by omega,?_,ZZ,?_,.inr ⟨k,rfl,by omega,Tk,Nh⟩,fun t u a b e1 e2=>?_⟩
 · refine (hs 0 (by omega) (by omega) fun rows e=>?_).trans h.g0
   rcases h.p with ⟨_,e1⟩|⟨t,e1,e2,_⟩
   · rw [e1] at e;cases e
   · rw [e1] at e;cases e;omega
 · refine h.n.imp id fun ⟨t,a,b,c,d⟩=>⟨t,a,b,by omega,(hs t c (by omega) fun rows e=>h.ne t t _ _ a e rfl).trans d⟩
 · cases e2
   rcases h.n with ⟨_,e3⟩|⟨u',e3,_,e4,_⟩
   · rw [e3] at e1;cases e1
   · rw [e3] at e1;cases e1;omega
section
variable {P:Program} (hG:bP P AF.fns.get)
include hG
theorem of0_at (eN:dQ P 285) (eK:gZ P) {h:aA} (I:List (It×Int)) (hI:∀ x∈I,Zg x) (hl:I.length<=1000) (hn:(sQ I).length<=12) (hp:(sR I).length<=17) (GN:(sQ I).Pairwise fun a b=>bR a.name b.name) (WV:(sR I).Pairwise fun a b=>bR a.name b.name) {K:V->aA->Prop}
 (hK:∀ h' nv pv,aA.aJ (fun _=>False) h h'->((sQ I=[]/\nv=.aS)\/nv=.sl none 6 ((sQ I).map aK))->((sR I=[]/\pv=.aS)\/pv=.sl none 16 ((sR I).map aI))->K (.bY [.agg [nv,pv],.b true]) h'):
 aC P 19 [.sl none 3 ((I.map Dm).map lG)] h K:=by
 have hm:((I.map Dm).map lG).length=I.length:=by simp
 refine dU (hG _ AF.f19 rfl) rfl ?_
 ((conv=>whnf);repeat ((first|refine zz ?_)<;>(conv=>whnf)))
 refine cS.by (fun q fr st=>∃ (i:Nat) (hh lo:aA) (nv pv:V),i<=I.length/\q=I.length - i/\aA.aJ (fun _=>False) h hh/\QL lo nv pv (sQ (I.take i)) (sR (I.take i))/\
  Fr.le [(14,.i .i64 i),(13,.i .i64 ((I.map Dm).map lG).length),(12,.sl none 3 ((I.map Dm).map lG)),(4,.p (.l 1) 0),(2,.p (.l 0) 0)] fr/\st=⟨hh,lo⟩)
  I.length ⟨0,h,_,.aS,.aS,Nat.zero_le _,rfl,.refl _ _,⟨(by show 1<2;decide),rfl,rfl,.inl ⟨rfl,rfl⟩,.inl ⟨rfl,rfl⟩,(fun t u a b e1=>by cases e1)⟩,cT,rfl⟩ ?_
 rintro q fr st ⟨i,hh,lo,nv,pv,hi,rfl,hk,hS,dE,rfl⟩
 refine ⟨_,dE,fun R hR=>?_⟩
 by_cases cY:i<I.length
 · have he:=List.getElem?_eq_getElem cY
   have Z1:=hI _ (List.getElem_mem cY)
   generalize I[i]=e at he Z1
   have heE:(I.map Dm)[i]? =some (Dm e):=by rw [List.getElem?_map,he];rfl
   have jM:I.take (i+1)=I.take i++[e]:=by rw [List.take_add_one,he];rfl
   have sN:sQ (I.take (i+1))=sQ (I.take i)++sQ [e]:=by rw [jM,BB]
   have sP:sR (I.take (i+1))=sR (I.take i)++sR [e]:=by rw [jM,BC]
   have lN:((sQ (I.take i)).map aK).length<=1000:=by rw [List.length_map];have:=DS (I.take i);rw [List.length_take] at this;omega
   have lP:((sR (I.take i)).map aI).length<=1000:=by rw [List.length_map];have:=DT (I.take i);rw [List.length_take] at this;omega
   generalize sQ (I.take i)=N at sN lN hS
   generalize sR (I.take i)=Q at sP lP hS
   rw [List.length_map] at lN lP
   obtain ⟨x,r⟩:=e
   cases x with
   |l v=>
    have hc:=fun K hK=>kindl_at (K:=K) hG (h:=hh) hK
    have hS2:=fun o o'=>hS.dZ (lo':=(lo.push o).set lo.next o') (Nat.le_succ _) fun j hj=>eR j hj
    ((conv=>whnf);repeat ((first|refine aH.dt (show (i:Int)<((I.map Dm).map lG).length by omega) ?_|refine aM.ix (by omega) (by omega) ?_|refine cA (hc _) ?_|refine aR.gA (by omega) (by omega) ?_|refine ye (aF (f:=lG) (by omega) heE) ?_|refine ye (aA.aB _ _) ?_|refine ye (aA.aD (aA.aB _ _)) ?_|refine zz ?_)<;>(conv=>whnf)))
    refine hR (I.length - (i+1)) _ _ (by omega) ⟨i+1,hh,_,nv,pv,by omega,rfl,hk,?_,cT,rfl⟩
    rw [sN,sP]
    simp only [sQ,sR,List.append_nil]
    exact hS2 _ _
   |n x=>
    have uS:CV x=true:=Z1
    have hnm:=gL (by unfold CV at uS;simp only [Bool.and_eq_true] at uS;exact uS.1:bI x.name=true)
    have hnB:bI x.name=true:=by unfold CV at uS;simp only [Bool.and_eq_true] at uS;exact uS.1
    have hc:=fun K hK=>kindn_at (K:=K) hG (h:=hh) x.name hnB hK
    have hg:=fun K hK=>rgetn_at (K:=K) hG eN x (VY uS) (OB hG x uS) (h:=hh) hK
    have hS2:=fun o o'=>hS.dZ (lo':=(lo.push o).set lo.next o') (Nat.le_succ _) fun j hj=>eR j hj
    have TZ:=fun o o' o2 o3=>(hS2 o o').dZ (lo':=(((lo.push o).set lo.next o').push o2).set (lo.next+1) o3) (Nat.le_succ _) fun j hj=>eR (lo:=(lo.push o).set lo.next o') j hj
    have e0:∀ o o' o2,(((lo.push o).set lo.next o').push o2).get lo.next=some o':=fun o o' o2=>aA.gp (Nat.ne_of_lt (Nat.lt_succ_self _)) (aA.aD (aA.aB _ _))
    have e1:∀ o o' o2 o3,((((lo.push o).set lo.next o').push o2).set (lo.next+1) o3).get lo.next=some o':=fun o o' o2 o3=>aA.gs (Nat.ne_of_lt (Nat.lt_succ_self _)) (e0 o o' o2)
    have heq:(dK x.name==dK x.name)=true:=by simp
    ((conv=>whnf);repeat ((first|refine aH.dt (show (i:Int)<((I.map Dm).map lG).length by omega) ?_|refine aM.ix (by omega) (by omega) ?_|refine cA (hc _) ?_|refine cA (hg _) ?_|refine aR.gA (by omega) (by omega) ?_|refine ye (aF (f:=lG) (by omega) heE) ?_|refine ye (e0 _ _ _) ?_|refine ye (aA.aB _ _) ?_|refine ye (aA.aD (aA.aB _ _)) ?_|refine zz ?_)<;>(conv=>whnf)))
    intro h2 k2
    have Tk:=fun K hK=>keyn_at (K:=K) hG (h:=h2) x.name (by omega) hnB hK
    have e2:∀ o o' o2 o3,((((lo.push o).set lo.next o').push o2).set (lo.next+1) o3).get (lo.next+1)=some o3:=fun o o' o2 o3=>aA.aD (aA.aB _ _)
    ((conv=>whnf);repeat ((first|refine cA (Tk _) ?_|refine ye (e1 _ _ _ _) ?_|refine ye (aA.aB _ _) ?_|refine ye (e2 _ _ _ _) ?_|refine ye ((TZ _ _ _ _).g1) ?_|refine zz ?_)<;>(conv=>whnf)))
    have Li:∀ (k:Nat) (lo' L3:aA) (fr:Fr) (st:St),Fr.le [(14,.i .i64 (i+1:Nat)),(13,.i .i64 ((I.map Dm).map lG).length),(12,.sl none 3 ((I.map Dm).map lG)),(4,.p (.l 1) 0),(2,.p (.l 0) 0)] fr->st=⟨h2,lo'⟩->QL L3 nv pv N Q->L3.next<=k->k<lo'.next->lo'.get k=some .spare->lo'.get 1=some (.cs [.sl (some (.l k)) 6 ((N++[x]).map aK),pv])->(∀ j,j<L3.next->j≠1->(∀ rows,nv≠.sl (some (.l j)) 6 rows)->lo'.get j=L3.get j)->
     R fr st:=fun k lo' L3 fr st Gn mY s3 q1 q2 q3 q4 q5=>
     hR (I.length - (i+1)) _ _ (by omega) ⟨i+1,h2,lo',_,pv,by omega,rfl,hk.trans k2,(by rw [sN,sP];simp only [sQ,sR,List.append_nil];exact s3.n1 x k q1 q2 q3 q4 q5),Gn,mY⟩
    have h0:=hS.nx
    rcases hS.n with ⟨rfl,rfl⟩|⟨t,rfl,t1,t2,t3⟩<;>rcases hS.p with ⟨rfl,rfl⟩|⟨u,rfl,u1,u2,u3⟩
    iterate 2
     · have c1:=fun o o' o2 o3=>(TZ o o' o2 o3).g1
       have c2:∀ o o' o2 o3,(((((lo.push o).set lo.next o').push o2).set (lo.next+1) o3).push .spare).get 1=_:=fun o o' o2 o3=>aA.gp (by show 1≠lo.next+2;omega) (c1 o o' o2 o3)
       have c3:∀ o o' o2 o3,((((((lo.push o).set lo.next o').push o2).set (lo.next+1) o3).push .spare).push .spare).get 1=_:=fun o o' o2 o3=>aA.gp (by show 1≠lo.next+3;omega) (c2 o o' o2 o3)
       ((conv=>whnf);repeat ((first|refine aH.ff (show (!(dK x.name==dK x.name))=false by simp) ?_|refine aR.gA (by omega) (by omega) ?_|refine ye (c1 _ _ _ _) ?_|refine ye (c2 _ _ _ _) ?_|refine ye (c3 _ _ _ _) ?_|refine ye (e2 _ _ _ _) ?_|refine zz ?_)<;>(conv=>whnf)))
       have fin:∀ w,lo.get 1=some (.cs [_,w])->∀ o o' o2 o3 fr st,Fr.le [(14,.i .i64 (i+1:Nat)),(13,.i .i64 ((I.map Dm).map lG).length),(12,.sl none 3 ((I.map Dm).map lG)),(4,.p (.l 1) 0),(2,.p (.l 0) 0)] fr->st=⟨h2,((((((lo.push o).set lo.next o').push o2).set (lo.next+1) o3).push .spare).push .spare).set 1 (.cs [.sl (some (.l (lo.next+3))) 6 ([x].map aK),w])⟩->R fr st:=fun w hw o o' o2 o3 fr st Gn mY=>by
        cases hS.g1.symm.trans hw
        exact Li (lo.next+3) _ _ fr st Gn mY (TZ o o' o2 o3) (Nat.le_succ _) (Nat.lt_succ_self _) (aA.gs (by omega) (aA.aB _ _)) (aA.aD (c3 _ _ _ _)) fun j hj j1 _=>by
         rw [aA.iL j1,aA.fI (by have:j<lo.next+2:=hj;show j≠lo.next+3;omega),aA.fI (by have:j<lo.next+2:=hj;show j≠lo.next+2;omega)]
       exact fin _ hS.g1 _ _ _ _ _ _ cT rfl
    iterate 2
     · have c1:=fun o o' o2 o3=>(TZ o o' o2 o3).g1
       have b3:∀ o o' o2 o3,((((lo.push o).set lo.next o').push o2).set (lo.next+1) o3).get t=some .spare:=fun o o' o2 o3=>(eR (lo:=(lo.push o).set lo.next o') t (by show t<lo.next+1;omega)).trans ((eR t t2).trans t3)
       have c2:∀ o o' o2 o3,(((((lo.push o).set lo.next o').push o2).set (lo.next+1) o3).push .spare).get 1=_:=fun o o' o2 o3=>aA.gp (by show 1≠lo.next+2;omega) (c1 o o' o2 o3)
       have b4:∀ o o' o2 o3,(((((lo.push o).set lo.next o').push o2).set (lo.next+1) o3).push .spare).get t=_:=fun o o' o2 o3=>aA.gp (by show t≠lo.next+2;omega) (b3 o o' o2 o3)
       have c3:∀ o o' o2 o3,(((((((lo.push o).set lo.next o').push o2).set (lo.next+1) o3).push .spare).remove t).push .spare).get 1=_:=fun o o' o2 o3=>aA.gp (by show 1≠lo.next+3;omega) (aA.gr (by omega) (c2 o o' o2 o3))
       ((conv=>whnf);repeat ((first|refine aH.ff (show (!(dK x.name==dK x.name))=false by simp) ?_|refine aM.mk (by simp [bT];omega) ?_|refine aR.gA (by omega) (by omega) ?_|refine ye (c1 _ _ _ _) ?_|refine ye (b4 _ _ _ _) ?_|refine ye (c2 _ _ _ _) ?_|refine ye (c3 _ _ _ _) ?_|refine ye (e2 _ _ _ _) ?_|refine zz ?_)<;>(conv=>whnf)))
       have fin:∀ w,lo.get 1=some (.cs [_,w])->∀ o o' o2 o3 fr st,Fr.le [(14,.i .i64 (i+1:Nat)),(13,.i .i64 ((I.map Dm).map lG).length),(12,.sl none 3 ((I.map Dm).map lG)),(4,.p (.l 1) 0),(2,.p (.l 0) 0)] fr->st=⟨h2,(((((((lo.push o).set lo.next o').push o2).set (lo.next+1) o3).push .spare).remove t).push .spare).set 1 (.cs [.sl (some (.l (lo.next+3))) 6 (N.map aK++[aK x]),w])⟩->R fr st:=fun w hw o o' o2 o3 fr st Gn mY=>by
        cases hS.g1.symm.trans hw
        exact Li (lo.next+3) _ _ fr st Gn mY (TZ o o' o2 o3) (Nat.le_succ _) (Nat.lt_succ_self _) (aA.gs (by omega) (aA.aB _ _)) ((aA.aD (c3 _ _ _ _)).trans (by rw [List.map_append];rfl)) fun j hj j1 j2=>by
         have jt:j≠t:=fun e=>j2 _ (by rw [e])
         rw [aA.iL j1,aA.fI (by have:j<lo.next+2:=hj;show j≠lo.next+3;omega),aA.nT jt,aA.fI (by have:j<lo.next+2:=hj;show j≠lo.next+2;omega)]
       exact fin _ hS.g1 _ _ _ _ _ _ cT rfl
   |p x=>
    have uS:gY x=true:=Z1.1
    have hnm:=gL (by unfold gY at uS;simp only [Bool.and_eq_true] at uS;exact uS.1:bI x.name=true)
    have hnB:bI x.name=true:=by unfold gY at uS;simp only [Bool.and_eq_true] at uS;exact uS.1
    have hc:=fun K hK=>kindp_at (K:=K) hG (h:=hh) x.name hnB hK
    have hg:=fun K hK=>Jb (K:=K) hG eN x (xH uS) uS Z1.2 (h:=hh) hK
    have hS2:=fun o o'=>hS.dZ (lo':=(lo.push o).set lo.next o') (Nat.le_succ _) fun j hj=>eR j hj
    have TZ:=fun o o' o2 o3=>(hS2 o o').dZ (lo':=(((lo.push o).set lo.next o').push o2).set (lo.next+1) o3) (Nat.le_succ _) fun j hj=>eR (lo:=(lo.push o).set lo.next o') j hj
    have e0:∀ o o' o2,(((lo.push o).set lo.next o').push o2).get lo.next=some o':=fun o o' o2=>aA.gp (Nat.ne_of_lt (Nat.lt_succ_self _)) (aA.aD (aA.aB _ _))
    have e1:∀ o o' o2 o3,((((lo.push o).set lo.next o').push o2).set (lo.next+1) o3).get lo.next=some o':=fun o o' o2 o3=>aA.gs (Nat.ne_of_lt (Nat.lt_succ_self _)) (e0 o o' o2)
    have heq:(bO x.name==bO x.name)=true:=by simp
    ((conv=>whnf);repeat ((first|refine aH.dt (show (i:Int)<((I.map Dm).map lG).length by omega) ?_|refine aM.ix (by omega) (by omega) ?_|refine cA (hc _) ?_|refine cA (hg _) ?_|refine aR.gA (by omega) (by omega) ?_|refine ye (aF (f:=lG) (by omega) heE) ?_|refine ye (e0 _ _ _) ?_|refine ye (aA.aB _ _) ?_|refine ye (aA.aD (aA.aB _ _)) ?_|refine zz ?_)<;>(conv=>whnf)))
    intro h2 k2
    have Tk:=fun K hK=>keyp_at (K:=K) hG (h:=h2) x.name (by omega) hnB hK
    have e2:∀ o o' o2 o3,((((lo.push o).set lo.next o').push o2).set (lo.next+1) o3).get (lo.next+1)=some o3:=fun o o' o2 o3=>aA.aD (aA.aB _ _)
    ((conv=>whnf);repeat ((first|refine cA (Tk _) ?_|refine ye (e1 _ _ _ _) ?_|refine ye (aA.aB _ _) ?_|refine ye (e2 _ _ _ _) ?_|refine ye ((TZ _ _ _ _).g1) ?_|refine zz ?_)<;>(conv=>whnf)))
    have Li:∀ (k:Nat) (lo' L3:aA) (fr:Fr) (st:St),Fr.le [(14,.i .i64 (i+1:Nat)),(13,.i .i64 ((I.map Dm).map lG).length),(12,.sl none 3 ((I.map Dm).map lG)),(4,.p (.l 1) 0),(2,.p (.l 0) 0)] fr->st=⟨h2,lo'⟩->QL L3 nv pv N Q->L3.next<=k->k<lo'.next->lo'.get k=some .spare->lo'.get 1=some (.cs [nv,.sl (some (.l k)) 16 ((Q++[x]).map aI)])->(∀ j,j<L3.next->j≠1->(∀ rows,pv≠.sl (some (.l j)) 16 rows)->lo'.get j=L3.get j)->
     R fr st:=fun k lo' L3 fr st Gn mY s3 q1 q2 q3 q4 q5=>
     hR (I.length - (i+1)) _ _ (by omega) ⟨i+1,h2,lo',nv,_,by omega,rfl,hk.trans k2,(by rw [sN,sP];simp only [sQ,sR,List.append_nil];exact s3.p1 x k q1 q2 q3 q4 q5),Gn,mY⟩
    have h0:=hS.nx
    rcases hS.p with ⟨rfl,rfl⟩|⟨t,rfl,t1,t2,t3⟩<;>rcases hS.n with ⟨rfl,rfl⟩|⟨u,rfl,u1,u2,u3⟩
    iterate 2
     · have c1:=fun o o' o2 o3=>(TZ o o' o2 o3).g1
       have c2:∀ o o' o2 o3,(((((lo.push o).set lo.next o').push o2).set (lo.next+1) o3).push .spare).get 1=_:=fun o o' o2 o3=>aA.gp (by show 1≠lo.next+2;omega) (c1 o o' o2 o3)
       have c3:∀ o o' o2 o3,((((((lo.push o).set lo.next o').push o2).set (lo.next+1) o3).push .spare).push .spare).get 1=_:=fun o o' o2 o3=>aA.gp (by show 1≠lo.next+3;omega) (c2 o o' o2 o3)
       ((conv=>whnf);repeat ((first|refine aH.ff (show (!(bO x.name==bO x.name))=false by simp) ?_|refine aR.gA (by omega) (by omega) ?_|refine ye (c1 _ _ _ _) ?_|refine ye (c2 _ _ _ _) ?_|refine ye (c3 _ _ _ _) ?_|refine ye (e2 _ _ _ _) ?_|refine zz ?_)<;>(conv=>whnf)))
       have fin:∀ w,lo.get 1=some (.cs [w,_])->∀ o o' o2 o3 fr st,Fr.le [(14,.i .i64 (i+1:Nat)),(13,.i .i64 ((I.map Dm).map lG).length),(12,.sl none 3 ((I.map Dm).map lG)),(4,.p (.l 1) 0),(2,.p (.l 0) 0)] fr->st=⟨h2,((((((lo.push o).set lo.next o').push o2).set (lo.next+1) o3).push .spare).push .spare).set 1 (.cs [w,.sl (some (.l (lo.next+3))) 16 ([x].map aI)])⟩->R fr st:=fun w hw o o' o2 o3 fr st Gn mY=>by
        cases hS.g1.symm.trans hw
        exact Li (lo.next+3) _ _ fr st Gn mY (TZ o o' o2 o3) (Nat.le_succ _) (Nat.lt_succ_self _) (aA.gs (by omega) (aA.aB _ _)) (aA.aD (c3 _ _ _ _)) fun j hj j1 _=>by
         rw [aA.iL j1,aA.fI (by have:j<lo.next+2:=hj;show j≠lo.next+3;omega),aA.fI (by have:j<lo.next+2:=hj;show j≠lo.next+2;omega)]
       exact fin _ hS.g1 _ _ _ _ _ _ cT rfl
    iterate 2
     · have c1:=fun o o' o2 o3=>(TZ o o' o2 o3).g1
       have b3:∀ o o' o2 o3,((((lo.push o).set lo.next o').push o2).set (lo.next+1) o3).get t=some .spare:=fun o o' o2 o3=>(eR (lo:=(lo.push o).set lo.next o') t (by show t<lo.next+1;omega)).trans ((eR t t2).trans t3)
       have c2:∀ o o' o2 o3,(((((lo.push o).set lo.next o').push o2).set (lo.next+1) o3).push .spare).get 1=_:=fun o o' o2 o3=>aA.gp (by show 1≠lo.next+2;omega) (c1 o o' o2 o3)
       have b4:∀ o o' o2 o3,(((((lo.push o).set lo.next o').push o2).set (lo.next+1) o3).push .spare).get t=_:=fun o o' o2 o3=>aA.gp (by show t≠lo.next+2;omega) (b3 o o' o2 o3)
       have c3:∀ o o' o2 o3,(((((((lo.push o).set lo.next o').push o2).set (lo.next+1) o3).push .spare).remove t).push .spare).get 1=_:=fun o o' o2 o3=>aA.gp (by show 1≠lo.next+3;omega) (aA.gr (by omega) (c2 o o' o2 o3))
       ((conv=>whnf);repeat ((first|refine aH.ff (show (!(bO x.name==bO x.name))=false by simp) ?_|refine aM.mk (by simp [bT];omega) ?_|refine aR.gA (by omega) (by omega) ?_|refine ye (c1 _ _ _ _) ?_|refine ye (b4 _ _ _ _) ?_|refine ye (c2 _ _ _ _) ?_|refine ye (c3 _ _ _ _) ?_|refine ye (e2 _ _ _ _) ?_|refine zz ?_)<;>(conv=>whnf)))
       have fin:∀ w,lo.get 1=some (.cs [w,_])->∀ o o' o2 o3 fr st,Fr.le [(14,.i .i64 (i+1:Nat)),(13,.i .i64 ((I.map Dm).map lG).length),(12,.sl none 3 ((I.map Dm).map lG)),(4,.p (.l 1) 0),(2,.p (.l 0) 0)] fr->st=⟨h2,(((((((lo.push o).set lo.next o').push o2).set (lo.next+1) o3).push .spare).remove t).push .spare).set 1 (.cs [w,.sl (some (.l (lo.next+3))) 16 (Q.map aI++[aI x])])⟩->R fr st:=fun w hw o o' o2 o3 fr st Gn mY=>by
        cases hS.g1.symm.trans hw
        exact Li (lo.next+3) _ _ fr st Gn mY (TZ o o' o2 o3) (Nat.le_succ _) (Nat.lt_succ_self _) (aA.gs (by omega) (aA.aB _ _)) ((aA.aD (c3 _ _ _ _)).trans (by rw [List.map_append];rfl)) fun j hj j1 j2=>by
         have jt:j≠t:=fun e=>j2 _ (by rw [e])
         rw [aA.iL j1,aA.fI (by have:j<lo.next+2:=hj;show j≠lo.next+3;omega),aA.nT jt,aA.fI (by have:j<lo.next+2:=hj;show j≠lo.next+2;omega)]
       exact fin _ hS.g1 _ _ _ _ _ _ cT rfl
 · obtain rfl:i=I.length:=by omega
   rw [List.take_length] at hS
   clear hR dE
   have sP:=fun (hh:aA) (K:V->aA->Prop) hK=>sortp_at (K:=K) (h:=hh) hG eK (sR I) hp WV hK
   have sN:=fun (hh:aA) (K:V->aA->Prop) hK=>sortn_at (K:=K) (h:=hh) hG eK (sQ I) hn GN hK
   have hK2:=hK
   clear hK
   generalize sQ I=N at*
   generalize sR I=Q at*
   have sP0:Q=[]->∀ (hh:aA) (K:V->aA->Prop),(∀ h',aA.aJ (fun _=>False) hh h'->K (.bY []) h')->aC P 59 [.aS,.fn 60 [] []] hh K:=fun e hh K hK=>
    aC.leq (args':=[.sl none 16 [],.fn 60 [] []]) (hr:=⟨.inr (.inl .nil),.inl rfl,trivial⟩) (h0:=by have:=sP hh K hK;rw [e] at this;exact this)
   have sN0:N=[]->∀ (hh:aA) (K:V->aA->Prop),K (.bY []) hh->aC P 62 [.aS,.fn 63 [] []] hh K:=fun e hh K hK=>
    aC.leq (args':=[.sl none 6 [],.fn 63 [] []]) (hr:=⟨.inr (.inl .nil),.inl rfl,trivial⟩) (h0:=by have:=sN hh K hK;rw [e] at this;exact this)
   have x0:=hS.g0
   have x1:=hS.g1
   have mP:(Q.map aI).length=Q.length:=List.length_map _
   have mN:(N.map aK).length=N.length:=List.length_map _
   rcases hS.p with ⟨qe,rfl⟩|⟨u,rfl,u1,u2,u3⟩<;>rcases hS.n with ⟨ne,rfl⟩|⟨t,rfl,t1,t2,t3⟩
   all_goals
    ((conv=>whnf);repeat ((first|refine aH.df (show ¬((I.length:Nat):Int)<((I.map Dm).map lG).length by omega) ?_|refine cA (sP hh _) ?_|refine cA (sP0 qe hh _) ?_|refine ye (x1) ?_|refine zz ?_)<;>(conv=>whnf)))
    intro h3 k3
    ((conv=>whnf);repeat ((first|refine cA (sN h3 _) ?_|refine cA (sN0 ne h3 _) ?_|refine ye (x1) ?_|refine zz ?_)<;>(conv=>whnf)))
    refine cS.by (fun q fr st=>∃ i:Nat,1<=i/\q=Q.length - i/\Fr.le [(10,.i .i64 i),(4,.p (.l 1) 0),(2,.p (.l 0) 0)] fr/\st=⟨h3,lo⟩) (Q.length - 1) ⟨1,Nat.le_refl _,rfl,cT,rfl⟩ ?_
    rintro q fr st ⟨i,Uv,rfl,hle,rfl⟩
    refine ⟨_,hle,fun R hR=>?_⟩
    by_cases cY:i<Q.length
    · first
       |(exfalso;rw [qe] at cY;exact absurd cY (Nat.not_lt_zero _))
       |(have he:=List.getElem?_eq_getElem cY
         have hf:=List.getElem?_eq_getElem (show i - 1<Q.length by omega)
         generalize Q[i]=e at he
         generalize Q[i - 1]=f at hf
         have dJ:(e.name==f.name)=false:=by
          have hl:=lF WV (by omega:i - 1<i) hf he
          by_cases hx:e.name=f.name
          · rw [hx,bR,iS] at hl;cases hl
          · simpa using hx
         ((conv=>whnf);repeat ((first|refine aH.dt (show (i:Int)<(Q.map aI).length by omega) ?_|refine aH.ff dJ ?_|refine aM.ix (by omega) (by omega) ?_|refine aR.gA (by omega) (by omega) ?_|refine ye (x1) ?_|refine ye (aF (f:=aI) (by omega) he) ?_|refine ye (aF (f:=aI) (by omega) hf) ?_|refine zz ?_)<;>(conv=>whnf)))
         exact hR (Q.length - (i+1)) _ _ (by omega) ⟨i+1,by omega,rfl,cT,rfl⟩)
    · clear hR
      ((conv=>whnf);repeat ((first|refine aH.df (show ¬(i:Int)<(Q.map aI).length by omega) ?_|refine aH.df (show ¬(i:Int)<0 by omega) ?_|refine ye (x1) ?_|refine zz ?_)<;>(conv=>whnf)))
      refine cS.by (fun q fr st=>∃ i:Nat,1<=i/\q=N.length - i/\Fr.le [(11,.i .i64 i),(4,.p (.l 1) 0),(2,.p (.l 0) 0)] fr/\st=⟨h3,lo⟩) (N.length - 1) ⟨1,Nat.le_refl _,rfl,cT,rfl⟩ ?_
      clear hle Uv cY
      rintro q fr st ⟨i,Uv,rfl,hle,rfl⟩
      refine ⟨_,hle,fun R hR=>?_⟩
      by_cases cY:i<N.length
      · first
         |(exfalso;rw [ne] at cY;exact absurd cY (Nat.not_lt_zero _))
         |(have he:=List.getElem?_eq_getElem cY
           have hf:=List.getElem?_eq_getElem (show i - 1<N.length by omega)
           generalize N[i]=e at he
           generalize N[i - 1]=f at hf
           have dJ:(e.name==f.name)=false:=by
            have hl:=lF GN (by omega:i - 1<i) hf he
            by_cases hx:e.name=f.name
            · rw [hx,bR,iS] at hl;cases hl
            · simpa using hx
           ((conv=>whnf);repeat ((first|refine aH.dt (show (i:Int)<(N.map aK).length by omega) ?_|refine aH.ff dJ ?_|refine aM.ix (by omega) (by omega) ?_|refine aR.gA (by omega) (by omega) ?_|refine ye (x1) ?_|refine ye (aF (f:=aK) (by omega) he) ?_|refine ye (aF (f:=aK) (by omega) hf) ?_|refine zz ?_)<;>(conv=>whnf)))
           exact hR (N.length - (i+1)) _ _ (by omega) ⟨i+1,by omega,rfl,cT,rfl⟩)
      · clear hR
        ((conv=>whnf);repeat ((first|refine aH.df (show ¬(i:Int)<(N.map aK).length by omega) ?_|refine aH.df (show ¬(i:Int)<0 by omega) ?_|refine ye (x1) ?_|refine ye (x0) ?_|refine zz ?_)<;>(conv=>whnf)))
        first
         |(exact uN (rs:=AF.f19.results) (v:=.bY [.agg [.aS,.aS],.b true]) (oU rfl (aA.aD x0) rfl rfl rfl) (hK2 h3 _ _ (hk.trans k3) (.inl ⟨ne,rfl⟩) (.inl ⟨qe,rfl⟩)))
         |(exact uN (rs:=AF.f19.results) (v:=.bY [.agg [.aS,.sl none 16 (Q.map aI)],.b true]) (oU rfl (aA.aD x0) rfl rfl rfl) (hK2 h3 _ _ (hk.trans k3) (.inl ⟨ne,rfl⟩) (.inr rfl)))
         |(exact uN (rs:=AF.f19.results) (v:=.bY [.agg [.sl none 6 (N.map aK),.aS],.b true]) (oU rfl (aA.aD x0) rfl rfl rfl) (hK2 h3 _ _ (hk.trans k3) (.inr rfl) (.inl ⟨qe,rfl⟩)))
         |(exact uN (rs:=AF.f19.results) (v:=.bY [.agg [.sl none 6 (N.map aK),.sl none 16 (Q.map aI)],.b true]) (oU rfl (aA.aD x0) rfl rfl rfl) (hK2 h3 _ _ (hk.trans k3) (.inr rfl) (.inr rfl)))
theorem of_at (eN:dQ P 285) (eK:gZ P) {h:aA} (I:List (It×Int)) (hI:∀ x∈I,Zg x) (hl:I.length<=1000) (hn:(sQ I).length<=12) (hp:(sR I).length<=17) (GN:(sQ I).Pairwise fun a b=>bR a.name b.name) (WV:(sR I).Pairwise fun a b=>bR a.name b.name) {K:V->aA->Prop}
 (hK:∀ h',aA.aJ (fun _=>False) h h'->K (.bY [kS ⟨sQ I,sR I⟩,.b true]) h'):
 aC P 19 [.sl none 3 ((I.map Dm).map lG)] h K:=by
 refine aC.tell (of0_at hG eN eK I hI hl hn hp GN WV (K:=fun v h'=>∃ nv pv,v=.bY [.agg [nv,pv],.b true]/\aA.aJ (fun _=>False) h h'/\((sQ I=[]/\nv=.aS)\/nv=.sl none 6 ((sQ I).map aK))/\((sR I=[]/\pv=.aS)\/pv=.sl none 16 ((sR I).map aI))) fun h' nv pv a b c=>⟨nv,pv,rfl,a,b,c⟩) ?_
 rintro v h' ⟨nv,pv,rfl,hk,hn,hp⟩
 have c1:Ce gV ⟨0,0⟩ gG nv (.sl none 6 ((sQ I).map aK)):=by
  rcases hn with ⟨e,rfl⟩|rfl
  · rw [e];exact .nil
  · exact Bw _ _
 have c2:Ce gV ⟨0,0⟩ gG pv (.sl none 16 ((sR I).map aI)):=by
  rcases hp with ⟨e,rfl⟩|rfl
  · rw [e];exact .nil
  · exact Bw _ _
 have hc:Ah gV ⟨0,0⟩ gG [nv,pv] [.sl none 6 ((sQ I).map aK),.sl none 16 ((sR I).map aI)]:=⟨c1,c2,trivial⟩
 exact ⟨_,fun E x hx=>FE hc E x hx,hK h' hk⟩
end
open Go
structure SS (h:aA) (a:Nat) (R:Int) (D:List dG) (T:List (aU×Int)):Prop where
 g:∃ m0 m1 lg rl L base,La h a m0 m1 lg rl R D T L base/\(∀ x∈L,base<x.e.rev/\x.e.rev<=R)/\base<=R/\L.length<=64
 t:∀ t∈T,t.1.length<=9223372036854775807/\t.2<=R
 d:∀ e∈D,TB e
 r:0<=R
theorem SS.dZ {h h':aA} {a:Nat} {R:Int} {D:List dG} {T:List (aU×Int)} (hs:SS h a R D T) (hk:aA.aJ (fun _=>False) h h'):SS h' a R D T:=by
 obtain ⟨m0,m1,lg,rl,L,base,h1,h2,h3,h4⟩:=hs.g
 exact ⟨⟨m0,m1,lg,rl,L,base,h1.other hk fun _ _ e=>e,h2,h3,h4⟩,hs.t,hs.d,hs.r⟩
theorem T0 {T:List (aU×Int)} {k:aU} {r:Int}:∀ {t:aU×Int},t∈Jc T k r->t=(k,r)\/t∈T:=by
 induction T with
 |nil=>intro t h;exact .inl (by simpa [Jc] using h)
 |cons x q ih=>
  intro t h
  unfold Jc at h
  split at h
  · cases h with
    |head=>exact .inl rfl
    |tail _ h=>exact .inr (.tail _ h)
  · cases h with
    |head=>exact .inr (.head _)
    |tail _ h=>exact (ih h).imp id fun h=>.tail _ h
theorem HH {r:Int}:∀ {ws:List Hv} {T:List (aU×Int)} {t:aU×Int},t∈xD T r ws->(t.2=r/\∃ w∈ws,t.1=w.key)\/t∈T
 |[],T,t,h=>.inr h
 |w::ws,T,t,h=>by
  rcases HH (ws:=ws) (T:=Jc T w.key r) h with ⟨h1,w',h2,h3⟩|h1
  · exact .inl ⟨h1,w',.tail _ h2,h3⟩
  · rcases T0 h1 with rfl|h1
    · exact .inl ⟨rfl,w,.head _,rfl⟩
    · exact .inr h1
theorem Ql {D:List dG} {x:kJ} {e:dG} (h:e∈kM D x):e=x.e\/e∈D:=by
 unfold kM at h
 split at h
 · exact .inr ((Bp _ _).subset h)
 · exact K5 h
theorem FQ:∀ {l:List kJ} {D:List dG} {e:dG},e∈l.foldl kM D->e∈D\/∃ x∈l,e=x.e
 |[],D,e,h=>.inl h
 |x::r,D,e,h=>by
  rcases FQ (l:=r) (D:=kM D x) h with h|⟨y,h1,h2⟩
  · rcases Ql h with h|h
    · exact .inr ⟨x,.head _,h⟩
    · exact .inl h
  · exact .inr ⟨y,.tail _ h1,h2⟩
section
variable {P:Program} (hG:bP P AF.fns.get) (hH:C3 P 104 AF.Cw=true)
include hG
theorem Zh {h:aA} {K:V->aA->Prop} (hK:∀ h' a,SS h' a 0 [] []->K (.p (.g a) 0) h'):aC P 9 [] h K:=
 snew_at hG fun h' h1 _ _=>hK h' _ ⟨⟨_,_,_,_,_,_,h1,(fun x hx=>by cases hx),Int.le_refl _,Nat.zero_le _⟩,(fun t ht=>by cases ht),(fun e he=>by cases he),Int.le_refl _⟩
theorem Zi {h:aA} {a:Nat} {R:Int} {D:List dG} {T:List (aU×Int)} (hs:SS h a R D T) {K:V->aA->Prop} (hK:K (.i .i64 R) h):aC P 16 [.p (.g a) 0] h K:=by
 obtain ⟨m0,m1,lg,rl,L,base,h1,h2,h3,h4⟩:=hs.g
 exact srev_at hG h1 hK
theorem OH (hA:Hx P) (hS:Br P) {h:aA} {a:Nat} {R:Int} {D Ls:List dG} {T:List (aU×Int)} (hs:SS h a R D T) (hn:D.length<=100000) (hr:gB D Ls) {K:V->aA->Prop}
 (hK:∀ h',SS h' a R D T->K (.sl none 3 (Ls.map lG)) h'):aC P 15 [.p (.g a) 0] h K:=by
 obtain ⟨m0,m1,lg,rl,L,base,h1,h2,h3,h4⟩:=hs.g
 refine aC.tell (slist_at hG hA hS h1 hs.d hn hr (K:=fun v h'=>YX v Ls/\SS h' a R D T) fun lv h' hv h5 _=>⟨hv,⟨m0,m1,lg,rl,L,base,h5,h2,h3,h4⟩,hs.t,hs.d,hs.r⟩) ?_
 rintro v h' ⟨hv,h5⟩
 rcases hv with ⟨rfl,e⟩|rfl
 · exact ⟨_,fun E x hx=>Y3 (u:=.aS) (v:=.sl none 3 []) .nil E x hx,by have:=hK h' h5;rw [e] at this;exact this⟩
 · exact ⟨_,fun E x hx=>hx,hK h' h5⟩
include hH
theorem No (hA:Hx P) {h:aA} {a:Nat} {R:Int} {D:List dG} {T:List (aU×Int)} (hs:SS h a R D T) (hR:R<=1000000) (gs:List QK) (Nh:∀ g∈gs,g.key.length<=9223372036854775807) (Js:gs.length<=100) (ws:List Hv) (hw:∀ w∈ws,TH w/\w.val.length<=100000) (hl:ws.length<=1000) {K:V->aA->Prop}
 (pH:xI D T gs ws≠0->∀ h',SS h' a R D T->K (.bY [.i .i64 0,.i .i64 (xI D T gs ws)]) h')
 (hK:xI D T gs ws=0->∀ h',SS h' a (R+1) ((AD (R+1) ws).foldl kM D) (xD T (R+1) ws)->K (.bY [.i .i64 (R+1),.i .i64 0]) h'):
 aC P 10 [.p (.g a) 0,.agg [.sl none 3 (gs.map y7),.sl none 3 (ws.map mR)]] h K:=by
 obtain ⟨m0,m1,lg,rl,L,base,h1,h2,h3,h4⟩:=hs.g
 have GL:=hs.r
 refine utxn_at hG hH hA h1 h2 h3 ⟨hs.r,by omega⟩ h4 (fun t ht=>(hs.t t ht).1) gs Nh (by omega) ws (fun w hx=>(hw w hx).1) (by omega) (fun he h' h5 _=>pH he h' ⟨⟨m0,m1,lg,rl,L,base,h5,h2,h3,h4⟩,hs.t,hs.d,hs.r⟩) fun he h' Z0 qY b1 b2 h5 h6 _ _=>hK he h' ⟨⟨m0,m1,lg,Z0,_,qY,h5,fun x hx=>?_,by omega,h6⟩,fun t ht=>?_,fun e he=>?_,by omega⟩
 · obtain ⟨a1,a2⟩:=List.mem_filter.1 hx
   refine ⟨by simpa using a2,?_⟩
   rcases List.mem_append.1 a1 with a1|a1
   · have:=(h2 x a1).2;omega
   · unfold AD at a1
     obtain ⟨w,_,rfl⟩:=List.mem_map.1 a1
     exact Int.le_refl _
 · rcases HH ht with ⟨e1,w,e2,e3⟩|e1
   · exact ⟨by rw [e3];exact (hw w e2).1.key,by omega⟩
   · have:=hs.t t e1;exact ⟨this.1,by omega⟩
 · rcases FQ he with h7|⟨x,h7,rfl⟩
   · exact hs.d e h7
   · unfold AD at h7
     obtain ⟨w,M4,rfl⟩:=List.mem_map.1 h7
     have:=hw w M4
     exact ⟨by show w.val.length*1<=_;omega,this.1.key⟩
end
open Go
def fZ:List aL->gW
 |[]=>⟨0,0,0⟩
 |p::r=>⟨p.fQ.a+(fZ r).a,p.fQ.b+(fZ r).b,p.fQ.c+(fZ r).c⟩
def Lj (x y:gW):gW:=⟨x.a+y.a,x.b+y.b,x.c+y.c⟩
theorem Qn (x:gW):Lj ⟨0,0,0⟩ x=x:=by cases x;simp [Lj]
theorem Zj {a b c a' b' c':Int} (h1:a=a') (h2:b=b') (h3:c=c'):(⟨a,b,c⟩:gW)=⟨a',b',c'⟩:=by subst h1;subst h2;subst h3;rfl
theorem xK:∀ l q:List aL,fZ (l++q)=Lj (fZ l) (fZ q)
 |[],q=>by rw [List.nil_append,fZ,Qn]
 |p::r,q=>by
  rw [List.cons_append,fZ,fZ,xK r q]
  exact Zj (by simp only [Lj];omega) (by simp only [Lj];omega) (by simp only [Lj];omega)
theorem Qo {l q:List aL} (h:l.Perm q):fZ l=fZ q:=by
 induction h with
 |nil=>rfl
 |cons x _ ih=>rw [fZ,fZ,ih]
 |swap x y l=>
  rw [fZ,fZ,fZ,fZ]
  exact Zj (by dsimp only;omega) (by dsimp only;omega) (by dsimp only;omega)
 |trans _ _ a b=>exact a.trans b
def pO (l:List aL):Prop:=∀ q∈l,wQ q.fQ
theorem pO.filter {l:List aL} (h:pO l) (f:aL->Bool):pO (l.filter f):=fun q hq=>h q (List.mem_filter.1 hq).1
theorem uV:∀ {l:List aL},pO l->(0<=(fZ l).a/\(fZ l).a<=l.length*1000000000)/\(0<=(fZ l).b/\(fZ l).b<=l.length*1000000000)/\0<=(fZ l).c/\(fZ l).c<=l.length*1000000000
 |[],_=>by simp [fZ]
 |p::r,h=>by
  have h1:=h p (.head _)
  have h2:=uV (l:=r) fun q hq=>h q (.tail _ hq)
  have ha:=h1.a
  have hb:=h1.b
  have hc:=h1.c
  simp only [fZ,List.length_cons]
  omega
theorem T3 {l q:List aL} (hl:pO l) (hq:pO q) (h1:l.length<=1000) (h2:q.length<=1000):y5 (fZ l) (fZ q)=some (Lj (fZ l) (fZ q)):=by
 have b1:=uV hl
 have b2:=uV hq
 rw [MO (by omega)]
 rfl
theorem OI:∀ {q l:List aL},pO l->pO q->l.length+q.length<=1000->Al (fZ l) (q.map (·.fQ))=some (fZ (l++q))
 |[],l,_,_,_=>by simp [Al]
 |p::r,l,hl,hq,hn=>by
  have h1:=hq p (.head _)
  have b1:=uV hl
  simp only [List.length_cons] at hn
  have ha:=h1.a
  have hb:=h1.b
  have hc:=h1.c
  have e:y5 (fZ l) p.fQ=some (fZ (l++[p])):=by
   rw [MO (by omega),xK]
   refine congrArg some (Zj ?_ ?_ ?_)<;>simp [Lj,fZ]
  simp only [List.map_cons,Al,e]
  rw [OI (l:=l++[p]) (fun q U0=>by
   rcases List.mem_append.1 U0 with h|h
   · exact hl q h
   · rw [List.mem_singleton.1 h];exact h1) (fun q U0=>hq q (.tail _ U0)) (by simp;omega)]
  simp
theorem T4 {l:List aL} (hl:pO l) (hn:l.length<=1000):Al ⟨0,0,0⟩ (l.map (·.fQ))=some (fZ l):=by
 have:=OI (q:=l) (l:=[]) (fun _ h=>by cases h) hl (by simpa using hn)
 rw [List.nil_append] at this
 exact this
open Go
def fC (p:aL) (x:aU):aL:={ p with node:=x,term:=1 }
theorem T5 {N:List bK} {A B:List aL} {p:aL} {x:aU} (hx:(x==([]:aU))=false):
 oJ ⟨N,A++fC p x::B⟩ x=oJ ⟨N,A⟩ x++fC p x::oJ ⟨N,B⟩ x/\∀ y,y≠x->oJ ⟨N,A++fC p x::B⟩ y=oJ ⟨N,A++B⟩ y:=by
 constructor
 · unfold oJ
   rw [List.filter_append,List.filter_cons_of_pos]
   simp [fC,hx]
 · intro y hy
   unfold oJ
   rw [List.filter_append,List.filter_append,List.filter_cons_of_neg]
   simp [fC,Ne.symm hy]
theorem Aw {N:List bK} {A B:List aL} {x:aU}:oJ ⟨N,A++B⟩ x=oJ ⟨N,A⟩ x++oJ ⟨N,B⟩ x:=by
 unfold oJ
 rw [List.filter_append]
theorem xL {N:List bK} {l:List aL} (h:pO l) (hl:l.length<=1000) (x:aU):rO ⟨N,l⟩ x=some (fZ (oJ ⟨N,l⟩ x)):=
 T4 (pO.filter h _) (Nat.le_trans (List.length_filter_le _ _) hl)
theorem Lk {N:List bK} {A B:List aL} {p:aL} {x:aU} {n0:bK} (hn:N.Pairwise fun a b=>a.name≠b.name) (hx:(x==([]:aU))=false) (hm:pO (A++B)) (XQ:wQ p.fQ) (hl:(A++B).length<=900) (hw:pF ⟨N,A++B⟩=true) (Az:N.find? (fun n=>n.name==x)=some n0)
 (h1:A9 ⟨N,A++B⟩ p n0=true) (h2:uF ⟨N,A++B⟩ p n0=true):pF ⟨N,A++fC p x::B⟩=true:=by
 have Wm:n0.name=x:=by simpa using List.find?_some Az
 have aj3:n0∈N:=List.mem_of_find?_eq_some Az
 obtain ⟨o1,o2⟩:=T5 (N:=N) (A:=A) (B:=B) (p:=p) hx
 have hmA:pO A:=fun q hq=>hm q (List.mem_append.2 (.inl hq))
 have hmB:pO B:=fun q hq=>hm q (List.mem_append.2 (.inr hq))
 have hmn:pO (A++fC p x::B):=fun q hq=>by
  rcases List.mem_append.1 hq with h|h
  · exact hmA q h
  · cases h with
    |head=>exact XQ
    |tail _ h=>exact hmB q h
 have UX:(A++fC p x::B).length<=1000:=by simp at hl ⊢;omega
 unfold pF at hw ⊢
 rw [Bool.and_eq_true] at hw ⊢
 obtain ⟨w1,w2⟩:=hw
 rw [List.all_eq_true] at w1 w2
 rw [List.all_eq_true,List.all_eq_true]
 constructor
 · intro n hnN
   have LK:=w1 n hnN
   try dsimp only at LK ⊢
   rw [xL hm (by omega)] at LK
   rw [xL hmn UX]
   try dsimp only at LK ⊢
   by_cases W6:n.name=x
   · have Ly:n=n0:=by
      by_cases he:n=n0
      · exact he
      · exfalso
        have aj4:∀ {L:List bK},L.Pairwise (fun a b=>a.name≠b.name)->n∈L->n0∈L->n≠n0->n.name≠n0.name:=by
         intro L hL
         induction hL with
         |nil=>intro h;cases h
         |cons h _ ih=>
          intro a b dJ
          cases a with
          |head=>cases b with
           |head=>exact absurd rfl dJ
           |tail _ b=>exact h _ b
          |tail _ a=>cases b with
           |head=>exact Ne.symm (h _ a)
           |tail _ b=>exact ih a b dJ
        exact aj4 hn hnN aj3 he (W6.trans Wm.symm)
     subst Ly
     rw [W6] at LK ⊢
     rw [Aw] at LK
     rw [o1]
     rw [Bool.and_eq_true] at LK ⊢
     obtain ⟨_,k2⟩:=LK
     constructor
     · unfold A9 at h1
       rw [xL hm (by omega),W6,Aw] at h1
       dsimp only at h1
       have o8:p.fQ=fZ [fC p x]:=by simp [fZ,fC]
       have H8:pO (oJ ⟨N,A⟩ x++oJ ⟨N,B⟩ x):=fun q hq=>by
        rcases List.mem_append.1 hq with h|h
        · exact pO.filter hmA _ q h
        · exact pO.filter hmB _ q h
       have O6:(oJ ⟨N,A⟩ x++oJ ⟨N,B⟩ x).length<=1000:=by
        rw [<-Aw]
        exact Nat.le_trans (List.length_filter_le _ _) (show (A++B).length<=1000 by omega)
       rw [o8,T3 H8 (fun q hq=>by rw [List.mem_singleton.1 hq];exact XQ) O6 (by simp),<-xK] at h1
       dsimp only at h1
       have JQ:(oJ ⟨N,A⟩ x++fC p x::oJ ⟨N,B⟩ x).Perm (oJ ⟨N,A⟩ x++oJ ⟨N,B⟩ x++[fC p x]):=by
        refine List.perm_middle.trans ?_
        exact (List.perm_append_comm (l₁:=[fC p x]) (l₂:=oJ ⟨N,A⟩ x++oJ ⟨N,B⟩ x))
       rw [Qo JQ]
       exact h1
     · rw [C0] at k2 ⊢
       obtain ⟨q1,q2,q3⟩:=List.pairwise_append.1 k2
       have aeD:∀ q∈A++B,q.node=x->∀ y∈q.aN,y∉p.aN:=fun q hq hqx y hy hyp=>by
        unfold uF at h2
        rw [Bool.not_eq_true',List.any_eq_false] at h2
        have:=h2 q hq
        apply this
        rw [W6]
        simp only [Bool.and_eq_true,beq_iff_eq,Bool.not_eq_true',List.any_eq_true,decide_eq_true_eq]
        exact ⟨hqx,by rw [hqx];exact hx,y,hy,y,hyp,rfl⟩
       have hA:∀ q∈oJ ⟨N,A⟩ x,q∈A/\q.node=x:=fun q hq=>by
        obtain ⟨a,b⟩:=List.mem_filter.1 hq
        simp only [Bool.and_eq_true,beq_iff_eq] at b
        exact ⟨a,b.1⟩
       have hB:∀ q∈oJ ⟨N,B⟩ x,q∈B/\q.node=x:=fun q hq=>by
        obtain ⟨a,b⟩:=List.mem_filter.1 hq
        simp only [Bool.and_eq_true,beq_iff_eq] at b
        exact ⟨a,b.1⟩
       refine List.pairwise_append.2 ⟨q1,List.pairwise_cons.2 ⟨fun b hb y hy hyb=>aeD b (List.mem_append.2 (.inr (hB b hb).1)) (hB b hb).2 y hyb hy,q2⟩,fun a ha b hb=>?_⟩
       cases hb with
       |head=>exact fun y hy=>aeD a (List.mem_append.2 (.inl (hA a ha).1)) (hA a ha).2 y hy
       |tail _ hb=>exact q3 a ha b hb
   · rw [o2 _ W6]
     exact LK
 · intro q hq
   rcases List.mem_append.1 hq with h|h
   · exact w2 q (List.mem_append.2 (.inl h))
   · cases h with
     |head=>
      show (x==[]||(N.find? fun n=>n.name==x).isSome)=true
      rw [Az];simp
     |tail _ h=>exact w2 q (List.mem_append.2 (.inr h))
end Go.Eng
