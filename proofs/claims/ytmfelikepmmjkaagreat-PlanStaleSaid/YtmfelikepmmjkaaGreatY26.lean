/-
The sort by insertion: nothing is lost, and it is sorted.
-/
import Derived.Test.YtmfelikepmmjkaaGreatY25
import Derived.Test.YtmfelikepmmjkaaGreatY23
import Derived.Test.YtmfelikepmmjkaaGreatY13
import Derived.Test.YtmfelikepmmjkaaGreatY08
import Derived.Test.YtmfelikepmmjkaaGreatY09
set_option linter.unusedVariables false
set_option linter.unusedSimpArgs false
set_option maxHeartbeats 16000000
set_option maxRecDepth 20000
namespace Go.Eng
open Go
section plain
variable {α:Type} {lt:α->α->Bool}
theorem uV {f:α->Bool}:∀ {l:List α} {y:α} {r:List α},l.dropWhile f=y::r->f y=false
 |[],_,_,h=>by simp at h
 |a::l,y,r,h=>by
  cases hf:f a with
  |true=>
   rw [List.dropWhile_cons,if_pos hf] at h
   exact uV h
  |false=>
   rw [List.dropWhile_cons,if_neg (by simp [hf])] at h
   cases h
   exact hf
theorem xT {f:α->Bool}:∀ {l:List α} {y:α},y∈l.takeWhile f->f y=true
 |[],_,h=>by simp at h
 |a::l,y,h=>by
  cases hf:f a with
  |true=>
   rw [List.takeWhile_cons,if_pos hf] at h
   cases h with
   |head=>exact hf
   |tail _ h=>exact xT h
  |false=>
   rw [List.takeWhile_cons,if_neg (by simp [hf])] at h
   cases h
theorem Q7 (pre:List α) (x:α):∃ A B,pre=A++B/\D5 lt pre x=A++x::B/\(∀ b∈B,lt x b=true)/\(A=[]\/∃ A' y,A=A'++[y]/\lt x y=false):=by
 have h0:=List.takeWhile_append_dropWhile (p:=lt x) (l:=pre.reverse)
 obtain ⟨tw,htw⟩:∃ tw,tw=pre.reverse.takeWhile (lt x):=⟨_,rfl⟩
 obtain ⟨dw,hdw⟩:∃ dw,dw=pre.reverse.dropWhile (lt x):=⟨_,rfl⟩
 rw [<-htw,<-hdw] at h0
 have hp:pre=dw.reverse++tw.reverse:=by
  have:=congrArg List.reverse h0
  rw [List.reverse_append,List.reverse_reverse] at this
  exact this.symm
 have hk:D4 lt pre x=dw.reverse.length:=by
  unfold D4
  rw [<-htw,hp]
  simp
 refine ⟨dw.reverse,tw.reverse,hp,?_,fun b hb=>?_,?_⟩
 · unfold D5 fH
   rw [hk,hp]
   simp
 · rw [List.mem_reverse,htw] at hb
   exact xT hb
 · cases hd:dw with
   |nil=>exact .inl rfl
   |cons y r=>
    refine .inr ⟨r.reverse,y,by simp,?_⟩
    rw [hdw] at hd
    exact uV hd
theorem N4 (pre:List α) (x:α):(D5 lt pre x).Perm (x::pre):=by
 obtain ⟨A,B,h1,h2,_⟩:=Q7 (lt:=lt) pre x
 rw [h2,h1]
 exact List.perm_middle
theorem D8:∀ (l acc:List α),(l.foldl (D5 lt) acc).Perm (acc++l)
 |[],acc=>by simp
 |x::r,acc=>by
  rw [List.foldl_cons]
  refine (D8 r _).trans ?_
  refine ((N4 acc x).append_right r).trans ?_
  exact (List.perm_middle (l₁:=acc) (l₂:=r)).symm
theorem BM (l:List α):(gW lt l).Perm l:=by
 have:=D8 (lt:=lt) l []
 simpa [gW] using this
end plain
open Go
def gH (n:Int):List V:=[.i .u8 n]
section
variable {P:Program} (hG:bN P AF.fns.get)
include hG
theorem sQ (l:List Int) (hl:l.length*1<=140737488355328):Pure P 105 [.sl none 1 (l.map gH)] (·=.sl none 1 (l.map gH)):=by
 refine aM (hG _ AF.f105 rfl) rfl ?_
 cases l with
 |nil=>
  (refine zr ?_)
  refine A2.mk fun b=>?_
  cases b
  · (refine zr ?_)
    exact hM rfl
  · (refine zr ?_)
    exact pure_nil rfl
 |cons x r=>
  ((conv=>whnf);repeat ((first|refine ye (fP (fun _=>rfl) (x::r)) ?_|refine aK.mk (by first|(simp [bR];done)|simpa [bR] using hl) ?_|refine zz ?_)<;>(conv=>whnf)))
  exact hM rfl
end
open Go
def eA (c:Nat):Nat:=if 97<=c/\c<123 then c - 96 else if 48<=c/\c<58 then c - 21 else if c=45 then 37 else 0
def BO (d:Nat):Nat:=if 1<=d/\d<=26 then d+96 else if 27<=d/\d<=36 then d+21 else if d=37 then 45 else 0
theorem JE {c:Nat} (h:0<eA c):c<256:=by
 unfold eA at h
 split at h
 · omega
 · split at h
   · omega
   · split at h<;>omega
theorem yS (c:Nat) (h:0<eA c):BO (eA c)=c:=
 (show ∀ c,c<256->0<eA c->BO (eA c)=c by decide) c (JE h) h
theorem MP {α:Type} {A B C:List α} {n k:Nat} {v:α} (hn:n=A.length+k) (hk:k<B.length):(A++(B++C)).set n v=A++(B.set k v++C):=by
 subst hn
 rw [List.set_append_right _ _ (by omega),List.set_append_left _ _ (by omega),Nat.add_sub_cancel_left]
theorem Ap (c:Nat):eA c<=37:=by
 unfold eA
 split
 · omega
 · split
   · omega
   · split<;>omega
def Gb (n c:Nat):Nat:=if eA c<=n then eA c else 0
def wD (n d:Nat):Nat:=if d<=n then BO d else 0
def nU (d l:Int) (n:Nat):List V:=[.i .u32 d,.i .i32 l,.i .u32 0]++((List.range 256).map fun c=>V.i .u64 (Gb n c))++((List.range 38).map fun j=>V.i .u8 (wD n j))
theorem JF (d l:Int) (n:Nat):(nU d l n).length=297:=by simp [nU]
theorem Gc {α:Type} (f g:Nat->α) (n i:Nat) (v:α) (hv:i<n->g i=v) (h:∀ j,j≠i->g j=f j):((List.range n).map f).set i v=(List.range n).map g:=by
 apply List.ext_getElem?
 intro j
 rw [List.getElem?_set]
 split
 · rename_i SV
   subst SV
   by_cases hi:i<n
   · simp [hi,hv hi]
   · simp [hi]
 · rename_i SV
   by_cases hj:j<n
   · simp [hj,h j (Ne.symm SV)]
   · simp [hj]
theorem TN (d l:Int) (m b:Nat) (R:List V) (hb:b<256) (hd:eA b=m+1):((nU d l m++R).set (3+b) (.i .u64 ((m+1:Nat):Int))).set (259+(m+1)) (.i .u8 (b:Int))=nU d l (m+1)++R:=by
 have hm:m+1<=37:=by have:=Ap b;omega
 have Cv:BO (m+1)=b:=by rw [<-hd];exact yS b (by omega)
 have e1:((List.range 256).map fun c=>V.i .u64 (Gb m c)).set b (.i .u64 ((m+1:Nat):Int))=(List.range 256).map fun c=>V.i .u64 (Gb (m+1) c):=by
  refine Gc _ _ _ _ _ (fun _=>?_) (fun j hj=>?_)
  · show V.i .u64 (((if eA b<=m+1 then eA b else 0:Nat)):Int)=_
    rw [if_pos (by omega),hd]
  · have dM:eA j≠m+1:=by
     intro hc
     have h1:=yS j (by omega)
     rw [hc,Cv] at h1
     exact hj h1.symm
    show V.i .u64 _=V.i .u64 _
    congr 2
    unfold Gb
    by_cases h1:eA j<=m
    · rw [if_pos h1,if_pos (by omega)]
    · rw [if_neg h1,if_neg (by omega)]
 have e2:((List.range 38).map fun j=>V.i .u8 (wD m j)).set (m+1) (.i .u8 (b:Int))=(List.range 38).map fun j=>V.i .u8 (wD (m+1) j):=by
  refine Gc _ _ _ _ _ (fun _=>?_) (fun j hj=>?_)
  · show V.i .u8 (((if m+1<=m+1 then BO (m+1) else 0:Nat)):Int)=_
    rw [if_pos (Nat.le_refl _),Cv]
  · show V.i .u8 _=V.i .u8 _
    congr 2
    unfold wD
    by_cases h1:j<=m
    · rw [if_pos h1,if_pos (by omega)]
    · rw [if_neg h1,if_neg (by omega)]
 unfold nU
 rw [<-e1,<-e2]
 generalize hB:((List.range 256).map fun c=>V.i .u64 (Gb m c))=B
 generalize hC:((List.range 38).map fun j=>V.i .u8 (wD m j))=C
 have hBl:B.length=256:=by rw [<-hB];simp
 have hCl:C.length=38:=by rw [<-hC];simp
 rw [List.append_assoc,List.append_assoc,MP (k:=b) (by first|(simp;done)|(simp;omega)) (by omega),<-List.append_assoc,MP (k:=m+1) (by first|(simp [hBl];done)|(simp [hBl];omega)) (by omega)]
 simp only [List.append_assoc]
open Go
theorem aA.aI.in3 {b:Nat->Prop} {h:aA} {x y z:Nat} (hx:b x) (hy:b y) (hz:b z) (o o2 o3:Obj):aA.aI b h (((h.set x o).set y o2).set z o3):=
 aA.aI.set (b:=b) (aA.aI.set (b:=b) (aA.aI.set (b:=b) (.refl _ _) (.inl hx) o) (.inl hy) o2) (.inl hz) o3
section
variable {P:Program} (hG:bN P AF.fns.get)
include hG
theorem tadd_at {h:aA} {kn kv a m b:Nat} {d l:Int} {R:List V} (h1:h.get kn=some (.cs [.i .u64 (m:Nat)])) (h2:h.get kv=some (.cs [.p (.g a) 0])) (h3:h.get a=some (.cs (nU d l m++R))) (XK:kn≠a) (WD:kv≠a) (hnv:kn≠kv)
 (hb:b<256) (hd:eA b=m+1) {K:V->aA->Prop}
 (hK:∀ h',h'.get kn=some (.cs [.i .u64 ((m+1:Nat):Int)])->h'.get a=some (.cs (nU d l (m+1)++R))->aA.aI (fun n=>n=kn\/n=a) h h'->K (.bY []) h'):aB P 287 [.i .u8 (b:Nat),.p (.g kn) 0,.p (.g kv) 0] h K:=by
 have hm:m+1<=37:=by have:=Ap b;omega
 refine aN (hG _ AF.f287 rfl) rfl ?_
 have g1:∀ o,(h.set kn o).get kv=some (.cs [.p (.g a) 0]):=fun o=>aA.gs (Ne.symm hnv) h2
 have g2:∀ o,(h.set kn o).get a=some (.cs (nU d l m++R)):=fun o=>aA.gs (Ne.symm XK) h3
 have g3:∀ o,(h.set kn o).get kn=some o:=fun o=>aA.aD h1
 have g4:∀ o o2,((h.set kn o).set a o2).get a=some o2:=fun o o2=>aA.aD (g2 _)
 have g5:∀ o o2,((h.set kn o).set a o2).get kv=some (.cs [.p (.g a) 0]):=fun o o2=>aA.gs WD (g1 _)
 have g6:∀ o o2,((h.set kn o).set a o2).get kn=some o:=fun o o2=>aA.gs XK (g3 _)
 have g7:∀ o o2 o3,(((h.set kn o).set a o2).set a o3).get kn=some o:=fun o o2 o3=>aA.gs XK (g6 _ _)
 have g8:∀ o o2 o3,(((h.set kn o).set a o2).set a o3).get a=some o3:=fun o o2 o3=>aA.aD (g4 _ _)
 have hlen:(nU d l m++R).length=297+R.length:=by rw [List.length_append,JF]
 have e1:dI (nU d l m++R) (0+3+((b:Nat):Int).toNat*1) [.i .u64 ((m:Int)+1)]=(nU d l m++R).set (3+b) (.i .u64 ((m+1:Nat):Int)):=by
  show (nU d l m++R).set _ _=_
  rw [show 0+3+((b:Nat):Int).toNat*1=3+b by omega];rfl
 have e2:dI ((nU d l m++R).set (3+b) (.i .u64 ((m+1:Nat):Int))) (0+259+((m:Int)+1).toNat*1) [.i .u8 (b:Nat)]=nU d l (m+1)++R:=by
  rw [<-TN d l m b R hb hd]
  show List.set _ _ _=_
  rw [show 0+259+((m:Int)+1).toNat*1=259+(m+1) by omega]
 ((conv=>whnf);repeat ((first|refine aQ.wu (by omega) (by omega) ?_|refine aK.ix (by omega) (by omega) ?_|refine aK.mk (decide_eq_true (by rw [hlen];show 0+3+((b:Nat):Int).toNat*1+1<=_;omega)) ?_|refine aK.mk (decide_eq_true (by rw [List.length_set,hlen];show 0+259+((m:Int)+1).toNat*1+1<=_;omega)) ?_|refine ye (congrArg some e1) ?_|refine ye (congrArg some e2) ?_|refine ye (h1) ?_|refine ye (g1 _) ?_|refine ye (g2 _) ?_|refine ye (g3 _) ?_|refine ye (g4 _ _) ?_|refine ye (g5 _ _) ?_|refine ye (g6 _ _) ?_|refine zz ?_)<;>(conv=>whnf)))
 exact hK _ (g7 _ _ _) (g8 _ _ _) (aA.aI.in3 (.inl rfl) (.inr rfl) (.inr rfl) _ _ _)
theorem tmake1_at {h:aA} {kv a:Nat} {d l:Int} {R:List V} (h2:h.get kv=some (.cs [.p (.g a) 0])) (h3:h.get a=some (.cs (nU d l 0++R))) (hv:kv<h.next) (ha:a<h.next) (WD:kv≠a) {K:V->aA->Prop}
 (hK:∀ h',h'.get a=some (.cs (nU d l 37++R))->aA.aI (fun n=>n=a) h h'->K (.bY []) h'):aB P 286 [.p (.g kv) 0] h K:=by
 refine aN (hG _ AF.f286 rfl) rfl ?_
 (refine cJ @aA.aC ?_)
 refine bV.by (fun q fr st=>∃ (i:Nat) (hh lo:aA),i<=26/\q=26 - i/\h.next<hh.next/\hh.get h.next=some (.cs [.i .u64 (i:Nat)])/\hh.get a=some (.cs (nU d l i++R))/\aA.aI (fun n=>n=a\/n=h.next) h hh/\
  Fr.le [(6,.i .u8 i),(2,.fn 287 [] [.p (.g h.next) 0,.p (.g kv) 0])] fr/\st=⟨hh,lo⟩)
  26 ⟨0,_,_,by omega,rfl,Nat.lt_succ_self _,aA.aD (aA.aC _ _),aA.gs (by omega) (aA.gp (by omega) h3),.set (.push (.refl _ _) _) (.inr (Nat.le_refl _)) _,dK,rfl⟩ ?_
 rintro q fr st ⟨i,hh,lo,hi,rfl,hn,g1,g3,hk,dO,rfl⟩
 refine ⟨_,dO,fun R1 hR=>?_⟩
 have g2:hh.get kv=some (.cs [.p (.g a) 0]):=by rw [hk.2 kv hv (by rintro (h|h)<;>omega)];exact h2
 by_cases eB:i<26
 · have uH:=fun K hK=>tadd_at (K:=K) hG g1 g2 g3 (by omega) WD (by omega) (show 97+i<256 by omega) (show eA (97+i)=i+1 by unfold eA;rw [if_pos (by omega)];omega) hK
   have hb:((97+i:Nat):Int)=97+(i:Int):=by omega
   rw [hb] at uH
   ((conv=>whnf);repeat ((first|refine aH.dt (show (i:Int)<26 by omega) ?_|refine aQ.of (by show (0:Int)<=_;omega) (by show _<=(255:Int);omega) ?_|refine cA (uH _) ?_|refine zz ?_)<;>(conv=>whnf)))
   intro h' q1 q2 q3
   ((conv=>whnf);repeat ((first|refine aQ.of (by show (0:Int)<=_;omega) (by show _<=(255:Int);omega) ?_|refine zz ?_)<;>(conv=>whnf)))
   exact hR (26 - (i+1)) _ _ (by omega) ⟨i+1,h',lo,by omega,rfl,Nat.lt_of_lt_of_le hn q3.1,q1,q2,hk.trans (q3.mono fun n _ e=>e.symm),dK,rfl⟩
 · obtain rfl:i=26:=by omega
   (refine cJ (show ¬((26:Nat):Int)<26 by omega) ?_)
   refine bV.by (fun q fr st=>∃ (i:Nat) (hh lo:aA),i<=10/\q=10 - i/\h.next<hh.next/\hh.get h.next=some (.cs [.i .u64 ((26+i:Nat):Int)])/\hh.get a=some (.cs (nU d l (26+i)++R))/\aA.aI (fun n=>n=a\/n=h.next) h hh/\
    Fr.le [(14,.i .u8 i),(2,.fn 287 [] [.p (.g h.next) 0,.p (.g kv) 0])] fr/\st=⟨hh,lo⟩)
    10 ⟨0,hh,_,by omega,rfl,hn,g1,g3,hk,dK,rfl⟩ ?_
   rintro q fr st ⟨i,hh,lo,hi,rfl,hn,g1,g3,hk,dO,rfl⟩
   refine ⟨_,dO,fun R1 hR=>?_⟩
   have g2:hh.get kv=some (.cs [.p (.g a) 0]):=by rw [hk.2 kv hv (by rintro (h|h)<;>omega)];exact h2
   by_cases eB:i<10
   · have uH:=fun K hK=>tadd_at (K:=K) hG g1 g2 g3 (by omega) WD (by omega) (show 48+i<256 by omega) (show eA (48+i)=26+i+1 by unfold eA;rw [if_neg (by omega),if_pos (by omega)];omega) hK
     have hb:((48+i:Nat):Int)=48+(i:Int):=by omega
     rw [hb] at uH
     ((conv=>whnf);repeat ((first|refine aH.dt (show (i:Int)<10 by omega) ?_|refine aQ.of (by show (0:Int)<=_;omega) (by show _<=(255:Int);omega) ?_|refine cA (uH _) ?_|refine zz ?_)<;>(conv=>whnf)))
     intro h' q1 q2 q3
     ((conv=>whnf);repeat ((first|refine aQ.of (by show (0:Int)<=_;omega) (by show _<=(255:Int);omega) ?_|refine zz ?_)<;>(conv=>whnf)))
     exact hR (10 - (i+1)) _ _ (by omega) ⟨i+1,h',lo,by omega,rfl,Nat.lt_of_lt_of_le hn q3.1,q1,q2,hk.trans (q3.mono fun n _ e=>e.symm),dK,rfl⟩
   · obtain rfl:i=10:=by omega
     have uH:=fun K hK=>tadd_at (K:=K) hG g1 g2 g3 (by omega) WD (by omega) (show 45<256 by omega) (show eA 45=26+10+1 by rfl) hK
     (refine iU (show ¬((10:Nat):Int)<10 by omega) @uH ?_)
     intro h' q1 q2 q3
     (refine zr ?_)
     exact hK h' q2 ((hk.trans (q3.mono fun n _ e=>e.symm)).mono fun n NL e=>by rcases e with e|e;exact e;omega)
end
open Go
def tv:Bool->List V
 |true=>nU 1 0 37
 |false=>nU 0 0 0
theorem nI (m:Bool):(tv m).length=297:=by cases m<;>exact JF _ _ _
theorem ZO (m:Bool) (x:V) (r:List V):(tv m++x::r)[0+297]? =some x:=by
 rw [List.getElem?_append_right (by rw [nI];omega),nI];rfl
theorem lK (m:Bool) (x:V) (r:List V):dL (tv m++x::r) (0+297) none=some x:=ZO m x r
theorem Gd (m:Bool) (x y:V) (r:List V):dI (tv m++x::r) (0+297) [y]=tv m++y::r:=by
 show List.set _ _ _=_
 rw [List.set_append_right _ _ (by rw [nI];omega),nI];rfl
theorem wE (m:Bool) (x y:V) (r:List V):oH (tv m++x::r) (0+297) [y]=true:=decide_eq_true (by rw [List.length_append,nI];simp;omega)
def jI (h:aA) (lo a:Nat) (m:Bool) (B:List Int):Prop:=
 lo<=a/\a<h.next/\((B=[]/\h.get a=some (.cs (tv m++[.aV])))\/∃ k,lo<=k/\k≠a/\k<h.next/\h.get k=some .spare/\h.get a=some (.cs (tv m++[.sl (some (.g k)) 1 (B.map gH)])))
def Ge (n:Int) (s:Int):Int:=IntKind.u8.wrap (n.fdiv (2 ^ (min s.toNat IntKind.i64.bits)))
def dB (n:Int) (size:Nat):List Int:=(List.range size).map fun (i:Nat)=>Ge n (8*(((size:Int) - 1) - (i:Int)))
theorem Rl (n:Int) {size i:Nat} (h:i<size):(dB n size)[i]? =some (Ge n (8*(((size:Int) - 1) - i))):=by simp [dB,h]
section
variable {P:Program} (hG:bN P AF.fns.get)
include hG
theorem tmake_at (fD:eD P 285) {h:aA} {a:Nat} {m:Bool} {R:List V} (ha:a<h.next) (h1:h.get a=some (.cs (tv m++R))) {K:V->aA->Prop}
 (hK:∀ h',h'.get a=some (.cs (tv true++R))->aA.aI (fun n=>n=a) h h'->K (.bY []) h'):aB P 211 [.p (.g a) 0] h K:=by
 have g1:∀ o,(h.push o).get a=some (.cs (tv m++R)):=fun o=>aA.gp (by omega) h1
 have g2:∀ o,(h.push o).get h.next=some o:=fun o=>aA.aC _ _
 cases m
 · have XN:=fun (K:V->aA->Prop) hc=>fD.first a 0 286 [] [.p (.g h.next) 0] (tv false++R) (h.push (.cs [.p (.g a) 0])) K (g1 _) rfl rfl hc
   refine aN (hG _ AF.f211 rfl) rfl ?_
   (refine pU @XN @g1 @g2 ?_)
   have c1:(tv false++R).set (0+1) (.i .i32 1)=nU 0 1 0++R:=rfl
   rw [c1]
   refine tmake1_at hG (kv:=h.next) (a:=a) (d:=0) (l:=1) (R:=R) (aA.gs (by omega) (g2 _)) (aA.aD (g1 _)) (Nat.lt_succ_self _) (Nat.lt_succ_of_lt ha) (by omega) fun h' q1 q2=>?_
   refine ⟨_,q1,rfl,rfl,?_⟩
   have c2:((nU 0 1 37++R).set 0 (.i .u32 1)).set (0+1) (.i .i32 0)=tv true++R:=rfl
   rw [c2]
   (refine zr ?_)
   exact hK _ (aA.aD q1) (aA.aI.set (b:=fun n=>n=a) (aA.aI.trans (b:=fun n=>n=a) (aA.aI.set (b:=fun n=>n=a) (.push (.refl _ _) _) (.inl rfl) _) q2) (.inl rfl) _)
 · have XN:=fun (K:V->aA->Prop) hc=>fD.done a 0 286 [] [.p (.g h.next) 0] (tv true++R) 1 (h.push (.cs [.p (.g a) 0])) K (g1 _) rfl (by decide) hc
   refine aN (hG _ AF.f211 rfl) rfl ?_
   (refine pU @XN @g1 @g2 ?_)
   exact hK _ (g1 _) (.push (.refl _ _) _)
theorem wnum_at {h:aA} {lo a:Nat} {m:Bool} {B:List Int} (hw:jI h lo a m B) (hB:B.length<=100000000) (n:Int) (size:Nat) (hs:size<=8) {K:V->aA->Prop}
 (hK:∀ h',jI h' lo a m (B++dB n size)->aA.aI (fun n=>lo<=n) h h'->K (.bY []) h'):aB P 46 [.p (.g a) 0,.i .i64 n,.i .i64 size] h K:=by
 refine aN (hG _ AF.f46 rfl) rfl ?_
 have rX:(dB n size).length=size:=by simp [dB]
 (refine zr ?_)
 refine bV.by (fun q fr st=>∃ (i:Nat) (hh l:aA),i<=size/\q=size - i/\jI hh lo a m (B++(dB n size).take i)/\aA.aI (fun n=>lo<=n) h hh/\
  Fr.le [(8,.i .i64 i),(7,.i .i64 size),(2,.i .i64 size),(1,.i .i64 n),(0,.p (.g a) 0)] fr/\st=⟨hh,l⟩)
  size ⟨0,h,_,Nat.zero_le _,rfl,(by rw [List.take_zero,List.append_nil];exact hw),.refl _ _,dK,rfl⟩ ?_
 rintro q fr st ⟨i,hh,l,hi,rfl,BP,hk,dO,rfl⟩
 refine ⟨_,dO,fun R hR=>?_⟩
 by_cases eB:i<size
 · have fM:=Rl n eB
   have kQ:(dB n size).take (i+1)=(dB n size).take i++[Ge n (8*(((size:Int) - 1) - i))]:=by rw [List.take_add_one,fM];rfl
   obtain ⟨hla,U7,hb⟩:=BP
   have hlen:(B++(dB n size).take i).length<=100000008:=by simp;omega
   have g0:∀ o,(hh.push o).get hh.next=some o:=fun o=>aA.aC _ _
   rcases hb with ⟨wB,ga⟩|⟨k,FC,ZP,hkn,gk,ga⟩
   · have g1:∀ o,(hh.push o).get a=some (.cs (tv m++[.aV])):=fun o=>aA.gp (by omega) ga
     have g2:∀ o o2,((hh.push o).push o2).get a=some (.cs (tv m++[.aV])):=fun o o2=>aA.gp (by show a≠hh.next+1;omega) (g1 o)
     ((conv=>whnf);repeat ((first|refine aH.dt (show (i:Int)<(size:Nat) by omega) ?_|refine aQ.gS (by omega) (by omega) ?_|refine aK.mk (decide_eq_true (show (0:Int)<=8*((size:Int) - 1 - (i:Int)) by omega)) ?_|refine aQ.mk ?_|refine aK.mk (wE _ _ _ _) ?_|refine aZ.of (lK _ _ _) ?_|refine ye (congrArg some (Gd _ _ _ _)) ?_|refine ye (ga) ?_|refine ye (g1 _) ?_|refine ye (g2 _ _) ?_|refine zz ?_)<;>(conv=>whnf)))
     dsimp only
     rw [lK]
     ((conv=>whnf);repeat ((first|refine aH.dt (show (i:Int)<(size:Nat) by omega) ?_|refine aQ.gS (by omega) (by omega) ?_|refine aK.mk (decide_eq_true (show (0:Int)<=8*((size:Int) - 1 - (i:Int)) by omega)) ?_|refine aQ.mk ?_|refine aK.mk (wE _ _ _ _) ?_|refine aZ.of (lK _ _ _) ?_|refine ye (congrArg some (Gd _ _ _ _)) ?_|refine ye (ga) ?_|refine ye (g1 _) ?_|refine ye (g2 _ _) ?_|refine zz ?_)<;>(conv=>whnf)))
     have qO:∀ o o2 o3,aA.aI (fun n=>lo<=n) h (((hh.push o).push o2).set a o3):=fun o o2 o3=>aA.aI.set (b:=fun n=>lo<=n) (.push (.push hk _) _) (.inl hla) _
     exact hR (size - (i+1)) _ _ (by omega) ⟨i+1,_,_,by omega,rfl,⟨hla,(by show a<hh.next+1+1;omega),.inr ⟨hh.next+1,by omega,by omega,Nat.lt_succ_self _,aA.gs (by omega) (aA.aC _ _),(aA.aD (g2 _ _)).trans (by rw [kQ,<-List.append_assoc,wB];rfl)⟩⟩,qO _ _ _,dK,rfl⟩
   · have g1:∀ o,(hh.push o).get a=some (.cs (tv m++[.sl (some (.g k)) 1 ((B++(dB n size).take i).map gH)])):=fun o=>aA.gp (by omega) ga
     have g3:∀ o,(hh.push o).get k=some .spare:=fun o=>aA.gp (by omega) gk
     have g2:∀ o o2,(((hh.push o).remove k).push o2).get a=some (.cs (tv m++[.sl (some (.g k)) 1 ((B++(dB n size).take i).map gH)])):=fun o o2=>aA.gp (by show a≠hh.next+1;omega) (aA.gr (Ne.symm ZP) (g1 o))
     have iO:((B++(dB n size).take i).map gH).length=(B++(dB n size).take i).length:=List.length_map _
     ((conv=>whnf);repeat ((first|refine aH.dt (show (i:Int)<(size:Nat) by omega) ?_|refine aQ.gS (by omega) (by omega) ?_|refine aK.mk (decide_eq_true (show (0:Int)<=8*((size:Int) - 1 - (i:Int)) by omega)) ?_|refine aQ.mk ?_|refine aK.mk (wE _ _ _ _) ?_|refine aZ.of (lK _ _ _) ?_|refine ye (congrArg some (Gd _ _ _ _)) ?_|refine aK.mk (by simp only [bR,iO];exact decide_eq_true (by simp at hlen ⊢;omega)) ?_|refine ye (ga) ?_|refine ye (g1 _) ?_|refine ye (g2 _ _) ?_|refine ye (g3 _) ?_|refine zz ?_)<;>(conv=>whnf)))
     dsimp only
     rw [lK]
     ((conv=>whnf);repeat ((first|refine aH.dt (show (i:Int)<(size:Nat) by omega) ?_|refine aQ.gS (by omega) (by omega) ?_|refine aK.mk (decide_eq_true (show (0:Int)<=8*((size:Int) - 1 - (i:Int)) by omega)) ?_|refine aQ.mk ?_|refine aK.mk (wE _ _ _ _) ?_|refine aZ.of (lK _ _ _) ?_|refine ye (congrArg some (Gd _ _ _ _)) ?_|refine aK.mk (by simp only [bR,iO];exact decide_eq_true (by simp at hlen ⊢;omega)) ?_|refine ye (ga) ?_|refine ye (g1 _) ?_|refine ye (g2 _ _) ?_|refine ye (g3 _) ?_|refine zz ?_)<;>(conv=>whnf)))
     have qO:∀ o o2 o3,aA.aI (fun n=>lo<=n) h ((((hh.push o).remove k).push o2).set a o3):=fun o o2 o3=>aA.aI.set (b:=fun n=>lo<=n) (.push (aA.aI.remove (b:=fun n=>lo<=n) (.push hk _) (.inl FC)) _) (.inl hla) _
     exact hR (size - (i+1)) _ _ (by omega) ⟨i+1,_,_,by omega,rfl,⟨hla,(by show a<hh.next+1+1;omega),.inr ⟨hh.next+1,by omega,by omega,Nat.lt_succ_self _,aA.gs (by omega) (aA.aC _ _),(aA.aD (g2 _ _)).trans (by rw [kQ,<-List.append_assoc,List.map_append (f:=gH) (l₂:=[_])];rfl)⟩⟩,qO _ _ _,dK,rfl⟩
 · obtain rfl:i=size:=by omega
   rw [show (dB n i).take i=dB n i from List.take_of_length_le (by omega)] at BP
   (refine cJ (show ¬(i:Int)<(i:Nat) by omega) ?_)
   exact hK hh BP hk
end
open Go
def pM (ds:List Nat):Nat:=ds.foldl (fun n d=>n*38+d) 0
def gX (s:aU) (i:Nat):Nat:=match s[i]? with
 |some c=>eA c.toNat
 |none=>0
def eN (s:aU):List Nat:=(List.range 12).map (gX s)
theorem El (s:aU) (i:Nat):gX s i<=37:=by
 unfold gX
 split
 · exact Ap _
 · omega
theorem sR (ds:List Nat) (d:Nat):pM (ds++[d])=pM ds*38+d:=by simp [pM]
theorem Em:∀ (n:Nat) (ds:List Nat),ds.length=n->(∀ d∈ds,d<=37)->pM ds<38 ^ n
 |0,ds,h,_=>by rw [List.length_eq_zero_iff.1 h];decide
 |n+1,ds,h,hd=>by
  have dM:ds≠[]:=by rintro rfl;simp at h
  rw [<-List.dropLast_concat_getLast dM,sR]
  have h1:=Em n ds.dropLast (by simp;omega) (fun d hm=>hd d ((List.dropLast_sublist ds).subset hm))
  have h2:=hd _ (List.getLast_mem dM)
  rw [Nat.pow_succ]
  omega
theorem En (s:aU):∀ d∈eN s,d<=37:=by
 intro d hd
 obtain ⟨i,_,rfl⟩:=List.mem_map.1 hd
 exact El s i
theorem qF (s:aU):(eN s).length=12:=by simp [eN]
theorem sS (s:aU) {i:Nat} (h:i<12):(eN s).take (i+1)=(eN s).take i++[gX s i]:=by
 rw [List.take_add_one]
 simp [eN,h]
theorem Bi (s:aU) {i:Nat} (h:i<=12):pM ((eN s).take i)<38 ^ i:=Em i _ (by rw [List.length_take,qF];omega) fun d hd=>En s d (List.mem_of_mem_take hd)
theorem U8 {i:Nat} (h:i<=12):38 ^ i<=9065737908494995456:=Nat.le_trans (Nat.pow_le_pow_right (by decide) h) (by decide)
def Eo (s:aU):Nat:=pM (eN s)
theorem JG (s:aU):Eo s<9065737908494995456:=by
 have:=Em 12 (eN s) (qF s) (En s)
 exact this
theorem ZQ (R:List V) {c:Nat} (hc:c<256) (x:Int) (hx:x=(c:Int)):dL (tv true++R) (0+0+3+x.toNat*1) none=some (.i .u64 (eA c:Nat)):=by
 subst hx
 show (tv true++R)[_]? =_
 rw [show 0+0+3+((c:Nat):Int).toNat*1=3+c by omega]
 rw [List.getElem?_append_left (by rw [nI];omega)]
 unfold tv nU
 rw [List.append_assoc,List.getElem?_append_right (by simp),List.getElem?_append_left (by simp;omega)]
 have h1:eA c<=37:=Ap c
 simp [hc,Gb,h1]
theorem jI.made {h h':aA} {lo a:Nat} {m:Bool} {B:List Int} (hw:jI h lo a m B) (hk:aA.aI (fun n=>n=a) h h') (hg:∀ R,h.get a=some (.cs (tv m++R))->h'.get a=some (.cs (tv true++R))):jI h' lo a true B:=by
 obtain ⟨h1,h2,⟨h3,h4⟩|⟨k,h3,h4,h5,h6,h7⟩⟩:=hw
 · exact ⟨h1,Nat.lt_of_lt_of_le h2 hk.1,.inl ⟨h3,hg _ h4⟩⟩
 · exact ⟨h1,Nat.lt_of_lt_of_le h2 hk.1,.inr ⟨k,h3,h4,Nat.lt_of_lt_of_le h5 hk.1,by rw [hk.2 k h5 h4];exact h6,hg _ h7⟩⟩
section
variable {P:Program} (hG:bN P AF.fns.get)
include hG
theorem wmake_at (fD:eD P 285) {h:aA} {lo a:Nat} {m:Bool} {B:List Int} (hw:jI h lo a m B) {K:V->aA->Prop}
 (hK:∀ h',jI h' lo a true B->aA.aI (fun n=>lo<=n) h h'->K (.bY []) h'):aB P 211 [.p (.g a) 0] h K:=by
 have Il:=hw
 obtain ⟨h1,h2,⟨h3,h4⟩|⟨k,h3,h4,h5,h6,h7⟩⟩:=hw
 · exact tmake_at hG fD h2 h4 fun h' q1 q2=>hK h' (Il.made q2 fun R hR=>by rw [h4] at hR;have:=List.append_cancel_left (Obj.cs.inj (Option.some.inj hR));rw [<-this];exact q1) (q2.mono fun n _ e=>by rw [e];exact h1)
 · exact tmake_at hG fD h2 h7 fun h' q1 q2=>hK h' (Il.made q2 fun R hR=>by rw [h7] at hR;have:=List.append_cancel_left (Obj.cs.inj (Option.some.inj hR));rw [<-this];exact q1) (q2.mono fun n _ e=>by rw [e];exact h1)
theorem wname_at (fD:eD P 285) {h:aA} {lo a:Nat} {m:Bool} {B:List Int} (hw:jI h lo a m B) (hB:B.length<=100000000) (s:aU) {K:V->aA->Prop}
 (hK:∀ h',jI h' lo a true (B++dB (Eo s) 8)->aA.aI (fun n=>lo<=n) h h'->K (.bY []) h'):aB P 109 [.p (.g a) 0,.s s] h K:=by
 have WE:=fun K hK=>wmake_at (K:=K) hG fD hw hK
 refine aN (hG _ AF.f109 rfl) rfl ?_
 (refine cJ @WE ?_)
 intro h1 U9 Cf
 (refine zr ?_)
 refine bV.by (fun q fr st=>∃ (i:Nat) (l:aA),i<=12/\q=12 - i/\
  Fr.le [(10,.i .i64 i),(4,.i .u64 (pM ((eN s).take i):Nat)),(1,.s s),(0,.p (.g a) 0)] fr/\st=⟨h1,l⟩)
  12 ⟨0,_,Nat.zero_le _,rfl,dK,rfl⟩ ?_
 rintro q fr st ⟨i,l,hi,rfl,dO,rfl⟩
 refine ⟨_,dO,fun R hR=>?_⟩
 have cL:=Bi s hi
 by_cases eB:i<12
 · have hp:=U8 (show i+1<=12 by omega)
   have afA:=Bi s (show i+1<=12 by omega)
   rw [sS s eB,sR] at afA
   have mW:pM ((eN s).take (i+1))=pM ((eN s).take i)*38+gX s i:=by rw [sS s eB,sR]
   by_cases hs:i<s.length
   · have hc:=List.getElem?_eq_getElem hs
     generalize s[i]=c at hc
     have hd:gX s i=eA c.toNat:=by unfold gX;rw [hc]
     have hcb:c.toNat<256:=by have:=c.toNat_lt;omega
     obtain ⟨_,_,hb⟩:=U9
     obtain ⟨R0,Gf⟩:∃ R0,h1.get a=some (.cs (tv true++R0)):=by
      rcases hb with ⟨_,h4⟩|⟨k,_,_,_,_,h4⟩
      · exact ⟨_,h4⟩
      · exact ⟨_,h4⟩
     have fM:s[((i:Nat):Int).toNat]? =some c:=by rw [Int.toNat_natCast];exact hc
     ((conv=>whnf);repeat ((first|refine aH.dt (show (i:Int)<12 by omega) ?_|refine aH.dt (show (i:Int)<(s.length:Nat) by omega) ?_|refine aQ.wu (by omega) (by omega) ?_|refine aQ.gS (by omega) (by omega) ?_|refine aK.ix (by omega) (by omega) ?_|refine aK.mk (decide_eq_true (show (0:Int)<=(i:Int) by omega)) ?_|refine aZ.of (ZQ _ hcb _ rfl) ?_|refine ye (Gf) ?_|refine ye (fM) ?_|refine zz ?_)<;>(conv=>whnf)))
     exact hR (12 - (i+1)) _ _ (by omega) ⟨i+1,_,by omega,rfl,(by rw [mW,hd];exact dK),rfl⟩
   · have hd:gX s i=0:=by unfold gX;rw [List.getElem?_eq_none (by omega)]
     rw [hd] at mW
     (refine XL (show (i:Int)<12 by omega) (show ¬(i:Int)<(s.length:Nat) by omega) ?_)
     exact hR (12 - (i+1)) _ _ (by omega) ⟨i+1,_,by omega,rfl,(by rw [mW];exact dK),rfl⟩
 · obtain rfl:i=12:=by omega
   have afC:=JG s
   rw [show (eN s).take 12=eN s from List.take_of_length_le (by rw [qF];omega)] at*
   have Cg:=fun K hK=>wnum_at (K:=K) hG U9 hB (Eo s) 8 (by omega) hK
   unfold Eo at Cg afC
   (refine iU (show ¬((12:Nat):Int)<12 by omega) @Cg ?_)
   intro h2 TO qO
   (refine zr ?_)
   exact hK h2 TO (Cf.trans qO)
end
open Go
def bQ (s:aU):List Int:=dB (Eo s) 8
def pN (r:hU):List Int:=dB r.a 4++dB r.b 4++dB r.c 4
def cO (p:dE):List Int:=bQ p.key++bQ p.val
def eP (l:List dE):List Int:=dB l.length 1++l.flatMap cO
def wF (l:List aU):List Int:=dB l.length 1++l.flatMap bQ
def dN (t:cM):List Int:=bQ t.key++dB t.kind 1++wF t.bF
def eQ (l:List cM):List Int:=dB l.length 1++l.flatMap dN
def wG (b:Bool):List Int:=dB (if b then 1 else 0) 1
def iH (t:j8):List Int:=bQ t.key++bQ t.val++wG t.any
def CM (l:List j8):List Int:=dB l.length 1++l.flatMap iH
def jR (n:Int):List Int:=dB n 2
def Aq (l:List Int):List Int:=dB l.length 1++l.flatMap jR
theorem aR (n:Int) (k:Nat):(dB n k).length=k:=by simp [dB]
theorem bM (s:aU):(bQ s).length=8:=aR _ _
theorem mH {α:Type} (f:α->List Int) {l:List α} {i:Nat} {x:α} (h:l[i]? =some x):(l.take (i+1)).flatMap f=(l.take i).flatMap f++f x:=by
 rw [List.take_add_one,h];simp
theorem eS {α:Type} (f:α->List Int) (n:Nat):∀ (l:List α),(∀ x∈l,(f x).length<=n)->(l.flatMap f).length<=l.length*n
 |[],_=>by simp
 |x::r,h=>by
  have h1:=eS f n r fun y hy=>h y (.tail _ hy)
  have h2:=h x (.head _)
  rw [List.flatMap_cons,List.length_append,List.length_cons,Nat.succ_mul]
  omega
theorem gQ {α:Type} (f:α->List Int) (n:Nat) (l:List α) (i:Nat) (h:∀ x∈l,(f x).length<=n):((l.take i).flatMap f).length<=l.length*n:=by
 have h1:=eS f n (l.take i) fun x hx=>h x (List.mem_of_mem_take hx)
 have h2:(l.take i).length*n<=l.length*n:=Nat.mul_le_mul_right n (by simp;omega)
 omega
section
variable {P:Program} (hG:bN P AF.fns.get)
include hG
theorem wres_at {h:aA} {lo a:Nat} {m:Bool} {B:List Int} (hw:jI h lo a m B) (hB:B.length<=10000000) (r:hU) {K:V->aA->Prop}
 (hK:∀ h',jI h' lo a m (B++pN r)->aA.aI (fun n=>lo<=n) h h'->K (.bY []) h'):aB P 110 [.p (.g a) 0,.agg (yL r)] h K:=by
 have h1:=fun K hK=>wnum_at (K:=K) hG hw (by omega) r.a 4 (by omega) hK
 refine aN (hG _ AF.f110 rfl) rfl ?_
 ((conv=>whnf);repeat ((first|refine bV.un ?_|refine cA (h1 _) ?_|refine zz ?_)<;>(conv=>whnf)))
 intro h2 w2 k2
 have h3:=fun K hK=>wnum_at (K:=K) hG w2 (by rw [List.length_append,aR];omega) r.b 4 (by omega) hK
 ((conv=>whnf);repeat ((first|refine bV.un ?_|refine cA (h3 _) ?_|refine zz ?_)<;>(conv=>whnf)))
 intro h4 w4 k4
 have h5:=fun K hK=>wnum_at (K:=K) hG w4 (by rw [List.length_append,List.length_append,aR,aR];omega) r.c 4 (by omega) hK
 ((conv=>whnf);repeat ((first|refine bV.un ?_|refine cA (h5 _) ?_|refine zz ?_)<;>(conv=>whnf)))
 intro h6 w6 k6
 ((conv=>whnf);repeat ((first|refine bV.un ?_|refine zz ?_)<;>(conv=>whnf)))
 exact hK h6 (by unfold pN;rw [<-List.append_assoc,<-List.append_assoc];exact w6) ((k2.trans k4).trans k6)
theorem wbool_at {h:aA} {lo a:Nat} {m:Bool} {B:List Int} (hw:jI h lo a m B) (hB:B.length<=10000000) (b:Bool) {K:V->aA->Prop}
 (hK:∀ h',jI h' lo a m (B++wG b)->aA.aI (fun n=>lo<=n) h h'->K (.bY []) h'):aB P 117 [.p (.g a) 0,.b b] h K:=by
 have h1:=fun K hK=>wnum_at (K:=K) hG hw (by omega) (if b then 1 else 0) 1 (by omega) hK
 refine aN (hG _ AF.f117 rfl) rfl ?_
 cases b
 all_goals
  (refine cJ @h1 ?_)
  intro h2 w2 k2
  (refine zr ?_)
  exact hK h2 w2 k2
theorem wpairs_at (fD:eD P 285) {h:aA} {lo a:Nat} {m:Bool} {B:List Int} (hw:jI h lo a m B) (hB:B.length<=10000000) (l:List dE) (hl:l.length<=100) {K:V->aA->Prop}
 (hK:∀ h' m',jI h' lo a m' (B++eP l)->aA.aI (fun n=>lo<=n) h h'->K (.bY []) h'):aB P 111 [.p (.g a) 0,.sl none 2 (l.map bJ),.fn 112 [] []] h K:=by
 have iO:(l.map bJ).length=l.length:=List.length_map _
 have Ct:∀ p:dE,(cO p).length=16:=fun p=>by simp [cO,bM]
 have h1:=fun K hK=>wnum_at (K:=K) hG hw (by omega) (l.map bJ).length 1 (by omega) hK
 refine aN (hG _ AF.f111 rfl) rfl ?_
 (refine cJ @h1 ?_)
 intro h2 w2 k2
 rw [iO] at w2
 (refine zr ?_)
 refine bV.by (fun q fr st=>∃ (i:Nat) (hh lc:aA) (m':Bool),i<=l.length/\q=l.length - i/\jI hh lo a m' (B++dB l.length 1++(l.take i).flatMap cO)/\aA.aI (fun n=>lo<=n) h hh/\
  Fr.le [(16,.i .i64 i),(15,.i .i64 (l.map bJ).length),(14,.sl none 2 (l.map bJ)),(2,.fn 112 [] []),(0,.p (.g a) 0)] fr/\st=⟨hh,lc⟩)
  l.length ⟨0,h2,_,m,Nat.zero_le _,rfl,(by simpa using w2),k2,dK,rfl⟩ ?_
 rintro q fr st ⟨i,hh,lc,m',hi,rfl,BP,hk,dO,rfl⟩
 refine ⟨_,dO,fun R hR=>?_⟩
 by_cases eB:i<l.length
 · have he:=List.getElem?_eq_getElem eB
   generalize l[i]=x at he
   have TP:=mH cO he
   have vL:=gQ cO 16 l i fun p _=>Nat.le_of_eq (Ct p)
   have XS:(B++dB l.length 1++(l.take i).flatMap cO).length<=10000000+1+1600:=by
    rw [List.length_append,List.length_append,aR];omega
   have Va:=fun K hK=>wname_at (K:=K) hG fD BP (by omega) x.key hK
   (refine zx5 (show (i:Int)<(l.map bJ).length by omega) (aN (hG _ AF.f112 rfl) rfl) @Va @he @aA.aC ?_)
   intro h3 w3 k3
   have Oi:=fun K hK=>wname_at (K:=K) hG fD w3 (by rw [List.length_append,aR];omega) x.val hK
   (refine cJ @Oi ?_)
   intro h4 w4 k4
   (refine zr ?_)
   exact hR (l.length - (i+1)) _ _ (by omega) ⟨i+1,h4,_,true,by omega,rfl,(by rw [TP,<-List.append_assoc];unfold cO bQ;rw [<-List.append_assoc];exact w4),(hk.trans k3).trans k4,dK,rfl⟩
 · obtain rfl:i=l.length:=by omega
   rw [List.take_length] at BP
   (refine cJ (show ¬((l.length:Nat):Int)<(l.map bJ).length by omega) ?_)
   exact hK hh m' (by unfold eP;rw [<-List.append_assoc];exact BP) hk
end
open Go
theorem JH {l:List aU} (h:l.length<=100):(wF l).length<=801:=by
 have:=eS bQ 8 l fun s _=>Nat.le_of_eq (bM s)
 unfold wF
 rw [List.length_append,aR]
 omega
theorem uZ {t:cM} (h:t.bF.length<=100):(dN t).length<=810:=by
 have:=JH h
 unfold dN
 rw [List.length_append,List.length_append,aR,bM]
 omega
section
variable {P:Program} (hG:bN P AF.fns.get)
include hG
theorem wterms_at (fD:eD P 285) {h:aA} {lo a:Nat} {m:Bool} {B:List Int} (hw:jI h lo a m B) (hB:B.length<=10000000) (l:List cM) (hl:l.length<=100) (hv:∀ t∈l,t.bF.length<=100) {K:V->aA->Prop}
 (hK:∀ h' m',jI h' lo a m' (B++eQ l)->aA.aI (fun n=>lo<=n) h h'->K (.bY []) h'):aB P 116 [.p (.g a) 0,.sl none 3 (l.map bD)] h K:=by
 have iO:(l.map bD).length=l.length:=List.length_map _
 have h1:=fun K hK=>wnum_at (K:=K) hG hw (by omega) (l.map bD).length 1 (by omega) hK
 refine aN (hG _ AF.f116 rfl) rfl ?_
 (refine cJ @h1 ?_)
 intro h2 w2 k2
 rw [iO] at w2
 (refine zr ?_)
 refine bV.by (fun q fr st=>∃ (i:Nat) (hh lc:aA) (m':Bool),i<=l.length/\q=l.length - i/\jI hh lo a m' (B++dB l.length 1++(l.take i).flatMap dN)/\aA.aI (fun n=>lo<=n) h hh/\
  Fr.le [(14,.i .i64 i),(13,.i .i64 (l.map bD).length),(12,.sl none 3 (l.map bD)),(0,.p (.g a) 0)] fr/\st=⟨hh,lc⟩)
  l.length ⟨0,h2,_,m,Nat.zero_le _,rfl,(by simpa using w2),k2,dK,rfl⟩ ?_
 rintro q fr st ⟨i,hh,lc,m',hi,rfl,BP,hk,dO,rfl⟩
 refine ⟨_,dO,fun R hR=>?_⟩
 by_cases eB:i<l.length
 · have he:=List.getElem?_eq_getElem eB
   have hvx:=hv _ (List.getElem_mem eB)
   generalize l[i]=x at he hvx
   have TP:=mH dN he
   have vL:=gQ dN 810 l i fun t ht=>uZ (hv t ht)
   have XS:(B++dB l.length 1++(l.take i).flatMap dN).length<=10000000+1+81000:=by
    rw [List.length_append,List.length_append,aR];omega
   have hvm:(x.bF.map bG).length=x.bF.length:=List.length_map _
   have Va:=fun K hK=>wname_at (K:=K) hG fD BP (by omega) x.key hK
   (refine zx4 (show (i:Int)<(l.map bD).length by omega) @Va @he @aA.aC ?_)
   intro h3 w3 k3
   have Oi:=fun K hK=>wnum_at (K:=K) hG w3 (by rw [List.length_append,aR];omega) x.kind 1 (by omega) hK
   (refine XL @Oi @aA.aC ?_)
   intro h4 w4 k4
   have ha3:=fun K hK=>wnum_at (K:=K) hG w4 (by rw [List.length_append,List.length_append,aR,aR];omega) (x.bF.map bG).length 1 (by omega) hK
   (refine XL @ha3 @aA.aC ?_)
   intro h5 w5 k5
   rw [hvm] at w5
   (refine zx1 @aA.aC ?_)
   obtain ⟨B5,hB5⟩:∃ B5,B5=(B++dB l.length 1++(l.take i).flatMap dN)++dB (Eo x.key) 8++dB x.kind 1++dB x.bF.length 1:=⟨_,rfl⟩
   have ak4:B5.length<=10000000+1+81000+10:=by rw [hB5,List.length_append,List.length_append,List.length_append,aR,aR,aR];omega
   rw [<-hB5] at w5
   refine bV.by (fun q fr st=>∃ (j:Nat) (hj lc:aA),j<=x.bF.length/\q=x.bF.length - j/\jI hj lo a true (B5++(x.bF.take j).flatMap bQ)/\aA.aI (fun n=>lo<=n) h hj/\
    Fr.le [(34,.i .i64 j),(33,.i .i64 (x.bF.map bG).length),(32,.sl none 1 (x.bF.map bG)),(14,.i .i64 i),(13,.i .i64 (l.map bD).length),(12,.sl none 3 (l.map bD)),(0,.p (.g a) 0)] fr/\st=⟨hj,lc⟩)
    x.bF.length ⟨0,h5,_,Nat.zero_le _,rfl,(by simpa using w5),((hk.trans k3).trans k4).trans k5,dK,rfl⟩ ?_
   rintro q fr st ⟨j,hj,lc,GS,rfl,hwj,O2,Ep,rfl⟩
   refine ⟨_,Ep,fun R2 Rm=>?_⟩
   by_cases Fv:j<x.bF.length
   · have hv:=List.getElem?_eq_getElem Fv
     generalize x.bF[j]=s at hv
     have afG:=mH bQ hv
     have afH:=gQ bQ 8 x.bF j fun s _=>Nat.le_of_eq (bM s)
     have GI:=fun K hK=>wname_at (K:=K) hG fD hwj (by rw [List.length_append];omega) s hK
     (refine pU (show (j:Int)<(x.bF.map bG).length by omega) @GI @hv ?_)
     intro h6 w6 k6
     (refine zr ?_)
     exact Rm (x.bF.length - (j+1)) _ _ (by omega) ⟨j+1,h6,_,by omega,rfl,(by rw [afG,<-List.append_assoc];exact w6),O2.trans k6,dK,rfl⟩
   · obtain rfl:j=x.bF.length:=by omega
     rw [List.take_length] at hwj
     (refine cJ (show ¬((x.bF.length:Nat):Int)<(x.bF.map bG).length by omega) ?_)
     exact hR (l.length - (i+1)) _ _ (by omega) ⟨i+1,hj,_,true,by omega,rfl,(by
      have e:B++dB l.length 1++(l.take (i+1)).flatMap dN=B5++x.bF.flatMap bQ:=by
       rw [TP,hB5];unfold dN wF bQ;simp only [List.append_assoc]
      rw [e];exact hwj),O2,dK,rfl⟩
 · obtain rfl:i=l.length:=by omega
   rw [List.take_length] at BP
   (refine cJ (show ¬((l.length:Nat):Int)<(l.map bD).length by omega) ?_)
   exact hK hh m' (by unfold eQ;rw [<-List.append_assoc];exact BP) hk
theorem wbytes_at {h:aA} {lo a:Nat} {m:Bool} {B:List Int} (hw:jI h lo a m B) (hB:B.length<=1000000000) (dM:B≠[]) {K:V->aA->Prop} (hK:K (.sl none 1 (B.map gH)) h):aB P 47 [.p (.g a) 0] h K:=by
 have hc:=sQ hG B (by omega)
 obtain ⟨h1,h2,⟨h3,_⟩|⟨k,h3,h4,h5,h6,h7⟩⟩:=hw
 · exact absurd h3 dM
 refine aN (hG _ AF.f47 rfl) rfl ?_
 (refine iU @lK @h7 ?_)
 refine cY.app (Pure.DP hc Wj rfl) ?_
 (refine zr ?_)
 exact hK
end
open Go
def bW (p:aO):List Int:=dB 1 1++bQ p.name++dB p.uid 8++dB p.prio 2++pN p.gG++Aq p.aX++eP p.labels++eQ p.lR++CM p.b8++bQ p.dV++eQ p.cT++dB p.j9 1++eQ p.even++bQ p.node++dB p.term 8
structure JI (p:aO):Prop where
 aX:p.aX.length<=100
 labels:p.labels.length<=100
 lR:p.lR.length<=100
 b8:p.b8.length<=100
 cT:p.cT.length<=100
 even:p.even.length<=100
 WG:∀ t∈p.lR,t.bF.length<=100
 Rn:∀ t∈p.cT,t.bF.length<=100
 Ro:∀ t∈p.even,t.bF.length<=100
theorem jS {l:List cM} (h:l.length<=100) (hv:∀ t∈l,t.bF.length<=100):(eQ l).length<=81001:=by
 have:=eS dN 810 l fun t ht=>uZ (hv t ht)
 unfold eQ
 rw [List.length_append,aR]
 omega
theorem nV {l:List dE} (h:l.length<=100):(eP l).length<=1601:=by
 have:=eS cO 16 l fun p _=>Nat.le_of_eq (show (cO p).length=16 by simp [cO,bM])
 unfold eP
 rw [List.length_append,aR]
 omega
theorem pO (t:j8):(iH t).length=17:=by simp [iH,bM,wG,aR]
theorem pP (r:hU):(pN r).length=12:=by simp [pN,aR]
section
variable {P:Program} (hG:bN P AF.fns.get)
include hG
theorem wput_at (fD:eD P 285) (p:aO) (hp:JI p) (hm:Pure P 115 [.agg (aJ p)] (·=.b true)) {h:aA} {K:V->aA->Prop}
 (hK:∀ h',aA.aI (fun _=>False) h h'->K (.sl none 1 ((bW p).map gH)) h'):aB P 49 [.agg (aJ p)] h K:=by
 have Yf:(p.aX.map fV).length=p.aX.length:=List.length_map _
 have cL:(p.b8.map eO).length=p.b8.length:=List.length_map _
 refine aN (hG _ AF.f49 rfl) rfl ?_
 (refine cJ @hm ?_)
 have w0:jI (h.push (.cs (tv false++[.aV]))) h.next h.next false []:=⟨Nat.le_refl _,Nat.lt_succ_self _,.inl ⟨rfl,aA.aC _ _⟩⟩
 have k0:aA.aI (fun n=>h.next<=n) h (h.push (.cs (tv false++[.aV]))):=.push (.refl _ _) _
 have l0:([]:List Int).length<=0:=Nat.le_refl _
 have c1:=fun K hK=>wnum_at (K:=K) hG w0 (by omega) (1) 1 (by omega) hK
 (refine cJ @c1 ?_)
 intro h1 w1 q1
 obtain ⟨B1,e1⟩:∃ X,X=[]++dB (1) 1:=⟨_,rfl⟩
 have l1:B1.length<=1:=by rw [e1,List.length_append];rw [aR];omega
 rw [<-e1] at w1
 have k1:=k0.trans q1
 clear c1
 have c2:=fun K hK=>wname_at (K:=K) hG fD w1 (by omega) p.name hK
 (refine cJ @c2 ?_)
 intro h2 w2 q2
 obtain ⟨B2,e2⟩:∃ X,X=B1++bQ p.name:=⟨_,rfl⟩
 have l2:B2.length<=9:=by rw [e2,List.length_append];rw [bM];omega
 change jI _ _ _ _ (_++bQ p.name) at w2;rw [<-e2] at w2
 have k2:=k1.trans q2
 clear c2
 have c3:=fun K hK=>wnum_at (K:=K) hG w2 (by omega) (p.uid) 8 (by omega) hK
 (refine cJ @c3 ?_)
 intro h3 w3 q3
 obtain ⟨B3,e3⟩:∃ X,X=B2++dB (p.uid) 8:=⟨_,rfl⟩
 have l3:B3.length<=17:=by rw [e3,List.length_append];rw [aR];omega
 rw [<-e3] at w3
 have k3:=k2.trans q3
 clear c3
 have c4:=fun K hK=>wnum_at (K:=K) hG w3 (by omega) (p.prio) 2 (by omega) hK
 (refine cJ @c4 ?_)
 intro h4 w4 q4
 obtain ⟨B4,e4⟩:∃ X,X=B3++dB (p.prio) 2:=⟨_,rfl⟩
 have l4:B4.length<=19:=by rw [e4,List.length_append];rw [aR];omega
 rw [<-e4] at w4
 have k4:=k3.trans q4
 clear c4
 have c5:=fun K hK=>wres_at (K:=K) hG w4 (by omega) p.gG hK
 (refine cJ @c5 ?_)
 intro h5 w5 q5
 obtain ⟨B5,e5⟩:∃ X,X=B4++pN p.gG:=⟨_,rfl⟩
 have l5:B5.length<=31:=by rw [e5,List.length_append];rw [pP];omega
 rw [<-e5] at w5
 have k5:=k4.trans q5
 clear c5
 have c6:=fun K hK=>wnum_at (K:=K) hG w5 (by omega) (p.aX.map fV).length 1 (by omega) hK
 (refine cJ @c6 ?_)
 intro h6 w6 q6
 rw [Yf] at w6
 obtain ⟨B6,e6⟩:∃ X,X=B5++dB p.aX.length 1:=⟨_,rfl⟩
 have l6:B6.length<=32:=by rw [e6,List.length_append];rw [aR];omega
 rw [<-e6] at w6
 have k6:=k5.trans q6
 clear c6
 (refine zr ?_)
 refine bV.by (fun q fr st=>∃ (i:Nat) (hh:aA),i<=p.aX.length/\q=p.aX.length - i/\jI hh h.next h.next true (B6++(p.aX.take i).flatMap jR)/\aA.aI (fun n=>h.next<=n) h hh/\
  Fr.le [(31,.i .i64 i),(30,.i .i64 (p.aX.map fV).length),(29,.sl none 1 (p.aX.map fV)),(3,.p (.g h.next) 0),(1,.p (.l 0) 0)] fr/\st=⟨hh,⟨1,[(0,.cs (aJ p))]⟩⟩)
  p.aX.length ⟨0,h6,Nat.zero_le _,rfl,(by simpa using w6),k6,dK,rfl⟩ ?_
 rintro q fr st ⟨i,hh,hi,rfl,BP,hk,dO,rfl⟩
 refine ⟨_,dO,fun R hR=>?_⟩
 have vL:=gQ jR 2 p.aX i fun _ _=>Nat.le_of_eq (aR _ _)
 have UB:=hp.aX
 have XS:(B6++(p.aX.take i).flatMap jR).length<=32+200:=by rw [List.length_append];omega
 by_cases eB:i<p.aX.length
 · have he:=List.getElem?_eq_getElem eB
   generalize p.aX[i]=x at he
   have TP:=mH jR he
   have c:=fun K hK=>wnum_at (K:=K) hG BP (by omega) x 2 (by omega) hK
   (refine pU (show (i:Int)<(p.aX.map fV).length by omega) @c @he ?_)
   intro h' w' q'
   (refine zr ?_)
   exact hR (p.aX.length - (i+1)) _ _ (by omega) ⟨i+1,h',by omega,rfl,(by rw [TP,<-List.append_assoc];exact w'),hk.trans q',dK,rfl⟩
 obtain rfl:i=p.aX.length:=by omega
 rw [List.take_length] at BP XS
 obtain ⟨B7,e7⟩:∃ X,X=B6++p.aX.flatMap jR:=⟨_,rfl⟩
 rw [<-e7] at XS
 have l7:B7.length<=232:=XS
 have w7:jI hh h.next h.next true B7:=by rw [e7];exact BP
 have k7:=hk
 (refine cJ (show ¬((p.aX.length:Nat):Int)<(p.aX.map fV).length by omega) ?_)
 have c8:=fun K hK=>wpairs_at (K:=K) hG fD w7 (by omega) p.labels hp.labels hK
 (refine cJ @c8 ?_)
 intro h8 m8 w8 q8
 obtain ⟨B8,e8⟩:∃ X,X=B7++eP p.labels:=⟨_,rfl⟩
 have l8:B8.length<=1833:=by rw [e8,List.length_append];have:=nV hp.labels;omega
 rw [<-e8] at w8
 have k8:=k7.trans q8
 clear c8
 have c9:=fun K hK=>wterms_at (K:=K) hG fD w8 (by omega) p.lR hp.lR hp.WG hK
 (refine cJ @c9 ?_)
 intro h9 m9 w9 q9
 obtain ⟨B9,e9⟩:∃ X,X=B8++eQ p.lR:=⟨_,rfl⟩
 have l9:B9.length<=82834:=by rw [e9,List.length_append];have:=jS hp.lR hp.WG;omega
 rw [<-e9] at w9
 have k9:=k8.trans q9
 clear c9
 have Vb:=fun K hK=>wnum_at (K:=K) hG w9 (by omega) (p.b8.map eO).length 1 (by omega) hK
 (refine cJ @Vb ?_)
 intro EZ w10 q10
 rw [cL] at w10
 obtain ⟨B10,Vc⟩:∃ X,X=B9++dB p.b8.length 1:=⟨_,rfl⟩
 have l10:B10.length<=82835:=by rw [Vc,List.length_append];rw [aR];omega
 rw [<-Vc] at w10
 have ZL:=k9.trans q10
 clear Vb
 (refine zr ?_)
 refine bV.by (fun q fr st=>∃ (i:Nat) (hh lc:aA) (m':Bool),i<=p.b8.length/\q=p.b8.length - i/\jI hh h.next h.next m' (B10++(p.b8.take i).flatMap iH)/\aA.aI (fun n=>h.next<=n) h hh/\0<lc.next/\lc.get 0=some (.cs (aJ p))/\
  Fr.le [(51,.i .i64 i),(50,.i .i64 (p.b8.map eO).length),(49,.sl none 3 (p.b8.map eO)),(3,.p (.g h.next) 0),(1,.p (.l 0) 0)] fr/\st=⟨hh,lc⟩)
  p.b8.length ⟨0,EZ,_,_,Nat.zero_le _,rfl,(by simpa using w10),ZL,Nat.lt_succ_self _,rfl,dK,rfl⟩ ?_
 rintro q fr st ⟨i,hh,lc,m',hi,rfl,BP,hk,OV,zJ,Ep,rfl⟩
 refine ⟨_,Ep,fun R hR=>?_⟩
 have afH:=gQ iH 17 p.b8 i fun t _=>Nat.le_of_eq (pO t)
 have Zt:=hp.b8
 have WH:(B10++(p.b8.take i).flatMap iH).length<=82835+1700:=by rw [List.length_append];omega
 by_cases eB:i<p.b8.length
 · have he:=List.getElem?_eq_getElem eB
   generalize p.b8[i]=x at he
   have TP:=mH iH he
   have g0:∀ o o2,((lc.push o).set lc.next o2).get lc.next=some o2:=fun o o2=>aA.aD (aA.aC _ _)
   have g1:∀ o o2,((lc.push o).set lc.next o2).get 0=some (.cs (aJ p)):=fun o o2=>aA.gs (by omega) (aA.gp (by omega) zJ)
   have c:=fun K hK=>wname_at (K:=K) hG fD BP (by omega) x.key hK
   (refine Jk (show (i:Int)<(p.b8.map eO).length by omega) @c @he @aA.aC @g0 ?_)
   intro h' w' q'
   have c2:=fun K hK=>wname_at (K:=K) hG fD w' (by rw [List.length_append,aR];omega) x.val hK
   (refine iU @c2 @g0 ?_)
   intro VH w2' q2'
   have c3:=fun K hK=>wbool_at (K:=K) hG w2' (by rw [List.length_append,List.length_append,aR,aR];omega) x.any hK
   (refine iU @c3 @g0 ?_)
   intro h3' w3' q3'
   (refine zr ?_)
   exact hR (p.b8.length - (i+1)) _ _ (by omega) ⟨i+1,h3',_,true,by omega,rfl,(by rw [TP,<-List.append_assoc];unfold iH bQ;rw [<-List.append_assoc,<-List.append_assoc];exact w3'),((hk.trans q').trans q2').trans q3',Nat.succ_pos _,g1 _ _,dK,rfl⟩
 obtain rfl:i=p.b8.length:=by omega
 rw [List.take_length] at BP WH
 obtain ⟨B11,WI⟩:∃ X,X=B10++p.b8.flatMap iH:=⟨_,rfl⟩
 rw [<-WI] at WH
 have l11:B11.length<=84535:=WH
 have w11:jI hh h.next h.next m' B11:=by rw [WI];exact BP
 have ZR:=hk
 (refine iU (show ¬((p.b8.length:Nat):Int)<(p.b8.map eO).length by omega) @zJ ?_)
 have XT:=fun K hK=>wname_at (K:=K) hG fD w11 (by omega) p.dV hK
 (refine iU @XT @zJ ?_)
 intro Ei w12 q12
 obtain ⟨B12,WJ⟩:∃ X,X=B11++bQ p.dV:=⟨_,rfl⟩
 have l12:B12.length<=84543:=by rw [WJ,List.length_append];rw [bM];omega
 change jI _ _ _ _ (_++bQ p.dV) at w12;rw [<-WJ] at w12
 have TL:=ZR.trans q12
 clear XT
 have XU:=fun K hK=>wterms_at (K:=K) hG fD w12 (by omega) p.cT hp.cT hp.Rn hK
 (refine iU @XU @zJ ?_)
 intro XR m13 w13 q13
 obtain ⟨B13,WK⟩:∃ X,X=B12++eQ p.cT:=⟨_,rfl⟩
 have l13:B13.length<=165544:=by rw [WK,List.length_append];have:=jS hp.cT hp.Rn;omega
 rw [<-WK] at w13
 have ZS:=TL.trans q13
 clear XU
 have XV:=fun K hK=>wnum_at (K:=K) hG w13 (by omega) (p.j9) 1 (by omega) hK
 (refine iU @XV @zJ ?_)
 intro ZK w14 q14
 obtain ⟨B14,WL⟩:∃ X,X=B13++dB (p.j9) 1:=⟨_,rfl⟩
 have l14:B14.length<=165545:=by rw [WL,List.length_append];rw [aR];omega
 rw [<-WL] at w14
 have WC:=ZS.trans q14
 clear XV
 have XW:=fun K hK=>wterms_at (K:=K) hG fD w14 (by omega) p.even hp.even hp.Ro hK
 (refine iU @XW @zJ ?_)
 intro h15 m15 w15 q15
 obtain ⟨B15,WM⟩:∃ X,X=B14++eQ p.even:=⟨_,rfl⟩
 have l15:B15.length<=246546:=by rw [WM,List.length_append];have:=jS hp.even hp.Ro;omega
 rw [<-WM] at w15
 have k15:=WC.trans q15
 clear XW
 have c16:=fun K hK=>wname_at (K:=K) hG fD w15 (by omega) p.node hK
 (refine iU @c16 @zJ ?_)
 intro TK w16 q16
 obtain ⟨B16,WN⟩:∃ X,X=B15++bQ p.node:=⟨_,rfl⟩
 have l16:B16.length<=246554:=by rw [WN,List.length_append];rw [bM];omega
 change jI _ _ _ _ (_++bQ p.node) at w16;rw [<-WN] at w16
 have ZM:=k15.trans q16
 clear c16
 have c17:=fun K hK=>wnum_at (K:=K) hG w16 (by omega) (p.term) 8 (by omega) hK
 (refine iU @c17 @zJ ?_)
 intro h17 w17 q17
 obtain ⟨B17,WO⟩:∃ X,X=B16++dB (p.term) 8:=⟨_,rfl⟩
 have l17:B17.length<=246562:=by rw [WO,List.length_append];rw [aR];omega
 rw [<-WO] at w17
 have k17:=ZM.trans q17
 clear c17
 have xY:B17=bW p:=by
  rw [WO,WN,WM,WL,WK,WJ,WI,Vc,e9,e8,e7,e6,e5,e4,e3,e2,e1]
  unfold bW Aq CM
  simp only [List.nil_append,List.append_assoc]
 have dM:B17≠[]:=by rw [xY];unfold bW dB;simp
 have cb:=fun K hK=>wbytes_at (K:=K) hG w17 (by omega) dM hK
 (refine cJ @cb ?_)
 rw [xY]
 exact hK _ (k17.mono fun n hn e=>absurd hn (by omega))
end
open Go
def wV (l:List Int):Int:=l.foldl (fun n x=>n*256+x) 0
theorem wH (l:List Int) (x:Int):wV (l++[x])=wV l*256+x:=by simp [wV]
theorem TQ (n:Nat):IntKind.u8.wrap (n:Int)=((n%256:Nat):Int):=by
 simp [IntKind.wrap,IntKind.bits,IntKind.signed]
theorem Er (n k:Nat) (hk:k<=8):Ge (n:Int) (8*(k:Int))=((n/256 ^ k%256:Nat):Int):=by
 unfold Ge
 have h1:(8*(k:Int)).toNat=8*k:=by omega
 have h2:min (8*k) 64=8*k:=by omega
 rw [h1,show IntKind.i64.bits=64 from rfl,h2]
 have h3:(n:Int).fdiv (2 ^ (8*k))=((n/256 ^ k:Nat):Int):=by
  have h4:((2:Int) ^ (8*k))=((256 ^ k:Nat):Int):=by
   rw [show (256:Nat)=2 ^ 8 from rfl,<-Nat.pow_mul,Int.natCast_pow];rfl
  rw [h4,Int.fdiv_eq_ediv_of_nonneg _ (Int.natCast_nonneg _)]
  rfl
 rw [h3,TQ]
theorem Oj (n k:Nat) (hk:k<=7):dB (n:Int) (k+1)=dB ((n/256:Nat):Int) k++[((n%256:Nat):Int)]:=by
 unfold dB
 rw [List.range_succ,List.map_append,List.map_singleton]
 congr 1
 · refine List.map_congr_left fun i hi=>?_
   have hi:=List.mem_range.1 hi
   rw [show 8*(((k+1:Nat):Int) - 1 - (i:Int))=8*((k - i:Nat):Int) by omega,show 8*((k:Int) - 1 - (i:Int))=8*((k - 1 - i:Nat):Int) by omega,Er _ _ (by omega),Er _ _ (by omega),Nat.div_div_eq_div_mul,show 256*256 ^ (k - 1 - i)=256 ^ (k - i) by rw [<-Nat.pow_succ'];congr 1;omega]
 · rw [show 8*(((k+1:Nat):Int) - 1 - (k:Int))=8*((0:Nat):Int) by omega,Er _ _ (by omega),Nat.pow_zero,Nat.div_one]
theorem Gg:∀ (k n:Nat),k<=8->n<256 ^ k->wV (dB (n:Int) k)=n
 |0,n,_,h=>by
  have:n=0:=by simpa using h
  subst this;rfl
 |k+1,n,hk,h=>by
  rw [Oj n k (by omega),wH,Gg k (n/256) (by omega) (by rw [Nat.pow_succ] at h;omega)]
  omega
theorem Ol (n:Int) (k:Nat):∀ x∈dB n k,0<=x/\x<256:=by
 intro x hx
 obtain ⟨i,_,rfl⟩:=List.mem_map.1 hx
 unfold Ge
 generalize n.fdiv _=y
 simp only [IntKind.wrap,IntKind.bits,IntKind.signed]
 constructor
 · exact Int.emod_nonneg _ (by decide)
 · exact Int.emod_lt_of_pos _ (by decide)
theorem u0:∀ (n:Nat) (l:List Int),l.length=n->(∀ x∈l,0<=x/\x<256)->0<=wV l
 |0,l,h,_=>by rw [List.length_eq_zero_iff.1 h];decide
 |n+1,l,h,hb=>by
  have dM:l≠[]:=by rintro rfl;simp at h
  rw [<-List.dropLast_concat_getLast dM,wH]
  have h1:=u0 n l.dropLast (by simp;omega) fun x hx=>hb x ((List.dropLast_sublist l).subset hx)
  have h2:=hb _ (List.getLast_mem dM)
  omega
theorem u9:∀ (n:Nat) (r l:List Int),r.length=n->(∀ x∈l,0<=x/\x<256)->(∀ x∈r,0<=x/\x<256)->wV l<=wV (l++r)
 |0,r,l,h,_,_=>by rw [List.length_eq_zero_iff.1 h,List.append_nil];exact Int.le_refl _
 |n+1,r,l,h,hl,hb=>by
  have dM:r≠[]:=by rintro rfl;simp at h
  rw [<-List.dropLast_concat_getLast dM,<-List.append_assoc,wH]
  have GN:∀ x∈r.dropLast,0<=x/\x<256:=fun x hx=>hb x ((List.dropLast_sublist r).subset hx)
  have h1:=u9 n r.dropLast l (by simp;omega) hl GN
  have h2:=hb _ (List.getLast_mem dM)
  have h3:=u0 _ (l++r.dropLast) rfl fun x hx=>by
   rcases List.mem_append.1 hx with h|h
   · exact hl x h
   · exact GN x h
  omega
theorem TR {n x:Int} (hn:0<=n) (hx:0<=x) (Ch:x<256) (hm:n*256+x<=9223372036854775807):IntKind.i64.wrap ((BitVec.ofInt IntKind.i64.bits (n*2 ^ (min (8:Int).toNat IntKind.i64.bits))|||BitVec.ofInt IntKind.i64.bits x).toNat)=n*256+x:=by
 obtain ⟨a,rfl⟩:=Int.eq_ofNat_of_zero_le hn
 obtain ⟨b,rfl⟩:=Int.eq_ofNat_of_zero_le hx
 have e0:((a:Int)*2 ^ (min (8:Int).toNat IntKind.i64.bits))=((a*256:Nat):Int):=by
  rw [show min (8:Int).toNat IntKind.i64.bits=8 from rfl];omega
 have hb:b<2 ^ 8:=by omega
 have e1:(BitVec.ofInt IntKind.i64.bits ((a*256:Nat):Int)).toNat=a*256:=by
  rw [BitVec.ofInt_natCast,BitVec.toNat_ofNat]
  exact Nat.mod_eq_of_lt (by show _<2 ^ 64;omega)
 have e2:(BitVec.ofInt IntKind.i64.bits ((b:Nat):Int)).toNat=b:=by
  rw [BitVec.ofInt_natCast,BitVec.toNat_ofNat]
  exact Nat.mod_eq_of_lt (by show _<2 ^ 64;omega)
 rw [e0,BitVec.toNat_or,e1,e2,show a*256=a<<<8 by rw [Nat.shiftLeft_eq],<-Nat.shiftLeft_add_eq_or_of_lt hb,Nat.shiftLeft_eq]
 rw [oS (by show (-9223372036854775808:Int)<=_;omega) (by show _<=(9223372036854775807:Int);omega)]
 omega
open Go
def iI (h:aA) (a:Nat) (m:Bool) (B:List Int):Prop:=a<h.next/\h.get a=some (.cs (tv m++[.sl none 1 (B.map gH),.b false]))
section
variable {P:Program} (hG:bN P AF.fns.get)
include hG
theorem rnum_at {h:aA} {a:Nat} {m:Bool} {X R:List Int} (hr:iI h a m (X++R)) (size:Nat) (hX:X.length=size) (hs:size<=8) (hl:(X++R).length<=1000000000) (hb:∀ x∈X,0<=x/\x<256) (hm:wV X<=9223372036854775807) {K:V->aA->Prop}
 (hK:∀ h',iI h' a m R->aA.aI (fun n=>n=a) h h'->K (.i .i64 (wV X)) h'):aB P 127 [.p (.g a) 0,.i .i64 size] h K:=by
 obtain ⟨U7,ga⟩:=hr
 have iO:((X++R).map gH).length=(X++R).length:=List.length_map _
 have hXm:(X.map gH).length=size:=by simpa using hX
 have hN:List.drop (Int.toNat 0) (List.take ((size:Nat):Int).toNat ((X++R).map gH))=X.map gH:=by
  rw [Int.toNat_natCast,List.map_append,List.take_append_of_le_length (by omega),List.take_of_length_le (by omega)];rfl
 have hD:List.drop ((size:Nat):Int).toNat ((X++R).map gH)=R.map gH:=by
  rw [Int.toNat_natCast,List.map_append,List.drop_append,List.drop_of_length_le (by omega),hXm,Nat.sub_self];rfl
 have OQ:(X++R).length=size+R.length:=by rw [List.length_append,hX]
 refine aN (hG _ AF.f127 rfl) rfl ?_
 ((conv=>whnf);repeat ((first|refine aZ.of (lK _ _ _) ?_|refine aH.df (show ¬(((X++R).map gH).length:Int)<(size:Int) by omega) ?_|refine ye (congrArg some hN) ?_|refine aK.d3 (by omega) (by omega) (by omega) ?_|refine ye (ga) ?_|refine zz ?_)<;>(conv=>whnf)))
 refine bV.by (fun q fr st=>∃ (i:Nat) (l:aA),i<=size/\q=size - i/\
  Fr.le [(28,.i .i64 i),(27,.i .i64 (X.map gH).length),(26,.sl none 1 (X.map gH)),(5,.i .i64 (wV (X.take i))),(1,.i .i64 size),(0,.p (.g a) 0)] fr/\st=⟨h,l⟩)
  size ⟨0,_,Nat.zero_le _,rfl,dK,rfl⟩ ?_
 rintro q fr st ⟨i,l,hi,rfl,dO,rfl⟩
 refine ⟨_,dO,fun R0 hR=>?_⟩
 by_cases eB:i<size
 · have he:=List.getElem?_eq_getElem (show i<X.length by omega)
   have hxb:=hb _ (List.getElem_mem (show i<X.length by omega))
   generalize X[i]=x at he hxb
   have kQ:X.take (i+1)=X.take i++[x]:=by rw [List.take_add_one,he];rfl
   have vO:wV (X.take (i+1))=wV (X.take i)*256+x:=by rw [kQ,wH]
   have hbt:∀ y∈X.take i,0<=y/\y<256:=fun y hy=>hb y (List.mem_of_mem_take hy)
   have h0:=u0 _ (X.take i) rfl hbt
   have hle:wV (X.take (i+1))<=wV X:=by
    have:=u9 _ (X.drop (i+1)) (X.take (i+1)) rfl (fun y hy=>hb y (List.mem_of_mem_take hy)) (fun y hy=>hb y (List.mem_of_mem_drop hy))
    rwa [List.take_append_drop] at this
   have hor:=TR h0 hxb.1 hxb.2 (by omega)
   have qT:wV (X.take i)*2 ^ (min (8:Int).toNat IntKind.i64.bits)=wV (X.take i)*256:=rfl
   ((conv=>whnf);repeat ((first|refine aH.dt (show (i:Int)<(X.map gH).length by omega) ?_|refine aQ.gS (by rw [qT];omega) (by rw [qT];omega) ?_|refine aQ.gS (by omega) (by omega) ?_|refine ye (aG (by omega) he) ?_|refine zz ?_)<;>(conv=>whnf)))
   rw [hor,<-vO]
   exact hR (size - (i+1)) _ _ (by omega) ⟨i+1,_,by omega,rfl,dK,rfl⟩
 · obtain rfl:i=size:=by omega
   have ZT:X.take i=X:=List.take_of_length_le (by omega)
   rw [ZT]
   ((conv=>whnf);repeat ((first|refine aH.df (show ¬(i:Int)<(X.map gH).length by omega) ?_|refine aZ.of (lK _ _ _) ?_|refine ye (congrArg some hD) ?_|refine aK.d2 (by omega) (by omega) ?_|refine aK.mk (wE _ _ _ _) ?_|refine ye (congrArg some (Gd _ _ _ _)) ?_|refine ye (ga) ?_|refine zz ?_)<;>(conv=>whnf)))
   exact hK _ ⟨U7,aA.aD ga⟩ (aA.aI.set (b:=fun n=>n=a) (.refl _ _) (.inl rfl) _)
theorem rnumB_at {h:aA} {a:Nat} {m:Bool} {n size:Nat} {R:List Int} (hr:iI h a m (dB n size++R)) (hs:size<=8) (hn:n<256 ^ size) (MK:(n:Int)<=9223372036854775807) (hl:R.length<=100000000) {K:V->aA->Prop}
 (hK:∀ h',iI h' a m R->aA.aI (fun n=>n=a) h h'->K (.i .i64 n) h'):aB P 127 [.p (.g a) 0,.i .i64 size] h K:=by
 have hd:=Gg size n hs hn
 refine rnum_at hG hr size (aR _ _) hs (by rw [List.length_append,aR];omega) (Ol _ _) (by rw [hd];exact MK) fun h' q1 q2=>?_
 rw [hd]
 exact hK h' q1 q2
theorem rcount_at {h:aA} {a:Nat} {m:Bool} {n:Nat} {R:List Int} (hr:iI h a m (dB n 1++R)) (hn:n<256) (hnR:n<=R.length) (hl:R.length<=100000000) {K:V->aA->Prop}
 (hK:∀ h',iI h' a m R->aA.aI (fun n=>n=a) h h'->K (.i .i64 n) h'):aB P 130 [.p (.g a) 0,.i .i64 1] h K:=by
 have h1:=fun K hK=>rnumB_at (K:=K) hG hr (by omega) (by omega) (by omega) hl hK
 have iO:(R.map gH).length=R.length:=List.length_map _
 refine aN (hG _ AF.f130 rfl) rfl ?_
 (refine cJ @h1 ?_)
 intro h2 r2 k2
 (refine pU @lK (show ¬((n:Nat):Int)>((R.map gH).length:Nat) by omega) @r2.2 ?_)
 exact hK h2 r2 k2
theorem rbool_at {h:aA} {a:Nat} {m:Bool} {b:Bool} {R:List Int} (hr:iI h a m (wG b++R)) (hl:R.length<=100000000) {K:V->aA->Prop}
 (hK:∀ h',iI h' a m R->aA.aI (fun n=>n=a) h h'->K (.b b) h'):aB P 134 [.p (.g a) 0] h K:=by
 cases b
 · have h1:=fun K hK=>rnumB_at (K:=K) (n:=0) (size:=1) hG hr (by omega) (by omega) (by omega) hl hK
   refine aN (hG _ AF.f134 rfl) rfl ?_
   (refine cJ @h1 ?_)
   intro h2 r2 k2
   (refine zr ?_)
   exact hK h2 r2 k2
 · have h1:=fun K hK=>rnumB_at (K:=K) (n:=1) (size:=1) hG hr (by omega) (by omega) (by omega) hl hK
   refine aN (hG _ AF.f134 rfl) rfl ?_
   (refine cJ @h1 ?_)
   intro h2 r2 k2
   (refine zr ?_)
   exact hK h2 r2 k2
omit hG in
theorem Rp (m:Bool) (x y:V):dL (tv m++[x,y]) (0+298) none=some y:=by
 show (tv m++[x,y])[_]? =_
 rw [List.getElem?_append_right (by rw [nI];omega),nI];rfl
theorem rend_at {h:aA} {a:Nat} {m:Bool} (hr:iI h a m []) {K:V->aA->Prop} (hK:K (.b true) h):aB P 135 [.p (.g a) 0] h K:=by
 refine aN (hG _ AF.f135 rfl) rfl ?_
 (refine pU @Rp @lK @hr.2 ?_)
 exact hK
theorem rnew_at {h:aA} (B:List Int) (hl:B.length<=100000000) {K:V->aA->Prop} (hK:∀ h',iI h' h.next false B->aA.aI (fun _=>False) h h'->K (.p (.g h.next) 0) h'):aB P 126 [.sl none 1 (B.map gH)] h K:=by
 have hc:=sQ hG B (by omega)
 refine aN (hG _ AF.f126 rfl) rfl ?_
 (refine cJ @hc ?_)
 exact hK _ ⟨Nat.lt_succ_self _,aA.aC _ _⟩ (.push (.refl _ _) _)
end
end Go.Eng
