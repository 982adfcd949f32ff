/-
Mail: sent behind all else, taken from the first place.
-/
import Derived.Test.YtdjbjnnfmkoceaaGreatX10
import Derived.Test.YtdjbjnnfmkoceaaGreatX11
import Derived.Sort.KeysCollected
import Derived.Sort.Walk0
import Derived.Test.YtdjbjnnfmkoceaaGreatX05
import Derived.Test.YtdjbjnnfmkoceaaGreatX07
set_option linter.unusedVariables false
set_option linter.unusedSimpArgs false
set_option maxHeartbeats 8000000
set_option maxRecDepth 20000
namespace Go.Eng
open Go
def wE (n:Int):List V:=[.i .u8 n]
section
variable {P:Program} (hG:yD P AF.fns.get)
include hG
theorem FZ (l:List Int) (hl:l.length*1<=140737488355328):Pure P 93 [.sl none 1 (l.map wE)] (·=.sl none 1 (l.map wE)):=by
 refine Ch (hG _ AF.f93 rfl) rfl ?_
 cases l with
 |nil=>
  (refine zr ?_)
  refine HM.mk fun b=>?_
  cases b
  · (refine zr ?_)
    exact D2 rfl
  · (refine zr ?_)
    exact pure_nil rfl
 |cons x r=>
  ((conv=>whnf);repeat ((first|refine ye (D3 (fun _=>rfl) (x::r)) ?_|refine eT.mk (by first|(simp [eW];done)|simpa [eW] using hl) ?_|refine zz ?_)<;>(conv=>whnf)))
  exact D2 rfl
end
open Go
abbrev oH (a b:wD):Prop:=Op.bytesLess a b=true
theorem D7:∀ a:wD,Op.bytesLess a a=false
 |[]=>rfl
 |a::r=>by
  have h:¬a<a:=UInt8.lt_irrefl a
  simp only [Op.bytesLess,D7 r,decide_eq_false h,Bool.and_false,Bool.or_false]
theorem yZ:∀ {a b c:wD},oH a b->oH b c->oH a c
 |_,[],_,h,_=>by unfold oH Op.bytesLess at h;cases h
 |_,_::_,[],_,h=>by unfold oH Op.bytesLess at h;cases h
 |[],_::_,_::_,_,_=>rfl
 |a::r,b::q,c::s,h1,h2=>by
  simp only [oH,Op.bytesLess,Bool.or_eq_true,decide_eq_true_eq,Bool.and_eq_true,beq_iff_eq] at h1 h2 ⊢
  rcases h1 with h1|⟨rfl,h1⟩
  · rcases h2 with h2|⟨rfl,h2⟩
    · exact .inl (UInt8.lt_trans h1 h2)
    · exact .inl h1
  · rcases h2 with h2|⟨rfl,h2⟩
    · exact .inl h2
    · exact .inr ⟨rfl,yZ h1 h2⟩
open Go
theorem uB:∀ l:List wD,(l.map HW).flatten=l.map V.s
 |[]=>rfl
 |x::r=>by rw [List.map_cons,List.flatten_cons,uB r];rfl
def kW (ks:List wD):List wD:=ks.mergeSort Go.leB
open Go
def eB (c:Nat):Nat:=if 97<=c/\c<123 then c - 96 else if 48<=c/\c<58 then c - 21 else if c=45 then 37 else 0
def D8 (d:Nat):Nat:=if 1<=d/\d<=26 then d+96 else if 27<=d/\d<=36 then d+21 else if d=37 then 45 else 0
theorem D9 {c:Nat} (h:0<eB c):c<256:=by
 unfold eB at h
 split at h
 · omega
 · split at h
   · omega
   · split at h<;>omega
theorem y9 (c:Nat) (h:0<eB c):D8 (eB c)=c:=
 (show ∀ c,c<256->0<eB c->D8 (eB c)=c by decide) c (D9 h) h
theorem GW {α:Type} {A B C:List α} {n k:Nat} {v:α} (hn:n=A.length+k) (hk:k<B.length):(A++(B++C)).set n v=A++(B.set k v++C):=by
 subst hn
 rw [List.set_append_right _ _ (by omega),List.set_append_left _ _ (by omega),Nat.add_sub_cancel_left]
theorem Ea (c:Nat):eB c<=37:=by
 unfold eB
 split
 · omega
 · split
   · omega
   · split<;>omega
def Eb (n c:Nat):Nat:=if eB c<=n then eB c else 0
def sQ (n d:Nat):Nat:=if d<=n then D8 d else 0
def kH (d l:Int) (n:Nat):List V:=[.i .u32 d,.i .i32 l,.i .u32 0]++((List.range 256).map fun c=>V.i .u64 (Eb n c))++((List.range 38).map fun j=>V.i .u8 (sQ n j))
theorem K4 (d l:Int) (n:Nat):(kH d l n).length=297:=by simp [kH]
theorem Bh {α:Type} (f g:Nat->α) (n i:Nat) (v:α) (hv:i<n->g i=v) (h:∀ j,j≠i->g j=f j):((List.range n).map f).set i v=(List.range n).map g:=by
 apply List.ext_getElem?
 intro j
 rw [List.getElem?_set]
 split
 · rename_i r6
   subst r6
   by_cases hi:i<n
   · simp [hi,hv hi]
   · simp [hi]
 · rename_i r6
   by_cases hj:j<n
   · simp [hj,h j (Ne.symm r6)]
   · simp [hj]
theorem Pq (d l:Int) (m b:Nat) (R:List V) (hb:b<256) (hd:eB b=m+1):((kH d l m++R).set (3+b) (.i .u64 ((m+1:Nat):Int))).set (259+(m+1)) (.i .u8 (b:Int))=kH d l (m+1)++R:=by
 have hm:m+1<=37:=by have:=Ea b;omega
 have zV:D8 (m+1)=b:=by rw [<-hd];exact y9 b (by omega)
 have e1:((List.range 256).map fun c=>V.i .u64 (Eb m c)).set b (.i .u64 ((m+1:Nat):Int))=(List.range 256).map fun c=>V.i .u64 (Eb (m+1) c):=by
  refine Bh _ _ _ _ _ (fun _=>?_) (fun j hj=>?_)
  · show V.i .u64 (((if eB b<=m+1 then eB b else 0:Nat)):Int)=_
    rw [if_pos (by omega),hd]
  · have cO:eB j≠m+1:=by
     intro hc
     have h1:=y9 j (by omega)
     rw [hc,zV] at h1
     exact hj h1.symm
    show V.i .u64 _=V.i .u64 _
    congr 2
    unfold Eb
    by_cases h1:eB j<=m
    · rw [if_pos h1,if_pos (by omega)]
    · rw [if_neg h1,if_neg (by omega)]
 have e2:((List.range 38).map fun j=>V.i .u8 (sQ m j)).set (m+1) (.i .u8 (b:Int))=(List.range 38).map fun j=>V.i .u8 (sQ (m+1) j):=by
  refine Bh _ _ _ _ _ (fun _=>?_) (fun j hj=>?_)
  · show V.i .u8 (((if m+1<=m+1 then D8 (m+1) else 0:Nat)):Int)=_
    rw [if_pos (Nat.le_refl _),zV]
  · show V.i .u8 _=V.i .u8 _
    congr 2
    unfold sQ
    by_cases h1:j<=m
    · rw [if_pos h1,if_pos (by omega)]
    · rw [if_neg h1,if_neg (by omega)]
 unfold kH
 rw [<-e1,<-e2]
 generalize hB:((List.range 256).map fun c=>V.i .u64 (Eb m c))=B
 generalize hC:((List.range 38).map fun j=>V.i .u8 (sQ m j))=C
 have hBl:B.length=256:=by rw [<-hB];simp
 have hCl:C.length=38:=by rw [<-hC];simp
 rw [List.append_assoc,List.append_assoc,GW (k:=b) (by first|(simp;done)|(simp;omega)) (by omega),<-List.append_assoc,GW (k:=m+1) (by first|(simp [hBl];done)|(simp [hBl];omega)) (by omega)]
 simp only [List.append_assoc]
open Go
theorem aA.cF.in3 {b:Nat->Prop} {h:aA} {x y z:Nat} (hx:b x) (hy:b y) (hz:b z) (o o2 o3:Obj):aA.cF b h (((h.set x o).set y o2).set z o3):=
 aA.cF.set (b:=b) (aA.cF.set (b:=b) (aA.cF.set (b:=b) (.refl _ _) (.inl hx) o) (.inl hy) o2) (.inl hz) o3
open Go
def tv:Bool->List V
 |true=>kH 1 0 37
 |false=>kH 0 0 0
def Bi (n:Int) (s:Int):Int:=IntKind.u8.wrap (n.fdiv (2 ^ (min s.toNat IntKind.i64.bits)))
def mX (n:Int) (size:Nat):List Int:=(List.range size).map fun (i:Nat)=>Bi n (8*(((size:Int) - 1) - (i:Int)))
theorem K5 (n:Int) {size i:Nat} (h:i<size):(mX n size)[i]? =some (Bi n (8*(((size:Int) - 1) - i))):=by simp [mX,h]
open Go
def mP (l:List Int):Int:=l.foldl (fun n x=>n*256+x) 0
theorem pM (l:List Int) (x:Int):mP (l++[x])=mP l*256+x:=by simp [mP]
theorem Pr (n:Nat):IntKind.u8.wrap (n:Int)=((n%256:Nat):Int):=by
 simp [IntKind.wrap,IntKind.bits,IntKind.signed]
theorem zA (n k:Nat) (hk:k<=8):Bi (n:Int) (8*(k:Int))=((n/256 ^ k%256:Nat):Int):=by
 unfold Bi
 have h1:(8*(k:Int)).toNat=8*k:=by omega
 have h2:min (8*k) 64=8*k:=by omega
 rw [h1,show IntKind.i64.bits=64 from rfl,h2]
 have h3:(n:Int).fdiv (2 ^ (8*k))=((n/256 ^ k:Nat):Int):=by
  have h4:((2:Int) ^ (8*k))=((256 ^ k:Nat):Int):=by
   rw [show (256:Nat)=2 ^ 8 from rfl,<-Nat.pow_mul,Int.natCast_pow];rfl
  rw [h4,Int.fdiv_eq_ediv_of_nonneg _ (Int.natCast_nonneg _)]
  rfl
 rw [h3,Pr]
theorem HX (n k:Nat) (hk:k<=7):mX (n:Int) (k+1)=mX ((n/256:Nat):Int) k++[((n%256:Nat):Int)]:=by
 unfold mX
 rw [List.range_succ,List.map_append,List.map_singleton]
 congr 1
 · refine List.map_congr_left fun i hi=>?_
   have hi:=List.mem_range.1 hi
   rw [show 8*(((k+1:Nat):Int) - 1 - (i:Int))=8*((k - i:Nat):Int) by omega,show 8*((k:Int) - 1 - (i:Int))=8*((k - 1 - i:Nat):Int) by omega,zA _ _ (by omega),zA _ _ (by omega),Nat.div_div_eq_div_mul,show 256*256 ^ (k - 1 - i)=256 ^ (k - i) by rw [<-Nat.pow_succ'];congr 1;omega]
 · rw [show 8*(((k+1:Nat):Int) - 1 - (k:Int))=8*((0:Nat):Int) by omega,zA _ _ (by omega),Nat.pow_zero,Nat.div_one]
theorem oI:∀ (n:Nat) (l:List Int),l.length=n->(∀ x∈l,0<=x/\x<256)->0<=mP l
 |0,l,h,_=>by rw [List.length_eq_zero_iff.1 h];decide
 |n+1,l,h,hb=>by
  have cO:l≠[]:=by rintro rfl;simp at h
  rw [<-List.dropLast_concat_getLast cO,pM]
  have h1:=oI n l.dropLast (by simp;omega) fun x hx=>hb x ((List.dropLast_sublist l).subset hx)
  have h2:=hb _ (List.getLast_mem cO)
  omega
theorem oJ:∀ (n:Nat) (r l:List Int),r.length=n->(∀ x∈l,0<=x/\x<256)->(∀ x∈r,0<=x/\x<256)->mP l<=mP (l++r)
 |0,r,l,h,_,_=>by rw [List.length_eq_zero_iff.1 h,List.append_nil];exact Int.le_refl _
 |n+1,r,l,h,hl,hb=>by
  have cO:r≠[]:=by rintro rfl;simp at h
  rw [<-List.dropLast_concat_getLast cO,<-List.append_assoc,pM]
  have Og:∀ x∈r.dropLast,0<=x/\x<256:=fun x hx=>hb x ((List.dropLast_sublist r).subset hx)
  have h1:=oJ n r.dropLast l (by simp;omega) hl Og
  have h2:=hb _ (List.getLast_mem cO)
  have h3:=oI _ (l++r.dropLast) rfl fun x hx=>by
   rcases List.mem_append.1 hx with h|h
   · exact hl x h
   · exact Og x h
  omega
theorem Ps {n x:Int} (hn:0<=n) (hx:0<=x) (xP:x<256) (hm:n*256+x<=9223372036854775807):IntKind.i64.wrap ((BitVec.ofInt IntKind.i64.bits (n*2 ^ (min (8:Int).toNat IntKind.i64.bits))|||BitVec.ofInt IntKind.i64.bits x).toNat)=n*256+x:=by
 obtain ⟨a,rfl⟩:=Int.eq_ofNat_of_zero_le hn
 obtain ⟨b,rfl⟩:=Int.eq_ofNat_of_zero_le hx
 have e0:((a:Int)*2 ^ (min (8:Int).toNat IntKind.i64.bits))=((a*256:Nat):Int):=by
  rw [show min (8:Int).toNat IntKind.i64.bits=8 from rfl];omega
 have hb:b<2 ^ 8:=by omega
 have e1:(BitVec.ofInt IntKind.i64.bits ((a*256:Nat):Int)).toNat=a*256:=by
  rw [BitVec.ofInt_natCast,BitVec.toNat_ofNat]
  exact Nat.mod_eq_of_lt (by show _<2 ^ 64;omega)
 have e2:(BitVec.ofInt IntKind.i64.bits ((b:Nat):Int)).toNat=b:=by
  rw [BitVec.ofInt_natCast,BitVec.toNat_ofNat]
  exact Nat.mod_eq_of_lt (by show _<2 ^ 64;omega)
 rw [e0,BitVec.toNat_or,e1,e2,show a*256=a<<<8 by rw [Nat.shiftLeft_eq],<-Nat.shiftLeft_add_eq_or_of_lt hb,Nat.shiftLeft_eq]
 rw [iD (by show (-9223372036854775808:Int)<=_;omega) (by show _<=(9223372036854775807:Int);omega)]
 omega
open Go
section
variable {P:Program}
theorem aB.bounded {f:Nat} {args:List V} {h:aA} {K:V->aA->Prop} (hb:iE P f=true) (hc:(∀ j o,h.get j=some o->j<h.next)->aB P f args h K):aB P f args h K:=
 ⟨hb,fun E w vs vY hs hv=>(hc fun j o hj=>by
  have h1:(Key.g j).lH=true->E.has (.g j):=fun _=>hs.g9 (.g j) ⟨o,hj⟩
  have h2:j<E.ng:=h1 rfl
  have h3:h.next=E.ng:=hs.ng
  omega).2 E w vs vY hs hv⟩
end
section
variable {pre:List V} (hp:pre.length=297)
include hp
theorem oS (x:V) (r:List V):cG (pre++x::r) (0+297) none=some x:=by
 show (pre++x::r)[0+297]? =some x
 rw [List.getElem?_append_right (by omega),hp];rfl
theorem Ec (x y:V) (r:List V):b8 (pre++x::r) (0+297) [y]=pre++y::r:=by
 show List.set _ _ _=_
 rw [List.set_append_right _ _ (by omega),hp];rfl
theorem sR (x y:V) (r:List V):kY (pre++x::r) (0+297) [y]=true:=decide_eq_true (by rw [List.length_append,hp];simp;omega)
end
section
variable {P:Program} (hG:yD P AF.fns.get)
include hG
theorem taddX_at {h:aA} {kn kv a m b:Nat} {d l:Int} {R:List V} (h1:h.get kn=some (.cs [.i .u64 (m:Nat)])) (h2:h.get kv=some (.cs [.p (.g a) 0])) (h3:h.get a=some (.cs (kH d l m++R))) (VE:kn≠a) (VU:kv≠a) (hnv:kn≠kv)
 (hb:b<256) (hd:eB b=m+1) {K:V->aA->Prop}
 (hK:∀ h',h'.get kn=some (.cs [.i .u64 ((m+1:Nat):Int)])->h'.get a=some (.cs (kH d l (m+1)++R))->aA.cF (fun n=>n=kn\/n=a) h h'->h'.next=h.next->K (.bO []) h'):aB P 192 [.i .u8 (b:Nat),.p (.g kn) 0,.p (.g kv) 0] h K:=by
 have hm:m+1<=37:=by have:=Ea b;omega
 refine A6 (hG _ AF.f192 rfl) rfl ?_
 have g1:∀ o,(h.set kn o).get kv=some (.cs [.p (.g a) 0]):=fun o=>aA.gs (Ne.symm hnv) h2
 have g2:∀ o,(h.set kn o).get a=some (.cs (kH d l m++R)):=fun o=>aA.gs (Ne.symm VE) h3
 have g3:∀ o,(h.set kn o).get kn=some o:=fun o=>aA.dK h1
 have g4:∀ o o2,((h.set kn o).set a o2).get a=some o2:=fun o o2=>aA.dK (g2 _)
 have g5:∀ o o2,((h.set kn o).set a o2).get kv=some (.cs [.p (.g a) 0]):=fun o o2=>aA.gs VU (g1 _)
 have g6:∀ o o2,((h.set kn o).set a o2).get kn=some o:=fun o o2=>aA.gs VE (g3 _)
 have g7:∀ o o2 o3,(((h.set kn o).set a o2).set a o3).get kn=some o:=fun o o2 o3=>aA.gs VE (g6 _ _)
 have g8:∀ o o2 o3,(((h.set kn o).set a o2).set a o3).get a=some o3:=fun o o2 o3=>aA.dK (g4 _ _)
 have hlen:(kH d l m++R).length=297+R.length:=by rw [List.length_append,K4]
 have e1:b8 (kH d l m++R) (0+3+((b:Nat):Int).toNat*1) [.i .u64 ((m:Int)+1)]=(kH d l m++R).set (3+b) (.i .u64 ((m+1:Nat):Int)):=by
  show (kH d l m++R).set _ _=_
  rw [show 0+3+((b:Nat):Int).toNat*1=3+b by omega];rfl
 have e2:b8 ((kH d l m++R).set (3+b) (.i .u64 ((m+1:Nat):Int))) (0+259+((m:Int)+1).toNat*1) [.i .u8 (b:Nat)]=kH d l (m+1)++R:=by
  rw [<-Pq d l m b R hb hd]
  show List.set _ _ _=_
  rw [show 0+259+((m:Int)+1).toNat*1=259+(m+1) by omega]
 ((conv=>whnf);repeat ((first|refine dY.wu (by omega) (by omega) ?_|refine eT.ix (by omega) (by omega) ?_|refine eT.mk (decide_eq_true (by rw [hlen];show 0+3+((b:Nat):Int).toNat*1+1<=_;omega)) ?_|refine eT.mk (decide_eq_true (by rw [List.length_set,hlen];show 0+259+((m:Int)+1).toNat*1+1<=_;omega)) ?_|refine ye (congrArg some e1) ?_|refine ye (congrArg some e2) ?_|refine ye (h1) ?_|refine ye (g1 _) ?_|refine ye (g2 _) ?_|refine ye (g3 _) ?_|refine ye (g4 _ _) ?_|refine ye (g5 _ _) ?_|refine ye (g6 _ _) ?_|refine zz ?_)<;>(conv=>whnf)))
 exact hK _ (g7 _ _ _) (g8 _ _ _) (aA.cF.in3 (.inl rfl) (.inr rfl) (.inr rfl) _ _ _) rfl
theorem tmake1X_at {h:aA} {kv a:Nat} {d l:Int} {R:List V} (h2:h.get kv=some (.cs [.p (.g a) 0])) (h3:h.get a=some (.cs (kH d l 0++R))) (hv:kv<h.next) (ha:a<h.next) (VU:kv≠a) {K:V->aA->Prop}
 (hK:∀ h',h'.get a=some (.cs (kH d l 37++R))->aA.cF (fun n=>n=a) h h'->h'.next=h.next+1->K (.bO []) h'):aB P 191 [.p (.g kv) 0] h K:=by
 refine A6 (hG _ AF.f191 rfl) rfl ?_
 (refine Um @aA.dM ?_)
 refine uR.by (fun q fr st=>∃ (i:Nat) (hh lo:aA),i<=26/\q=26 - i/\hh.next=h.next+1/\hh.get h.next=some (.cs [.i .u64 (i:Nat)])/\hh.get a=some (.cs (kH d l i++R))/\aA.cF (fun n=>n=a\/n=h.next) h hh/\
  Fr.le [(6,.i .u8 i),(2,.fn 192 [] [.p (.g h.next) 0,.p (.g kv) 0])] fr/\st=⟨hh,lo⟩)
  26 ⟨0,_,_,by omega,rfl,rfl,aA.dK (aA.dM _ _),aA.gs (by omega) (aA.gp (by omega) h3),.set (.push (.refl _ _) _) (.inr (Nat.le_refl _)) _,IT,rfl⟩ ?_
 rintro q fr st ⟨i,hh,lo,hi,rfl,hn,g1,g3,hk,Cj,rfl⟩
 refine ⟨_,Cj,fun R1 hR=>?_⟩
 have g2:hh.get kv=some (.cs [.p (.g a) 0]):=by rw [hk.2 kv hv (by rintro (h|h)<;>omega)];exact h2
 by_cases kN:i<26
 · have Ck:=fun K hK=>taddX_at (K:=K) hG g1 g2 g3 (by omega) VU (by omega) (show 97+i<256 by omega) (show eB (97+i)=i+1 by unfold eB;rw [if_pos (by omega)];omega) hK
   have hb:((97+i:Nat):Int)=97+(i:Int):=by omega
   rw [hb] at Ck
   ((conv=>whnf);repeat ((first|refine jC.dt (show (i:Int)<26 by omega) ?_|refine dY.of (by show (0:Int)<=_;omega) (by show _<=(255:Int);omega) ?_|refine cA (Ck _) ?_|refine zz ?_)<;>(conv=>whnf)))
   intro h' q1 q2 q3 q4
   ((conv=>whnf);repeat ((first|refine dY.of (by show (0:Int)<=_;omega) (by show _<=(255:Int);omega) ?_|refine zz ?_)<;>(conv=>whnf)))
   exact hR (26 - (i+1)) _ _ (by omega) ⟨i+1,h',lo,by omega,rfl,q4.trans hn,q1,q2,hk.trans (q3.mono fun n _ e=>e.symm),IT,rfl⟩
 · obtain rfl:i=26:=by omega
   (refine Um (show ¬((26:Nat):Int)<26 by omega) ?_)
   refine uR.by (fun q fr st=>∃ (i:Nat) (hh lo:aA),i<=10/\q=10 - i/\hh.next=h.next+1/\hh.get h.next=some (.cs [.i .u64 ((26+i:Nat):Int)])/\hh.get a=some (.cs (kH d l (26+i)++R))/\aA.cF (fun n=>n=a\/n=h.next) h hh/\
    Fr.le [(14,.i .u8 i),(2,.fn 192 [] [.p (.g h.next) 0,.p (.g kv) 0])] fr/\st=⟨hh,lo⟩)
    10 ⟨0,hh,_,by omega,rfl,hn,g1,g3,hk,IT,rfl⟩ ?_
   rintro q fr st ⟨i,hh,lo,hi,rfl,hn,g1,g3,hk,Cj,rfl⟩
   refine ⟨_,Cj,fun R1 hR=>?_⟩
   have g2:hh.get kv=some (.cs [.p (.g a) 0]):=by rw [hk.2 kv hv (by rintro (h|h)<;>omega)];exact h2
   by_cases kN:i<10
   · have Ck:=fun K hK=>taddX_at (K:=K) hG g1 g2 g3 (by omega) VU (by omega) (show 48+i<256 by omega) (show eB (48+i)=26+i+1 by unfold eB;rw [if_neg (by omega),if_pos (by omega)];omega) hK
     have hb:((48+i:Nat):Int)=48+(i:Int):=by omega
     rw [hb] at Ck
     ((conv=>whnf);repeat ((first|refine jC.dt (show (i:Int)<10 by omega) ?_|refine dY.of (by show (0:Int)<=_;omega) (by show _<=(255:Int);omega) ?_|refine cA (Ck _) ?_|refine zz ?_)<;>(conv=>whnf)))
     intro h' q1 q2 q3 q4
     ((conv=>whnf);repeat ((first|refine dY.of (by show (0:Int)<=_;omega) (by show _<=(255:Int);omega) ?_|refine zz ?_)<;>(conv=>whnf)))
     exact hR (10 - (i+1)) _ _ (by omega) ⟨i+1,h',lo,by omega,rfl,q4.trans hn,q1,q2,hk.trans (q3.mono fun n _ e=>e.symm),IT,rfl⟩
   · obtain rfl:i=10:=by omega
     have Ck:=fun K hK=>taddX_at (K:=K) hG g1 g2 g3 (by omega) VU (by omega) (show 45<256 by omega) (show eB 45=26+10+1 by rfl) hK
     (refine Yl (show ¬((10:Nat):Int)<10 by omega) @Ck ?_)
     intro h' q1 q2 q3 q4
     (refine zr ?_)
     exact hK h' q2 ((hk.trans (q3.mono fun n _ e=>e.symm)).mono fun n Q2 e=>by rcases e with e|e;exact e;omega) (q4.trans hn)
theorem Cl (Yo:BJ P 190) {h:aA} {a:Nat} {R:List V} (ha:a<h.next) (h1:h.get a=some (.cs (tv false++R))) {K:V->aA->Prop}
 (hK:∀ h',h'.get a=some (.cs (tv true++R))->aA.cF (fun n=>n=a) h h'->h'.next=h.next+2->K (.bO []) h'):aB P 119 [.p (.g a) 0] h K:=by
 have g1:∀ o,(h.push o).get a=some (.cs (tv false++R)):=fun o=>aA.gp (by omega) h1
 have g2:∀ o,(h.push o).get h.next=some o:=fun o=>aA.dM _ _
 have Yp:=fun (K:V->aA->Prop) hc=>Yo.first a 0 191 [] [.p (.g h.next) 0] (tv false++R) (h.push (.cs [.p (.g a) 0])) K (g1 _) rfl rfl hc
 refine A6 (hG _ AF.f119 rfl) rfl ?_
 (refine W6 @Yp @g1 @g2 ?_)
 have c1:(tv false++R).set (0+1) (.i .i32 1)=kH 0 1 0++R:=rfl
 rw [c1]
 refine tmake1X_at hG (kv:=h.next) (a:=a) (d:=0) (l:=1) (R:=R) (aA.gs (by omega) (g2 _)) (aA.dK (g1 _)) (Nat.lt_succ_self _) (Nat.lt_succ_of_lt ha) (by omega) fun h' q1 q2 q3=>?_
 refine ⟨_,q1,rfl,rfl,?_⟩
 have c2:((kH 0 1 37++R).set 0 (.i .u32 1)).set (0+1) (.i .i32 0)=tv true++R:=rfl
 rw [c2]
 (refine zr ?_)
 exact hK _ (aA.dK q1) (aA.cF.set (b:=fun n=>n=a) (aA.cF.trans (b:=fun n=>n=a) (aA.cF.set (b:=fun n=>n=a) (.push (.refl _ _) _) (.inl rfl) _) q2) (.inl rfl) _) q3
theorem Ed (Yo:BJ P 190) {h:aA} {a:Nat} {c:List V} (ha:a<h.next) (h1:h.get a=some (.cs c)) (hd:c[0]? =some (.i .u32 1)) {K:V->aA->Prop}
 (hK:∀ h',aA.cF (fun _=>False) h h'->h'.next=h.next+1->K (.bO []) h'):aB P 119 [.p (.g a) 0] h K:=by
 have g1:∀ o,(h.push o).get a=some (.cs c):=fun o=>aA.gp (by omega) h1
 have g2:∀ o,(h.push o).get h.next=some o:=fun o=>aA.dM _ _
 have Yp:=fun (K:V->aA->Prop) hc=>Yo.done a 0 191 [] [.p (.g h.next) 0] c 1 (h.push (.cs [.p (.g a) 0])) K (g1 _) hd (by decide) hc
 refine A6 (hG _ AF.f119 rfl) rfl ?_
 (refine W6 @Yp @g1 @g2 ?_)
 exact hK _ (.push (.refl _ _) _) rfl
def HY (h:aA) (a:Nat) (pre R:List V) (es:List (List V)) (k0:Option Nat):Prop:=
 (es=[]/\k0=none/\h.get a=some (.cs (pre++.bU::R)))\/∃ k,k0=some k/\k≠a/\k<h.next/\h.get k=some .spare/\h.get a=some (.cs (pre++.sl (some (.g k)) 1 es::R))
theorem wnumX_at {h:aA} {a:Nat} {pre R:List V} (hp:pre.length=297) {es:List (List V)} {k0:Option Nat} (ha:a<h.next) (hw:HY h a pre R es k0) (hB:es.length<=100000000) (n:Int) (size:Nat) (hs:size<=8) {K:V->aA->Prop}
 (hK:∀ h' k1,HY h' a pre R (es++(mX n size).map wE) k1->(1<=size->k1=some (h.next+2*size - 1))->aA.cF (fun j=>j=a\/some j=k0) h h'->h'.next=h.next+2*size->K (.bO []) h'):aB P 55 [.p (.g a) 0,.i .i64 n,.i .i64 size] h K:=by
 refine A6 (hG _ AF.f55 rfl) rfl ?_
 have vY:(mX n size).length=size:=by simp [mX]
 (refine zr ?_)
 refine uR.by (fun q fr st=>∃ (i:Nat) (k1:Option Nat) (E:List (List V)) (hh l:aA),i<=size/\q=size - i/\E=es++((mX n size).take i).map wE/\HY hh a pre R E k1/\(1<=i->k1=some (h.next+2*i - 1))/\(i=0->k1=k0)/\aA.cF (fun j=>j=a\/some j=k0) h hh/\hh.next=h.next+2*i/\
  Fr.le [(8,.i .i64 i),(7,.i .i64 size),(2,.i .i64 size),(1,.i .i64 n),(0,.p (.g a) 0)] fr/\st=⟨hh,l⟩)
  size ⟨0,k0,es,h,_,Nat.zero_le _,rfl,(by simp),hw,(fun h=>absurd h (by omega)),(fun _=>rfl),.refl _ _,rfl,IT,rfl⟩ ?_
 rintro q fr st ⟨i,k1,E,hh,l,hi,rfl,hE,hwi,EM,HL,hk,Yq,Cj,rfl⟩
 refine ⟨_,Cj,fun R1 hR=>?_⟩
 by_cases kN:i<size
 · have eK:=K5 n kN
   have Ol:(mX n size).take (i+1)=(mX n size).take i++[Bi n (8*(((size:Int) - 1) - i))]:=by rw [List.take_add_one,eK];rfl
   have hE1:E++[wE (Bi n (8*(((size:Int) - 1) - i)))]=es++((mX n size).take (i+1)).map wE:=by rw [hE,Ol];simp
   have hlen:E.length<=100000008:=by rw [hE];simp;omega
   have han:a<hh.next:=by omega
   have g0:∀ o,(hh.push o).get hh.next=some o:=fun o=>aA.dM _ _
   rcases hwi with ⟨hb0,_,ga⟩|⟨k,By,hka,hkn,gk,ga⟩
   · have g1:∀ o,(hh.push o).get a=some (.cs (pre++.bU::R)):=fun o=>aA.gp (by omega) ga
     have g2:∀ o o2,((hh.push o).push o2).get a=some (.cs (pre++.bU::R)):=fun o o2=>aA.gp (by show a≠hh.next+1;omega) (g1 o)
     ((conv=>whnf);repeat ((first|refine jC.dt (show (i:Int)<(size:Nat) by omega) ?_|refine dY.Sm (by omega) (by omega) ?_|refine eT.mk (decide_eq_true (show (0:Int)<=8*((size:Int) - 1 - (i:Int)) by omega)) ?_|refine dY.mk ?_|refine eT.mk (sR hp _ _ _) ?_|refine mL.of (oS hp _ _) ?_|refine ye (congrArg some (Ec hp _ _ _)) ?_|refine ye (ga) ?_|refine ye (g1 _) ?_|refine ye (g2 _ _) ?_|refine zz ?_)<;>(conv=>whnf)))
     dsimp only
     rw [oS hp]
     ((conv=>whnf);repeat ((first|refine jC.dt (show (i:Int)<(size:Nat) by omega) ?_|refine dY.Sm (by omega) (by omega) ?_|refine eT.mk (decide_eq_true (show (0:Int)<=8*((size:Int) - 1 - (i:Int)) by omega)) ?_|refine dY.mk ?_|refine eT.mk (sR hp _ _ _) ?_|refine mL.of (oS hp _ _) ?_|refine ye (congrArg some (Ec hp _ _ _)) ?_|refine ye (ga) ?_|refine ye (g1 _) ?_|refine ye (g2 _ _) ?_|refine zz ?_)<;>(conv=>whnf)))
     have Hp:∀ o o2 o3,aA.cF (fun j=>j=a\/some j=k0) h (((hh.push o).push o2).set a o3):=fun o o2 o3=>aA.cF.set (b:=fun j=>j=a\/some j=k0) (.push (.push hk _) _) (.inl (.inl rfl)) _
     exact hR (size - (i+1)) _ _ (by omega) ⟨i+1,some (hh.next+1),_,_,_,by omega,rfl,hE1,.inr ⟨hh.next+1,rfl,by omega,Nat.lt_succ_self _,aA.gs (by omega) (aA.dM _ _),(aA.dK (g2 _ _)).trans (by rw [hb0];rfl)⟩,(fun _=>by rw [Yq];rfl),(fun h=>absurd h (by omega)),Hp _ _ _,(by show hh.next+1+1=_;omega),IT,rfl⟩
   · have g1:∀ o,(hh.push o).get a=some (.cs (pre++.sl (some (.g k)) 1 E::R)):=fun o=>aA.gp (by omega) ga
     have g3:∀ o,(hh.push o).get k=some .spare:=fun o=>aA.gp (by omega) gk
     have g2:∀ o o2,(((hh.push o).remove k).push o2).get a=some (.cs (pre++.sl (some (.g k)) 1 E::R)):=fun o o2=>aA.gp (by show a≠hh.next+1;omega) (aA.gr (Ne.symm hka) (g1 o))
     have hkb:(k=a\/some k=k0)\/h.next<=k:=by
      by_cases h0:i=0
      · exact .inl (.inr (by rw [<-By,HL h0]))
      · have:=EM (by omega)
        rw [By] at this
        have:=Option.some.inj this
        omega
     ((conv=>whnf);repeat ((first|refine jC.dt (show (i:Int)<(size:Nat) by omega) ?_|refine dY.Sm (by omega) (by omega) ?_|refine eT.mk (decide_eq_true (show (0:Int)<=8*((size:Int) - 1 - (i:Int)) by omega)) ?_|refine dY.mk ?_|refine eT.mk (sR hp _ _ _) ?_|refine mL.of (oS hp _ _) ?_|refine ye (congrArg some (Ec hp _ _ _)) ?_|refine eT.mk (by simp only [eW];exact decide_eq_true (by simp at hlen ⊢;omega)) ?_|refine ye (ga) ?_|refine ye (g1 _) ?_|refine ye (g2 _ _) ?_|refine ye (g3 _) ?_|refine zz ?_)<;>(conv=>whnf)))
     dsimp only
     rw [oS hp]
     ((conv=>whnf);repeat ((first|refine jC.dt (show (i:Int)<(size:Nat) by omega) ?_|refine dY.Sm (by omega) (by omega) ?_|refine eT.mk (decide_eq_true (show (0:Int)<=8*((size:Int) - 1 - (i:Int)) by omega)) ?_|refine dY.mk ?_|refine eT.mk (sR hp _ _ _) ?_|refine mL.of (oS hp _ _) ?_|refine ye (congrArg some (Ec hp _ _ _)) ?_|refine eT.mk (by simp only [eW];exact decide_eq_true (by simp at hlen ⊢;omega)) ?_|refine ye (ga) ?_|refine ye (g1 _) ?_|refine ye (g2 _ _) ?_|refine ye (g3 _) ?_|refine zz ?_)<;>(conv=>whnf)))
     have Hp:∀ o o2 o3,aA.cF (fun j=>j=a\/some j=k0) h ((((hh.push o).remove k).push o2).set a o3):=fun o o2 o3=>aA.cF.set (b:=fun j=>j=a\/some j=k0) (.push (aA.cF.remove (b:=fun j=>j=a\/some j=k0) (.push hk _) hkb) _) (.inl (.inl rfl)) _
     exact hR (size - (i+1)) _ _ (by omega) ⟨i+1,some (hh.next+1),_,_,_,by omega,rfl,hE1,.inr ⟨hh.next+1,rfl,by omega,Nat.lt_succ_self _,aA.gs (by omega) (aA.dM _ _),(aA.dK (g2 _ _)).trans rfl⟩,(fun _=>by rw [Yq];rfl),(fun h=>absurd h (by omega)),Hp _ _ _,(by show hh.next+1+1=_;omega),IT,rfl⟩
 · obtain rfl:i=size:=by omega
   rw [show (mX n i).take i=mX n i from List.take_of_length_le (by omega)] at hE
   subst hE
   (refine Um (show ¬(i:Int)<(i:Nat) by omega) ?_)
   exact hK hh k1 hwi EM hk Yq
theorem rnumX_at {h:aA} {a:Nat} {pre R:List V} (hp:pre.length=297) {X:List Int} {E:List (List V)} (ga:h.get a=some (.cs (pre++.sl none 1 (X.map wE++E)::R))) (size:Nat) (hX:X.length=size) (hs:size<=8) (hl:(X.map wE++E).length<=1000000000) (hb:∀ x∈X,0<=x/\x<256) (hm:mP X<=9223372036854775807) {K:V->aA->Prop}
 (hK:K (.i .i64 (mP X)) (h.set a (.cs (pre++.sl none 1 E::R)))):aB P 156 [.p (.g a) 0,.i .i64 size] h K:=by
 have hXm:(X.map wE).length=size:=by simpa using hX
 have hN:List.drop (Int.toNat 0) (List.take ((size:Nat):Int).toNat (X.map wE++E))=X.map wE:=by
  rw [Int.toNat_natCast,List.take_append_of_le_length (by omega),List.take_of_length_le (by omega)];rfl
 have hD:List.drop ((size:Nat):Int).toNat (X.map wE++E)=E:=by
  rw [Int.toNat_natCast,List.drop_append,List.drop_of_length_le (by omega),hXm,Nat.sub_self];rfl
 have QT:(X.map wE++E).length=size+E.length:=by rw [List.length_append,hXm]
 refine A6 (hG _ AF.f156 rfl) rfl ?_
 ((conv=>whnf);repeat ((first|refine mL.of (oS hp _ _) ?_|refine jC.df (show ¬((X.map wE++E).length:Int)<(size:Int) by omega) ?_|refine ye (congrArg some hN) ?_|refine eT.d3 (by omega) (by omega) (by omega) ?_|refine ye (ga) ?_|refine zz ?_)<;>(conv=>whnf)))
 refine uR.by (fun q fr st=>∃ (i:Nat) (l:aA),i<=size/\q=size - i/\
  Fr.le [(28,.i .i64 i),(27,.i .i64 (X.map wE).length),(26,.sl none 1 (X.map wE)),(5,.i .i64 (mP (X.take i))),(1,.i .i64 size),(0,.p (.g a) 0)] fr/\st=⟨h,l⟩)
  size ⟨0,_,Nat.zero_le _,rfl,IT,rfl⟩ ?_
 rintro q fr st ⟨i,l,hi,rfl,Cj,rfl⟩
 refine ⟨_,Cj,fun R0 hR=>?_⟩
 by_cases kN:i<size
 · have he:=List.getElem?_eq_getElem (show i<X.length by omega)
   have Yr:=hb _ (List.getElem_mem (show i<X.length by omega))
   generalize X[i]=x at he Yr
   have Ol:X.take (i+1)=X.take i++[x]:=by rw [List.take_add_one,he];rfl
   have wK:mP (X.take (i+1))=mP (X.take i)*256+x:=by rw [Ol,pM]
   have hbt:∀ y∈X.take i,0<=y/\y<256:=fun y hy=>hb y (List.mem_of_mem_take hy)
   have h0:=oI _ (X.take i) rfl hbt
   have hle:mP (X.take (i+1))<=mP X:=by
    have:=oJ _ (X.drop (i+1)) (X.take (i+1)) rfl (fun y hy=>hb y (List.mem_of_mem_take hy)) (fun y hy=>hb y (List.mem_of_mem_drop hy))
    rwa [List.take_append_drop] at this
   have hor:=Ps h0 Yr.1 Yr.2 (by omega)
   have lI:mP (X.take i)*2 ^ (min (8:Int).toNat IntKind.i64.bits)=mP (X.take i)*256:=rfl
   ((conv=>whnf);repeat ((first|refine jC.dt (show (i:Int)<(X.map wE).length by omega) ?_|refine dY.Sm (by rw [lI];omega) (by rw [lI];omega) ?_|refine dY.Sm (by omega) (by omega) ?_|refine ye (bB (by omega) he) ?_|refine zz ?_)<;>(conv=>whnf)))
   rw [hor,<-wK]
   exact hR (size - (i+1)) _ _ (by omega) ⟨i+1,_,by omega,rfl,IT,rfl⟩
 · obtain rfl:i=size:=by omega
   have VV:X.take i=X:=List.take_of_length_le (by omega)
   rw [VV]
   ((conv=>whnf);repeat ((first|refine jC.df (show ¬(i:Int)<(X.map wE).length by omega) ?_|refine mL.of (oS hp _ _) ?_|refine ye (congrArg some hD) ?_|refine eT.d2 (by omega) (by omega) ?_|refine eT.mk (sR hp _ _ _) ?_|refine ye (congrArg some (Ec hp _ _ _)) ?_|refine ye (ga) ?_|refine zz ?_)<;>(conv=>whnf)))
   exact hK
end
end Go.Eng
