/-
Mail: sent behind all else, taken from the first place.
-/
import Derived.Test.YtdjbjnnfmkoceaaGreatY09
import Derived.Test.YtdjbjnnfmkoceaaGreatY10
import Derived.Test.YtdjbjnnfmkoceaaGreatY07
import Derived.Sort.KeysCollected
import Derived.Sort.Walk0
import Derived.Test.YtdjbjnnfmkoceaaGreatY05
set_option linter.unusedVariables false
set_option linter.unusedSimpArgs false
set_option maxHeartbeats 8000000
set_option maxRecDepth 20000
namespace Go.Eng
open Go
def Cl (n:Int):List V:=[.i .u8 n]
section
variable {P:Program} (hG:BL P AF.fns.get)
include hG
theorem Pu (l:List Int) (hl:l.length*1<=140737488355328):Pure P 93 [.sl none 1 (l.map Cl)] (·=.sl none 1 (l.map Cl)):=by
 refine CN (hG _ AF.f93 rfl) rfl ?_
 cases l with
 |nil=>
  (refine zr ?_)
  refine Rx.mk fun b=>?_
  cases b
  · (refine zr ?_)
    exact Lx rfl
  · (refine zr ?_)
    exact pure_nil rfl
 |cons x r=>
  ((conv=>whnf);repeat ((first|refine ye (LD (fun _=>rfl) (x::r)) ?_|refine gJ.mk (by first|(simp [gO];done)|simpa [gO] using hl) ?_|refine zz ?_)<;>(conv=>whnf)))
  exact Lx rfl
end
open Go
abbrev uV (a b:Ck):Prop:=Op.bytesLess a b=true
theorem LF:∀ a:Ck,Op.bytesLess a a=false
 |[]=>rfl
 |a::r=>by
  have h:¬a<a:=UInt8.lt_irrefl a
  simp only [Op.bytesLess,LF r,decide_eq_false h,Bool.and_false,Bool.or_false]
theorem DX:∀ {a b c:Ck},uV a b->uV b c->uV a c
 |_,[],_,h,_=>by unfold uV Op.bytesLess at h;cases h
 |_,_::_,[],_,h=>by unfold uV Op.bytesLess at h;cases h
 |[],_::_,_::_,_,_=>rfl
 |a::r,b::q,c::s,h1,h2=>by
  simp only [uV,Op.bytesLess,Bool.or_eq_true,decide_eq_true_eq,Bool.and_eq_true,beq_iff_eq] at h1 h2 ⊢
  rcases h1 with h1|⟨rfl,h1⟩
  · rcases h2 with h2|⟨rfl,h2⟩
    · exact .inl (UInt8.lt_trans h1 h2)
    · exact .inl h1
  · rcases h2 with h2|⟨rfl,h2⟩
    · exact .inl h2
    · exact .inr ⟨rfl,DX h1 h2⟩
open Go
theorem Bq:∀ l:List Ck,(l.map RM).flatten=l.map V.s
 |[]=>rfl
 |x::r=>by rw [List.map_cons,List.flatten_cons,Bq r];rfl
def qT (ks:List Ck):List Ck:=ks.mergeSort Go.leB
open Go
def fO (c:Nat):Nat:=if 97<=c/\c<123 then c - 96 else if 48<=c/\c<58 then c - 21 else if c=45 then 37 else 0
def LG (d:Nat):Nat:=if 1<=d/\d<=26 then d+96 else if 27<=d/\d<=36 then d+21 else if d=37 then 45 else 0
theorem LH {c:Nat} (h:0<fO c):c<256:=by
 unfold fO at h
 split at h
 · omega
 · split at h
   · omega
   · split at h<;>omega
theorem DY (c:Nat) (h:0<fO c):LG (fO c)=c:=
 (show ∀ c,c<256->0<fO c->LG (fO c)=c by decide) c (LH h) h
theorem QG {α:Type} {A B C:List α} {n k:Nat} {v:α} (hn:n=A.length+k) (hk:k<B.length):(A++(B++C)).set n v=A++(B.set k v++C):=by
 subst hn
 rw [List.set_append_right _ _ (by omega),List.set_append_left _ _ (by omega),Nat.add_sub_cancel_left]
theorem LI (c:Nat):fO c<=37:=by
 unfold fO
 split
 · omega
 · split
   · omega
   · split<;>omega
def LJ (n c:Nat):Nat:=if fO c<=n then fO c else 0
def AN (n d:Nat):Nat:=if d<=n then LG d else 0
def p9 (d l:Int) (n:Nat):List V:=[.i .u32 d,.i .i32 l,.i .u32 0]++((List.range 256).map fun c=>V.i .u64 (LJ n c))++((List.range 38).map fun j=>V.i .u8 (AN n j))
theorem Wv (d l:Int) (n:Nat):(p9 d l n).length=297:=by simp [p9]
theorem Gw {α:Type} (f g:Nat->α) (n i:Nat) (v:α) (hv:i<n->g i=v) (h:∀ j,j≠i->g j=f j):((List.range n).map f).set i v=(List.range n).map g:=by
 apply List.ext_getElem?
 intro j
 rw [List.getElem?_set]
 split
 · rename_i An
   subst An
   by_cases hi:i<n
   · simp [hi,hv hi]
   · simp [hi]
 · rename_i An
   by_cases hj:j<n
   · simp [hj,h j (Ne.symm An)]
   · simp [hj]
theorem afW (d l:Int) (m b:Nat) (R:List V) (hb:b<256) (hd:fO b=m+1):((p9 d l m++R).set (3+b) (.i .u64 ((m+1:Nat):Int))).set (259+(m+1)) (.i .u8 (b:Int))=p9 d l (m+1)++R:=by
 have hm:m+1<=37:=by have:=LI b;omega
 have EI:LG (m+1)=b:=by rw [<-hd];exact DY b (by omega)
 have e1:((List.range 256).map fun c=>V.i .u64 (LJ m c)).set b (.i .u64 ((m+1:Nat):Int))=(List.range 256).map fun c=>V.i .u64 (LJ (m+1) c):=by
  refine Gw _ _ _ _ _ (fun _=>?_) (fun j hj=>?_)
  · show V.i .u64 (((if fO b<=m+1 then fO b else 0:Nat)):Int)=_
    rw [if_pos (by omega),hd]
  · have dX:fO j≠m+1:=by
     intro hc
     have h1:=DY j (by omega)
     rw [hc,EI] at h1
     exact hj h1.symm
    show V.i .u64 _=V.i .u64 _
    congr 2
    unfold LJ
    by_cases h1:fO j<=m
    · rw [if_pos h1,if_pos (by omega)]
    · rw [if_neg h1,if_neg (by omega)]
 have e2:((List.range 38).map fun j=>V.i .u8 (AN m j)).set (m+1) (.i .u8 (b:Int))=(List.range 38).map fun j=>V.i .u8 (AN (m+1) j):=by
  refine Gw _ _ _ _ _ (fun _=>?_) (fun j hj=>?_)
  · show V.i .u8 (((if m+1<=m+1 then LG (m+1) else 0:Nat)):Int)=_
    rw [if_pos (Nat.le_refl _),EI]
  · show V.i .u8 _=V.i .u8 _
    congr 2
    unfold AN
    by_cases h1:j<=m
    · rw [if_pos h1,if_pos (by omega)]
    · rw [if_neg h1,if_neg (by omega)]
 unfold p9
 rw [<-e1,<-e2]
 generalize hB:((List.range 256).map fun c=>V.i .u64 (LJ m c))=B
 generalize hC:((List.range 38).map fun j=>V.i .u8 (AN m j))=C
 have hBl:B.length=256:=by rw [<-hB];simp
 have hCl:C.length=38:=by rw [<-hC];simp
 rw [List.append_assoc,List.append_assoc,QG (k:=b) (by first|(simp;done)|(simp;omega)) (by omega),<-List.append_assoc,QG (k:=m+1) (by first|(simp [hBl];done)|(simp [hBl];omega)) (by omega)]
 simp only [List.append_assoc]
open Go
theorem aC.dE.in3 {b:Nat->Prop} {h:aC} {x y z:Nat} (hx:b x) (hy:b y) (hz:b z) (o o2 o3:Obj):aC.dE b h (((h.set x o).set y o2).set z o3):=
 aC.dE.set (b:=b) (aC.dE.set (b:=b) (aC.dE.set (b:=b) (.refl _ _) (.inl hx) o) (.inl hy) o2) (.inl hz) o3
open Go
def tv:Bool->List V
 |true=>p9 1 0 37
 |false=>p9 0 0 0
def Gx (n:Int) (s:Int):Int:=IntKind.u8.wrap (n.fdiv (2 ^ (min s.toNat IntKind.i64.bits)))
def tD (n:Int) (size:Nat):List Int:=(List.range size).map fun (i:Nat)=>Gx n (8*(((size:Int) - 1) - (i:Int)))
theorem Ww (n:Int) {size i:Nat} (h:i<size):(tD n size)[i]? =some (Gx n (8*(((size:Int) - 1) - i))):=by simp [tD,h]
open Go
def sX (l:List Int):Int:=l.foldl (fun n x=>n*256+x) 0
theorem wP (l:List Int) (x:Int):sX (l++[x])=sX l*256+x:=by simp [sX]
theorem afX (n:Nat):IntKind.u8.wrap (n:Int)=((n%256:Nat):Int):=by
 simp [IntKind.wrap,IntKind.bits,IntKind.signed]
theorem DZ (n k:Nat) (hk:k<=8):Gx (n:Int) (8*(k:Int))=((n/256 ^ k%256:Nat):Int):=by
 unfold Gx
 have h1:(8*(k:Int)).toNat=8*k:=by omega
 have h2:min (8*k) 64=8*k:=by omega
 rw [h1,show IntKind.i64.bits=64 from rfl,h2]
 have h3:(n:Int).fdiv (2 ^ (8*k))=((n/256 ^ k:Nat):Int):=by
  have h4:((2:Int) ^ (8*k))=((256 ^ k:Nat):Int):=by
   rw [show (256:Nat)=2 ^ 8 from rfl,<-Nat.pow_mul,Int.natCast_pow];rfl
  rw [h4,Int.fdiv_eq_ediv_of_nonneg _ (Int.natCast_nonneg _)]
  rfl
 rw [h3,afX]
theorem RN (n k:Nat) (hk:k<=7):tD (n:Int) (k+1)=tD ((n/256:Nat):Int) k++[((n%256:Nat):Int)]:=by
 unfold tD
 rw [List.range_succ,List.map_append,List.map_singleton]
 congr 1
 · refine List.map_congr_left fun i hi=>?_
   have hi:=List.mem_range.1 hi
   rw [show 8*(((k+1:Nat):Int) - 1 - (i:Int))=8*((k - i:Nat):Int) by omega,show 8*((k:Int) - 1 - (i:Int))=8*((k - 1 - i:Nat):Int) by omega,DZ _ _ (by omega),DZ _ _ (by omega),Nat.div_div_eq_div_mul,show 256*256 ^ (k - 1 - i)=256 ^ (k - i) by rw [<-Nat.pow_succ'];congr 1;omega]
 · rw [show 8*(((k+1:Nat):Int) - 1 - (k:Int))=8*((0:Nat):Int) by omega,DZ _ _ (by omega),Nat.pow_zero,Nat.div_one]
theorem uW:∀ (n:Nat) (l:List Int),l.length=n->(∀ x∈l,0<=x/\x<256)->0<=sX l
 |0,l,h,_=>by rw [List.length_eq_zero_iff.1 h];decide
 |n+1,l,h,hb=>by
  have dX:l≠[]:=by rintro rfl;simp at h
  rw [<-List.dropLast_concat_getLast dX,wP]
  have h1:=uW n l.dropLast (by simp;omega) fun x hx=>hb x ((List.dropLast_sublist l).subset hx)
  have h2:=hb _ (List.getLast_mem dX)
  omega
theorem uX:∀ (n:Nat) (r l:List Int),r.length=n->(∀ x∈l,0<=x/\x<256)->(∀ x∈r,0<=x/\x<256)->sX l<=sX (l++r)
 |0,r,l,h,_,_=>by rw [List.length_eq_zero_iff.1 h,List.append_nil];exact Int.le_refl _
 |n+1,r,l,h,hl,hb=>by
  have dX:r≠[]:=by rintro rfl;simp at h
  rw [<-List.dropLast_concat_getLast dX,<-List.append_assoc,wP]
  have hb':∀ x∈r.dropLast,0<=x/\x<256:=fun x hx=>hb x ((List.dropLast_sublist r).subset hx)
  have h1:=uX n r.dropLast l (by simp;omega) hl hb'
  have h2:=hb _ (List.getLast_mem dX)
  have h3:=uW _ (l++r.dropLast) rfl fun x hx=>by
   rcases List.mem_append.1 hx with h|h
   · exact hl x h
   · exact hb' x h
  omega
theorem afY {n x:Int} (hn:0<=n) (hx:0<=x) (De:x<256) (hm:n*256+x<=9223372036854775807):IntKind.i64.wrap ((BitVec.ofInt IntKind.i64.bits (n*2 ^ (min (8:Int).toNat IntKind.i64.bits))|||BitVec.ofInt IntKind.i64.bits x).toNat)=n*256+x:=by
 obtain ⟨a,rfl⟩:=Int.eq_ofNat_of_zero_le hn
 obtain ⟨b,rfl⟩:=Int.eq_ofNat_of_zero_le hx
 have e0:((a:Int)*2 ^ (min (8:Int).toNat IntKind.i64.bits))=((a*256:Nat):Int):=by
  rw [show min (8:Int).toNat IntKind.i64.bits=8 from rfl];omega
 have hb:b<2 ^ 8:=by omega
 have e1:(BitVec.ofInt IntKind.i64.bits ((a*256:Nat):Int)).toNat=a*256:=by
  rw [BitVec.ofInt_natCast,BitVec.toNat_ofNat]
  exact Nat.mod_eq_of_lt (by show _<2 ^ 64;omega)
 have e2:(BitVec.ofInt IntKind.i64.bits ((b:Nat):Int)).toNat=b:=by
  rw [BitVec.ofInt_natCast,BitVec.toNat_ofNat]
  exact Nat.mod_eq_of_lt (by show _<2 ^ 64;omega)
 rw [e0,BitVec.toNat_or,e1,e2,show a*256=a<<<8 by rw [Nat.shiftLeft_eq],<-Nat.shiftLeft_add_eq_or_of_lt hb,Nat.shiftLeft_eq]
 rw [lD (by show (-9223372036854775808:Int)<=_;omega) (by show _<=(9223372036854775807:Int);omega)]
 omega
open Go
section
variable {P:Program}
theorem aE.bounded {f:Nat} {args:List V} {h:aC} {K:V->aC->Prop} (hb:lF P f=true) (hc:(∀ j o,h.get j=some o->j<h.next)->aE P f args h K):aE P f args h K:=
 ⟨hb,fun E w vs Cb hs hv=>(hc fun j o hj=>by
  have h1:(Key.g j).rD=true->E.has (.g j):=fun _=>hs.j8 (.g j) ⟨o,hj⟩
  have h2:j<E.ng:=h1 rfl
  have h3:h.next=E.ng:=hs.ng
  omega).2 E w vs Cb hs hv⟩
end
section
variable {pre:List V} (hp:pre.length=297)
include hp
theorem uY (x:V) (r:List V):dF (pre++x::r) (0+297) none=some x:=by
 show (pre++x::r)[0+297]? =some x
 rw [List.getElem?_append_right (by omega),hp];rfl
theorem LK (x y:V) (r:List V):cS (pre++x::r) (0+297) [y]=pre++y::r:=by
 show List.set _ _ _=_
 rw [List.set_append_right _ _ (by omega),hp];rfl
theorem AO (x y:V) (r:List V):qU (pre++x::r) (0+297) [y]=true:=decide_eq_true (by rw [List.length_append,hp];simp;omega)
end
section
variable {P:Program} (hG:BL P AF.fns.get)
include hG
theorem taddX_at {h:aC} {kn kv a m b:Nat} {d l:Int} {R:List V} (h1:h.get kn=some (.cs [.i .u64 (m:Nat)])) (h2:h.get kv=some (.cs [.p (.g a) 0])) (h3:h.get a=some (.cs (p9 d l m++R))) (hna:kn≠a) (hva:kv≠a) (hnv:kn≠kv)
 (hb:b<256) (hd:fO b=m+1) {K:V->aC->Prop}
 (hK:∀ h',h'.get kn=some (.cs [.i .u64 ((m+1:Nat):Int)])->h'.get a=some (.cs (p9 d l (m+1)++R))->aC.dE (fun n=>n=kn\/n=a) h h'->h'.next=h.next->K (.bC []) h'):aE P 192 [.i .u8 (b:Nat),.p (.g kn) 0,.p (.g kv) 0] h K:=by
 have hm:m+1<=37:=by have:=LI b;omega
 refine Gn (hG _ AF.f192 rfl) rfl ?_
 have g1:∀ o,(h.set kn o).get kv=some (.cs [.p (.g a) 0]):=fun o=>aC.gs (Ne.symm hnv) h2
 have g2:∀ o,(h.set kn o).get a=some (.cs (p9 d l m++R)):=fun o=>aC.gs (Ne.symm hna) h3
 have g3:∀ o,(h.set kn o).get kn=some o:=fun o=>aC.eY h1
 have g4:∀ o o2,((h.set kn o).set a o2).get a=some o2:=fun o o2=>aC.eY (g2 _)
 have g5:∀ o o2,((h.set kn o).set a o2).get kv=some (.cs [.p (.g a) 0]):=fun o o2=>aC.gs hva (g1 _)
 have g6:∀ o o2,((h.set kn o).set a o2).get kn=some o:=fun o o2=>aC.gs hna (g3 _)
 have g7:∀ o o2 o3,(((h.set kn o).set a o2).set a o3).get kn=some o:=fun o o2 o3=>aC.gs hna (g6 _ _)
 have g8:∀ o o2 o3,(((h.set kn o).set a o2).set a o3).get a=some o3:=fun o o2 o3=>aC.eY (g4 _ _)
 have hlen:(p9 d l m++R).length=297+R.length:=by rw [List.length_append,Wv]
 have e1:cS (p9 d l m++R) (0+3+((b:Nat):Int).toNat*1) [.i .u64 ((m:Int)+1)]=(p9 d l m++R).set (3+b) (.i .u64 ((m+1:Nat):Int)):=by
  show (p9 d l m++R).set _ _=_
  rw [show 0+3+((b:Nat):Int).toNat*1=3+b by omega];rfl
 have e2:cS ((p9 d l m++R).set (3+b) (.i .u64 ((m+1:Nat):Int))) (0+259+((m:Int)+1).toNat*1) [.i .u8 (b:Nat)]=p9 d l (m+1)++R:=by
  rw [<-afW d l m b R hb hd]
  show List.set _ _ _=_
  rw [show 0+259+((m:Int)+1).toNat*1=259+(m+1) by omega]
 ((conv=>whnf);repeat ((first|refine fL.wu (by omega) (by omega) ?_|refine gJ.ix (by omega) (by omega) ?_|refine gJ.mk (decide_eq_true (by rw [hlen];show 0+3+((b:Nat):Int).toNat*1+1<=_;omega)) ?_|refine gJ.mk (decide_eq_true (by rw [List.length_set,hlen];show 0+259+((m:Int)+1).toNat*1+1<=_;omega)) ?_|refine ye (congrArg some e1) ?_|refine ye (congrArg some e2) ?_|refine ye (h1) ?_|refine ye (g1 _) ?_|refine ye (g2 _) ?_|refine ye (g3 _) ?_|refine ye (g4 _ _) ?_|refine ye (g5 _ _) ?_|refine ye (g6 _ _) ?_|refine zz ?_)<;>(conv=>whnf)))
 exact hK _ (g7 _ _ _) (g8 _ _ _) (aC.dE.in3 (.inl rfl) (.inr rfl) (.inr rfl) _ _ _) rfl
theorem tmake1X_at {h:aC} {kv a:Nat} {d l:Int} {R:List V} (h2:h.get kv=some (.cs [.p (.g a) 0])) (h3:h.get a=some (.cs (p9 d l 0++R))) (hv:kv<h.next) (ha:a<h.next) (hva:kv≠a) {K:V->aC->Prop}
 (hK:∀ h',h'.get a=some (.cs (p9 d l 37++R))->aC.dE (fun n=>n=a) h h'->h'.next=h.next+1->K (.bC []) h'):aE P 191 [.p (.g kv) 0] h K:=by
 refine Gn (hG _ AF.f191 rfl) rfl ?_
 (refine zr1 @aC.e7 ?_)
 refine BP.by (fun q fr st=>∃ (i:Nat) (hh lo:aC),i<=26/\q=26 - i/\hh.next=h.next+1/\hh.get h.next=some (.cs [.i .u64 (i:Nat)])/\hh.get a=some (.cs (p9 d l i++R))/\aC.dE (fun n=>n=a\/n=h.next) h hh/\
  Fr.le [(6,.i .u8 i),(2,.fn 192 [] [.p (.g h.next) 0,.p (.g kv) 0])] fr/\st=⟨hh,lo⟩)
  26 ⟨0,_,_,by omega,rfl,rfl,aC.eY (aC.e7 _ _),aC.gs (by omega) (aC.gp (by omega) h3),.set (.push (.refl _ _) _) (.inr (Nat.le_refl _)) _,Uc,rfl⟩ ?_
 rintro q fr st ⟨i,hh,lo,hi,rfl,hn,g1,g3,hk,Jd,rfl⟩
 refine ⟨_,Jd,fun R1 hR=>?_⟩
 have g2:hh.get kv=some (.cs [.p (.g a) 0]):=by rw [hk.2 kv hv (by rintro (h|h)<;>omega)];exact h2
 by_cases qM:i<26
 · have Je:=fun K hK=>taddX_at (K:=K) hG g1 g2 g3 (by omega) hva (by omega) (show 97+i<256 by omega) (show fO (97+i)=i+1 by unfold fO;rw [if_pos (by omega)];omega) hK
   have hb:((97+i:Nat):Int)=97+(i:Int):=by omega
   rw [hb] at Je
   ((conv=>whnf);repeat ((first|refine l6.dt (show (i:Int)<26 by omega) ?_|refine fL.of (by show (0:Int)<=_;omega) (by show _<=(255:Int);omega) ?_|refine cA (Je _) ?_|refine zz ?_)<;>(conv=>whnf)))
   intro h' q1 q2 q3 q4
   ((conv=>whnf);repeat ((first|refine fL.of (by show (0:Int)<=_;omega) (by show _<=(255:Int);omega) ?_|refine zz ?_)<;>(conv=>whnf)))
   exact hR (26 - (i+1)) _ _ (by omega) ⟨i+1,h',lo,by omega,rfl,q4.trans hn,q1,q2,hk.trans (q3.mono fun n _ e=>e.symm),Uc,rfl⟩
 · obtain rfl:i=26:=by omega
   (refine zr1 (show ¬((26:Nat):Int)<26 by omega) ?_)
   refine BP.by (fun q fr st=>∃ (i:Nat) (hh lo:aC),i<=10/\q=10 - i/\hh.next=h.next+1/\hh.get h.next=some (.cs [.i .u64 ((26+i:Nat):Int)])/\hh.get a=some (.cs (p9 d l (26+i)++R))/\aC.dE (fun n=>n=a\/n=h.next) h hh/\
    Fr.le [(14,.i .u8 i),(2,.fn 192 [] [.p (.g h.next) 0,.p (.g kv) 0])] fr/\st=⟨hh,lo⟩)
    10 ⟨0,hh,_,by omega,rfl,hn,g1,g3,hk,Uc,rfl⟩ ?_
   rintro q fr st ⟨i,hh,lo,hi,rfl,hn,g1,g3,hk,Jd,rfl⟩
   refine ⟨_,Jd,fun R1 hR=>?_⟩
   have g2:hh.get kv=some (.cs [.p (.g a) 0]):=by rw [hk.2 kv hv (by rintro (h|h)<;>omega)];exact h2
   by_cases qM:i<10
   · have Je:=fun K hK=>taddX_at (K:=K) hG g1 g2 g3 (by omega) hva (by omega) (show 48+i<256 by omega) (show fO (48+i)=26+i+1 by unfold fO;rw [if_neg (by omega),if_pos (by omega)];omega) hK
     have hb:((48+i:Nat):Int)=48+(i:Int):=by omega
     rw [hb] at Je
     ((conv=>whnf);repeat ((first|refine l6.dt (show (i:Int)<10 by omega) ?_|refine fL.of (by show (0:Int)<=_;omega) (by show _<=(255:Int);omega) ?_|refine cA (Je _) ?_|refine zz ?_)<;>(conv=>whnf)))
     intro h' q1 q2 q3 q4
     ((conv=>whnf);repeat ((first|refine fL.of (by show (0:Int)<=_;omega) (by show _<=(255:Int);omega) ?_|refine zz ?_)<;>(conv=>whnf)))
     exact hR (10 - (i+1)) _ _ (by omega) ⟨i+1,h',lo,by omega,rfl,q4.trans hn,q1,q2,hk.trans (q3.mono fun n _ e=>e.symm),Uc,rfl⟩
   · obtain rfl:i=10:=by omega
     have Je:=fun K hK=>taddX_at (K:=K) hG g1 g2 g3 (by omega) hva (by omega) (show 45<256 by omega) (show fO 45=26+10+1 by rfl) hK
     (refine zr2 (show ¬((10:Nat):Int)<10 by omega) @Je ?_)
     intro h' q1 q2 q3 q4
     (refine zr ?_)
     exact hK h' q2 ((hk.trans (q3.mono fun n _ e=>e.symm)).mono fun n hn' e=>by rcases e with e|e;exact e;omega) (q4.trans hn)
theorem Jf (hon:IC P 190) {h:aC} {a:Nat} {R:List V} (ha:a<h.next) (h1:h.get a=some (.cs (tv false++R))) {K:V->aC->Prop}
 (hK:∀ h',h'.get a=some (.cs (tv true++R))->aC.dE (fun n=>n=a) h h'->h'.next=h.next+2->K (.bC []) h'):aE P 119 [.p (.g a) 0] h K:=by
 have g1:∀ o,(h.push o).get a=some (.cs (tv false++R)):=fun o=>aC.gp (by omega) h1
 have g2:∀ o,(h.push o).get h.next=some o:=fun o=>aC.e7 _ _
 have hdo:=fun (K:V->aC->Prop) hc=>hon.first a 0 191 [] [.p (.g h.next) 0] (tv false++R) (h.push (.cs [.p (.g a) 0])) K (g1 _) rfl rfl hc
 refine Gn (hG _ AF.f119 rfl) rfl ?_
 (refine zr3 @hdo @g1 @g2 ?_)
 have c1:(tv false++R).set (0+1) (.i .i32 1)=p9 0 1 0++R:=rfl
 rw [c1]
 refine tmake1X_at hG (kv:=h.next) (a:=a) (d:=0) (l:=1) (R:=R) (aC.gs (by omega) (g2 _)) (aC.eY (g1 _)) (Nat.lt_succ_self _) (Nat.lt_succ_of_lt ha) (by omega) fun h' q1 q2 q3=>?_
 refine ⟨_,q1,rfl,rfl,?_⟩
 have c2:((p9 0 1 37++R).set 0 (.i .u32 1)).set (0+1) (.i .i32 0)=tv true++R:=rfl
 rw [c2]
 (refine zr ?_)
 exact hK _ (aC.eY q1) (aC.dE.set (b:=fun n=>n=a) (aC.dE.trans (b:=fun n=>n=a) (aC.dE.set (b:=fun n=>n=a) (.push (.refl _ _) _) (.inl rfl) _) q2) (.inl rfl) _) q3
theorem LL (hon:IC P 190) {h:aC} {a:Nat} {c:List V} (ha:a<h.next) (h1:h.get a=some (.cs c)) (hd:c[0]? =some (.i .u32 1)) {K:V->aC->Prop}
 (hK:∀ h',aC.dE (fun _=>False) h h'->h'.next=h.next+1->K (.bC []) h'):aE P 119 [.p (.g a) 0] h K:=by
 have g1:∀ o,(h.push o).get a=some (.cs c):=fun o=>aC.gp (by omega) h1
 have g2:∀ o,(h.push o).get h.next=some o:=fun o=>aC.e7 _ _
 have hdo:=fun (K:V->aC->Prop) hc=>hon.done a 0 191 [] [.p (.g h.next) 0] c 1 (h.push (.cs [.p (.g a) 0])) K (g1 _) hd (by decide) hc
 refine Gn (hG _ AF.f119 rfl) rfl ?_
 (refine zr3 @hdo @g1 @g2 ?_)
 exact hK _ (.push (.refl _ _) _) rfl
def RO (h:aC) (a:Nat) (pre R:List V) (es:List (List V)) (k0:Option Nat):Prop:=
 (es=[]/\k0=none/\h.get a=some (.cs (pre++.aB::R)))\/∃ k,k0=some k/\k≠a/\k<h.next/\h.get k=some .spare/\h.get a=some (.cs (pre++.sl (some (.g k)) 1 es::R))
theorem wnumX_at {h:aC} {a:Nat} {pre R:List V} (hp:pre.length=297) {es:List (List V)} {k0:Option Nat} (ha:a<h.next) (hw:RO h a pre R es k0) (hB:es.length<=100000000) (n:Int) (size:Nat) (hs:size<=8) {K:V->aC->Prop}
 (hK:∀ h' k1,RO h' a pre R (es++(tD n size).map Cl) k1->(1<=size->k1=some (h.next+2*size - 1))->aC.dE (fun j=>j=a\/some j=k0) h h'->h'.next=h.next+2*size->K (.bC []) h'):aE P 55 [.p (.g a) 0,.i .i64 n,.i .i64 size] h K:=by
 refine Gn (hG _ AF.f55 rfl) rfl ?_
 have Cb:(tD n size).length=size:=by simp [tD]
 (refine zr ?_)
 refine BP.by (fun q fr st=>∃ (i:Nat) (k1:Option Nat) (E:List (List V)) (hh l:aC),i<=size/\q=size - i/\E=es++((tD n size).take i).map Cl/\RO hh a pre R E k1/\(1<=i->k1=some (h.next+2*i - 1))/\(i=0->k1=k0)/\aC.dE (fun j=>j=a\/some j=k0) h hh/\hh.next=h.next+2*i/\
  Fr.le [(8,.i .i64 i),(7,.i .i64 size),(2,.i .i64 size),(1,.i .i64 n),(0,.p (.g a) 0)] fr/\st=⟨hh,l⟩)
  size ⟨0,k0,es,h,_,Nat.zero_le _,rfl,(by simp),hw,(fun h=>absurd h (by omega)),(fun _=>rfl),.refl _ _,rfl,Uc,rfl⟩ ?_
 rintro q fr st ⟨i,k1,E,hh,l,hi,rfl,hE,hwi,Ol,Ru,hk,hnx,Jd,rfl⟩
 refine ⟨_,Jd,fun R1 hR=>?_⟩
 by_cases qM:i<size
 · have fY:=Ww n qM
   have htk:(tD n size).take (i+1)=(tD n size).take i++[Gx n (8*(((size:Int) - 1) - i))]:=by rw [List.take_add_one,fY];rfl
   have hE1:E++[Cl (Gx n (8*(((size:Int) - 1) - i)))]=es++((tD n size).take (i+1)).map Cl:=by rw [hE,htk];simp
   have hlen:E.length<=100000008:=by rw [hE];simp;omega
   have han:a<hh.next:=by omega
   have g0:∀ o,(hh.push o).get hh.next=some o:=fun o=>aC.e7 _ _
   rcases hwi with ⟨hb0,_,ga⟩|⟨k,Iq,hka,hkn,gk,ga⟩
   · have g1:∀ o,(hh.push o).get a=some (.cs (pre++.aB::R)):=fun o=>aC.gp (by omega) ga
     have g2:∀ o o2,((hh.push o).push o2).get a=some (.cs (pre++.aB::R)):=fun o o2=>aC.gp (by show a≠hh.next+1;omega) (g1 o)
     ((conv=>whnf);repeat ((first|refine l6.dt (show (i:Int)<(size:Nat) by omega) ?_|refine fL.w64 (by omega) (by omega) ?_|refine gJ.mk (decide_eq_true (show (0:Int)<=8*((size:Int) - 1 - (i:Int)) by omega)) ?_|refine fL.mk ?_|refine gJ.mk (AO hp _ _ _) ?_|refine rA.of (uY hp _ _) ?_|refine ye (congrArg some (LK hp _ _ _)) ?_|refine ye (ga) ?_|refine ye (g1 _) ?_|refine ye (g2 _ _) ?_|refine zz ?_)<;>(conv=>whnf)))
     dsimp only
     rw [uY hp]
     ((conv=>whnf);repeat ((first|refine l6.dt (show (i:Int)<(size:Nat) by omega) ?_|refine fL.w64 (by omega) (by omega) ?_|refine gJ.mk (decide_eq_true (show (0:Int)<=8*((size:Int) - 1 - (i:Int)) by omega)) ?_|refine fL.mk ?_|refine gJ.mk (AO hp _ _ _) ?_|refine rA.of (uY hp _ _) ?_|refine ye (congrArg some (LK hp _ _ _)) ?_|refine ye (ga) ?_|refine ye (g1 _) ?_|refine ye (g2 _ _) ?_|refine zz ?_)<;>(conv=>whnf)))
     have Q6:∀ o o2 o3,aC.dE (fun j=>j=a\/some j=k0) h (((hh.push o).push o2).set a o3):=fun o o2 o3=>aC.dE.set (b:=fun j=>j=a\/some j=k0) (.push (.push hk _) _) (.inl (.inl rfl)) _
     exact hR (size - (i+1)) _ _ (by omega) ⟨i+1,some (hh.next+1),_,_,_,by omega,rfl,hE1,.inr ⟨hh.next+1,rfl,by omega,Nat.lt_succ_self _,aC.gs (by omega) (aC.e7 _ _),(aC.eY (g2 _ _)).trans (by rw [hb0];rfl)⟩,(fun _=>by rw [hnx];rfl),(fun h=>absurd h (by omega)),Q6 _ _ _,(by show hh.next+1+1=_;omega),Uc,rfl⟩
   · have g1:∀ o,(hh.push o).get a=some (.cs (pre++.sl (some (.g k)) 1 E::R)):=fun o=>aC.gp (by omega) ga
     have g3:∀ o,(hh.push o).get k=some .spare:=fun o=>aC.gp (by omega) gk
     have g2:∀ o o2,(((hh.push o).remove k).push o2).get a=some (.cs (pre++.sl (some (.g k)) 1 E::R)):=fun o o2=>aC.gp (by show a≠hh.next+1;omega) (aC.gr (Ne.symm hka) (g1 o))
     have hkb:(k=a\/some k=k0)\/h.next<=k:=by
      by_cases h0:i=0
      · exact .inl (.inr (by rw [<-Iq,Ru h0]))
      · have:=Ol (by omega)
        rw [Iq] at this
        have:=Option.some.inj this
        omega
     ((conv=>whnf);repeat ((first|refine l6.dt (show (i:Int)<(size:Nat) by omega) ?_|refine fL.w64 (by omega) (by omega) ?_|refine gJ.mk (decide_eq_true (show (0:Int)<=8*((size:Int) - 1 - (i:Int)) by omega)) ?_|refine fL.mk ?_|refine gJ.mk (AO hp _ _ _) ?_|refine rA.of (uY hp _ _) ?_|refine ye (congrArg some (LK hp _ _ _)) ?_|refine gJ.mk (by simp only [gO];exact decide_eq_true (by simp at hlen ⊢;omega)) ?_|refine ye (ga) ?_|refine ye (g1 _) ?_|refine ye (g2 _ _) ?_|refine ye (g3 _) ?_|refine zz ?_)<;>(conv=>whnf)))
     dsimp only
     rw [uY hp]
     ((conv=>whnf);repeat ((first|refine l6.dt (show (i:Int)<(size:Nat) by omega) ?_|refine fL.w64 (by omega) (by omega) ?_|refine gJ.mk (decide_eq_true (show (0:Int)<=8*((size:Int) - 1 - (i:Int)) by omega)) ?_|refine fL.mk ?_|refine gJ.mk (AO hp _ _ _) ?_|refine rA.of (uY hp _ _) ?_|refine ye (congrArg some (LK hp _ _ _)) ?_|refine gJ.mk (by simp only [gO];exact decide_eq_true (by simp at hlen ⊢;omega)) ?_|refine ye (ga) ?_|refine ye (g1 _) ?_|refine ye (g2 _ _) ?_|refine ye (g3 _) ?_|refine zz ?_)<;>(conv=>whnf)))
     have Q6:∀ o o2 o3,aC.dE (fun j=>j=a\/some j=k0) h ((((hh.push o).remove k).push o2).set a o3):=fun o o2 o3=>aC.dE.set (b:=fun j=>j=a\/some j=k0) (.push (aC.dE.remove (b:=fun j=>j=a\/some j=k0) (.push hk _) hkb) _) (.inl (.inl rfl)) _
     exact hR (size - (i+1)) _ _ (by omega) ⟨i+1,some (hh.next+1),_,_,_,by omega,rfl,hE1,.inr ⟨hh.next+1,rfl,by omega,Nat.lt_succ_self _,aC.gs (by omega) (aC.e7 _ _),(aC.eY (g2 _ _)).trans rfl⟩,(fun _=>by rw [hnx];rfl),(fun h=>absurd h (by omega)),Q6 _ _ _,(by show hh.next+1+1=_;omega),Uc,rfl⟩
 · obtain rfl:i=size:=by omega
   rw [show (tD n i).take i=tD n i from List.take_of_length_le (by omega)] at hE
   subst hE
   (refine zr1 (show ¬(i:Int)<(i:Nat) by omega) ?_)
   exact hK hh k1 hwi Ol hk hnx
theorem rnumX_at {h:aC} {a:Nat} {pre R:List V} (hp:pre.length=297) {X:List Int} {E:List (List V)} (ga:h.get a=some (.cs (pre++.sl none 1 (X.map Cl++E)::R))) (size:Nat) (hX:X.length=size) (hs:size<=8) (hl:(X.map Cl++E).length<=1000000000) (hb:∀ x∈X,0<=x/\x<256) (hm:sX X<=9223372036854775807) {K:V->aC->Prop}
 (hK:K (.i .i64 (sX X)) (h.set a (.cs (pre++.sl none 1 E::R)))):aE P 156 [.p (.g a) 0,.i .i64 size] h K:=by
 have hXm:(X.map Cl).length=size:=by simpa using hX
 have hN:List.drop (Int.toNat 0) (List.take ((size:Nat):Int).toNat (X.map Cl++E))=X.map Cl:=by
  rw [Int.toNat_natCast,List.take_append_of_le_length (by omega),List.take_of_length_le (by omega)];rfl
 have hD:List.drop ((size:Nat):Int).toNat (X.map Cl++E)=E:=by
  rw [Int.toNat_natCast,List.drop_append,List.drop_of_length_le (by omega),hXm,Nat.sub_self];rfl
 have hll:(X.map Cl++E).length=size+E.length:=by rw [List.length_append,hXm]
 refine Gn (hG _ AF.f156 rfl) rfl ?_
 ((conv=>whnf);repeat ((first|refine rA.of (uY hp _ _) ?_|refine l6.df (show ¬((X.map Cl++E).length:Int)<(size:Int) by omega) ?_|refine ye (congrArg some hN) ?_|refine gJ.d3 (by omega) (by omega) (by omega) ?_|refine ye (ga) ?_|refine zz ?_)<;>(conv=>whnf)))
 refine BP.by (fun q fr st=>∃ (i:Nat) (l:aC),i<=size/\q=size - i/\
  Fr.le [(28,.i .i64 i),(27,.i .i64 (X.map Cl).length),(26,.sl none 1 (X.map Cl)),(5,.i .i64 (sX (X.take i))),(1,.i .i64 size),(0,.p (.g a) 0)] fr/\st=⟨h,l⟩)
  size ⟨0,_,Nat.zero_le _,rfl,Uc,rfl⟩ ?_
 rintro q fr st ⟨i,l,hi,rfl,Jd,rfl⟩
 refine ⟨_,Jd,fun R0 hR=>?_⟩
 by_cases qM:i<size
 · have he:=List.getElem?_eq_getElem (show i<X.length by omega)
   have hxb:=hb _ (List.getElem_mem (show i<X.length by omega))
   generalize X[i]=x at he hxb
   have htk:X.take (i+1)=X.take i++[x]:=by rw [List.take_add_one,he];rfl
   have CA:sX (X.take (i+1))=sX (X.take i)*256+x:=by rw [htk,wP]
   have hbt:∀ y∈X.take i,0<=y/\y<256:=fun y hy=>hb y (List.mem_of_mem_take hy)
   have h0:=uW _ (X.take i) rfl hbt
   have hle:sX (X.take (i+1))<=sX X:=by
    have:=uX _ (X.drop (i+1)) (X.take (i+1)) rfl (fun y hy=>hb y (List.mem_of_mem_take hy)) (fun y hy=>hb y (List.mem_of_mem_drop hy))
    rwa [List.take_append_drop] at this
   have hor:=afY h0 hxb.1 hxb.2 (by omega)
   have rE:sX (X.take i)*2 ^ (min (8:Int).toNat IntKind.i64.bits)=sX (X.take i)*256:=rfl
   ((conv=>whnf);repeat ((first|refine l6.dt (show (i:Int)<(X.map Cl).length by omega) ?_|refine fL.w64 (by rw [rE];omega) (by rw [rE];omega) ?_|refine fL.w64 (by omega) (by omega) ?_|refine ye (bP (by omega) he) ?_|refine zz ?_)<;>(conv=>whnf)))
   rw [hor,<-CA]
   exact hR (size - (i+1)) _ _ (by omega) ⟨i+1,_,by omega,rfl,Uc,rfl⟩
 · obtain rfl:i=size:=by omega
   have ap9:X.take i=X:=List.take_of_length_le (by omega)
   rw [ap9]
   ((conv=>whnf);repeat ((first|refine l6.df (show ¬(i:Int)<(X.map Cl).length by omega) ?_|refine rA.of (uY hp _ _) ?_|refine ye (congrArg some hD) ?_|refine gJ.d2 (by omega) (by omega) ?_|refine gJ.mk (AO hp _ _ _) ?_|refine ye (congrArg some (LK hp _ _ _)) ?_|refine ye (ga) ?_|refine zz ?_)<;>(conv=>whnf)))
   exact hK
end
open Go
def p6 (x:Int):Int:=if x.tmod 5<0 then 0 - x.tmod 5 else x.tmod 5
theorem iA (x:Int):p6 x=0\/p6 x=1\/p6 x=2\/p6 x=3\/p6 x=4:=by
 have h1:=Int.tmod_lt_of_pos x (show (0:Int)<5 by decide)
 have h2:=Int.lt_tmod_of_pos x (show (0:Int)<5 by decide)
 unfold p6
 split<;>omega
section
variable {P:Program} (hG:BL P AF.fns.get)
include hG
theorem small_ok (x:Int):Pure P 6 [.i .i64 x,.i .i64 5] (·=.i .i64 (p6 x)):=by
 have h1:=Int.tmod_lt_of_pos x (show (0:Int)<5 by decide)
 have h2:=Int.lt_tmod_of_pos x (show (0:Int)<5 by decide)
 unfold p6
 refine CN (hG _ AF.f6 rfl) rfl ?_
 by_cases c:x.tmod 5<0
 · rw [if_pos c]
   (refine zr1 (show x.tmod 5<0 from c) ?_)
   exact rZ rfl rfl
 · rw [if_neg c]
   (refine zr1 (show ¬x.tmod 5<0 from c) ?_)
   exact rZ rfl rfl
end
end Go.Eng
