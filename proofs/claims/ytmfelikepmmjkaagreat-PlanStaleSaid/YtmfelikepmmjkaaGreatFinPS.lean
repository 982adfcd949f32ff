/-
interrexlaw10.begun answers true.
-/
import Derived.Test.YtmfelikepmmjkaaGreatY49
import Derived.Test.YtmfelikepmmjkaaGreatYRunD
import Derived.Test.YtmfelikepmmjkaaGreatY13
import Derived.Test.YtmfelikepmmjkaaGreatY08
import Derived.KernelRfl
import Derived.Test.YtmfelikepmmjkaaGreatY18
import Derived.Test.YtmfelikepmmjkaaGreatYSort1
import Derived.Test.YtmfelikepmmjkaaGreatY29
import Derived.Test.YtmfelikepmmjkaaGreatYSrtS
import Derived.Test.YtmfelikepmmjkaaGreatY40
import Derived.Test.YtmfelikepmmjkaaGreatY10
import Derived.Test.YtmfelikepmmjkaaGreatJoinPS
set_option linter.unusedVariables false
set_option linter.unusedSimpArgs false
set_option maxHeartbeats 1000000
set_option maxRecDepth 1000000
namespace Go.Proofs.YtmfelikepmmjkaaGreat
open Go.Eng
theorem law10_begun:aB Tryz.prog 91 [] gZ (fun r _=>r=.b true):=DL orcC_ok AF.oJ
end Go.Proofs.YtmfelikepmmjkaaGreat
namespace Go.Eng.AF
open Go.Eng
theorem Zj:isTrue (I5 AF.fns.get 285 (known [91] (tB 42 54 139)) 3000 30 [] gZ)=true:=by kernel_rfl
open Go.Eng
theorem aeB:isTrue (I5 AF.fns.get 285 (known [30] (Tc 144 (tB 42 54 139))) 3000 5 [] gZ)=true:=by kernel_rfl
end Go.Eng.AF
namespace Go.Proofs.YtmfelikepmmjkaaGreat
open Go.Eng
theorem orcD_ok:rD Tryz.prog (known [91] (tB 42 54 139)):=known_ok orcA_ok fun f hf=>by
 simp at hf;subst hf;exact law10_begun
theorem I8:aB Tryz.prog 30 [] gZ (fun r _=>r=.b true):=DL orcD_ok AF.Zj
theorem orcCmp_ok:rD Tryz.prog (Tc 144 (tB 42 54 139)):=by
 intro f args h r h' hr K hK
 unfold Tc at hr
 split at hr
 · rename_i hf
   have:=Nat.eq_of_beq_eq_true hf
   subst this
   split at hr
   · cases hr
     exact cmpS_ok _ _ _ _ hK
   · cases hr
 · exact orcA_ok f args h r h' hr K hK
theorem orcE_ok:rD Tryz.prog (known [30] (Tc 144 (tB 42 54 139))):=known_ok orcCmp_ok fun f hf=>by
 simp at hf;subst hf;exact I8
theorem law18_begun:aB Tryz.prog 5 [] gZ (fun r _=>r=.b true):=DL orcE_ok AF.aeB
end Go.Proofs.YtmfelikepmmjkaaGreat
namespace Go.Proofs
open Go.RowKit Go.Maps Go.Sort Go.Shelf
theorem Tryz.Co (Bm:Nat) (w:World) (Tk:Bm<w.heap.size) (hm:w.cell? ⟨Bm,0,none⟩=some (.map none)):
 Calls Tryz.prog 54 #[.func (.func 139) #[] #[.pointer (some ⟨Bm,0,none⟩)]] w fun e w'=>e=.returned (.slice none 0 0)/\Below w.heap.size w w':=by
 refine (callsIn_wide (n:=5)).1 ?_
 have Wa:SeqGives Fence.wide 2 Tryz.prog 139 #[.pointer (some ⟨Bm,0,none⟩)] encStr (fun ss=>ss=[]) 0 w:=
  AnyZ.keys_gives_nil (ρ:=Tryz.yE) { Tryz.QC with } Fence.wide _ trivial rfl Bm w Tk hm
 refine (AnyZ.sorted_in Tryz.I6 Fence.wide 5 trivial trivial trivial trivial rfl (by omega) (Tryz.MA _) (enters_of Tryz.func138 (by kernel_rfl) rfl) 139 #[.pointer (some ⟨Bm,0,none⟩)] trivial (enters_of Tryz.func139 (by kernel_rfl) rfl) _ _ (Nat.zero_le _) (by omega) w Wa).mono ?_
 rintro e w' ⟨v,ss,rfl,rfl,_,hn,hb⟩
 exact ⟨by rw [hn.2 rfl],hb⟩
theorem DataW.insert_perm {H:Type} (x:Lit×DataW H):∀ l:List (Lit×DataW H),(DataW.insert x l).Perm (x::l)
 |[]=>.refl _
 |y::r=>by
  unfold DataW.insert
  split
  · exact .refl _
  · exact ((DataW.insert_perm x r).cons y).trans (.swap _ _ _)
theorem DataW.EH {H:Type}:∀ l:List (Lit×DataW H),(l.foldr DataW.insert []).Perm l
 |[]=>.refl _
 |x::r=>(DataW.insert_perm x _).trans ((DataW.EH r).cons x)
end Go.Proofs
namespace Go.Proofs.YtmfelikepmmjkaaGreat
open Go.Eng
theorem JY (h:aA) (k mk:Nat) (c:List V) (es:List (V×V)) (ks:List (List UInt8)) (hc:h.get k=some (.cs c)) (hm:c[0]? =some (.m (.g mk))) (MB:h.get mk=some (.mp none es)) (hks:es.map Prod.fst=ks.map V.s) (Sk:ks.Nodup)
 (hlen:∀ x∈ks,x.length<=9223372036854775807) (hn:ks.length<=1000000) (K:V->aA->Prop) (hK:K (.sl none 1 ((lX ks).map bG)) h):aB Tryz.prog 54 [.fn 139 [] [.p (.g k) 0]] h K:=by
 refine ⟨by kernel_rfl,fun E w vs rX hs hv=>?_⟩
 obtain ⟨x0,rfl,r0⟩:=FW hv
 cases r0 with
 |deep hd=>cases hd
 |fn _ _ _ fa ca h1 h2 h3 h4=>
 have US:fa=#[]:=by simpa using h1
 subst US
 obtain ⟨p,rfl,rp⟩:=FW (E:=E) (a0:=.p (.g k) 0) (vs:=ca) ⟨h2,h4⟩
 obtain ⟨hk,rfl⟩:=FX rp
 have eC:(dG h).get (.g k)=some (.cs c):=hc
 have BH:=hs.C5 eC
 obtain ⟨y,hy,ry,fy⟩:=hs.cellOf eC hm
 have:=UR ry
 subst this
 rw [BH] at hy
 have Ir:(dG h).get (.g mk)=some (.mp none es):=MB
 obtain ⟨bO,clock,q1,q2,q3,q4⟩:=hs.obj _ _ Ir
 have DW:es.length=ks.length:=by simpa using congrArg List.length hks
 have kD:bO.size=ks.length:=by rw [<-DW];exact q2
 have kV:∀ (j:Nat) (x:List UInt8) (en:MapEntry),ks[j]? =some x->bO[j]? =some en->en.key=.string (str x):=by
  intro j x en hx he
  have h5:(es.map Prod.fst)[j]? =some (V.s x):=by rw [hks,List.getElem?_map,hx];rfl
  rw [List.getElem?_map] at h5
  obtain ⟨⟨qk,qv⟩,h6,h7⟩:=Option.map_eq_some_iff.1 h5
  obtain ⟨e1,_,_⟩:=q3 j (qk,qv) en h6 he
  dsimp only at h7 e1
  subst h7
  generalize hg:en.key=z at e1
  cases e1;rfl
 have Vg:bO.toList.map (·.key)=ks.map fun x=>Value.string (str x):=by
  apply List.ext_getElem?
  intro j
  rw [List.getElem?_map,List.getElem?_map]
  by_cases hj:j<ks.length
  · have hx:=List.getElem?_eq_getElem hj
    have he:bO[j]? =some bO[j]:=Array.getElem?_eq_getElem (by omega)
    have:=kV j _ _ hx he
    rw [hx,Array.getElem?_toList,he]
    simp [this]
  · rw [List.getElem?_eq_none (show bO.toList.length<=j by rw [Array.length_toList];omega),List.getElem?_eq_none (show ks.length<=j by omega)];rfl
 have Qa:∀ x y:List UInt8,Value.string (str x)=Value.string (str y)->x=y:=by
  intro x y e
  simpa [str] using e
 let R:Value->Option (DataW Unit×List MemPlace):=fun _=>some (.nil,[])
 have hko:∀ x∈ks,keyOf Tryz.prog 9 (.string (str x))=some (.string x):=by
  intro x hx
  have Sl:(str x).size=x.length:=by simp [str,ByteArray.size]
  rw [Go.WideMaps.keyOf_string_mk Tryz.underlying9 (by rw [Sl];simpa [maxLen] using hlen x hx)]
  simp [str]
 have mQ:∀ en∈bO.toList,∃ x∈ks,en.key=.string (str x)/\Go.WideElems.rd Tryz.prog 9 R en=some (.string x,.nil):=by
  intro en wP
  have h5:en.key∈bO.toList.map (·.key):=List.mem_map_of_mem wP
  rw [Vg] at h5
  obtain ⟨x,hx,he⟩:=List.mem_map.1 h5
  exact ⟨x,hx,he.symm,by simp [Go.WideElems.rd,<-he,hko x hx,R]⟩
 have hrg:bO.toList.map (Go.WideElems.rg Tryz.prog 9 R)=ks.map fun x=>(Lit.string x,DataW.nil):=by
  apply List.ext_getElem?
  intro j
  rw [List.getElem?_map,List.getElem?_map]
  by_cases hj:j<ks.length
  · have hx:=List.getElem?_eq_getElem hj
    have he:bO[j]? =some bO[j]:=Array.getElem?_eq_getElem (by omega)
    have h5:=kV j _ _ hx he
    rw [hx,Array.getElem?_toList,he]
    simp only [Option.map_some,Option.some.injEq]
    have h6:=hko _ (List.getElem_mem hj)
    simp [Go.WideElems.rg,Go.WideElems.rd,h5,h6,R]
  · rw [List.getElem?_eq_none (show bO.toList.length<=j by rw [Array.length_toList];omega),List.getElem?_eq_none (show ks.length<=j by omega)];rfl
 have Li:w.ownsMap Tryz.prog 9 R (E.μ (.g mk)).bL ks.length (.map ((ks.map fun x=>(Lit.string x,(DataW.nil:DataW Unit))).foldr DataW.insert [])):=by
  refine ⟨bO,clock,q1,⟨by simp only [maxLen];omega,⟨q4.1,q4.2,?_⟩,fun z hz=>?_⟩,by omega,by rw [hrg]⟩
  · rw [Vg]
    exact List.Pairwise.map _ (fun x y dM e=>dM (Qa x y e)) Sk
  · obtain ⟨x,_,_,h6⟩:=mQ z hz
    exact ⟨_,h6⟩
 have RM:=DataW.EH (ks.map fun x=>(Lit.string x,(DataW.nil:DataW Unit)))
 have aaM:Go.Maps.size (.map ((ks.map fun x=>(Lit.string x,(DataW.nil:DataW Unit))).foldr DataW.insert []))=ks.length:=by
  have:=RM.length_eq
  simpa [Go.Maps.size] using this
 have Tk:(E.μ (.g k)).bL<w.heap.size:=hs.lt ⟨_,eC⟩
 have DK:=Tryz.BG (E.μ (.g k)).bL (E.μ (.g mk)).bL ks.length _ R w Tk hy Li (by rw [aaM];simp only [maxLen];omega) (by rw [aaM];omega)
 rw [BH]
 refine DK.mono ?_
 rintro e w' ⟨z,ss,rfl,QD,dH,Dh,NQ⟩
 have hsk:ss.Perm ks:=by
  refine QD.trans ?_
  have:=RM.map fun p=>Go.strOf p.1
  simpa [Go.strKeys,Go.strOf,Function.comp_def] using this
 have VD:ss.length=ks.length:=hsk.length_eq
 have Rc:ss.mergeSort (fun x y=>decide (x<=y))=lX ks:=Go.mergeSort_of_perm hsk
 rw [Rc] at dH
 have amG:(lX ks).length=ks.length:=List.length_mergeSort _
 obtain ⟨_,dH⟩:=dH
 rcases dH with ⟨hz,h0⟩|⟨gb,cap,cur,rfl,fC,XH,Mb,_,xZ,Wb⟩
 · have Lh:ks=[]:=List.length_eq_zero_iff.1 (by omega)
   subst hz
   obtain ⟨E',s1,s2,s3,s4⟩:=hs.grown NQ (fun b o=>none) (fun b o z hz=>by cases hz)
   refine ⟨_,_,_,E',hK,rfl,s4.trans rX,s1,s2,.deep ?_⟩
   rw [List.length_eq_zero_iff.1 (by omega:(lX ks).length=0)]
   exact eT.mS 1
 have aaN:∀ (j:Nat) (x:List UInt8),(lX ks)[j]? =some x->cur[j]? =some (.string (str x)):=by
  intro j x hx
  have hj:j<ss.length:=by have:=(List.getElem?_eq_some_iff.1 hx).1;omega
  have h5:(cur.toList.take ss.length)[j]? =some (Value.string (str x)):=by
   have h6:cur.toList.take ss.length=(lX ks).map encStr:=by simpa using Wb
   rw [h6,List.getElem?_map,hx];rfl
  rw [List.getElem?_take,if_pos hj] at h5
  simpa using h5
 obtain ⟨E',s1,s2,s3,s4⟩:=hs.grown NQ (fun b o=>if b=gb then ((lX ks)[o]?).map (fun x=>Value.string (str x)) else none) (fun b o z hz=>by
  split at hz
  · rename_i hbo
    subst hbo
    obtain ⟨x,hx,rfl⟩:=Option.map_eq_some_iff.1 hz
    exact ⟨fC,by simp [bI,XH,aaN o x hx]⟩
  · cases hz)
 refine ⟨_,_,_,E',hK,rfl,s4.trans rX,s1,s2,.deep ?_⟩
 rw [show ss.length=((lX ks).map bG).length by simp;omega]
 refine eT.sl 1 ((lX ks).map bG) gb 0 cap (fun j=>.string (str ((lX ks)[j]?.getD []))) (by simp;omega) (fun e he=>?_) (fun j d hj=>?_) (fun j d hj=>?_)
 · obtain ⟨x,_,rfl⟩:=List.mem_map.1 he;rfl
 · rw [Bl,List.getElem?_map] at hj
   obtain ⟨x,hx,rfl⟩:=Option.map_eq_some_iff.1 hj
   refine s3 gb _ _ fC ?_
   show (if gb=gb then ((lX ks)[0+j]?).map (fun x=>Value.string (str x)) else none)=_
   rw [if_pos rfl,Nat.zero_add,hx]
   rfl
 · rw [Bl,List.getElem?_map] at hj
   obtain ⟨x,hx,rfl⟩:=Option.map_eq_some_iff.1 hj
   rw [hx]
   exact .s x
theorem LR (h:aA) (k:Nat) (c:List V) (hc:h.get k=some (.cs c)) (hm:c[0]? =some .gC) (K:V->aA->Prop) (hK:K .aV h):aB Tryz.prog 54 [.fn 139 [] [.p (.g k) 0]] h K:=by
 refine ⟨by kernel_rfl,fun E w vs rX hs hv=>?_⟩
 obtain ⟨x0,rfl,r0⟩:=FW hv
 cases r0 with
 |deep hd=>cases hd
 |fn _ _ _ fa ca h1 h2 h3 h4=>
 have US:fa=#[]:=by simpa using h1
 subst US
 obtain ⟨p,rfl,rp⟩:=FW (E:=E) (a0:=.p (.g k) 0) (vs:=ca) ⟨h2,h4⟩
 obtain ⟨hk,rfl⟩:=FX rp
 have eC:(dG h).get (.g k)=some (.cs c):=hc
 have BH:=hs.C5 eC
 obtain ⟨y,hy,ry,fy⟩:=hs.cellOf eC hm
 have hyn:y=.map none:=by
  cases ry with
  |deep hd=>cases hd
  |gC=>rfl
 subst hyn
 rw [BH] at hy
 have Tk:(E.μ (.g k)).bL<w.heap.size:=hs.lt ⟨_,eC⟩
 have DK:=Tryz.Co (E.μ (.g k)).bL w Tk hy
 rw [BH]
 refine DK.mono ?_
 rintro e w' ⟨rfl,NQ⟩
 obtain ⟨E',s1,s2,s3,s4⟩:=hs.grown NQ (fun b o=>none) (fun b o z hz=>by cases hz)
 exact ⟨_,_,_,E',hK,rfl,s4.trans rX,s1,s2,.deep .aV⟩
open Go.Eng
theorem R8:Ax Tryz.prog:=⟨JY,LR⟩
open Go.ChangeShapes Go.WideShapes Go.ChangeAt Go.RowKit Go.Eng
theorem Tryz.own:ownKnob Tryz.prog.godebug=none:=by kernel_rfl
theorem planStale_lifted (os:Os) (started:os.Started) (H:Type) (enc:TypeId×Value->H):
 ReturnsInHanded {} Tryz.checked os 4 .any (Rows.planStaleSpec.pre6 enc Tryz.prog Tryz.f4 Rows.planStaleRow.domain false) (Rows.planStaleSpec.post enc Tryz.prog Tryz.f4 false true false false):=by
 refine law_lifted (C:=Tryz.checked) (shs:=[(true,[.sl LC,.sl JD]),(true,JD),(false,[.i .i64]),(false,[.i .u8])]) Tryz.own started (by kernel_rfl) Tryz.func4
  (ChangeSpec.witness6 (enc:=enc) (C:=Tryz.checked) false ⟨#[],#[.agg #[.slice none 0 0,.slice none 0 0],.agg #[.string ByteArray.empty,.int .i64 0,.int .i64 0,.int .i64 0,.int .i64 0,.int .i64 0,.slice none 0 0,.slice none 0 0,.slice none 0 0,.slice none 0 0,.string ByteArray.empty,.slice none 0 0,.int .i64 0,.slice none 0 0,.string ByteArray.empty,.int .i64 0],.int .i64 0,.int .u8 0],[]⟩ 8 (by kernel_rfl) (by kernel_rfl) (by kernel_rfl) (by kernel_rfl))
  (by kernel_rfl) (by kernel_rfl) rfl (by kernel_rfl) rfl Tryz.underlying4 (fun ds h=>match ds,h with|[d0,d1,d2,d3],_=>rfl) ?_
 intro args ha
 obtain ⟨v0,q0,rfl,h0,ha⟩:=wC ha
 obtain ⟨v1,q1,rfl,h1,ha⟩:=wC ha
 obtain ⟨v2,q2,rfl,h2,ha⟩:=wC ha
 obtain ⟨v3,q3,rfl,h3,ha⟩:=wC ha
 obtain rfl:=Rg ha
 obtain ⟨a0,rfl,b0⟩:=Od h0
 obtain ⟨a1,rfl,b1⟩:=TM h1
 obtain ⟨a2,rfl,l2,u2⟩:=TF h2
 obtain ⟨a3,rfl⟩:=Ri h3
 exact planStale_ok UQ RT once_ok add_ok R8 law18_begun cmpS_ok Xz a0 a1 a2 a3 ⟨l2,u2⟩ b0 b1
theorem planStale_holds:Rows.PlanStaleSaid:=
 OpenClaim.holds_of_wide 4 Tryz.f4 rfl rfl rfl rfl rfl rfl rfl ⟨rfl,rfl,rfl,rfl,rfl⟩ rfl rfl rfl rfl rfl (by kernel_rfl) Tryz.func4 Ui
  (of_decide_eq_true (by kernel_rfl)) (by unfold Func.isWrapper;first|(rw [if_pos (by decide+kernel)];kernel_rfl)|(rw [if_neg (by decide+kernel)];exact ⟨rfl,rfl⟩))
  (fun os started H enc _=>planStale_lifted os started H enc)
end Go.Proofs.YtmfelikepmmjkaaGreat
