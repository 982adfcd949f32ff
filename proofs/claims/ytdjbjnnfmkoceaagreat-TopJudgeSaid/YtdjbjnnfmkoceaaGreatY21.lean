/-
slices.Sorted of a map's keys, however many there are.
-/
import Derived.Test.YtdjbjnnfmkoceaaGreatYSort1
import Derived.Test.YtdjbjnnfmkoceaaGreatY11
import Derived.Test.YtdjbjnnfmkoceaaGreatYRk
import Derived.KernelRfl
set_option linter.unusedVariables false
set_option linter.unusedSimpArgs false
set_option maxHeartbeats 1000000
set_option maxRecDepth 1000000
namespace Go.Proofs
open Go.RowKit Go.Maps Go.Sort Go.Shelf
theorem Tryz.Cw (Bm:Nat) (w:World) (hBm:Bm<w.heap.size) (hm:w.cell? ⟨Bm,0,none⟩=some (.map none)):
 Calls Tryz.prog 102 #[.func (.func 179) #[] #[.pointer (some ⟨Bm,0,none⟩)]] w fun e w'=>e=.returned (.slice none 0 0)/\Below w.heap.size w w':=by
 refine (callsIn_wide (n:=5)).1 ?_
 have amJ:SeqGives Fence.wide 2 Tryz.prog 179 #[.pointer (some ⟨Bm,0,none⟩)] encStr (fun ss=>ss=[]) 0 w:=
  AnyZ.keys_gives_nil (ρ:=Tryz.zU) { Tryz.abZ with } Fence.wide _ trivial rfl Bm w hBm hm
 refine (AnyZ.sorted_in Tryz.Mw Fence.wide 5 trivial trivial trivial trivial rfl (by omega) (Tryz.QS _) (enters_of Tryz.func178 (by kernel_rfl) rfl) 179 #[.pointer (some ⟨Bm,0,none⟩)] trivial (enters_of Tryz.func179 (by kernel_rfl) rfl) _ _ (Nat.zero_le _) (by omega) w amJ).mono ?_
 rintro e w' ⟨v,ss,rfl,rfl,_,hn,hb⟩
 exact ⟨by rw [hn.2 rfl],hb⟩
theorem DataW.insert_perm {H:Type} (x:Lit×DataW H):∀ l:List (Lit×DataW H),(DataW.insert x l).Perm (x::l)
 |[]=>.refl _
 |y::r=>by
  unfold DataW.insert
  split
  · exact .refl _
  · exact ((DataW.insert_perm x r).cons y).trans (.swap _ _ _)
theorem DataW.Ei {H:Type}:∀ l:List (Lit×DataW H),(l.foldr DataW.insert []).Perm l
 |[]=>.refl _
 |x::r=>(DataW.insert_perm x _).trans ((DataW.Ei r).cons x)
end Go.Proofs
namespace Go.Proofs.YtdjbjnnfmkoceaaGreat
open Go.Eng
theorem Mz (h:aC) (k mk:Nat) (c:List V) (es:List (V×V)) (ks:List (List UInt8)) (hc:h.get k=some (.cs c)) (hm:c[0]? =some (.m (.g mk))) (hmp:h.get mk=some (.mp none es)) (hks:es.map Prod.fst=ks.map V.s) (hnd:ks.Nodup)
 (hlen:∀ x∈ks,x.length<=9223372036854775807) (hn:ks.length<=1000000) (K:V->aC->Prop) (hK:K (.sl none 1 ((qT ks).map RM)) h):aE Tryz.prog 102 [.fn 179 [] [.p (.g k) 0]] h K:=by
 refine ⟨by kernel_rfl,fun E w vs Cb hs hv=>?_⟩
 obtain ⟨x0,rfl,r0⟩:=QM hv
 cases r0 with
 |deep hd=>cases hd
 |fn _ _ _ fa ca h1 h2 h3 h4=>
 have hfa:fa=#[]:=by simpa using h1
 subst hfa
 obtain ⟨p,rfl,rp⟩:=QM (E:=E) (a0:=.p (.g k) 0) (vs:=ca) ⟨h2,h4⟩
 obtain ⟨hk,rfl⟩:=LV rp
 have eQ:(gH h).get (.g k)=some (.cs c):=hc
 have MA:=hs.Ii eQ
 obtain ⟨y,hy,ry,fy⟩:=hs.cellOf eQ hm
 have:=avF ry
 subst this
 rw [MA] at hy
 have ON:(gH h).get (.g mk)=some (.mp none es):=hmp
 obtain ⟨aY,clock,q1,q2,q3,q4⟩:=hs.obj _ _ ON
 have aAs:es.length=ks.length:=by simpa using congrArg List.length hks
 have jN:aY.size=ks.length:=by rw [<-aAs];exact q2
 have yJ:∀ (j:Nat) (x:List UInt8) (en:MapEntry),ks[j]? =some x->aY[j]? =some en->en.key=.string (str x):=by
  intro j x en hx he
  have h5:(es.map Prod.fst)[j]? =some (V.s x):=by rw [hks,List.getElem?_map,hx];rfl
  rw [List.getElem?_map] at h5
  obtain ⟨⟨qk,qv⟩,h6,h7⟩:=Option.map_eq_some_iff.1 h5
  obtain ⟨e1,_,_⟩:=q3 j (qk,qv) en h6 he
  dsimp only at h7 e1
  subst h7
  generalize hg:en.key=z at e1
  cases e1;rfl
 have aiH:aY.toList.map (·.key)=ks.map fun x=>Value.string (str x):=by
  apply List.ext_getElem?
  intro j
  rw [List.getElem?_map,List.getElem?_map]
  by_cases hj:j<ks.length
  · have hx:=List.getElem?_eq_getElem hj
    have he:aY[j]? =some aY[j]:=Array.getElem?_eq_getElem (by omega)
    have:=yJ j _ _ hx he
    rw [hx,Array.getElem?_toList,he]
    simp [this]
  · rw [List.getElem?_eq_none (show aY.toList.length<=j by rw [Array.length_toList];omega),List.getElem?_eq_none (show ks.length<=j by omega)];rfl
 have Vm:∀ x y:List UInt8,Value.string (str x)=Value.string (str y)->x=y:=by
  intro x y e
  simpa [str] using e
 let R:Value->Option (DataW Unit×List MemPlace):=fun _=>some (.nil,[])
 have hko:∀ x∈ks,keyOf Tryz.prog 9 (.string (str x))=some (.string x):=by
  intro x hx
  have hss:(str x).size=x.length:=by simp [str,ByteArray.size]
  rw [Go.WideMaps.keyOf_string_mk Tryz.underlying9 (by rw [hss];simpa [maxLen] using hlen x hx)]
  simp [str]
 have Oi:∀ en∈aY.toList,∃ x∈ks,en.key=.string (str x)/\Go.WideElems.rd Tryz.prog 9 R en=some (.string x,.nil):=by
  intro en mQ
  have h5:en.key∈aY.toList.map (·.key):=List.mem_map_of_mem mQ
  rw [aiH] at h5
  obtain ⟨x,hx,he⟩:=List.mem_map.1 h5
  exact ⟨x,hx,he.symm,by simp [Go.WideElems.rd,<-he,hko x hx,R]⟩
 have hrg:aY.toList.map (Go.WideElems.rg Tryz.prog 9 R)=ks.map fun x=>(Lit.string x,DataW.nil):=by
  apply List.ext_getElem?
  intro j
  rw [List.getElem?_map,List.getElem?_map]
  by_cases hj:j<ks.length
  · have hx:=List.getElem?_eq_getElem hj
    have he:aY[j]? =some aY[j]:=Array.getElem?_eq_getElem (by omega)
    have h5:=yJ j _ _ hx he
    rw [hx,Array.getElem?_toList,he]
    simp only [Option.map_some,Option.some.injEq]
    have h6:=hko _ (List.getElem_mem hj)
    simp [Go.WideElems.rg,Go.WideElems.rd,h5,h6,R]
  · rw [List.getElem?_eq_none (show aY.toList.length<=j by rw [Array.length_toList];omega),List.getElem?_eq_none (show ks.length<=j by omega)];rfl
 have Wg:w.ownsMap Tryz.prog 9 R (E.μ (.g mk)).bI ks.length (.map ((ks.map fun x=>(Lit.string x,(DataW.nil:DataW Unit))).foldr DataW.insert [])):=by
  refine ⟨aY,clock,q1,⟨by simp only [maxLen];omega,⟨q4.1,q4.2,?_⟩,fun z hz=>?_⟩,by omega,by rw [hrg]⟩
  · rw [aiH]
    exact List.Pairwise.map _ (fun x y dX e=>dX (Vm x y e)) hnd
  · obtain ⟨x,_,_,h6⟩:=Oi z hz
    exact ⟨_,h6⟩
 have ab0:=DataW.Ei (ks.map fun x=>(Lit.string x,(DataW.nil:DataW Unit)))
 have avG:Go.Maps.size (.map ((ks.map fun x=>(Lit.string x,(DataW.nil:DataW Unit))).foldr DataW.insert []))=ks.length:=by
  have:=ab0.length_eq
  simpa [Go.Maps.size] using this
 have hBm:(E.μ (.g k)).bI<w.heap.size:=hs.lt ⟨_,eQ⟩
 have BW:=Tryz.My (E.μ (.g k)).bI (E.μ (.g mk)).bI ks.length _ R w hBm hy Wg (by rw [avG];simp only [maxLen];omega) (by rw [avG];omega)
 rw [MA]
 refine BW.mono ?_
 rintro e w' ⟨z,ss,rfl,avH,gU,KE,agP⟩
 have hsk:ss.Perm ks:=by
  refine avH.trans ?_
  have:=ab0.map fun p=>Go.strOf p.1
  simpa [Go.strKeys,Go.strOf,Function.comp_def] using this
 have Kf:ss.length=ks.length:=hsk.length_eq
 have avI:ss.mergeSort (fun x y=>decide (x<=y))=qT ks:=Go.mergeSort_of_perm hsk
 rw [avI] at gU
 have aDS:(qT ks).length=ks.length:=List.length_mergeSort _
 obtain ⟨_,gU⟩:=gU
 rcases gU with ⟨hz,h0⟩|⟨gb,cap,cur,rfl,PV,hgb,hc1,_,vW,aAt⟩
 · have Ru:ks=[]:=List.length_eq_zero_iff.1 (by omega)
   subst hz
   obtain ⟨E',s1,s2,s3,s4⟩:=hs.grown agP (fun b o=>none) (fun b o z hz=>by cases hz)
   refine ⟨_,_,_,E',hK,rfl,s4.trans Cb,s1,s2,.deep ?_⟩
   rw [List.length_eq_zero_iff.1 (by omega:(qT ks).length=0)]
   exact eH.mM 1
 have avJ:∀ (j:Nat) (x:List UInt8),(qT ks)[j]? =some x->cur[j]? =some (.string (str x)):=by
  intro j x hx
  have hj:j<ss.length:=by have:=(List.getElem?_eq_some_iff.1 hx).1;omega
  have h5:(cur.toList.take ss.length)[j]? =some (Value.string (str x)):=by
   have h6:cur.toList.take ss.length=(qT ks).map encStr:=by simpa using aAt
   rw [h6,List.getElem?_map,hx];rfl
  rw [List.getElem?_take,if_pos hj] at h5
  simpa using h5
 obtain ⟨E',s1,s2,s3,s4⟩:=hs.grown agP (fun b o=>if b=gb then ((qT ks)[o]?).map (fun x=>Value.string (str x)) else none) (fun b o z hz=>by
  split at hz
  · rename_i hbo
    subst hbo
    obtain ⟨x,hx,rfl⟩:=Option.map_eq_some_iff.1 hz
    exact ⟨PV,by simp [bF,hgb,avJ o x hx]⟩
  · cases hz)
 refine ⟨_,_,_,E',hK,rfl,s4.trans Cb,s1,s2,.deep ?_⟩
 rw [show ss.length=((qT ks).map RM).length by simp;omega]
 refine eH.sl 1 ((qT ks).map RM) gb 0 cap (fun j=>.string (str ((qT ks)[j]?.getD []))) (by simp;omega) (fun e he=>?_) (fun j d hj=>?_) (fun j d hj=>?_)
 · obtain ⟨x,_,rfl⟩:=List.mem_map.1 he;rfl
 · rw [Bq,List.getElem?_map] at hj
   obtain ⟨x,hx,rfl⟩:=Option.map_eq_some_iff.1 hj
   refine s3 gb _ _ PV ?_
   show (if gb=gb then ((qT ks)[0+j]?).map (fun x=>Value.string (str x)) else none)=_
   rw [if_pos rfl,Nat.zero_add,hx]
   rfl
 · rw [Bq,List.getElem?_map] at hj
   obtain ⟨x,hx,rfl⟩:=Option.map_eq_some_iff.1 hj
   rw [hx]
   exact .s x
theorem PM (h:aC) (k:Nat) (c:List V) (hc:h.get k=some (.cs c)) (hm:c[0]? =some .eG) (K:V->aC->Prop) (hK:K .aB h):aE Tryz.prog 102 [.fn 179 [] [.p (.g k) 0]] h K:=by
 refine ⟨by kernel_rfl,fun E w vs Cb hs hv=>?_⟩
 obtain ⟨x0,rfl,r0⟩:=QM hv
 cases r0 with
 |deep hd=>cases hd
 |fn _ _ _ fa ca h1 h2 h3 h4=>
 have hfa:fa=#[]:=by simpa using h1
 subst hfa
 obtain ⟨p,rfl,rp⟩:=QM (E:=E) (a0:=.p (.g k) 0) (vs:=ca) ⟨h2,h4⟩
 obtain ⟨hk,rfl⟩:=LV rp
 have eQ:(gH h).get (.g k)=some (.cs c):=hc
 have MA:=hs.Ii eQ
 obtain ⟨y,hy,ry,fy⟩:=hs.cellOf eQ hm
 have hyn:y=.map none:=by
  cases ry with
  |deep hd=>cases hd
  |eG=>rfl
 subst hyn
 rw [MA] at hy
 have hBm:(E.μ (.g k)).bI<w.heap.size:=hs.lt ⟨_,eQ⟩
 have BW:=Tryz.Cw (E.μ (.g k)).bI w hBm hy
 rw [MA]
 refine BW.mono ?_
 rintro e w' ⟨rfl,agP⟩
 obtain ⟨E',s1,s2,s3,s4⟩:=hs.grown agP (fun b o=>none) (fun b o z hz=>by cases hz)
 exact ⟨_,_,_,E',hK,rfl,s4.trans Cb,s1,s2,.deep .aB⟩
end Go.Proofs.YtdjbjnnfmkoceaaGreat
namespace Go.Eng
open Go
theorem adN:aL cR aI eK 7 MJ MK=true:=by kernel_rfl
theorem adO:aL cR aI eK 7 MK GV=true:=by kernel_rfl
theorem TZ:aL cR aI eK 7 GV GW=true:=by kernel_rfl
theorem SS:aL cR aI eK 7 GW GX=true:=by kernel_rfl
theorem SU:aL cR aI eK 7 GX GY=true:=by kernel_rfl
theorem SV:aL cR aI eK 7 GY GZ=true:=by kernel_rfl
theorem SW:aL cR aI eK 7 GZ G0=true:=by kernel_rfl
theorem SX:aL cR aI eK 7 G0 G1=true:=by kernel_rfl
theorem SY:aL cR aI eK 7 G1 G2=true:=by kernel_rfl
end Go.Eng
