/-
slices.Sorted of a map's keys, however many there are.
-/
import Derived.Test.YtdjbjnnfmkoceaaGreatSort1
import Derived.Test.YtdjbjnnfmkoceaaGreatX12
set_option linter.unusedVariables false
set_option linter.unusedSimpArgs false
set_option maxHeartbeats 1000000
namespace Go.Proofs
open Go.RowKit Go.Maps Go.Sort Go.Shelf
theorem Tryz.wG (Bm:Nat) (w:World) (Tx:Bm<w.heap.size) (hm:w.cell? ⟨Bm,0,none⟩=some (.map none)):
 Calls Tryz.prog 102 #[.func (.func 179) #[] #[.pointer (some ⟨Bm,0,none⟩)]] w fun e w'=>e=.returned (.slice none 0 0)/\Below w.heap.size w w':=by
 refine (callsIn_wide (n:=5)).1 ?_
 have Tz:SeqGives Fence.wide 2 Tryz.prog 179 #[.pointer (some ⟨Bm,0,none⟩)] encStr (fun ss=>ss=[]) 0 w:=
  AnyZ.keys_gives_nil (ρ:=Tryz.rE) { Tryz.L4 with } Fence.wide _ trivial rfl Bm w Tx hm
 refine (AnyZ.sorted_in Tryz.Ep Fence.wide 5 trivial trivial trivial trivial rfl (by omega) (Tryz.He _) (enters_of Tryz.func178 (by kernel_rfl) rfl) 179 #[.pointer (some ⟨Bm,0,none⟩)] trivial (enters_of Tryz.func179 (by kernel_rfl) rfl) _ _ (Nat.zero_le _) (by omega) w Tz).mono ?_
 rintro e w' ⟨v,ss,rfl,rfl,_,hn,hb⟩
 exact ⟨by rw [hn.2 rfl],hb⟩
theorem DataW.insert_perm {H:Type} (x:Lit×DataW H):∀ l:List (Lit×DataW H),(DataW.insert x l).Perm (x::l)
 |[]=>.refl _
 |y::r=>by
  unfold DataW.insert
  split
  · exact .refl _
  · exact ((DataW.insert_perm x r).cons y).trans (.swap _ _ _)
theorem DataW.zI {H:Type}:∀ l:List (Lit×DataW H),(l.foldr DataW.insert []).Perm l
 |[]=>.refl _
 |x::r=>(DataW.insert_perm x _).trans ((DataW.zI r).cons x)
end Go.Proofs
namespace Go.Proofs.YtdjbjnnfmkoceaaGreat
open Go.Eng
theorem Et (h:aA) (k mk:Nat) (c:List V) (es:List (V×V)) (ks:List (List UInt8)) (hc:h.get k=some (.cs c)) (hm:c[0]? =some (.m (.g mk))) (V1:h.get mk=some (.mp none es)) (WM:es.map Prod.fst=ks.map V.s) (Q9:ks.Nodup)
 (hlen:∀ x∈ks,x.length<=9223372036854775807) (hn:ks.length<=1000000) (K:V->aA->Prop) (hK:K (.sl none 1 ((kW ks).map HW)) h):aB Tryz.prog 102 [.fn 179 [] [.p (.g k) 0]] h K:=by
 refine ⟨by kernel_rfl,fun E w vs vY hs hv=>?_⟩
 obtain ⟨x0,rfl,r0⟩:=G5 hv
 cases r0 with
 |deep hd=>cases hd
 |fn _ _ _ fa ca h1 h2 h3 h4=>
 have Zv:fa=#[]:=by simpa using h1
 subst Zv
 obtain ⟨p,rfl,rp⟩:=G5 (E:=E) (a0:=.p (.g k) 0) (vs:=ca) ⟨h2,h4⟩
 obtain ⟨hk,rfl⟩:=Eo rp
 have dC:(eR h).get (.g k)=some (.cs c):=hc
 have Eu:=hs.Bq dC
 obtain ⟨y,hy,ry,fy⟩:=hs.cellOf dC hm
 have:=Wn ry
 subst this
 rw [Eu] at hy
 have Fj:(eR h).get (.g mk)=some (.mp none es):=V1
 obtain ⟨aP,clock,q1,q2,q3,q4⟩:=hs.obj _ _ Fj
 have Zw:es.length=ks.length:=by simpa using congrArg List.length WM
 have gH:aP.size=ks.length:=by rw [<-Zw];exact q2
 have qJ:∀ (j:Nat) (x:List UInt8) (en:MapEntry),ks[j]? =some x->aP[j]? =some en->en.key=.string (str x):=by
  intro j x en hx he
  have h5:(es.map Prod.fst)[j]? =some (V.s x):=by rw [WM,List.getElem?_map,hx];rfl
  rw [List.getElem?_map] at h5
  obtain ⟨⟨qk,qv⟩,h6,h7⟩:=Option.map_eq_some_iff.1 h5
  obtain ⟨e1,_,_⟩:=q3 j (qk,qv) en h6 he
  dsimp only at h7 e1
  subst h7
  generalize hg:en.key=z at e1
  cases e1;rfl
 have RG:aP.toList.map (·.key)=ks.map fun x=>Value.string (str x):=by
  apply List.ext_getElem?
  intro j
  rw [List.getElem?_map,List.getElem?_map]
  by_cases hj:j<ks.length
  · have hx:=List.getElem?_eq_getElem hj
    have he:aP[j]? =some aP[j]:=Array.getElem?_eq_getElem (by omega)
    have:=qJ j _ _ hx he
    rw [hx,Array.getElem?_toList,he]
    simp [this]
  · rw [List.getElem?_eq_none (show aP.toList.length<=j by rw [Array.length_toList];omega),List.getElem?_eq_none (show ks.length<=j by omega)];rfl
 have J1:∀ x y:List UInt8,Value.string (str x)=Value.string (str y)->x=y:=by
  intro x y e
  simpa [str] using e
 let R:Value->Option (DataW Unit×List MemPlace):=fun _=>some (.nil,[])
 have hko:∀ x∈ks,keyOf Tryz.prog 9 (.string (str x))=some (.string x):=by
  intro x hx
  have Zg:(str x).size=x.length:=by simp [str,ByteArray.size]
  rw [Go.WideMaps.keyOf_string_mk Tryz.underlying9 (by rw [Zg];simpa [maxLen] using hlen x hx)]
  simp [str]
 have EK:∀ en∈aP.toList,∃ x∈ks,en.key=.string (str x)/\Go.WideElems.rd Tryz.prog 9 R en=some (.string x,.nil):=by
  intro en jK
  have h5:en.key∈aP.toList.map (·.key):=List.mem_map_of_mem jK
  rw [RG] at h5
  obtain ⟨x,hx,he⟩:=List.mem_map.1 h5
  exact ⟨x,hx,he.symm,by simp [Go.WideElems.rd,<-he,hko x hx,R]⟩
 have hrg:aP.toList.map (Go.WideElems.rg Tryz.prog 9 R)=ks.map fun x=>(Lit.string x,DataW.nil):=by
  apply List.ext_getElem?
  intro j
  rw [List.getElem?_map,List.getElem?_map]
  by_cases hj:j<ks.length
  · have hx:=List.getElem?_eq_getElem hj
    have he:aP[j]? =some aP[j]:=Array.getElem?_eq_getElem (by omega)
    have h5:=qJ j _ _ hx he
    rw [hx,Array.getElem?_toList,he]
    simp only [Option.map_some,Option.some.injEq]
    have h6:=hko _ (List.getElem_mem hj)
    simp [Go.WideElems.rg,Go.WideElems.rd,h5,h6,R]
  · rw [List.getElem?_eq_none (show aP.toList.length<=j by rw [Array.length_toList];omega),List.getElem?_eq_none (show ks.length<=j by omega)];rfl
 have KW:w.ownsMap Tryz.prog 9 R (E.μ (.g mk)).aW ks.length (.map ((ks.map fun x=>(Lit.string x,(DataW.nil:DataW Unit))).foldr DataW.insert [])):=by
  refine ⟨aP,clock,q1,⟨by simp only [maxLen];omega,⟨q4.1,q4.2,?_⟩,fun z hz=>?_⟩,by omega,by rw [hrg]⟩
  · rw [RG]
    exact List.Pairwise.map _ (fun x y cO e=>cO (J1 x y e)) Q9
  · obtain ⟨x,_,_,h6⟩:=EK z hz
    exact ⟨_,h6⟩
 have L5:=DataW.zI (ks.map fun x=>(Lit.string x,(DataW.nil:DataW Unit)))
 have Wo:Go.Maps.size (.map ((ks.map fun x=>(Lit.string x,(DataW.nil:DataW Unit))).foldr DataW.insert []))=ks.length:=by
  have:=L5.length_eq
  simpa [Go.Maps.size] using this
 have Tx:(E.μ (.g k)).aW<w.heap.size:=hs.lt ⟨_,dC⟩
 have uW:=Tryz.Es (E.μ (.g k)).aW (E.μ (.g mk)).aW ks.length _ R w Tx hy KW (by rw [Wo];simp only [maxLen];omega) (by rw [Wo];omega)
 rw [Eu]
 refine uW.mono ?_
 rintro e w' ⟨z,ss,rfl,Wp,e9,C9,PT⟩
 have hsk:ss.Perm ks:=by
  refine Wp.trans ?_
  have:=L5.map fun p=>Go.strOf p.1
  simpa [Go.strKeys,Go.strOf,Function.comp_def] using this
 have CO:ss.length=ks.length:=hsk.length_eq
 have Wq:ss.mergeSort (fun x y=>decide (x<=y))=kW ks:=Go.mergeSort_of_perm hsk
 rw [Wq] at e9
 have adV:(kW ks).length=ks.length:=List.length_mergeSort _
 obtain ⟨_,e9⟩:=e9
 rcases e9 with ⟨hz,h0⟩|⟨gb,cap,cur,rfl,Gh,hgb,RZ,_,o5,Zx⟩
 · have HL:ks=[]:=List.length_eq_zero_iff.1 (by omega)
   subst hz
   obtain ⟨E',s1,s2,s3,s4⟩:=hs.grown PT (fun b o=>none) (fun b o z hz=>by cases hz)
   refine ⟨_,_,_,E',hK,rfl,s4.trans vY,s1,s2,.deep ?_⟩
   rw [List.length_eq_zero_iff.1 (by omega:(kW ks).length=0)]
   exact cV.jF 1
 have Wr:∀ (j:Nat) (x:List UInt8),(kW ks)[j]? =some x->cur[j]? =some (.string (str x)):=by
  intro j x hx
  have hj:j<ss.length:=by have:=(List.getElem?_eq_some_iff.1 hx).1;omega
  have h5:(cur.toList.take ss.length)[j]? =some (Value.string (str x)):=by
   have h6:cur.toList.take ss.length=(kW ks).map encStr:=by simpa using Zx
   rw [h6,List.getElem?_map,hx];rfl
  rw [List.getElem?_take,if_pos hj] at h5
  simpa using h5
 obtain ⟨E',s1,s2,s3,s4⟩:=hs.grown PT (fun b o=>if b=gb then ((kW ks)[o]?).map (fun x=>Value.string (str x)) else none) (fun b o z hz=>by
  split at hz
  · rename_i hbo
    subst hbo
    obtain ⟨x,hx,rfl⟩:=Option.map_eq_some_iff.1 hz
    exact ⟨Gh,by simp [aT,hgb,Wr o x hx]⟩
  · cases hz)
 refine ⟨_,_,_,E',hK,rfl,s4.trans vY,s1,s2,.deep ?_⟩
 rw [show ss.length=((kW ks).map HW).length by simp;omega]
 refine cV.sl 1 ((kW ks).map HW) gb 0 cap (fun j=>.string (str ((kW ks)[j]?.getD []))) (by simp;omega) (fun e he=>?_) (fun j d hj=>?_) (fun j d hj=>?_)
 · obtain ⟨x,_,rfl⟩:=List.mem_map.1 he;rfl
 · rw [uB,List.getElem?_map] at hj
   obtain ⟨x,hx,rfl⟩:=Option.map_eq_some_iff.1 hj
   refine s3 gb _ _ Gh ?_
   show (if gb=gb then ((kW ks)[0+j]?).map (fun x=>Value.string (str x)) else none)=_
   rw [if_pos rfl,Nat.zero_add,hx]
   rfl
 · rw [uB,List.getElem?_map] at hj
   obtain ⟨x,hx,rfl⟩:=Option.map_eq_some_iff.1 hj
   rw [hx]
   exact .s x
theorem F5 (h:aA) (k:Nat) (c:List V) (hc:h.get k=some (.cs c)) (hm:c[0]? =some .cY) (K:V->aA->Prop) (hK:K .bU h):aB Tryz.prog 102 [.fn 179 [] [.p (.g k) 0]] h K:=by
 refine ⟨by kernel_rfl,fun E w vs vY hs hv=>?_⟩
 obtain ⟨x0,rfl,r0⟩:=G5 hv
 cases r0 with
 |deep hd=>cases hd
 |fn _ _ _ fa ca h1 h2 h3 h4=>
 have Zv:fa=#[]:=by simpa using h1
 subst Zv
 obtain ⟨p,rfl,rp⟩:=G5 (E:=E) (a0:=.p (.g k) 0) (vs:=ca) ⟨h2,h4⟩
 obtain ⟨hk,rfl⟩:=Eo rp
 have dC:(eR h).get (.g k)=some (.cs c):=hc
 have Eu:=hs.Bq dC
 obtain ⟨y,hy,ry,fy⟩:=hs.cellOf dC hm
 have hyn:y=.map none:=by
  cases ry with
  |deep hd=>cases hd
  |cY=>rfl
 subst hyn
 rw [Eu] at hy
 have Tx:(E.μ (.g k)).aW<w.heap.size:=hs.lt ⟨_,dC⟩
 have uW:=Tryz.wG (E.μ (.g k)).aW w Tx hy
 rw [Eu]
 refine uW.mono ?_
 rintro e w' ⟨rfl,PT⟩
 obtain ⟨E',s1,s2,s3,s4⟩:=hs.grown PT (fun b o=>none) (fun b o z hz=>by cases hz)
 exact ⟨_,_,_,E',hK,rfl,s4.trans vY,s1,s2,.deep .bU⟩
end Go.Proofs.YtdjbjnnfmkoceaaGreat
