/-
slices.SortFunc of names in a row that is written to: by the shelf's contract, laid in plain words by the kit's tool.
-/
import Derived.Shelf.SlGeneric
import Derived.Shelf.SlSortCmp.NoneTotal
import Derived.Ground.SlsfProg
import Derived.Test.YtmfelikepmmjkaaGreatY49
import Derived.Test.YtmfelikepmmjkaaGreatY18
import Derived.Test.YtmfelikepmmjkaaGreatY37
set_option linter.unusedVariables false
set_option linter.unusedSimpArgs false
namespace Go.Proofs
open Go.Shelf
def Tryz.GA:Go.Shelf.Ren:=⟨fun|6=>81|15=>143|14=>156|28=>231|29=>232|20=>246|21=>247|22=>248|23=>249|24=>250|25=>251|26=>252|27=>253|46=>311|47=>303|48=>304|49=>312|50=>313|57=>346|n=>n,fun|22=>57|24=>9|25=>156|3=>3|39=>239|0=>0|53=>121|55=>130|4=>4|46=>313|45=>312|50=>317|5=>5|9=>9|66=>378|70=>382|76=>411|77=>412|n=>n,fun|n=>n⟩
theorem Tryz.lX:Go.Proofs.SlLaysF.n6 Tryz.prog Tryz.GA:={
 mixed:=by kernel_rfl
 f6:=⟨Tryz.f81.name,by decide,Tryz.func81.trans (congrArg some (by kernel_rfl))⟩
 f14:=⟨Tryz.f156.name,by decide,Tryz.func156.trans (congrArg some (by kernel_rfl))⟩
 f15:=Tryz.func143.trans (congrArg some (by kernel_rfl))
 f20:=⟨Tryz.f246.name,by decide,Tryz.func246.trans (congrArg some (by kernel_rfl))⟩
 f21:=⟨Tryz.f247.name,by decide,Tryz.func247.trans (congrArg some (by kernel_rfl))⟩
 f22:=⟨Tryz.f248.name,by decide,Tryz.func248.trans (congrArg some (by kernel_rfl))⟩
 f23:=⟨Tryz.f249.name,by decide,Tryz.func249.trans (congrArg some (by kernel_rfl))⟩
 f24:=⟨Tryz.f250.name,by decide,Tryz.func250.trans (congrArg some (by kernel_rfl))⟩
 f25:=⟨Tryz.f251.name,by decide,Tryz.func251.trans (congrArg some (by kernel_rfl))⟩
 f26:=⟨Tryz.f252.name,by decide,Tryz.func252.trans (congrArg some (by kernel_rfl))⟩
 f27:=⟨Tryz.f253.name,by decide,Tryz.func253.trans (congrArg some (by kernel_rfl))⟩
 f28:=Tryz.func231.trans (congrArg some (by kernel_rfl))
 f29:=Tryz.func232.trans (congrArg some (by kernel_rfl))
 f46:=⟨Tryz.f311.name,by decide,Tryz.func311.trans (congrArg some (by kernel_rfl))⟩
 f47:=Tryz.func303.trans (congrArg some (by kernel_rfl))
 f48:=Tryz.func304.trans (congrArg some (by kernel_rfl))
 f49:=⟨Tryz.f312.name,by decide,Tryz.func312.trans (congrArg some (by kernel_rfl))⟩
 f50:=⟨Tryz.f313.name,by decide,Tryz.func313.trans (congrArg some (by kernel_rfl))⟩
 f57:=⟨Tryz.f346.name,by decide,Tryz.func346.trans (congrArg some (by kernel_rfl))⟩
 t0:=Tryz.underlying0
 a0:=Tryz.isAgg0
 z0:=Tryz.sizeOf0
 v0:=Tryz.zeroValue0
 t3:=Tryz.underlying3
 a3:=Tryz.isAgg3
 z3:=Tryz.sizeOf3
 v3:=Tryz.zeroValue3
 t4:=Tryz.underlying4
 a4:=Tryz.isAgg4
 z4:=Tryz.sizeOf4
 v4:=Tryz.zeroValue4
 t5:=Tryz.underlying5
 a5:=Tryz.isAgg5
 z5:=Tryz.sizeOf5
 v5:=Tryz.zeroValue5
 t9:=Tryz.underlying9
 a9:=Tryz.isAgg9
 z9:=Tryz.sizeOf9
 v9:=Tryz.zeroValue9
 t22:=Tryz.underlying57
 a22:=Tryz.isAgg57
 z22:=Tryz.sizeOf57
 v22:=Tryz.zeroValue57
 a24:=Tryz.isAgg9
 z24:=Tryz.sizeOf9
 t25:=Tryz.underlying156
 a25:=Tryz.isAgg156
 z25:=Tryz.sizeOf156
 v25:=Tryz.zeroValue156
 t39:=Tryz.underlying239
 a39:=Tryz.isAgg239
 z39:=Tryz.sizeOf239
 v39:=Tryz.zeroValue239
 t45:=Tryz.underlying312
 a45:=Tryz.isAgg312
 z45:=Tryz.sizeOf312
 v45:=Tryz.zeroValue312
 t46:=Tryz.underlying313
 a46:=Tryz.isAgg313
 z46:=Tryz.sizeOf313
 v46:=Tryz.zeroValue313
 t50:=Tryz.underlying317
 a50:=Tryz.isAgg317
 z50:=Tryz.sizeOf317
 v50:=Tryz.zeroValue317
 t53:=Tryz.underlying121
 a53:=Tryz.isAgg121
 z53:=Tryz.sizeOf121
 v53:=Tryz.zeroValue121
 t55:=Tryz.underlying130
 a55:=Tryz.isAgg130
 z55:=Tryz.sizeOf130
 v55:=Tryz.zeroValue130
 t66:=Tryz.underlying378
 a66:=Tryz.isAgg378
 z66:=Tryz.sizeOf378
 v66:=Tryz.zeroValue378
 t70:=Tryz.underlying382
 a70:=Tryz.isAgg382
 z70:=Tryz.sizeOf382
 v70:=Tryz.zeroValue382
 t76:=Tryz.underlying411
 a76:=Tryz.isAgg411
 z76:=Tryz.sizeOf411
 v76:=Tryz.zeroValue411
 t77:=Tryz.underlying412
 a77:=Tryz.isAgg412
 z77:=Tryz.sizeOf412
 v77:=Tryz.zeroValue412 }
end Go.Proofs
namespace Go.Proofs.YtmfelikepmmjkaaGreat
open Go.Eng Go.Sort Go.Lib Go.Shelf Go.RowKit
theorem L5 (a b:ByteArray) (w:World):Calls Tryz.prog 61 #[.string a,.string b] w fun e w'=>e=.returned (.int .i64 (Lib.compareBytes a.data.toList b.data.toList))/\∃ q,w'=w.drewN q:=by
 have R9:=xM a b w
 generalize Lib.compareBytes a.data.toList b.data.toList=r at R9 ⊢
 go_enter Tryz.func61,Tryz.ntmps61
 go_wp2_with (go_at_call 144;refine R9.mono ?_;rintro e w' ⟨rfl,rfl⟩)
 go_ret
 exact ⟨rfl,0,rfl⟩
def encS (s:aU):Value:=.string (str s)
theorem agZ:SWO (ltOf mF) where
 irrefl x:=by unfold ltOf;rw [CW];exact kB x
 trans x y z h1 h2:=by unfold ltOf at*;rw [CW] at*;exact jE h1 h2
 ntrans x y z h1 h2:=by
  unfold ltOf at*
  rw [CW] at*
  cases h:Op.bytesLess x z with
  |false=>rfl
  |true=>
   by_cases e:x=y
   · rw [e] at h;rw [h] at h2;exact h2
   · have:=jE (nA h1 e) h
     rw [cC,h2] at this
     exact this.symm
theorem Xz:Al Tryz.prog 81 61:=by
 intro l r h K hl hr hK
 refine ⟨by kernel_rfl,fun E w vs rX hs hv=>?_⟩
 obtain ⟨x0,h0,r0⟩:=hv.get (j:=0) rfl
 obtain ⟨x1,h1,r1⟩:=hv.get (j:=1) rfl
 obtain rfl:vs=#[x0,x1]:=by
  have kD:=hv.1
  refine Array.ext (by simpa using kD) fun i i1 i2=>?_
  have:i=0\/i=1:=by simp at i2;omega
  rcases this with rfl|rfl
  · simpa using (Array.getElem?_eq_some_iff.1 h0).2
  · simpa using (Array.getElem?_eq_some_iff.1 h1).2
 obtain rfl:x1=.func (.func 61) #[] #[]:=by
  clear h0 h1
  cases r1 with
  |deep hd=>cases hd
  |fn _ _ _ a c ha hc _ _=>
   have e1:a=#[]:=Array.eq_empty_of_size_eq_zero ha
   have e2:c=#[]:=Array.eq_empty_of_size_eq_zero hc
   rw [e1,e2]
 cases l with
 |nil=>
  cases r0 with
  |deep hd=>cases hd
  |ms _ _ _ _ a cap hk hc hf hb ha=>
   refine (AnyF.slices_SortFunc_none (P:=Tryz.prog) (ρ:=Tryz.GA) { Tryz.lX with } a cap _ w).mono ?_
   rintro e w' ⟨rfl,rfl⟩
   have hsr:rL []=[]:=by simp [rL]
   rw [hsr,gF hr] at hK
   exact ⟨_,_,_,E,hK,rfl,rX,hs,.refl _ _ _,.bY _ _ rfl fun j v x hj=>by simp at hj⟩
 |cons y0 yr=>
  obtain ⟨l,hle⟩:∃ l,l=y0::yr:=⟨_,rfl⟩
  have GR:0<l.length:=by rw [hle];simp
  rw [<-hle] at hl hr hK r0
  have Uv:(y0::yr).length=l.length:=by rw [hle]
  rw [Uv] at*
  clear hle Uv hv h0 h1 r1
  obtain ⟨cap,rfl,ZP,AR,xY⟩:=Uh r0 GR
  have eC:(dG h).get (.g r)=some (.arr 1 (l.map bG)):=hr
  obtain ⟨ca,ta,fa,xs,a1,a2,a3,a4,a5,a6,a7,a8,a9⟩:=hs.RS eC
  have iO:(l.map bG).length=l.length:=List.length_map _
  rw [iO] at a3 a6
  have hx:∀ (j:Nat) (s:aU),l[j]? =some s->ca[(E.μ (.g r)).base+j]? =some (encS s):=fun j s hj=>by
   obtain ⟨x,e1,e2,_⟩:=a8 j (.s s) (by rw [ET,hj];rfl)
   rw [a7 j x e1,L4 e2]
   rfl
  have hblk:(E.μ (.g r)).bL<w.heap.size:=hs.lt ⟨_,eC⟩
  have hH:Holds encS w (E.μ (.g r)).bL (E.μ (.g r)).base l.toArray:=fun j hj=>by
   have Kb:j<l.length:=by simpa using hj
   have he:=List.getElem?_eq_getElem Kb
   refine ⟨?_,?_⟩
   · rw [kW]
     simp only [bI,a1]
     rw [hx j _ he]
     simp [Kb]
   · rcases a2 with h2|⟨h2,_⟩
     · obtain ⟨lo,hi⟩:=fa
       simp only at h2
       subst h2
       simp [World.frozen?,a1]
     · simp only [World.frozen?,a1]
       have:¬fa.1<=(E.μ (.g r)).base+j:=by omega
       simp [this]
  have eg:∀ args w,(callFunc 61 args).run Tryz.prog w=.ok (.enter 61 args) w:=enters_of Tryz.func61 (by kernel_rfl) rfl
  have kJ:CmpLays1 Tryz.prog 61 #[] encS mF (E.μ (.g r)).bL (E.μ (.g r)).base l.toArray.size w:=fun m os dk _ x y=>
   (L5 (str x) (str y) _).mono fun e w' ⟨he,q,hw⟩=>⟨by rw [he,Hr];simp [str],q,#[],by rw [hw,grow_empty]⟩
  have R9:=Any.slices_SortFunc_total Tryz.lX encS (fun _=>rfl) mF agZ 61 #[] (E.μ (.g r)).bL (E.μ (.g r)).base cap l.toArray w eg kJ hH hblk (by simp;omega) (fun x y h1 h2=>by
   unfold ltOf at h1 h2
   rw [CW] at h1 h2
   cases Decidable.em (x=y) with
   |inl e=>exact e
   |inr e=>
    have:=nA h1 e
    rw [h2] at this
    cases this)
  have kD:l.toArray.size=l.length:=by simp
  rw [kD] at R9
  simp only [Nat.zero_mul,Nat.add_zero]
  refine Calls.mono R9 ?_
  rintro e w' ⟨rfl,n,os,rfl⟩
  obtain ⟨ds,jY⟩:∃ ds,ds=rL l:=⟨_,rfl⟩
  have ag0:ds.length=l.length:=by rw [jY];exact (List.mergeSort_perm l _).length_eq
  have ag1:(l.toArray.toList.mergeSort fun x y=>!(ltOf mF) y x)=ds:=by rw [jY];rfl
  rw [ag1]
  rw [<-jY] at hK
  have U9:(putRow encS (Sort.ahead w n) (E.μ (.g r)).bL (E.μ (.g r)).base ds.toArray).heap[(E.μ (.g r)).bL]? =some (.cells (putCells encS (E.μ (.g r)).base ds.toArray ca) ta fa):=by
   simp only [putRow,mapBlock,Array.getElem?_modify,if_true]
   show Option.map _ w.heap[(E.μ (.g r)).bL]? =_
   rw [a1]
   rfl
  have abC:(putCells encS (E.μ (.g r)).base ds.toArray ca).size=ca.size:=by simp [putCells]
  obtain ⟨s1,s2⟩:=hs.set (w':=putRow encS (Sort.ahead w n) (E.μ (.g r)).bL (E.μ (.g r)).base ds.toArray) eC (.arr 1 (ds.map bG))
   (by simp [putRow,mapBlock])
   (fun b hb=>by
     simp only [putRow,mapBlock,Array.getElem?_modify]
     rw [if_neg (Ne.symm hb)]
     rfl) rfl rfl rfl
   (fun j x hx=>by
     have hI:=hs.jL _ _ _ hx
     simp only [bI,a1] at hI
     simp only [bI,U9]
     have Kq:¬((E.μ (.g r)).base<=j/\j<(E.μ (.g r)).base+ds.toArray.size):=fun hc=>by
      have OW:ds.toArray.size=l.length:=by simp [ag0]
      have:=hs.own (.g r) ⟨_,eC⟩ j hc.1 (by omega)
      rw [this] at hx
      cases hx
     simp only [putCells,Array.getElem?_mapIdx,hI,Option.map_some,if_neg Kq])
   ⟨fun e he=>by obtain ⟨q,_,rfl⟩:=List.mem_map.1 he;rfl,_,ta,fa,U9,by rw [abC];exact a2,by
    have:=cU (sz:=1) (es:=ds.map bG) fun e he=>by obtain ⟨q,_,rfl⟩:=List.mem_map.1 he;rfl
    rw [List.length_map] at this
    omega,by rw [abC];exact a4,fun j v hj=>by
    rw [ET] at hj
    cases hd:ds[j]? with
    |none=>rw [hd] at hj;cases hj
    |some s=>
     rw [hd] at hj
     cases hj
     have GS:j<ds.length:=(List.getElem?_eq_some_iff.1 hd).1
     have eB:(E.μ (.g r)).base<=(E.μ (.g r)).base+j/\(E.μ (.g r)).base+j<(E.μ (.g r)).base+ds.toArray.size:=by simp;omega
     have cL:(E.μ (.g r)).base+j<ca.size:=by omega
     refine ⟨encS s,?_,.deep (.s s),rfl⟩
     simp only [putCells,Array.getElem?_mapIdx,Array.getElem?_eq_getElem cL,Option.map_some,if_pos eB,Nat.add_sub_cancel_left]
     have:ds.toArray[j]! =s:=by
      rw [List.getElem?_eq_getElem GS] at hd
      cases hd
      simp [GS]
     rw [this]⟩
  obtain ⟨g1,g2⟩:=s1.Xy (w':=sortWorld encS w (E.μ (.g r)).bL (E.μ (.g r)).base n ds.toArray os) (os:=os) rfl rfl rfl rfl
  exact ⟨_,_,h.set r (.arr 1 (ds.map bG)),E,hK,rfl,rX,g1,s2.trans g2,.bY _ _ rfl fun j v x hj=>by simp at hj⟩
end Go.Proofs.YtmfelikepmmjkaaGreat
