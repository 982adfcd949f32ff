/-
slices.Sorted of the one key of a map: by the shelf's contracts, laid in plain words.
-/
import Derived.Shelf.SlIter.Nil
import Derived.Shelf.SortM.Plain
import Derived.Shelf.SortM.SortNone
import Derived.Ground.GgzProg
import Derived.Ground.SlgmProg
import Derived.Test.YtmfelikepmmjkaaGreatY18
set_option linter.unusedVariables false
set_option linter.unusedSimpArgs false
set_option maxHeartbeats 1000000
namespace Go.Proofs
open Go.RowKit Go.Maps Go.Sort Go.Shelf
def Tryz.yE:Go.Shelf.Ren:=⟨fun|7=>55|10=>139|n=>n,fun|23=>102|26=>9|3=>56|28=>150|0=>0|27=>149|33=>97|4=>4|n=>n,fun|n=>n⟩
theorem Tryz.QC:Go.Proofs.SlLaysZ.n7 Tryz.prog Tryz.yE:={
 mixed:=by kernel_rfl
 f7:=⟨Tryz.f55.name,by decide,Tryz.func55.trans (congrArg some (by kernel_rfl))⟩
 f10:=⟨Tryz.f139.name,by decide,Tryz.func139.trans (congrArg some (by kernel_rfl))⟩
 t0:=Tryz.underlying0
 a0:=Tryz.isAgg0
 z0:=Tryz.sizeOf0
 v0:=Tryz.zeroValue0
 t4:=Tryz.underlying4
 a4:=Tryz.isAgg4
 z4:=Tryz.sizeOf4
 v4:=Tryz.zeroValue4
 t23:=Tryz.underlying102
 a23:=Tryz.isAgg102
 z23:=Tryz.sizeOf102
 v23:=Tryz.zeroValue102
 t26:=Tryz.underlying9
 a26:=Tryz.isAgg9
 z26:=Tryz.sizeOf9
 v26:=Tryz.zeroValue9
 t27:=Tryz.underlying149
 a27:=Tryz.isAgg149
 z27:=Tryz.sizeOf149
 v27:=Tryz.zeroValue149
 t28:=Tryz.underlying150
 a28:=Tryz.isAgg150
 z28:=Tryz.sizeOf150
 v28:=Tryz.zeroValue150
 t33:=Tryz.underlying97
 a33:=Tryz.isAgg97
 z33:=Tryz.sizeOf97
 v33:=Tryz.zeroValue97 }
def Tryz.zW:Go.Shelf.Ren:=⟨fun|6=>54|8=>137|9=>138|11=>221|13=>143|12=>222|23=>231|24=>232|14=>293|15=>294|16=>295|17=>296|18=>297|19=>298|20=>299|21=>300|22=>301|25=>339|26=>303|27=>304|28=>340|29=>341|30=>342|31=>365|n=>n,fun|26=>9|28=>150|24=>57|0=>0|3=>3|37=>239|48=>121|50=>130|4=>4|40=>313|39=>312|45=>317|5=>5|9=>9|51=>378|55=>382|57=>411|58=>412|33=>97|n=>n,fun|n=>n⟩
theorem Tryz.I6:Go.Proofs.SlLaysZ.n6 Tryz.prog Tryz.zW:={
 mixed:=by kernel_rfl
 f6:=⟨Tryz.f54.name,by decide,Tryz.func54.trans (congrArg some (by kernel_rfl))⟩
 f8:=⟨Tryz.f137.name,by decide,Tryz.func137.trans (congrArg some (by kernel_rfl))⟩
 f11:=⟨Tryz.f221.name,by decide,Tryz.func221.trans (congrArg some (by kernel_rfl))⟩
 t0:=Tryz.underlying0
 a0:=Tryz.isAgg0
 z0:=Tryz.sizeOf0
 v0:=Tryz.zeroValue0
 t24:=Tryz.underlying57
 a24:=Tryz.isAgg57
 z24:=Tryz.sizeOf57
 v24:=Tryz.zeroValue57
 t26:=Tryz.underlying9
 a26:=Tryz.isAgg9
 z26:=Tryz.sizeOf9
 v26:=Tryz.zeroValue9
 t28:=Tryz.underlying150
 a28:=Tryz.isAgg150
 z28:=Tryz.sizeOf150
 v28:=Tryz.zeroValue150
 i26:=by kernel_rfl }
def Tryz.I7:Go.Shelf.Ren:=⟨fun|6=>138|8=>143|9=>222|19=>231|20=>232|21=>293|22=>294|23=>295|24=>296|25=>297|26=>298|27=>299|28=>300|29=>301|36=>339|31=>303|32=>304|37=>340|38=>341|39=>342|41=>365|n=>n,fun|27=>57|29=>9|3=>3|32=>239|26=>57|0=>0|44=>121|46=>130|4=>4|36=>313|35=>312|41=>317|5=>5|9=>9|53=>378|57=>382|63=>411|64=>412|n=>n,fun|n=>n⟩
theorem Tryz.Mz:Go.Proofs.SlLaysM.n6 Tryz.prog Tryz.I7:={
 mixed:=by kernel_rfl
 f6:=⟨Tryz.f138.name,by decide,Tryz.func138.trans (congrArg some (by kernel_rfl))⟩
 f8:=Tryz.func143.trans (congrArg some (by kernel_rfl))
 f9:=⟨Tryz.f222.name,by decide,Tryz.func222.trans (congrArg some (by kernel_rfl))⟩
 f19:=Tryz.func231.trans (congrArg some (by kernel_rfl))
 f20:=Tryz.func232.trans (congrArg some (by kernel_rfl))
 f21:=⟨Tryz.f293.name,by decide,Tryz.func293.trans (congrArg some (by kernel_rfl))⟩
 f22:=⟨Tryz.f294.name,by decide,Tryz.func294.trans (congrArg some (by kernel_rfl))⟩
 f23:=⟨Tryz.f295.name,by decide,Tryz.func295.trans (congrArg some (by kernel_rfl))⟩
 f24:=⟨Tryz.f296.name,by decide,Tryz.func296.trans (congrArg some (by kernel_rfl))⟩
 f25:=⟨Tryz.f297.name,by decide,Tryz.func297.trans (congrArg some (by kernel_rfl))⟩
 f26:=⟨Tryz.f298.name,by decide,Tryz.func298.trans (congrArg some (by kernel_rfl))⟩
 f27:=⟨Tryz.f299.name,by decide,Tryz.func299.trans (congrArg some (by kernel_rfl))⟩
 f28:=⟨Tryz.f300.name,by decide,Tryz.func300.trans (congrArg some (by kernel_rfl))⟩
 f29:=⟨Tryz.f301.name,by decide,Tryz.func301.trans (congrArg some (by kernel_rfl))⟩
 f31:=Tryz.func303.trans (congrArg some (by kernel_rfl))
 f32:=Tryz.func304.trans (congrArg some (by kernel_rfl))
 f36:=⟨Tryz.f339.name,by decide,Tryz.func339.trans (congrArg some (by kernel_rfl))⟩
 f37:=⟨Tryz.f340.name,by decide,Tryz.func340.trans (congrArg some (by kernel_rfl))⟩
 f38:=⟨Tryz.f341.name,by decide,Tryz.func341.trans (congrArg some (by kernel_rfl))⟩
 f39:=⟨Tryz.f342.name,by decide,Tryz.func342.trans (congrArg some (by kernel_rfl))⟩
 f41:=⟨Tryz.f365.name,by decide,Tryz.func365.trans (congrArg some (by kernel_rfl))⟩
 t0:=Tryz.underlying0
 a0:=Tryz.isAgg0
 z0:=Tryz.sizeOf0
 v0:=Tryz.zeroValue0
 t3:=Tryz.underlying3
 a3:=Tryz.isAgg3
 z3:=Tryz.sizeOf3
 v3:=Tryz.zeroValue3
 t4:=Tryz.underlying4
 a4:=Tryz.isAgg4
 z4:=Tryz.sizeOf4
 v4:=Tryz.zeroValue4
 t5:=Tryz.underlying5
 a5:=Tryz.isAgg5
 z5:=Tryz.sizeOf5
 v5:=Tryz.zeroValue5
 t9:=Tryz.underlying9
 a9:=Tryz.isAgg9
 z9:=Tryz.sizeOf9
 v9:=Tryz.zeroValue9
 t26:=Tryz.underlying57
 a26:=Tryz.isAgg57
 z26:=Tryz.sizeOf57
 v26:=Tryz.zeroValue57
 t27:=Tryz.underlying57
 a27:=Tryz.isAgg57
 z27:=Tryz.sizeOf57
 v27:=Tryz.zeroValue57
 t29:=Tryz.underlying9
 a29:=Tryz.isAgg9
 z29:=Tryz.sizeOf9
 v29:=Tryz.zeroValue9
 t32:=Tryz.underlying239
 a32:=Tryz.isAgg239
 z32:=Tryz.sizeOf239
 v32:=Tryz.zeroValue239
 t35:=Tryz.underlying312
 a35:=Tryz.isAgg312
 z35:=Tryz.sizeOf312
 v35:=Tryz.zeroValue312
 t36:=Tryz.underlying313
 a36:=Tryz.isAgg313
 z36:=Tryz.sizeOf313
 v36:=Tryz.zeroValue313
 t41:=Tryz.underlying317
 a41:=Tryz.isAgg317
 z41:=Tryz.sizeOf317
 v41:=Tryz.zeroValue317
 t44:=Tryz.underlying121
 a44:=Tryz.isAgg121
 z44:=Tryz.sizeOf121
 v44:=Tryz.zeroValue121
 t46:=Tryz.underlying130
 a46:=Tryz.isAgg130
 z46:=Tryz.sizeOf130
 v46:=Tryz.zeroValue130
 t53:=Tryz.underlying378
 a53:=Tryz.isAgg378
 z53:=Tryz.sizeOf378
 v53:=Tryz.zeroValue378
 t57:=Tryz.underlying382
 a57:=Tryz.isAgg382
 z57:=Tryz.sizeOf382
 v57:=Tryz.zeroValue382
 t63:=Tryz.underlying411
 a63:=Tryz.isAgg411
 z63:=Tryz.sizeOf411
 v63:=Tryz.zeroValue411
 t64:=Tryz.underlying412
 a64:=Tryz.isAgg412
 z64:=Tryz.sizeOf412
 v64:=Tryz.zeroValue412 }
theorem Tryz.MA (m:Nat):AnyZ.SortsIn Tryz.prog Tryz.zW Fence.wide m:=
 ⟨fun bL off cap ss W hH hblk kD=>callsIn_wide.2 (AnyM.slices_Sort_string Tryz.Mz bL off cap ss W hH hblk kD),
  fun p cap W=>callsIn_wide.2 (AnyM.slices_Sort_string_none Tryz.Mz p cap W)⟩
theorem Tryz.BG {H:Type} (Bm b nn:Nat) (D0:DataW H) (R:Value->Option (DataW H×List MemPlace)) (w:World) (Tk:Bm<w.heap.size) (hm:w.cell? ⟨Bm,0,none⟩=some (.map (some b))) (Li:w.ownsMap Tryz.prog 9 R b nn D0)
 (ad7:Maps.size D0<=maxLen) (V9:Maps.size D0*16<=140737488355328):
 Calls Tryz.prog 54 #[.func (.func 139) #[] #[.pointer (some ⟨Bm,0,none⟩)]] w fun e w'=>∃ (v:Value) (ss:List (List UInt8)),e=.returned v/\ss.Perm (strKeys D0)/\
  w'.ownsRow w.heap.size 9 1 v ss.length ((ss.mergeSort (fun x y=>decide (x<=y))).map encStr)/\(v=.slice none 0 0↔ss=[])/\Below w.heap.size w w':=by
 refine (callsIn_wide (n:=5)).1 ?_
 have Wa:SeqGives Fence.wide 2 Tryz.prog 139 #[.pointer (some ⟨Bm,0,none⟩)] encStr (fun ss=>ss.Perm (strKeys D0)) (Maps.size D0) w:=
  AnyZ.keys_gives (ρ:=Tryz.yE) { Tryz.QC with } Fence.wide _ trivial rfl (by omega) Bm b nn D0 w Tk hm Li
 exact AnyZ.sorted_in Tryz.I6 Fence.wide 5 trivial trivial trivial trivial rfl (by omega) (Tryz.MA _) (enters_of Tryz.func138 (by kernel_rfl) rfl) 139 #[.pointer (some ⟨Bm,0,none⟩)] trivial (enters_of Tryz.func139 (by kernel_rfl) rfl) _ _ ad7 V9 w Wa
end Go.Proofs
namespace Go.Eng
open Go
theorem b9.grown {E:Env} {st:St} {w w':World} (hs:b9 E st w) (hb:Go.RowKit.Below w.heap.size w w') (J:zA) (hJ:∀ b o x,J b o=some x->w.heap.size<=b/\bI w' b o=some x):
 ∃ E',b9 E' st w'/\Ext E st w E' st w'/\(∀ b o x,w.heap.size<=b->J b o=some x->E'.I b o=some x)/\E'.nl=E.nl:=by
 have hold:∀ b o x,E.I b o=some x->b<w.heap.size:=by
  intro b o x hx
  have:=hs.jL b o x hx
  simp only [bI] at this
  rcases Nat.lt_or_ge b w.heap.size with h|h
  · exact h
  · simp [Array.getElem?_eq_none h] at this
 let E':Env:={ E with I:=fun b o=>match E.I b o with
  |some x=>some x
  |none=>J b o }
 have hle:E.Le E':=⟨fun b o x hx=>by simp [E',hx],Nat.le_refl _,Nat.le_refl _,fun _ _=>rfl⟩
 refine ⟨E',⟨hs.ng,hs.nl,fun k hk=>hs.jM k hk,fun b o x hx=>?_,fun k o hk=>?_,fun k k' h1 h2 h3=>hs.sep k k' h1 h2 h3,fun k hk j h1 h2=>?_⟩,
  ⟨hle,hb.size,fun b o x hx=>?_,fun k hk _=>hk,fun k hk hn=>absurd (hs.jM k hk) hn,fun b cL _=>hb.block b cL,hb.os,hb.output,hb.tape⟩,fun b o x fC hx=>?_,rfl⟩
 · cases hI:E.I b o with
   |some y=>
    simp only [E',hI] at hx
    have h1:=hs.jL b o y hI
    have h2:=hold b o y hI
    cases hx
    simp only [bI,hb.block b h2]
    exact h1
   |none=>
    simp only [E',hI] at hx
    exact (hJ b o x hx).2
 · exact (hs.obj k o hk).eK (Env.iJ hle k) (hb.block _ (hs.lt ⟨o,hk⟩))
 · have h3:=hs.own k hk j h1 h2
   show (match E.I (E.μ k).bL j with|some x=>some x|none=>J (E.μ k).bL j)=none
   rw [h3]
   cases hj:J (E.μ k).bL j with
   |none=>rfl
   |some x=>
    have:=(hJ _ _ _ hj).1
    have:=hs.lt hk
    omega
 · cases hI:E.I b o with
   |some y=>simp only [E',hI] at hx;left;exact hx
   |none=>simp only [E',hI] at hx;exact .inr (.inl (hJ b o x hx).1)
 · show (match E.I b o with|some x=>some x|none=>J b o)=some x
   cases hI:E.I b o with
   |some y=>have:=hold b o y hI;omega
   |none=>exact hx
theorem UR {E:Env} {k:Key} {x:Value} (h:Rel E (.m k) x):x=.map (some (E.μ k).bL):=by
 cases h with
 |deep hd=>cases hd
 |m _ hk=>rfl
end Go.Eng
namespace Go.Proofs.YtmfelikepmmjkaaGreat
open Go.Eng
theorem sorted_ok:∀ (args:List V) (h:aA) (r:V) (h':aA),A0 139 args h=some (r,h')->∀ K:V->aA->Prop,K r h'->aB Tryz.prog 54 args h K:=by
 intro args h r h' hx K hK
 unfold A0 at hx
 split at hx
 case h_2=>cases hx
 rename_i f k off
 split at hx
 case h_2=>cases hx
 rename_i hfo
 simp only [Bool.and_eq_true] at hfo
 have hf:=Nat.eq_of_beq_eq_true hfo.1
 have ho:=Nat.eq_of_beq_eq_true hfo.2
 subst hf;subst ho
 split at hx
 case h_2=>cases hx
 rename_i c hc
 split at hx
 case h_2=>cases hx
 rename_i mk hm
 split at hx
 case h_2=>cases hx
 rename_i x v MB
 split at hx
 case h_2=>cases hx
 rename_i hlen
 have hlen:=of_decide_eq_true hlen
 cases hx
 refine ⟨by kernel_rfl,fun E w vs rX hs hv=>?_⟩
 obtain ⟨x0,rfl,r0⟩:=FW hv
 cases r0 with
 |deep hd=>cases hd
 |fn _ _ _ fa ca h1 h2 h3 h4=>
 have US:fa=#[]:=by simpa using h1
 subst US
 obtain ⟨p,rfl,rp⟩:=FW (E:=E) (a0:=.p (.g k) 0) (vs:=ca) ⟨h2,h4⟩
 obtain ⟨hk,rfl⟩:=FX rp
 have eC:(dG h).get (.g k)=some (.cs c):=hc
 have BH:=hs.C5 eC
 obtain ⟨y,hy,ry,fy⟩:=hs.cellOf eC hm
 have:=UR ry
 subst this
 rw [BH] at hy
 have Ir:(dG h).get (.g mk)=some (.mp none [(.s x,v)]):=MB
 obtain ⟨bO,clock,q1,q2,q3,q4⟩:=hs.obj _ _ Ir
 have kD:bO.size=1:=q2
 obtain ⟨en,rfl⟩:∃ en,bO=#[en]:=⟨bO[0],by apply Array.ext;simp [kD];intro i i1 i2;simp at i2;subst i2;rfl⟩
 obtain ⟨e1,_,_⟩:=q3 0 (.s x,v) en rfl rfl
 have kV:en.key=.string (str x):=by
  generalize hg:en.key=z at e1
  cases e1;rfl
 have Me:=q4.1 en (by simp)
 have Sl:(str x).size=x.length:=by simp [str,ByteArray.size]
 have hko:keyOf Tryz.prog 9 en.key=some (.string x):=by
  rw [kV,Go.WideMaps.keyOf_string_mk Tryz.underlying9 (by rw [Sl];simpa [maxLen] using hlen)]
  simp [str]
 let R:Value->Option (DataW Unit×List MemPlace):=fun _=>some (.nil,[])
 have mQ:Go.WideElems.rd Tryz.prog 9 R en=some (.string x,.nil):=by simp [Go.WideElems.rd,hko,R]
 have Li:w.ownsMap Tryz.prog 9 R (E.μ (.g mk)).bL 1 (.map [(.string x,.nil)]):=by
  refine ⟨#[en],clock,q1,⟨by simp [maxLen],⟨by simpa using Me,by simp,by simp⟩,fun z hz=>?_⟩,by simp,?_⟩
  · simp at hz;subst hz;exact ⟨_,mQ⟩
  · simp [Go.WideElems.rg,mQ,DataW.insert]
 have Tk:(E.μ (.g k)).bL<w.heap.size:=hs.lt ⟨_,eC⟩
 have DK:=Tryz.BG (E.μ (.g k)).bL (E.μ (.g mk)).bL 1 _ R w Tk hy Li (by simp [Go.Maps.size,maxLen]) (by simp [Go.Maps.size])
 rw [BH]
 refine DK.mono ?_
 rintro e w' ⟨z,ss,rfl,QD,dH,Dh,NQ⟩
 have hsx:ss=[x]:=by
  have:ss.Perm [x]:=by simpa [Go.strKeys,Go.strOf] using QD
  exact List.perm_singleton.1 this
 subst hsx
 obtain ⟨_,dH⟩:=dH
 rcases dH with ⟨_,h0⟩|⟨gb,cap,cur,rfl,fC,XH,Mb,_,xZ,Wb⟩
 · simp at h0
 have h0c:cur[0]? =some (.string (str x)):=by
  have:cur.toList.take 1=[Value.string (str x)]:=by simpa [str] using Wb
  have h1:(cur.toList.take 1)[0]? =some (Value.string (str x)):=by rw [this];rfl
  rw [List.getElem?_take] at h1
  simpa using h1
 obtain ⟨E',s1,s2,s3,s4⟩:=hs.grown NQ (fun b o=>if b=gb/\o=0 then some (.string (str x)) else none) (fun b o z hz=>by
  split at hz
  · rename_i hbo
    obtain ⟨rfl,rfl⟩:=hbo
    cases hz
    exact ⟨fC,by simp [bI,XH,h0c]⟩
  · cases hz)
 refine ⟨_,_,_,E',hK,rfl,s4.trans rX,s1,s2,.deep ?_⟩
 refine eT.sl 1 [[.s x]] gb 0 cap (fun _=>.string (str x)) (by simpa using Mb) (by simp) (fun j d hj=>?_) (fun j d hj=>?_)
 · have hj0:j=0:=by
    have:=(List.getElem?_eq_some_iff.1 hj).1
    simp at this;omega
   subst hj0
   exact s3 gb 0 _ fC (by simp)
 · have hj0:j=0:=by
    have:=(List.getElem?_eq_some_iff.1 hj).1
    simp at this;omega
   subst hj0
   simp at hj;subst hj;exact .s x
end Go.Proofs.YtmfelikepmmjkaaGreat
