/-
slices.Sorted of the one key of a map: by the shelf's contracts, laid in plain words.
-/
import Derived.Shelf.SlIter.Nil
import Derived.Shelf.SortM.Plain
import Derived.Shelf.SortM.SortNone
import Derived.Ground.GgzProg
import Derived.Ground.SlgmProg
import Derived.Test.YtdjbjnnfmkoceaaGreatY16
set_option linter.unusedVariables false
set_option linter.unusedSimpArgs false
set_option maxHeartbeats 1000000
namespace Go.Proofs
open Go.RowKit Go.Maps Go.Sort Go.Shelf
def Tryz.zU:Go.Shelf.Ren:=⟨fun|7=>103|10=>179|n=>n,fun|23=>160|26=>9|3=>211|28=>220|0=>0|27=>219|33=>91|4=>4|n=>n,fun|n=>n⟩
theorem Tryz.abZ:Go.Proofs.SlLaysZ.n7 Tryz.prog Tryz.zU:={
 mixed:=by kernel_rfl
 f7:=⟨Tryz.f103.name,by decide,Tryz.func103.trans (congrArg some (by kernel_rfl))⟩
 f10:=⟨Tryz.f179.name,by decide,Tryz.func179.trans (congrArg some (by kernel_rfl))⟩
 t0:=Tryz.underlying0
 a0:=Tryz.isAgg0
 z0:=Tryz.sizeOf0
 v0:=Tryz.zeroValue0
 t4:=Tryz.underlying4
 a4:=Tryz.isAgg4
 z4:=Tryz.sizeOf4
 v4:=Tryz.zeroValue4
 t23:=Tryz.underlying160
 a23:=Tryz.isAgg160
 z23:=Tryz.sizeOf160
 v23:=Tryz.zeroValue160
 t26:=Tryz.underlying9
 a26:=Tryz.isAgg9
 z26:=Tryz.sizeOf9
 v26:=Tryz.zeroValue9
 t27:=Tryz.underlying219
 a27:=Tryz.isAgg219
 z27:=Tryz.sizeOf219
 v27:=Tryz.zeroValue219
 t28:=Tryz.underlying220
 a28:=Tryz.isAgg220
 z28:=Tryz.sizeOf220
 v28:=Tryz.zeroValue220
 t33:=Tryz.underlying91
 a33:=Tryz.isAgg91
 z33:=Tryz.sizeOf91
 v33:=Tryz.zeroValue91 }
def Tryz.AV:Go.Shelf.Ren:=⟨fun|6=>102|8=>177|9=>178|11=>264|13=>173|12=>265|23=>253|24=>254|14=>336|15=>337|16=>338|17=>339|18=>340|19=>341|20=>342|21=>343|22=>344|25=>384|26=>329|27=>330|28=>385|29=>386|30=>387|31=>415|n=>n,fun|26=>9|28=>220|24=>200|0=>0|3=>3|37=>172|48=>113|50=>122|4=>4|40=>377|39=>376|45=>381|5=>5|9=>9|51=>433|55=>437|57=>475|58=>476|33=>91|n=>n,fun|n=>n⟩
theorem Tryz.Mw:Go.Proofs.SlLaysZ.n6 Tryz.prog Tryz.AV:={
 mixed:=by kernel_rfl
 f6:=⟨Tryz.f102.name,by decide,Tryz.func102.trans (congrArg some (by kernel_rfl))⟩
 f8:=⟨Tryz.f177.name,by decide,Tryz.func177.trans (congrArg some (by kernel_rfl))⟩
 f11:=⟨Tryz.f264.name,by decide,Tryz.func264.trans (congrArg some (by kernel_rfl))⟩
 t0:=Tryz.underlying0
 a0:=Tryz.isAgg0
 z0:=Tryz.sizeOf0
 v0:=Tryz.zeroValue0
 t24:=Tryz.underlying200
 a24:=Tryz.isAgg200
 z24:=Tryz.sizeOf200
 v24:=Tryz.zeroValue200
 t26:=Tryz.underlying9
 a26:=Tryz.isAgg9
 z26:=Tryz.sizeOf9
 v26:=Tryz.zeroValue9
 t28:=Tryz.underlying220
 a28:=Tryz.isAgg220
 z28:=Tryz.sizeOf220
 v28:=Tryz.zeroValue220
 i26:=by kernel_rfl }
def Tryz.Mx:Go.Shelf.Ren:=⟨fun|6=>178|8=>173|9=>265|19=>253|20=>254|21=>336|22=>337|23=>338|24=>339|25=>340|26=>341|27=>342|28=>343|29=>344|36=>384|31=>329|32=>330|37=>385|38=>386|39=>387|41=>415|n=>n,fun|27=>200|29=>9|3=>3|32=>172|26=>200|0=>0|44=>113|46=>122|4=>4|36=>377|35=>376|41=>381|5=>5|9=>9|53=>433|57=>437|63=>475|64=>476|n=>n,fun|n=>n⟩
theorem Tryz.QR:Go.Proofs.SlLaysM.n6 Tryz.prog Tryz.Mx:={
 mixed:=by kernel_rfl
 f6:=⟨Tryz.f178.name,by decide,Tryz.func178.trans (congrArg some (by kernel_rfl))⟩
 f8:=Tryz.func173.trans (congrArg some (by kernel_rfl))
 f9:=⟨Tryz.f265.name,by decide,Tryz.func265.trans (congrArg some (by kernel_rfl))⟩
 f19:=Tryz.func253.trans (congrArg some (by kernel_rfl))
 f20:=Tryz.func254.trans (congrArg some (by kernel_rfl))
 f21:=⟨Tryz.f336.name,by decide,Tryz.func336.trans (congrArg some (by kernel_rfl))⟩
 f22:=⟨Tryz.f337.name,by decide,Tryz.func337.trans (congrArg some (by kernel_rfl))⟩
 f23:=⟨Tryz.f338.name,by decide,Tryz.func338.trans (congrArg some (by kernel_rfl))⟩
 f24:=⟨Tryz.f339.name,by decide,Tryz.func339.trans (congrArg some (by kernel_rfl))⟩
 f25:=⟨Tryz.f340.name,by decide,Tryz.func340.trans (congrArg some (by kernel_rfl))⟩
 f26:=⟨Tryz.f341.name,by decide,Tryz.func341.trans (congrArg some (by kernel_rfl))⟩
 f27:=⟨Tryz.f342.name,by decide,Tryz.func342.trans (congrArg some (by kernel_rfl))⟩
 f28:=⟨Tryz.f343.name,by decide,Tryz.func343.trans (congrArg some (by kernel_rfl))⟩
 f29:=⟨Tryz.f344.name,by decide,Tryz.func344.trans (congrArg some (by kernel_rfl))⟩
 f31:=Tryz.func329.trans (congrArg some (by kernel_rfl))
 f32:=Tryz.func330.trans (congrArg some (by kernel_rfl))
 f36:=⟨Tryz.f384.name,by decide,Tryz.func384.trans (congrArg some (by kernel_rfl))⟩
 f37:=⟨Tryz.f385.name,by decide,Tryz.func385.trans (congrArg some (by kernel_rfl))⟩
 f38:=⟨Tryz.f386.name,by decide,Tryz.func386.trans (congrArg some (by kernel_rfl))⟩
 f39:=⟨Tryz.f387.name,by decide,Tryz.func387.trans (congrArg some (by kernel_rfl))⟩
 f41:=⟨Tryz.f415.name,by decide,Tryz.func415.trans (congrArg some (by kernel_rfl))⟩
 t0:=Tryz.underlying0
 a0:=Tryz.isAgg0
 z0:=Tryz.sizeOf0
 v0:=Tryz.zeroValue0
 t3:=Tryz.underlying3
 a3:=Tryz.isAgg3
 z3:=Tryz.sizeOf3
 v3:=Tryz.zeroValue3
 t4:=Tryz.underlying4
 a4:=Tryz.isAgg4
 z4:=Tryz.sizeOf4
 v4:=Tryz.zeroValue4
 t5:=Tryz.underlying5
 a5:=Tryz.isAgg5
 z5:=Tryz.sizeOf5
 v5:=Tryz.zeroValue5
 t9:=Tryz.underlying9
 a9:=Tryz.isAgg9
 z9:=Tryz.sizeOf9
 v9:=Tryz.zeroValue9
 t26:=Tryz.underlying200
 a26:=Tryz.isAgg200
 z26:=Tryz.sizeOf200
 v26:=Tryz.zeroValue200
 t27:=Tryz.underlying200
 a27:=Tryz.isAgg200
 z27:=Tryz.sizeOf200
 v27:=Tryz.zeroValue200
 t29:=Tryz.underlying9
 a29:=Tryz.isAgg9
 z29:=Tryz.sizeOf9
 v29:=Tryz.zeroValue9
 t32:=Tryz.underlying172
 a32:=Tryz.isAgg172
 z32:=Tryz.sizeOf172
 v32:=Tryz.zeroValue172
 t35:=Tryz.underlying376
 a35:=Tryz.isAgg376
 z35:=Tryz.sizeOf376
 v35:=Tryz.zeroValue376
 t36:=Tryz.underlying377
 a36:=Tryz.isAgg377
 z36:=Tryz.sizeOf377
 v36:=Tryz.zeroValue377
 t41:=Tryz.underlying381
 a41:=Tryz.isAgg381
 z41:=Tryz.sizeOf381
 v41:=Tryz.zeroValue381
 t44:=Tryz.underlying113
 a44:=Tryz.isAgg113
 z44:=Tryz.sizeOf113
 v44:=Tryz.zeroValue113
 t46:=Tryz.underlying122
 a46:=Tryz.isAgg122
 z46:=Tryz.sizeOf122
 v46:=Tryz.zeroValue122
 t53:=Tryz.underlying433
 a53:=Tryz.isAgg433
 z53:=Tryz.sizeOf433
 v53:=Tryz.zeroValue433
 t57:=Tryz.underlying437
 a57:=Tryz.isAgg437
 z57:=Tryz.sizeOf437
 v57:=Tryz.zeroValue437
 t63:=Tryz.underlying475
 a63:=Tryz.isAgg475
 z63:=Tryz.sizeOf475
 v63:=Tryz.zeroValue475
 t64:=Tryz.underlying476
 a64:=Tryz.isAgg476
 z64:=Tryz.sizeOf476
 v64:=Tryz.zeroValue476 }
theorem Tryz.QS (m:Nat):AnyZ.SortsIn Tryz.prog Tryz.AV Fence.wide m:=
 ⟨fun bI off cap ss W hH aAp jN=>callsIn_wide.2 (AnyM.slices_Sort_string Tryz.QR bI off cap ss W hH aAp jN),
  fun p cap W=>callsIn_wide.2 (AnyM.slices_Sort_string_none Tryz.QR p cap W)⟩
theorem Tryz.My {H:Type} (Bm b nn:Nat) (D0:DataW H) (R:Value->Option (DataW H×List MemPlace)) (w:World) (hBm:Bm<w.heap.size) (hm:w.cell? ⟨Bm,0,none⟩=some (.map (some b))) (Wg:w.ownsMap Tryz.prog 9 R b nn D0)
 (aAq:Maps.size D0<=maxLen) (amI:Maps.size D0*16<=140737488355328):
 Calls Tryz.prog 102 #[.func (.func 179) #[] #[.pointer (some ⟨Bm,0,none⟩)]] w fun e w'=>∃ (v:Value) (ss:List (List UInt8)),e=.returned v/\ss.Perm (strKeys D0)/\
  w'.ownsRow w.heap.size 9 1 v ss.length ((ss.mergeSort (fun x y=>decide (x<=y))).map encStr)/\(v=.slice none 0 0↔ss=[])/\Below w.heap.size w w':=by
 refine (callsIn_wide (n:=5)).1 ?_
 have amJ:SeqGives Fence.wide 2 Tryz.prog 179 #[.pointer (some ⟨Bm,0,none⟩)] encStr (fun ss=>ss.Perm (strKeys D0)) (Maps.size D0) w:=
  AnyZ.keys_gives (ρ:=Tryz.zU) { Tryz.abZ with } Fence.wide _ trivial rfl (by omega) Bm b nn D0 w hBm hm Wg
 exact AnyZ.sorted_in Tryz.Mw Fence.wide 5 trivial trivial trivial trivial rfl (by omega) (Tryz.QS _) (enters_of Tryz.func178 (by kernel_rfl) rfl) 179 #[.pointer (some ⟨Bm,0,none⟩)] trivial (enters_of Tryz.func179 (by kernel_rfl) rfl) _ _ aAq amI w amJ
end Go.Proofs
namespace Go.Eng
open Go
theorem bQ.grown {E:Env} {st:St} {w w':World} (hs:bQ E st w) (hb:Go.RowKit.Below w.heap.size w w') (J:zZ) (hJ:∀ b o x,J b o=some x->w.heap.size<=b/\bF w' b o=some x):
 ∃ E',bQ E' st w'/\Ext E st w E' st w'/\(∀ b o x,w.heap.size<=b->J b o=some x->E'.I b o=some x)/\E'.nl=E.nl:=by
 have hold:∀ b o x,E.I b o=some x->b<w.heap.size:=by
  intro b o x hx
  have:=hs.jR b o x hx
  simp only [bF] at this
  rcases Nat.lt_or_ge b w.heap.size with h|h
  · exact h
  · simp [Array.getElem?_eq_none h] at this
 let E':Env:={ E with I:=fun b o=>match E.I b o with
  |some x=>some x
  |none=>J b o }
 have hle:E.Le E':=⟨fun b o x hx=>by simp [E',hx],Nat.le_refl _,Nat.le_refl _,fun _ _=>rfl⟩
 refine ⟨E',⟨hs.ng,hs.nl,fun k hk=>hs.j8 k hk,fun b o x hx=>?_,fun k o hk=>?_,fun k k' h1 h2 h3=>hs.sep k k' h1 h2 h3,fun k hk j h1 h2=>?_⟩,
  ⟨hle,hb.size,fun b o x hx=>?_,fun k hk _=>hk,fun k hk hn=>absurd (hs.j8 k hk) hn,fun b dZ _=>hb.block b dZ,hb.os,hb.output,hb.tape⟩,fun b o x PV hx=>?_,rfl⟩
 · cases hI:E.I b o with
   |some y=>
    simp only [E',hI] at hx
    have h1:=hs.jR b o y hI
    have h2:=hold b o y hI
    cases hx
    simp only [bF,hb.block b h2]
    exact h1
   |none=>
    simp only [E',hI] at hx
    exact (hJ b o x hx).2
 · exact (hs.obj k o hk).rK (Env.jS hle k) (hb.block _ (hs.lt ⟨o,hk⟩))
 · have h3:=hs.own k hk j h1 h2
   show (match E.I (E.μ k).bI j with|some x=>some x|none=>J (E.μ k).bI j)=none
   rw [h3]
   cases hj:J (E.μ k).bI j with
   |none=>rfl
   |some x=>
    have:=(hJ _ _ _ hj).1
    have:=hs.lt hk
    omega
 · cases hI:E.I b o with
   |some y=>simp only [E',hI] at hx;left;exact hx
   |none=>simp only [E',hI] at hx;exact .inr (.inl (hJ b o x hx).1)
 · show (match E.I b o with|some x=>some x|none=>J b o)=some x
   cases hI:E.I b o with
   |some y=>have:=hold b o y hI;omega
   |none=>exact hx
theorem avF {E:Env} {k:Key} {x:Value} (h:Rel E (.m k) x):x=.map (some (E.μ k).bI):=by
 cases h with
 |deep hd=>cases hd
 |m _ hk=>rfl
end Go.Eng
namespace Go.Proofs.YtdjbjnnfmkoceaaGreat
open Go.Eng
end Go.Proofs.YtdjbjnnfmkoceaaGreat
