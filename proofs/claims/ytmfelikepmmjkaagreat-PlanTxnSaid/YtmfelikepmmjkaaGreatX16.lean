/-
sync.Once, one goroutine: what Do does, over any function.
-/
import Derived.Test.YtmfelikepmmjkaaGreatX09
import Derived.Test.YtmfelikepmmjkaaGreatRows
import Derived.Tactics
import Derived.Tactics2
import Derived.Defers
import Derived.Laws.Pointers
import Derived.Laws.LoneSync
import Derived.RegionTactic
import Derived.RegionCalls
import Derived.ChangeAlike
import Derived.Test.YtmfelikepmmjkaaGreatX11
import Derived.Test.YtmfelikepmmjkaaGreatX12
set_option linter.unusedVariables false
set_option linter.unusedSimpArgs false
set_option maxHeartbeats 1600000
set_option maxRecDepth 100000
namespace Go.Proofs.YtmfelikepmmjkaaGreat
theorem disable (w:World):(callFunc 380 #[]).run Tryz.prog w=.ok (.value (.tuple #[])) w:=run_call_mark0 Tryz.func380 (by kernel_rfl) (by kernel_rfl) (by kernel_rfl) .disable (by kernel_rfl) w
theorem enable (w:World):(callFunc 382 #[]).run Tryz.prog w=.ok (.value (.tuple #[])) w:=run_call_mark0 Tryz.func382 (by kernel_rfl) (by kernel_rfl) (by kernel_rfl) .enable (by kernel_rfl) w
theorem acquire (a:Addr) (w:World):(callFunc 383 #[.pointer (some a)]).run Tryz.prog w=.ok (.value (.tuple #[])) w:=run_call_marked Tryz.func383 (by kernel_rfl) (by kernel_rfl) (by kernel_rfl) .acquire (by kernel_rfl) a w
theorem releaseMerge (a:Addr) (w:World):(callFunc 385 #[.pointer (some a)]).run Tryz.prog w=.ok (.value (.tuple #[])) w:=run_call_marked Tryz.func385 (by kernel_rfl) (by kernel_rfl) (by kernel_rfl) .releaseMerge (by kernel_rfl) a w
theorem EN (a:Addr) (x:Value) (u:FrameMode) (w:World) (hc:w.cell? a=some x) (hz:w.frozen? a=false):
 CallsD Tryz.prog 363 #[.pointer (some a),.bool true] u w fun e u' w'=>u'=u/\(e=.returned (.tuple #[])/\w'=w.drew.setCell a (.int .u32 1)):=by
 have H4:w.drew.cell? a=some x:=by go_simp
 have Ej:w.drew.frozen? a=false:=by go_simp
 have mY:=run_call_store (P:=Tryz.prog) Tryz.func378 (by kernel_rfl) (by kernel_rfl) (by kernel_rfl) (by kernel_rfl) (k:=.u32) (y:=1) H4 Ej
 go_enter_d Tryz.func363,Tryz.ntmps363
 go_wp2
 go_region_calls
 all_goals (go_end0;exact ⟨rfl,rfl⟩)
theorem De (a:Addr) (u:FrameMode) (w:World) (hc:w.cell? a=some (.int .i32 1)) (hz:w.frozen? a=false):
 CallsD Tryz.prog 362 #[.pointer (some a)] u w fun e u' w'=>u'=u/\(e=.returned (.tuple #[])/\w'=w.setCell a (.int .i32 0)):=by
 have hd:=disable
 have he:=enable
 have hr:=releaseMerge
 have uC:=run_call_add (P:=Tryz.prog) Tryz.func386 (by kernel_rfl) (by kernel_rfl) (by kernel_rfl) .i32 (by kernel_rfl) (y:=-1) (s:=0) hc hz (by simp [go_sem];rfl)
 have hcv:=run_convert_to_unsafe (P:=Tryz.prog) (src:=436) (dst:=440) Tryz.underlying436 Tryz.underlying440 (by kernel_rfl) hc
 go_enter_d Tryz.func362,Tryz.ntmps362
 go_wp2
 go_end0
 go_wp2
 go_end0
 exact ⟨rfl,rfl⟩
theorem Pn (a:Addr) (w:World) (hc:w.cell? a=some (.int .i32 0)) (hz:w.frozen? a=false):
 Calls Tryz.prog 361 #[.pointer (some a)] w fun e w'=>e=.returned (.tuple #[])/\w'=w.setCell a (.int .i32 1):=by
 have hd:=disable
 have he:=enable
 have ha:=acquire
 have aoE:=run_call_cas_hit (P:=Tryz.prog) Tryz.func381 (by kernel_rfl) (by kernel_rfl) (by kernel_rfl) .i32 (by kernel_rfl) (y:=1) hc hz
 have H4:(w.setCell a (.int .i32 1)).cell? a=some (.int .i32 1):=World.cell?_setCell_same w a _ hc
 have hcv:=run_convert_to_unsafe (P:=Tryz.prog) (src:=436) (dst:=440) Tryz.underlying436 Tryz.underlying440 (by kernel_rfl) H4
 go_enter Tryz.func361,Tryz.ntmps361
 go_wp2
 first|go_end0|(simp only [Exit.inBlock,Exit.then];refine bodyPost_ret (results_none rfl _ _ _) rfl ?_)|refine bodyPost_ret (results_none rfl _ _ _) rfl ?_
 go_wp2
 go_end0
 exact ⟨rfl,rfl⟩
theorem Sk (b off g:Nat) (first cap:Array Value) (w:World) (R:Value->World->Prop)
 (h0:w.cell? ⟨b,off,none⟩=some (.int .u32 0)) (h1:w.cell? ⟨b,off+1,none⟩=some (.int .i32 0))
 (f1:w.frozen? ⟨b,off+1,none⟩=false) (hb:Go.Eng.sE Tryz.prog g=true)
 (hg:Calls Tryz.prog g (first++cap) (w.setCell ⟨b,off+1,none⟩ (.int .i32 1)) fun e w'=>∃ x,e=.returned x/\R x w')
 (hR:∀ x w',R x w'->(∃ y,w'.cell? ⟨b,off,none⟩=some y)/\w'.cell? ⟨b,off+1,none⟩=some (.int .i32 1)/\w'.frozen? ⟨b,off,none⟩=false/\w'.frozen? ⟨b,off+1,none⟩=false):
 Calls Tryz.prog 335 #[.pointer (some ⟨b,off,none⟩),.func (.func g) first cap] w fun e w'=>e=.returned (.tuple #[])/\
  ∃ x w1,R x w1/\w'=(w1.drew.setCell ⟨b,off,none⟩ (.int .u32 1)).setCell ⟨b,off+1,none⟩ (.int .i32 0):=by
 have hl:=run_call_load (P:=Tryz.prog) Tryz.func360 (by kernel_rfl) (by kernel_rfl) (by kernel_rfl) .u32 (by kernel_rfl) (w:=w.setCell ⟨b,off+1,none⟩ (.int .i32 1)) (a:=⟨b,off,none⟩) (x:=0) ((World.cell?_setCell_other _ ⟨b,off+1,none⟩ ⟨b,off,none⟩ _ (by simp)).trans h0)
 have ab5:∀ (x:Bool) (w:World),(Op.unary .not (.bool x)).run Tryz.prog w=.ok (.bool (!x)) w:=fun _ _=>rfl
 go_enter_defers Tryz.func335,Tryz.ntmps335
 go_wp2_with (go_at_call 361;refine (Pn ⟨b,off+1,none⟩ _ (by go_simp) (by go_simp)).mono ?_;rintro e w' ⟨rfl,rfl⟩)
 go_wp2
 rw [Go.Eng.tX hb,Oper.upon_enter]
 refine hg.mono ?_
 rintro e w1 ⟨x,rfl,hx⟩
 obtain ⟨⟨y0,r0⟩,r1,r2,r3⟩:=hR x w1 hx
 go_wp2
 refine leaves_cons (f:=363) (args:=#[.pointer (some ⟨b,off,none⟩),.bool true]) (by simp) (by simp [go_sem]) ?_
 refine (EN ⟨b,off,none⟩ y0 .returning _ r0 r2).mono ?_
 rintro e u' V8 ⟨rfl,rfl,rfl⟩
 refine leaves_cons (f:=362) (args:=#[.pointer (some ⟨b,off+1,none⟩)]) (by simp [settle]) (by simp [go_sem]) ?_
 refine (De ⟨b,off+1,none⟩ _ _ ?_ (by simp [r3])).mono ?_
 · refine (World.cell?_setCell_other _ ⟨b,off,none⟩ ⟨b,off+1,none⟩ _ (by simp)).trans ?_
   rw [World.cell?_drew]
   exact r1
 rintro e u' V8 ⟨rfl,rfl,rfl⟩
 simp [Leaves,settle,results,Tryz.results335]
 exact ⟨x,w1,hx,rfl⟩
theorem Sl (b off g:Nat) (first cap:Array Value) (w:World) (R:Value->World->Prop)
 (h0:w.cell? ⟨b,off,none⟩=some (.int .u32 0)) (h1:w.cell? ⟨b,off+1,none⟩=some (.int .i32 0))
 (f1:w.frozen? ⟨b,off+1,none⟩=false) (hb:Go.Eng.sE Tryz.prog g=true)
 (hg:Calls Tryz.prog g (first++cap) (w.setCell ⟨b,off+1,none⟩ (.int .i32 1)) fun e w'=>∃ x,e=.returned x/\R x w')
 (hR:∀ x w',R x w'->(∃ y,w'.cell? ⟨b,off,none⟩=some y)/\w'.cell? ⟨b,off+1,none⟩=some (.int .i32 1)/\w'.frozen? ⟨b,off,none⟩=false/\w'.frozen? ⟨b,off+1,none⟩=false):
 Calls Tryz.prog 285 #[.pointer (some ⟨b,off,none⟩),.func (.func g) first cap] w fun e w'=>e=.returned (.tuple #[])/\
  ∃ x w1,R x w1/\w'=(w1.drew.setCell ⟨b,off,none⟩ (.int .u32 1)).setCell ⟨b,off+1,none⟩ (.int .i32 0):=by
 have hl:=run_call_load (P:=Tryz.prog) Tryz.func360 (by kernel_rfl) (by kernel_rfl) (by kernel_rfl) .u32 (by kernel_rfl) h0
 have ab5:∀ (x:Bool) (w:World),(Op.unary .not (.bool x)).run Tryz.prog w=.ok (.bool (!x)) w:=fun _ _=>rfl
 go_enter Tryz.func285,Tryz.ntmps285
 go_wp2_with (first|(go_at_call 335;refine (Sk b off g first cap _ R h0 h1 f1 hb hg hR).mono ?_;rintro e w' ⟨rfl,hw⟩)|(go_at_call 334;go_in))
 go_end0
 exact ⟨rfl,hw⟩
theorem Vb (a:Addr) (d:Int) (hd:¬d=0) (fv:Value) (w:World) (h0:w.cell? a=some (.int .u32 d)):
 Calls Tryz.prog 285 #[.pointer (some a),fv] w fun e w'=>e=.returned (.tuple #[])/\w'=w:=by
 have hl:=run_call_load (P:=Tryz.prog) Tryz.func360 (by kernel_rfl) (by kernel_rfl) (by kernel_rfl) .u32 (by kernel_rfl) h0
 have ab5:∀ (x:Bool) (w:World),(Op.unary .not (.bool x)).run Tryz.prog w=.ok (.bool (!x)) w:=fun _ _=>rfl
 have Zy:(d !=0)=true:=by simp [hd]
 go_enter Tryz.func285,Tryz.ntmps285
 go_wp2
 go_end0
 exact ⟨rfl,rfl⟩
theorem wrap64 (n:Int):IntKind.i64.wrap n=(n+9223372036854775808)%18446744073709551616 - 9223372036854775808:=by
 have p:(2:Int) ^ 64=18446744073709551616:=by decide
 have q:(2:Int) ^ 63=9223372036854775808:=by decide
 simp only [IntKind.wrap,IntKind.bits,IntKind.signed,Bool.true_and,decide_eq_true_eq,Nat.reduceSub,p,q]
 split<;>omega
theorem ab6 (a:Addr) (m n s:Int) (hs:s=IntKind.i64.wrap (m+n)) (w:World) (hc:w.cell? a=some (.int .i64 m)) (hz:w.frozen? a=false):
 Calls Tryz.prog 42 #[.pointer (some a),.int .i64 n] w fun e w'=>e=.returned (.int .i64 s)/\w'=w.setCell a (.int .i64 s):=by
 have uC:=run_call_add (P:=Tryz.prog) Tryz.func102 (by kernel_rfl) (by kernel_rfl) (by kernel_rfl) .i64 (by kernel_rfl) (y:=n) (s:=s) hc hz (by rw [hs];simp [go_sem])
 go_enter Tryz.func42,Tryz.ntmps42
 go_wp2
 go_ret
 have e:(m+n+9223372036854775808)%18446744073709551616 - 9223372036854775808=s:=by rw [hs,wrap64]
 rw [e]
 exact ⟨rfl,rfl⟩
end Go.Proofs.YtmfelikepmmjkaaGreat
namespace Go.Eng
open Go
section
variable {P:Program} {E:Env} {st:St} {w:World}
theorem cH.cellOf (hs:cH E st w) {k:Key} {c:List V} (hk:st.get k=some (.cs c)) {off:Nat} {v:V} (hv:c[off]? =some v):
 ∃ x,w.cell? ⟨(E.μ k).bS,(E.μ k).base+off,none⟩=some x/\Rel (E.at k) v x/\w.frozen? ⟨(E.μ k).bS,(E.μ k).base+off,none⟩=false:=by
 obtain ⟨cells,t,fz,h1,h2,h3,h4,h5⟩:=hs.cs hk
 obtain ⟨x,hx,hr,_⟩:=h5 off v hv
 refine ⟨x,?_,hr,?_⟩
 · rw [lY];simp [bM,h1,hx]
 · exact Fz.free h1 h2 (Array.getElem?_eq_some_iff.1 hx).1
theorem cH.IJ (hs:cH E st w) {k:Key} {c:List V} (hk:st.get k=some (.cs c)) {off:Nat} (ho:off<c.length) {v:V} {x:Value} (hr:Rel (E.at k) v x) (h1:x.oneCell'=true):
 cH E (st.set k (.cs (c.set off v))) (w.setCell ⟨(E.μ k).bS,(E.μ k).base+off,none⟩ x)/\Ext E st w E (st.set k (.cs (c.set off v))) (w.setCell ⟨(E.μ k).bS,(E.μ k).base+off,none⟩ x):=by
 obtain ⟨cells,ty,fz,r1,r2,r3,r4,r5⟩:=hs.cs hk
 have vH:eT (E.at k) [v] [x].toArray:=⟨rfl,fun j u y hj hy=>by
  cases j with
  |zero=>simp at hj hy;subst hj;subst hy;exact hr
  |succ j=>simp at hj⟩
 have dR:=iH.written r1 r2 r3 r4 r5 (off:=off) (vs:=[v]) (xs:=[x]) vH (by simpa using h1) (by simp;omega)
 exact hs.write hk r1 r4 (pos:=(E.μ k).base+off) (xs:=[x]) (by omega) (by simp;omega) (.cs (dT c off [v])) ⟨hs.D8 hk,dR⟩
theorem yB {k:IntKind} {n:Int} {x:Value} (h:Rel E (.i k n) x):x=.int k n:=by
 cases h with
 |deep hd=>cases hd;rfl
theorem St.Ya (h:aA) (n:Nat) (o:Obj):(dP h).set (.g n) o=dP (h.set n o):=rfl
theorem aA.NZ (n:Nat) (x y:Obj):∀ l,aA.CA (aA.CA l n x) n y=aA.CA l n y
 |[]=>rfl
 |(k,o)::r=>by
  by_cases hk:k=n
  · simp [aA.CA,hk]
  · simp [aA.CA,hk,aA.NZ n x y r]
theorem aA.set_set (h:aA) (n:Nat) (x y:Obj):(h.set n x).set n y=h.set n y:=by simp [aA.set,aA.NZ]
theorem G2 {a0:V} {vs:Array Value} (hv:eT E [a0] vs):∃ x0,vs=#[x0]/\Rel E a0 x0:=by
 obtain ⟨x0,h0,r0⟩:=hv.get (j:=0) rfl
 have hs:=hv.1
 refine ⟨x0,Array.ext (by simpa using hs) fun i h1 h2=>?_,r0⟩
 have:i=0:=by simp at h2;omega
 subst this
 simpa using (Array.getElem?_eq_some_iff.1 h0).2
theorem N1 {a0 a1:V} {vs:Array Value} (hv:eT E [a0,a1] vs):∃ x0 x1,vs=#[x0,x1]/\Rel E a0 x0/\Rel E a1 x1:=by
 obtain ⟨x0,h0,r0⟩:=hv.get (j:=0) rfl
 obtain ⟨x1,h1,r1⟩:=hv.get (j:=1) rfl
 have hs:=hv.1
 refine ⟨x0,x1,Array.ext (by simpa using hs) fun i i1 i2=>?_,r0,r1⟩
 have:i=0\/i=1:=by simp at i2;omega
 rcases this with rfl|rfl
 · simpa using (Array.getElem?_eq_some_iff.1 h0).2
 · simpa using (Array.getElem?_eq_some_iff.1 h1).2
theorem G3 {k:Key} {off:Nat} {x:Value} (h:Rel E (.p k off) x):E.has k/\x=.pointer (some ⟨(E.μ k).bS,(E.μ k).base+off,none⟩):=by
 cases h with
 |deep hd=>cases hd
 |p _ _ hk=>exact ⟨hk,rfl⟩
theorem ab7:Rel E (.bY []) (.tuple #[]):=gC
end
end Go.Eng
namespace Go.Proofs.YtmfelikepmmjkaaGreat
open Go.Eng
theorem add_ok:∀ (args:List V) (h:aA) (r:V) (h':aA),uA args h=some (r,h')->∀ K:V->aA->Prop,K r h'->aC Tryz.prog 42 args h K:=by
 intro args h r h' hx K hK
 unfold uA at hx
 split at hx
 case h_2=>cases hx
 rename_i k off n
 split at hx
 case h_2=>cases hx
 rename_i c hc
 split at hx
 case h_2=>cases hx
 rename_i m hm
 cases hx
 refine ⟨by kernel_rfl,fun E w vs tO hs hv=>?_⟩
 obtain ⟨x0,x1,rfl,r0,r1⟩:=N1 hv
 obtain ⟨hk,rfl⟩:=G3 r0
 have:=yB r1
 subst this
 have eO:(dP h).get (.g k)=some (.cs c):=hc
 obtain ⟨y,hy,ry,fy⟩:=hs.cellOf eO hm
 have:=yB ry
 subst this
 have cO:=(List.getElem?_eq_some_iff.1 hm).1
 obtain ⟨s1,s2⟩:=hs.IJ eO cO (v:=.i .i64 (IntKind.i64.wrap (m+n))) (x:=.int .i64 (IntKind.i64.wrap (m+n))) (.deep (.i _ _)) rfl
 refine (ab6 _ m n _ rfl w hy fy).mono ?_
 rintro e w' ⟨rfl,rfl⟩
 exact ⟨_,_,_,E,hK,rfl,tO,s1,s2,.deep (.i _ _)⟩
theorem once_ok:dQ Tryz.prog 285:=by
 refine ⟨fun k off g first cap c d h K hc hd dJ hK=>?_,fun k off g first cap c h K hc hd hm hg=>?_⟩
 · refine ⟨by kernel_rfl,fun E w vs tO hs hv=>?_⟩
   obtain ⟨x0,x1,rfl,r0,r1⟩:=N1 hv
   obtain ⟨hk,rfl⟩:=G3 r0
   have eO:(dP h).get (.g k)=some (.cs c):=hc
   obtain ⟨y,hy,ry,fy⟩:=hs.cellOf eO hd
   have:=yB ry
   subst this
   refine (Vb _ d dJ x1 w hy).mono ?_
   rintro e w' ⟨rfl,rfl⟩
   exact ⟨_,_,_,E,hK,rfl,tO,hs,.refl _ _ _,ab7⟩
 · refine ⟨by kernel_rfl,fun E w vs tO hs hv=>?_⟩
   obtain ⟨x0,x1,rfl,r0,r1⟩:=N1 hv
   obtain ⟨hk,rfl⟩:=G3 r0
   have eO:(dP h).get (.g k)=some (.cs c):=hc
   obtain ⟨y,hy,ry,fy⟩:=hs.cellOf eO hd
   have:=yB ry
   subst this
   obtain ⟨z,hz,rz,fz⟩:=hs.cellOf eO hm
   have:=yB rz
   subst this
   cases r1 with
   |deep hd=>cases hd
   |fn _ _ _ fa ca h1 h2 h3 h4=>
   have cO:=(List.getElem?_eq_some_iff.1 hm).1
   obtain ⟨s1,s2⟩:=hs.IJ eO cO (v:=.i .i32 1) (x:=.int .i32 1) (.deep (.i _ _)) rfl
   have EO:=hg.2 E _ (fa++ca) tO s1 (eT.append ⟨h1,h3⟩ ⟨h2,h4⟩)
   refine (Sl _ _ g fa ca w (fun _ w1=>∃ E' h2 c2,E'.nl=0/\cH E' (dP h2) w1/\Ext E (dP h) w E' (dP h2) w1/\h2.get k=some (.cs c2)/\c2[off]? =some (.i .u32 0)/\c2[off+1]? =some (.i .i32 1)/\
    K (.bY []) (h2.set k (.cs ((c2.set off (.i .u32 1)).set (off+1) (.i .i32 0))))) hy hz fz hg.1 (EO.mono ?_) ?_).mono ?_
   · rintro e w1 ⟨v,x,h2,E',⟨c2,g1,g2,g3,g4⟩,rfl,n1,n2,n3,n4⟩
     exact ⟨x,rfl,E',h2,c2,n1,n2,s2.trans n3,g1,g2,g3,g4⟩
   · rintro x w1 ⟨E',h2,c2,n1,n2,n3,g1,g2,g3,g4⟩
     have Sm:(dP h2).get (.g k)=some (.cs c2):=g1
     obtain ⟨y1,q1,t1,u1⟩:=n2.cellOf Sm g2
     obtain ⟨y2,q2,t2,u2⟩:=n2.cellOf Sm g3
     have:=yB t2
     subst this
     rw [n3.le.loc _ hk] at q1 q2 u1 u2
     exact ⟨⟨y1,q1⟩,q2,u1,u2⟩
   · rintro e w' ⟨rfl,x,w1,⟨E',h2,c2,n1,n2,n3,g1,g2,g3,g4⟩,rfl⟩
     have Sm:(dP h2).get (.g k)=some (.cs c2):=g1
     have hl:=n3.le.loc _ hk
     have d1:cH E' (dP h2) w1.drew:=n2.of_heap (w:=w1) (w':=w1.drew) rfl
     have d2:Ext E' (dP h2) w1 E' (dP h2) w1.drew:=Ext.drawn _
     have Mp:=(List.getElem?_eq_some_iff.1 g2).1
     have ab8:=(List.getElem?_eq_some_iff.1 g3).1
     obtain ⟨a1,a2⟩:=d1.IJ Sm Mp (v:=.i .u32 1) (x:=.int .u32 1) (.deep (.i _ _)) rfl
     have ahQ:(dP (h2.set k (.cs (c2.set off (.i .u32 1))))).get (.g k)=some (.cs (c2.set off (.i .u32 1))):=by
      rw [<-St.Ya,St.xT,if_pos rfl,Sm];rfl
     obtain ⟨b1,b2⟩:=a1.IJ ahQ (by simpa using ab8) (v:=.i .i32 0) (x:=.int .i32 0) (.deep (.i _ _)) rfl
     have Sn:((dP h2).set (.g k) (.cs (c2.set off (.i .u32 1)))).set (.g k) (.cs ((c2.set off (.i .u32 1)).set (off+1) (.i .i32 0)))=dP (h2.set k (.cs ((c2.set off (.i .u32 1)).set (off+1) (.i .i32 0)))):=by
      rw [St.Ya,St.Ya,aA.set_set]
     rw [Sn] at b1 b2
     rw [hl] at a2 b1 b2
     rw [Nat.add_assoc]
     exact ⟨_,_,_,E',g4,rfl,n1,b1,n3.trans (d2.trans (a2.trans b2)),ab7⟩
end Go.Proofs.YtmfelikepmmjkaaGreat
