/-
The table of letters ahead of what it holds, and behind; short forms.
-/
import Derived.Test.YtdjbjnnfmkoceaaGreatY14
import Derived.KernelRfl
import Derived.Test.YtdjbjnnfmkoceaaGreatY10
import Derived.Test.YtdjbjnnfmkoceaaGreatY07
import Derived.Test.YtdjbjnnfmkoceaaGreatY05
import Derived.Test.YtdjbjnnfmkoceaaGreatYSync1
import Derived.Test.YtdjbjnnfmkoceaaGreatRows
import Derived.Tactics
import Derived.Tactics2
import Derived.RegionTactic
import Derived.RegionCalls
import Derived.Lib.Bytealg
set_option linter.unusedVariables false
set_option linter.unusedSimpArgs false
set_option maxRecDepth 1000000
namespace Go.Eng
open Go
def nN (n:Nat):V:=.i .i64 (.ofNat n)
def nB (n:Nat):V:=.i .u8 (.ofNat n)
def tU (n:Nat):V:=.i .u64 (.ofNat n)
def pG (n:Nat):V:=.p (.g n) 0
def mG (n:Nat):V:=.m (.g n)
noncomputable def WL {α:Type} (k:Nat) (x:α) (l:List α):List α:=Nat.rec l (fun _ ih=>x::ih) k
noncomputable def bR (k n:Nat):V:=.sl none 1 (afF k n [])
def tvF:List V:=[.i .u32 (.ofNat 0),.i .i32 (.ofNat 0),.i .u32 (.ofNat 0),tU 0,tU 0,tU 0,tU 0,tU 0,tU 0,tU 0,tU 0,tU 0,tU 0,tU 0,tU 0,tU 0,tU 0,tU 0,tU 0,tU 0,tU 0,tU 0,tU 0,tU 0,tU 0,tU 0,tU 0,tU 0,tU 0,tU 0,tU 0,tU 0,tU 0,tU 0,tU 0,tU 0,tU 0,tU 0,tU 0,tU 0,tU 0,tU 0,tU 0,tU 0,tU 0,tU 0,tU 0,tU 0,tU 0,tU 0,tU 0,tU 0,tU 0,tU 0,tU 0,tU 0,tU 0,tU 0,tU 0,tU 0,tU 0,tU 0,tU 0,tU 0,tU 0,tU 0,tU 0,tU 0,tU 0,tU 0,tU 0,tU 0,tU 0,tU 0,tU 0,tU 0,tU 0,tU 0,tU 0,tU 0,tU 0,tU 0,tU 0,tU 0,tU 0,tU 0,tU 0,tU 0,tU 0,tU 0,tU 0,tU 0,tU 0,tU 0,tU 0,tU 0,tU 0,tU 0,tU 0,tU 0,tU 0,tU 0,tU 0,tU 0,tU 0,tU 0,tU 0,tU 0,tU 0,tU 0,tU 0,tU 0,tU 0,tU 0,tU 0,tU 0,tU 0,tU 0,tU 0,tU 0,tU 0,tU 0,tU 0,tU 0,tU 0,tU 0,tU 0,tU 0,tU 0,tU 0,tU 0,tU 0,tU 0,tU 0,tU 0,tU 0,tU 0,tU 0,tU 0,tU 0,tU 0,tU 0,tU 0,tU 0,tU 0,tU 0,tU 0,tU 0,tU 0,tU 0,tU 0,tU 0,tU 0,tU 0,tU 0,tU 0,tU 0,tU 0,tU 0,tU 0,tU 0,tU 0,tU 0,tU 0,tU 0,tU 0,tU 0,tU 0,tU 0,tU 0,tU 0,tU 0,tU 0,tU 0,tU 0,tU 0,tU 0,tU 0,tU 0,tU 0,tU 0,tU 0,tU 0,tU 0,tU 0,tU 0,tU 0,tU 0,tU 0,tU 0,tU 0,tU 0,tU 0,tU 0,tU 0,tU 0,tU 0,tU 0,tU 0,tU 0,tU 0,tU 0,tU 0,tU 0,tU 0,tU 0,tU 0,tU 0,tU 0,tU 0,tU 0,tU 0,tU 0,tU 0,tU 0,tU 0,tU 0,tU 0,tU 0,tU 0,tU 0,tU 0,tU 0,tU 0,tU 0,tU 0,tU 0,tU 0,tU 0,tU 0,tU 0,tU 0,tU 0,tU 0,tU 0,tU 0,tU 0,tU 0,tU 0,tU 0,tU 0,tU 0,tU 0,tU 0,tU 0,tU 0,tU 0,tU 0,tU 0,tU 0,tU 0,tU 0,tU 0,tU 0,tU 0,tU 0,tU 0,tU 0,tU 0,nB 0,nB 0,nB 0,nB 0,nB 0,nB 0,nB 0,nB 0,nB 0,nB 0,nB 0,nB 0,nB 0,nB 0,nB 0,nB 0,nB 0,nB 0,nB 0,nB 0,nB 0,nB 0,nB 0,nB 0,nB 0,nB 0,nB 0,nB 0,nB 0,nB 0,nB 0,nB 0,nB 0,nB 0,nB 0,nB 0,nB 0,nB 0]
def tvT:List V:=[.i .u32 (.ofNat 1),.i .i32 (.ofNat 0),.i .u32 (.ofNat 0),tU 0,tU 0,tU 0,tU 0,tU 0,tU 0,tU 0,tU 0,tU 0,tU 0,tU 0,tU 0,tU 0,tU 0,tU 0,tU 0,tU 0,tU 0,tU 0,tU 0,tU 0,tU 0,tU 0,tU 0,tU 0,tU 0,tU 0,tU 0,tU 0,tU 0,tU 0,tU 0,tU 0,tU 0,tU 0,tU 0,tU 0,tU 0,tU 0,tU 0,tU 0,tU 0,tU 0,tU 0,tU 0,tU 37,tU 0,tU 0,tU 27,tU 28,tU 29,tU 30,tU 31,tU 32,tU 33,tU 34,tU 35,tU 36,tU 0,tU 0,tU 0,tU 0,tU 0,tU 0,tU 0,tU 0,tU 0,tU 0,tU 0,tU 0,tU 0,tU 0,tU 0,tU 0,tU 0,tU 0,tU 0,tU 0,tU 0,tU 0,tU 0,tU 0,tU 0,tU 0,tU 0,tU 0,tU 0,tU 0,tU 0,tU 0,tU 0,tU 0,tU 0,tU 0,tU 0,tU 0,tU 0,tU 1,tU 2,tU 3,tU 4,tU 5,tU 6,tU 7,tU 8,tU 9,tU 10,tU 11,tU 12,tU 13,tU 14,tU 15,tU 16,tU 17,tU 18,tU 19,tU 20,tU 21,tU 22,tU 23,tU 24,tU 25,tU 26,tU 0,tU 0,tU 0,tU 0,tU 0,tU 0,tU 0,tU 0,tU 0,tU 0,tU 0,tU 0,tU 0,tU 0,tU 0,tU 0,tU 0,tU 0,tU 0,tU 0,tU 0,tU 0,tU 0,tU 0,tU 0,tU 0,tU 0,tU 0,tU 0,tU 0,tU 0,tU 0,tU 0,tU 0,tU 0,tU 0,tU 0,tU 0,tU 0,tU 0,tU 0,tU 0,tU 0,tU 0,tU 0,tU 0,tU 0,tU 0,tU 0,tU 0,tU 0,tU 0,tU 0,tU 0,tU 0,tU 0,tU 0,tU 0,tU 0,tU 0,tU 0,tU 0,tU 0,tU 0,tU 0,tU 0,tU 0,tU 0,tU 0,tU 0,tU 0,tU 0,tU 0,tU 0,tU 0,tU 0,tU 0,tU 0,tU 0,tU 0,tU 0,tU 0,tU 0,tU 0,tU 0,tU 0,tU 0,tU 0,tU 0,tU 0,tU 0,tU 0,tU 0,tU 0,tU 0,tU 0,tU 0,tU 0,tU 0,tU 0,tU 0,tU 0,tU 0,tU 0,tU 0,tU 0,tU 0,tU 0,tU 0,tU 0,tU 0,tU 0,tU 0,tU 0,tU 0,tU 0,tU 0,tU 0,tU 0,tU 0,tU 0,tU 0,tU 0,tU 0,tU 0,tU 0,tU 0,tU 0,tU 0,tU 0,tU 0,tU 0,tU 0,nB 0,nB 97,nB 98,nB 99,nB 100,nB 101,nB 102,nB 103,nB 104,nB 105,nB 106,nB 107,nB 108,nB 109,nB 110,nB 111,nB 112,nB 113,nB 114,nB 115,nB 116,nB 117,nB 118,nB 119,nB 120,nB 121,nB 122,nB 48,nB 49,nB 50,nB 51,nB 52,nB 53,nB 54,nB 55,nB 56,nB 57,nB 45]
theorem ak5:tvF=tv false:=by kernel_rfl
theorem ak6:tvT=tv true:=by kernel_rfl
open Go
noncomputable def mW (f:Nat):Oc:=bM (AF.fns.get f) ⟨fun _ _ _=>.none⟩ fun F=>cFn eJ F
theorem fnC_ok {P:Program} (hG:BL P AF.fns.get) (f:Nat):EV P f (mW f):=by
 unfold mW
 cases h:AF.fns.get f with
 |none=>exact VV
 |some F=>exact ajU noGc_ok (hG f F h)
noncomputable def a8 (k:Nat) (c:Oc) (o:Nat->Option Oc) (f:Nat):Option Oc:=aT (Nat.beq f k) (some c) (o f)
theorem aU {P:Program} {k:Nat} {c:Oc} {o:Nat->Option Oc} (hc:EV P k c) (ho:T9 P o):T9 P (a8 k c o):=by
 intro f c' he
 unfold a8 at he
 cases hb:Nat.beq f k
 · rw [hb] at he
   exact ho f c' he
 · rw [hb] at he
   have hk:=jG hb
   subst hk
   cases he
   exact hc
theorem WM {P:Program}:T9 P fun _=>none:=fun _ _ he=>by cases he
noncomputable def af8:Nat->Option Oc:=
 a8 55 (ah4 (mW 55))<|
 a8 156 (ah5 (mW 156))<|
 a8 93 (VZ (mW 93))<|
 a8 119 (V3 tvF tvT)<|
 a8 190 ah3<|
 a8 101 ao5<|
 a8 102 (Qt 179)<|
 a8 174 ao6<|
 a8 317 (V2 (mW 317)) fun _=>none
open Go
section
variable {P:Program} {E:Env} {st:St} {w:World}
theorem bQ.cellOf (hs:bQ E st w) {k:Key} {c:List V} (hk:st.get k=some (.cs c)) {off:Nat} {v:V} (hv:c[off]? =some v):
 ∃ x,w.cell? ⟨(E.μ k).bI,(E.μ k).base+off,none⟩=some x/\Rel (E.at k) v x/\w.frozen? ⟨(E.μ k).bI,(E.μ k).base+off,none⟩=false:=by
 obtain ⟨cells,t,fz,h1,h2,h3,h4,h5⟩:=hs.cs hk
 obtain ⟨x,hx,hr,_⟩:=h5 off v hv
 refine ⟨x,?_,hr,?_⟩
 · rw [o4];simp [bF,h1,hx]
 · exact Fz.free h1 h2 (Array.getElem?_eq_some_iff.1 hx).1
theorem bQ.Jh (hs:bQ E st w) {k:Key} {c:List V} (hk:st.get k=some (.cs c)) {off:Nat} (ho:off<c.length) {v:V} {x:Value} (hr:Rel (E.at k) v x) (h1:x.oneCell'=true):
 bQ E (st.set k (.cs (c.set off v))) (w.setCell ⟨(E.μ k).bI,(E.μ k).base+off,none⟩ x)/\Ext E st w E (st.set k (.cs (c.set off v))) (w.setCell ⟨(E.μ k).bI,(E.μ k).base+off,none⟩ x):=by
 obtain ⟨cells,ty,fz,r1,r2,r3,r4,r5⟩:=hs.cs hk
 have Ag:dY (E.at k) [v] [x].toArray:=⟨rfl,fun j u y hj hy=>by
  cases j with
  |zero=>simp at hj hy;subst hj;subst hy;exact hr
  |succ j=>simp at hj⟩
 have gU:=fV.written r1 r2 r3 r4 r5 (off:=off) (vs:=[v]) (xs:=[x]) Ag (by simpa using h1) (by simp;omega)
 exact hs.write hk r1 r4 (pos:=(E.μ k).base+off) (xs:=[x]) (by omega) (by simp;omega) (.cs (cS c off [v])) ⟨hs.Ii hk,gU⟩
theorem wQ {k:IntKind} {n:Int} {x:Value} (h:Rel E (.i k n) x):x=.int k n:=by
 cases h with
 |deep hd=>cases hd;rfl
theorem St.ak7 (h:aC) (n:Nat) (o:Obj):(gH h).set (.g n) o=gH (h.set n o):=rfl
theorem aC.QL (n:Nat) (x y:Obj):∀ l,aC.zV (aC.zV l n x) n y=aC.zV l n y
 |[]=>rfl
 |(k,o)::r=>by
  by_cases hk:k=n
  · simp [aC.zV,hk]
  · simp [aC.zV,hk,aC.QL n x y r]
theorem aC.set_set (h:aC) (n:Nat) (x y:Obj):(h.set n x).set n y=h.set n y:=by simp [aC.set,aC.QL]
theorem QM {a0:V} {vs:Array Value} (hv:dY E [a0] vs):∃ x0,vs=#[x0]/\Rel E a0 x0:=by
 obtain ⟨x0,h0,r0⟩:=hv.get (j:=0) rfl
 have hs:=hv.1
 refine ⟨x0,Array.ext (by simpa using hs) fun i h1 h2=>?_,r0⟩
 have:i=0:=by simp at h2;omega
 subst this
 simpa using (Array.getElem?_eq_some_iff.1 h0).2
theorem QN {a0 a1:V} {vs:Array Value} (hv:dY E [a0,a1] vs):∃ x0 x1,vs=#[x0,x1]/\Rel E a0 x0/\Rel E a1 x1:=by
 obtain ⟨x0,h0,r0⟩:=hv.get (j:=0) rfl
 obtain ⟨x1,h1,r1⟩:=hv.get (j:=1) rfl
 have hs:=hv.1
 refine ⟨x0,x1,Array.ext (by simpa using hs) fun i i1 i2=>?_,r0,r1⟩
 have:i=0\/i=1:=by simp at i2;omega
 rcases this with rfl|rfl
 · simpa using (Array.getElem?_eq_some_iff.1 h0).2
 · simpa using (Array.getElem?_eq_some_iff.1 h1).2
theorem LV {k:Key} {off:Nat} {x:Value} (h:Rel E (.p k off) x):E.has k/\x=.pointer (some ⟨(E.μ k).bI,(E.μ k).base+off,none⟩):=by
 cases h with
 |deep hd=>cases hd
 |p _ _ hk=>exact ⟨hk,rfl⟩
theorem aqN:Rel E (.bC []) (.tuple #[]):=e8
end
end Go.Eng
namespace Go.Proofs.YtdjbjnnfmkoceaaGreat
open Go.Eng
theorem add_ok:∀ (args:List V) (h:aC) (r:V) (h':aC),Jc args h=some (r,h')->∀ K:V->aC->Prop,K r h'->aE Tryz.prog 101 args h K:=by
 intro args h r h' hx K hK
 unfold Jc at hx
 split at hx
 case h_2=>cases hx
 rename_i k off n
 split at hx
 case h_2=>cases hx
 rename_i c hc
 split at hx
 case h_2=>cases hx
 rename_i m hm
 cases hx
 refine ⟨by kernel_rfl,fun E w vs Cb hs hv=>?_⟩
 obtain ⟨x0,x1,rfl,r0,r1⟩:=QN hv
 obtain ⟨hk,rfl⟩:=LV r0
 have:=wQ r1
 subst this
 have eQ:(gH h).get (.g k)=some (.cs c):=hc
 obtain ⟨y,hy,ry,fy⟩:=hs.cellOf eQ hm
 have:=wQ ry
 subst this
 have dZ:=(List.getElem?_eq_some_iff.1 hm).1
 obtain ⟨s1,s2⟩:=hs.Jh eQ dZ (v:=.i .i64 (IntKind.i64.wrap (m+n))) (x:=.int .i64 (IntKind.i64.wrap (m+n))) (.deep (.i _ _)) rfl
 refine (aqM _ m n _ rfl w hy fy).mono ?_
 rintro e w' ⟨rfl,rfl⟩
 exact ⟨_,_,_,E,hK,rfl,Cb,s1,s2,.deep (.i _ _)⟩
theorem once_ok:IC Tryz.prog 190:=by
 refine ⟨fun k off g first cap c d h K hc hd dX hK=>?_,fun k off g first cap c h K hc hd hm hg=>?_⟩
 · refine ⟨by kernel_rfl,fun E w vs Cb hs hv=>?_⟩
   obtain ⟨x0,x1,rfl,r0,r1⟩:=QN hv
   obtain ⟨hk,rfl⟩:=LV r0
   have eQ:(gH h).get (.g k)=some (.cs c):=hc
   obtain ⟨y,hy,ry,fy⟩:=hs.cellOf eQ hd
   have:=wQ ry
   subst this
   refine (af7 _ d dX x1 w hy).mono ?_
   rintro e w' ⟨rfl,rfl⟩
   exact ⟨_,_,_,E,hK,rfl,Cb,hs,.refl _ _ _,aqN⟩
 · refine ⟨by kernel_rfl,fun E w vs Cb hs hv=>?_⟩
   obtain ⟨x0,x1,rfl,r0,r1⟩:=QN hv
   obtain ⟨hk,rfl⟩:=LV r0
   have eQ:(gH h).get (.g k)=some (.cs c):=hc
   obtain ⟨y,hy,ry,fy⟩:=hs.cellOf eQ hd
   have:=wQ ry
   subst this
   obtain ⟨z,hz,rz,fz⟩:=hs.cellOf eQ hm
   have:=wQ rz
   subst this
   cases r1 with
   |deep hd=>cases hd
   |fn _ _ _ fa ca h1 h2 h3 h4=>
   have dZ:=(List.getElem?_eq_some_iff.1 hm).1
   obtain ⟨s1,s2⟩:=hs.Jh eQ dZ (v:=.i .i32 1) (x:=.int .i32 1) (.deep (.i _ _)) rfl
   have BW:=hg.2 E _ (fa++ca) Cb s1 (dY.append ⟨h1,h3⟩ ⟨h2,h4⟩)
   refine (WK _ _ g fa ca w (fun _ w1=>∃ E' h2 c2,E'.nl=0/\bQ E' (gH h2) w1/\Ext E (gH h) w E' (gH h2) w1/\h2.get k=some (.cs c2)/\c2[off]? =some (.i .u32 0)/\c2[off+1]? =some (.i .i32 1)/\
    K (.bC []) (h2.set k (.cs ((c2.set off (.i .u32 1)).set (off+1) (.i .i32 0))))) hy hz fz hg.1 (BW.mono ?_) ?_).mono ?_
   · rintro e w1 ⟨v,x,h2,E',⟨c2,g1,g2,g3,g4⟩,rfl,n1,n2,n3,n4⟩
     exact ⟨x,rfl,E',h2,c2,n1,n2,s2.trans n3,g1,g2,g3,g4⟩
   · rintro x w1 ⟨E',h2,c2,n1,n2,n3,g1,g2,g3,g4⟩
     have WN:(gH h2).get (.g k)=some (.cs c2):=g1
     obtain ⟨y1,q1,t1,u1⟩:=n2.cellOf WN g2
     obtain ⟨y2,q2,t2,u2⟩:=n2.cellOf WN g3
     have:=wQ t2
     subst this
     rw [n3.le.loc _ hk] at q1 q2 u1 u2
     exact ⟨⟨y1,q1⟩,q2,u1,u2⟩
   · rintro e w' ⟨rfl,x,w1,⟨E',h2,c2,n1,n2,n3,g1,g2,g3,g4⟩,rfl⟩
     have WN:(gH h2).get (.g k)=some (.cs c2):=g1
     have hl:=n3.le.loc _ hk
     have d1:bQ E' (gH h2) w1.drew:=n2.of_heap (w:=w1) (w':=w1.drew) rfl
     have d2:Ext E' (gH h2) w1 E' (gH h2) w1.drew:=Ext.drawn _
     have aeT:=(List.getElem?_eq_some_iff.1 g2).1
     have az7:=(List.getElem?_eq_some_iff.1 g3).1
     obtain ⟨a1,a2⟩:=d1.Jh WN aeT (v:=.i .u32 1) (x:=.int .u32 1) (.deep (.i _ _)) rfl
     have az8:(gH (h2.set k (.cs (c2.set off (.i .u32 1))))).get (.g k)=some (.cs (c2.set off (.i .u32 1))):=by
      rw [<-St.ak7,St.Ac,if_pos rfl,WN];rfl
     obtain ⟨b1,b2⟩:=a1.Jh az8 (by simpa using az7) (v:=.i .i32 0) (x:=.int .i32 0) (.deep (.i _ _)) rfl
     have hss:((gH h2).set (.g k) (.cs (c2.set off (.i .u32 1)))).set (.g k) (.cs ((c2.set off (.i .u32 1)).set (off+1) (.i .i32 0)))=gH (h2.set k (.cs ((c2.set off (.i .u32 1)).set (off+1) (.i .i32 0)))):=by
      rw [St.ak7,St.ak7,aC.set_set]
     rw [hss] at b1 b2
     rw [hl] at a2 b1 b2
     rw [Nat.add_assoc]
     exact ⟨_,_,_,E',g4,rfl,n1,b1,n3.trans (d2.trans (a2.trans b2)),aqN⟩
open Go.Eng
theorem E6 (a b:ByteArray) (w:World):Calls Tryz.prog 174 #[.string a,.string b] w fun e w'=>e=.returned (.int .i64 (Lib.compareBytes a.data.toList b.data.toList))/\w'=w:=by
 go_enter Tryz.func174,Tryz.ntmps174
 go_wp2
 rw [run_callFunc_extern Tryz.func255 (by kernel_rfl) (by kernel_rfl) (by kernel_rfl) (e:=Extern.BytealgCompare.compare) (by kernel_rfl),Lib.run_compareString]
 simp only [Result.andThen]
 rw [Oper.upon_value]
 go_wp2
 go_ret
 exact ⟨rfl,rfl⟩
theorem QO:∀ a b:List UInt8,Pt a b=Lib.compareBytes a b
 |[],[]=>rfl
 |[],_::_=>rfl
 |_::_,[]=>rfl
 |a::r,b::q=>by
  have ih:=QO r q
  simp only [Pt,Lib.compareBytes,UInt8.lt_iff_toNat_lt]
  by_cases h1:a.toNat<b.toNat
  · have:Nat.blt a.toNat b.toNat=true:=by simpa using h1
    rw [this,if_pos h1]
  · have e1:Nat.blt a.toNat b.toNat=false:=by rw [Bool.eq_false_iff];exact fun hc=>h1 (by simpa [Nat.blt_eq] using hc)
    rw [e1,if_neg h1]
    by_cases h2:b.toNat<a.toNat
    · have:Nat.blt b.toNat a.toNat=true:=by simpa using h2
      rw [this,if_pos h2]
    · have e2:Nat.blt b.toNat a.toNat=false:=by rw [Bool.eq_false_iff];exact fun hc=>h2 (by simpa [Nat.blt_eq] using hc)
      rw [e2,if_neg h2]
      exact ih
theorem cmpS_ok (a b:List UInt8) (h:aC) (K:V->aC->Prop) (hK:K (.i .i64 (Pt a b)) h):aE Tryz.prog 174 [.s a,.s b] h K:=by
 refine ⟨by kernel_rfl,fun E w vs Cb hs hv=>?_⟩
 obtain ⟨x0,x1,rfl,r0,r1⟩:=QN hv
 have:=r0.B3
 subst this
 have:=r1.B3
 subst this
 refine (E6 _ _ w).mono ?_
 rintro e w' ⟨rfl,rfl⟩
 refine ⟨_,_,_,E,hK,rfl,Cb,hs,.refl _ _ _,?_⟩
 rw [QO]
 exact .deep (.i _ _)
end Go.Proofs.YtdjbjnnfmkoceaaGreat
namespace Go.Eng
open Go
noncomputable def v1:V:=(.s [110,47,110])
noncomputable def v2:V:=(bR 23 0x22e5a183828c2d0000000000500000005000000050000)
noncomputable def v3:List V:=[v1,(nN 1),v2]
noncomputable def v4:V:=(.s [112,47,112])
noncomputable def v5:V:=(bR 62 0x134f940402e9580000000000000000001000000000001000000010000000100000000000000000000000000000000000000000000000000000000000000)
noncomputable def v6:List V:=[v4,(nN 2),v5]
noncomputable def v7:Nat×Obj:=(4,(.cs [.aB,(nN 200)]))
noncomputable def v8:Nat×Obj:=(6,(.cs ((.ms (.g 5) 1 0 2)::(WL 128 (nN 0) []))))
noncomputable def v9:List V:=[(.s [112]),(nN 1),(nN 0),(nN 1),(nN 1),(nN 1),.aB,.aB,.aB,.aB,(.s []),.aB,(nN 0),.aB,(.s []),(nN 0)]
noncomputable def v10:List V:=[(.s [110]),(nN 5),(nN 5),(nN 5),.aB,.aB]
noncomputable def v11:Nat×Obj:=(8,(.mp none [(v1,(.agg v10))]))
noncomputable def E7:Nat×Obj:=(9,(.mp (some .i64) [((nN 1),(.b true))]))
noncomputable def E8:V:=(.ms (.g 26) 3 0 2)
noncomputable def v14:V:=(.i .i64 (.negSucc 0))
noncomputable def s8:Obj:=(.cs [.eG,v14])
noncomputable def LW:Nat×Obj:=(12,(.cs [(nN 0),(nN 0),(pG 11),(.b false),(nN 0),(nN 0),(nN 0),(.s []),(nN 0),.aB,.aB,(nN 0),(nN 0)]))
noncomputable def LX:Nat×Obj:=(13,(.cs [(nN 0),(.b false),(.b false),(nN 0),(nN 0),(nN 0),(nN 0),(.b false),(nN 0),(nN 0),(nN 0)]))
noncomputable def s9:Obj:=(.cs [.aB,.aB,.aB,(.b false)])
noncomputable def tA:Obj:=(.cs [.aB])
noncomputable def v20:Nat×Obj:=(16,(.cs ((nN 0)::(.b false)::(nN 0)::(pG 12)::(pG 13)::(pG 14)::(pG 15)::.aB::(WL 7 (nN 0) [(.s []),(.b false),(nN 0)]))))
noncomputable def E9:Nat×Obj:=(20,(.cs [(nN 1),(nN 0),(pG 19),(.b false),(nN 0),(nN 0),(nN 0),(.s []),(nN 0),.aB,.aB,(nN 0),(nN 0)]))
noncomputable def v22:Nat×Obj:=(21,(.cs [(nN 1),(.b false),(.b false),(nN 0),(nN 0),(nN 0),(nN 0),(.b false),(nN 0),(nN 0),(nN 0)]))
noncomputable def v23:Nat×Obj:=(24,(.cs ((nN 1)::(.b false)::(nN 0)::(pG 20)::(pG 21)::(pG 22)::(pG 23)::.aB::(WL 7 (nN 0) [(.s []),(.b false),(nN 0)]))))
noncomputable def v24:List V:=[(pG 16),(.b false),(nN 0)]
noncomputable def v25:Nat×Obj:=(26,(.arr 3 [v24,[(pG 24),(.b false),(nN 0)]]))
noncomputable def v26:Nat×Obj:=(37,(.arr 3 [[v1,v2,(.b false)]]))
noncomputable def v27:List V:=[(nN 1),v1,v2,(.b false)]
noncomputable def v28:List V:=[(nN 2),v4,v5,(.b false)]
noncomputable def v29:Nat×Obj:=(44,(.arr 3 [[v4,v5,(.b false)]]))
noncomputable def v30:V:=(.ms (.g 37) 3 0 1)
noncomputable def Fe:List V:=[(nN 1),v14,.aB,v30]
noncomputable def v32:V:=(.ms (.g 44) 3 0 1)
noncomputable def v33:List V:=[(nN 2),v14,.aB,v32]
noncomputable def v34:V:=(bR 62 0x134f940402e958000000000000000000100000000000100000001000000010000000000000000000000000000002e5a183828c2d0000000000000000003)
noncomputable def v35:List V:=[v4,(nN 4),v34]
noncomputable def v36:V:=(bR 10 0x30000000000000003e8)
noncomputable def Px:List V:=[(.s [108]),(nN 27),v36]
noncomputable def Ji:Nat×Obj:=(4,(.cs [(.ms (.g 562) 3 0 0),(nN 200)]))
noncomputable def v39:List V:=[(.s [112]),(nN 1),(nN 0),(nN 1),(nN 1),(nN 1),.aB,.aB,.aB,.aB,(.s []),.aB,(nN 0),.aB,(.s [110]),(nN 3)]
noncomputable def Jj:Nat×Obj:=(7,(.mp none [(v4,(.agg v39))]))
noncomputable def v41:V:=(.sl none 6 [v10])
noncomputable def Kg:Nat×Obj:=(15,(.cs [(.ms (.g 1352) 6 0 0)]))
noncomputable def Jk:V:=(.ms (.g 1354) 6 0 1)
noncomputable def v44:List V:=[(.s [108]),(nN 26),v36]
noncomputable def v45:List V:=[(.b false),(nN 0),.aB]
noncomputable def v46:Obj:=(.arr 3 [v45,v45])
noncomputable def aA:Obj:=(.arr 3 [[(.s [108]),v36,(.b false)]])
noncomputable def cY:Obj:=(.arr 6 [[(.s []),(.s []),.aB,(nN 0),(nN 0),(nN 0)]])
noncomputable def GA:Obj:=(.arr 6 [[(.s [112]),(.s [110]),.aB,(nN 1),(nN 3),(nN 350)]])
noncomputable def Jl:Nat×Obj:=(1624,(.arr 3 [[v4,v34,(.b false)]]))
noncomputable def Kh:Obj:=(.arr 16 [v39])
noncomputable def Jm:List V:=[(nN 3),(.s [108]),v36,(.b false)]
noncomputable def v53:List V:=[(nN 4),v4,v34,(.b false)]
noncomputable def dC:List V:=[(nN 5),(.s [108]),v36,(.b false)]
noncomputable def LY:List V:=[(nN 6),(.s [108]),v36,(.b false)]
noncomputable def LZ:List V:=[(nN 7),(.s [108]),v36,(.b false)]
noncomputable def v57:List V:=[(nN 8),(.s [108]),v36,(.b false)]
noncomputable def dV:List V:=[(nN 9),(.s [108]),v36,(.b false)]
noncomputable def eA:List V:=[(nN 10),(.s [108]),v36,(.b false)]
noncomputable def eB:List V:=[(nN 11),(.s [108]),v36,(.b false)]
noncomputable def eL:List V:=[(nN 12),(.s [108]),v36,(.b false)]
noncomputable def eT:List V:=[(nN 13),(.s [108]),v36,(.b false)]
noncomputable def v63:List V:=[(nN 14),(.s [108]),v36,(.b false)]
noncomputable def v64:List V:=[(nN 15),(.s [108]),v36,(.b false)]
noncomputable def fF:List V:=[(nN 16),(.s [108]),v36,(.b false)]
noncomputable def fR:List V:=[(nN 17),(.s [108]),v36,(.b false)]
noncomputable def gA:List V:=[(nN 18),(.s [108]),v36,(.b false)]
noncomputable def gB:List V:=[(nN 19),(.s [108]),v36,(.b false)]
noncomputable def gN:List V:=[(nN 20),(.s [108]),v36,(.b false)]
noncomputable def iL:List V:=[(nN 21),(.s [108]),v36,(.b false)]
noncomputable def jO:List V:=[(nN 22),(.s [108]),v36,(.b false)]
noncomputable def jP:List V:=[(nN 23),(.s [108]),v36,(.b false)]
noncomputable def lS:List V:=[(nN 24),(.s [108]),v36,(.b false)]
noncomputable def oT:List V:=[(nN 25),(.s [108]),v36,(.b false)]
noncomputable def rF:List V:=[(nN 26),(.s [108]),v36,(.b false)]
noncomputable def rG:List V:=[(nN 27),(.s [108]),v36,(.b false)]
noncomputable def v77:V:=(.sl none 3 [[(.s [108]),(nN 0),(.b false)]])
noncomputable def Jn:List V:=[(nN 3),(nN 0),v77,(.ms (.g 738) 3 0 1)]
noncomputable def v79:List V:=[(.s [108]),(nN 3),(.b false)]
noncomputable def v80:V:=(.s [112,47])
noncomputable def v81:V:=(.s [110,47])
noncomputable def Jo:List V:=[(nN 4),(nN 0),(.sl none 3 [v79,[v4,(nN 2),(.b false)],[v1,(nN 1),(.b false)],[v80,(nN 3),(.b true)],[v81,(nN 3),(.b true)]]),(.ms (.g 1624) 3 0 1)]
noncomputable def Ki:List V:=[(nN 5),(nN 0),(.sl none 3 [v79]),(.ms (.g 2695) 3 0 1)]
noncomputable def v84:List V:=[(.s [108]),(nN 5),(.b false)]
noncomputable def v85:V:=(.sl none 3 [v84])
noncomputable def L0:List V:=[(nN 6),(nN 0),v85,(.ms (.g 4132) 3 0 1)]
noncomputable def L3:List V:=[(nN 7),(nN 0),(.sl none 3 [[(.s [108]),(nN 6),(.b false)]]),(.ms (.g 5569) 3 0 1)]
noncomputable def Ox:List V:=[(nN 8),(nN 0),(.sl none 3 [[(.s [108]),(nN 7),(.b false)]]),(.ms (.g 7006) 3 0 1)]
noncomputable def v89:V:=(.sl none 3 [[(.s [108]),(nN 8),(.b false)]])
noncomputable def Py:List V:=[(nN 9),(nN 0),v89,(.ms (.g 8443) 3 0 1)]
noncomputable def v91:V:=(.sl none 3 [[(.s [108]),(nN 9),(.b false)]])
noncomputable def QP:List V:=[(nN 10),(nN 0),v91,(.ms (.g 9880) 3 0 1)]
noncomputable def v93:V:=(.sl none 3 [[(.s [108]),(nN 10),(.b false)]])
noncomputable def QQ:List V:=[(nN 11),(nN 0),v93,(.ms (.g 11317) 3 0 1)]
noncomputable def v95:V:=(.sl none 3 [[(.s [108]),(nN 11),(.b false)]])
noncomputable def RT:List V:=[(nN 12),(nN 0),v95,(.ms (.g 12754) 3 0 1)]
noncomputable def v97:V:=(.sl none 3 [[(.s [108]),(nN 12),(.b false)]])
noncomputable def Ud:List V:=[(nN 13),(nN 0),v97,(.ms (.g 14191) 3 0 1)]
noncomputable def v99:V:=(.sl none 3 [[(.s [108]),(nN 13),(.b false)]])
noncomputable def D4:List V:=[(nN 14),(nN 0),v99,(.ms (.g 15628) 3 0 1)]
noncomputable def aqO:V:=(.sl none 3 [[(.s [108]),(nN 14),(.b false)]])
noncomputable def D5:List V:=[(nN 15),(nN 0),aqO,(.ms (.g 17065) 3 0 1)]
noncomputable def aqP:V:=(.sl none 3 [[(.s [108]),(nN 15),(.b false)]])
noncomputable def Ff:List V:=[(nN 16),(nN 0),aqP,(.ms (.g 18502) 3 0 1)]
noncomputable def aqQ:V:=(.sl none 3 [[(.s [108]),(nN 16),(.b false)]])
noncomputable def Jp:List V:=[(nN 17),(nN 0),aqQ,(.ms (.g 19939) 3 0 1)]
noncomputable def aqR:V:=(.sl none 3 [[(.s [108]),(nN 17),(.b false)]])
noncomputable def L4:List V:=[(nN 18),(nN 0),aqR,(.ms (.g 21376) 3 0 1)]
noncomputable def aqS:V:=(.sl none 3 [[(.s [108]),(nN 18),(.b false)]])
noncomputable def L5:List V:=[(nN 19),(nN 0),aqS,(.ms (.g 22813) 3 0 1)]
noncomputable def aqT:V:=(.sl none 3 [[(.s [108]),(nN 19),(.b false)]])
noncomputable def Pz:List V:=[(nN 20),(nN 0),aqT,(.ms (.g 24250) 3 0 1)]
noncomputable def aqU:V:=(.sl none 3 [[(.s [108]),(nN 20),(.b false)]])
noncomputable def RU:List V:=[(nN 21),(nN 0),aqU,(.ms (.g 25687) 3 0 1)]
noncomputable def aqV:V:=(.sl none 3 [[(.s [108]),(nN 21),(.b false)]])
noncomputable def WO:List V:=[(nN 22),(nN 0),aqV,(.ms (.g 27124) 3 0 1)]
noncomputable def aqW:V:=(.sl none 3 [[(.s [108]),(nN 22),(.b false)]])
noncomputable def WQ:List V:=[(nN 23),(nN 0),aqW,(.ms (.g 28561) 3 0 1)]
noncomputable def aqX:V:=(.sl none 3 [[(.s [108]),(nN 23),(.b false)]])
noncomputable def af9:List V:=[(nN 24),(nN 0),aqX,(.ms (.g 29998) 3 0 1)]
noncomputable def aqY:V:=(.sl none 3 [[(.s [108]),(nN 24),(.b false)]])
noncomputable def ak9:List V:=[(nN 25),(nN 0),aqY,(.ms (.g 31435) 3 0 1)]
noncomputable def alA:V:=(.sl none 3 [[(.s [108]),(nN 25),(.b false)]])
noncomputable def alB:V:=(.sl none 3 [[(.s [108]),(nN 26),(.b false)]])
noncomputable def WR:List V:=[(.s [108]),(nN 3),v36]
noncomputable def aqZ:Obj:=(.mp none [(v1,(.agg v3)),(v4,(.agg v35)),((.s [108]),(.agg WR))])
noncomputable def WS:List V:=[(.s [112]),(nN 1),(nN 0),(nN 1),(nN 1),(nN 1),.aB,.aB,.aB,.aB,(.s []),.aB,(nN 0),.aB,(.s [110]),(nN 0)]
noncomputable def l3:List V:=[(.s [108]),(nN 5),v36]
noncomputable def aq0:Obj:=(.mp none [(v1,(.agg v3)),(v4,(.agg v35)),((.s [108]),(.agg l3))])
noncomputable def agA:List V:=[(.s [108]),(nN 7),v36]
noncomputable def agB:List V:=[(.s [108]),(nN 6),v36]
noncomputable def wZ:List V:=[(.s [108]),(nN 8),v36]
noncomputable def aq1:Obj:=(.mp none [(v1,(.agg v3)),(v4,(.agg v35)),((.s [108]),(.agg wZ))])
noncomputable def w6:List V:=[(.s [108]),(nN 9),v36]
noncomputable def aq2:Obj:=(.mp none [(v1,(.agg v3)),(v4,(.agg v35)),((.s [108]),(.agg w6))])
noncomputable def w7:List V:=[(.s [108]),(nN 11),v36]
noncomputable def w8:List V:=[(.s [108]),(nN 10),v36]
noncomputable def w9:List V:=[(.s [108]),(nN 12),v36]
noncomputable def aq3:Obj:=(.mp none [(v1,(.agg v3)),(v4,(.agg v35)),((.s [108]),(.agg w9))])
noncomputable def xA:List V:=[(.s [108]),(nN 13),v36]
noncomputable def aq4:Obj:=(.mp none [(v1,(.agg v3)),(v4,(.agg v35)),((.s [108]),(.agg xA))])
noncomputable def xB:List V:=[(.s [108]),(nN 15),v36]
noncomputable def xC:List V:=[(.s [108]),(nN 14),v36]
noncomputable def xD:List V:=[(.s [108]),(nN 16),v36]
noncomputable def aq5:Obj:=(.mp none [(v1,(.agg v3)),(v4,(.agg v35)),((.s [108]),(.agg xD))])
noncomputable def xF:List V:=[(.s [108]),(nN 17),v36]
noncomputable def aq6:Obj:=(.mp none [(v1,(.agg v3)),(v4,(.agg v35)),((.s [108]),(.agg xF))])
noncomputable def xG:List V:=[(.s [108]),(nN 19),v36]
noncomputable def xH:List V:=[(.s [108]),(nN 18),v36]
noncomputable def xI:List V:=[(.s [108]),(nN 20),v36]
noncomputable def aq7:Obj:=(.mp none [(v1,(.agg v3)),(v4,(.agg v35)),((.s [108]),(.agg xI))])
noncomputable def xJ:List V:=[(.s [108]),(nN 21),v36]
noncomputable def aq8:Obj:=(.mp none [(v1,(.agg v3)),(v4,(.agg v35)),((.s [108]),(.agg xJ))])
noncomputable def xK:List V:=[(.s [108]),(nN 23),v36]
noncomputable def xL:List V:=[(.s [108]),(nN 22),v36]
noncomputable def xM:List V:=[(.s [108]),(nN 24),v36]
noncomputable def aq9:Obj:=(.mp none [(v1,(.agg v3)),(v4,(.agg v35)),((.s [108]),(.agg xM))])
noncomputable def xO:List V:=[(.s [108]),(nN 25),v36]
noncomputable def arA:Obj:=(.mp none [(v1,(.agg v3)),(v4,(.agg v35)),((.s [108]),(.agg xO))])
noncomputable def WT:List V:=[(pG 10),(nN 0),(nN 180)]
noncomputable def aM:V:=(.s [110,47,110,97])
noncomputable def RW:V:=(bR 23 0x22e70663843c8f4000000000100000001000000010000)
noncomputable def cM:List V:=[aM,(nN 1),RW]
noncomputable def aN:V:=(.s [110,47,110,98])
noncomputable def RX:V:=(bR 23 0x22e86b4385ecf18000000000200000002000000020000)
noncomputable def cT:List V:=[aN,(nN 2),RX]
noncomputable def aG:V:=(.s [112,47,112,97,97])
noncomputable def RY:V:=(bR 62 0x135102483a8a28a000000000000000001000000000001000000010000000100000000000000000000000000000000000000000000000000000000000000)
noncomputable def RZ:List V:=[aG,(nN 3),RY]
noncomputable def aH:V:=(.s [112,47,112,97,98])
noncomputable def R3:V:=(bR 62 0x13510bac707a970000000000000000002000000000001000000010000000100000000000000000000000000000000000000000000000000000000000000)
noncomputable def PA:List V:=[aH,(nN 4),R3]
noncomputable def alC:Nat×Obj:=(0,(.mp none [(aM,(.agg cM)),(aN,(.agg cT)),(aG,(.agg RZ)),(aH,(.agg PA))]))
noncomputable def zG:Nat×Obj:=(1,(.mp none [(aM,(nN 1)),(aN,(nN 2)),(aG,(nN 3)),(aH,(nN 4))]))
noncomputable def zH:Nat×Obj:=(2,(.cs [(.ms (.g 42) 4 0 4),(nN 64),(nN 0),(nN 4)]))
noncomputable def Fg:Nat×Obj:=(3,(.cs [(nN 4),(mG 0),(mG 1),(pG 2),(nN 1),(nN 4)]))
noncomputable def zI:Nat×Obj:=(5,(.arr 1 [[(nN 0)]]))
noncomputable def aV:Nat×Obj:=(6,(.cs ((.ms (.g 5) 1 0 1)::(WL 128 (nN 0) []))))
noncomputable def tE:V:=(.s [112,97,97])
noncomputable def Fh:List V:=[tE,(nN 1),(nN 0),(nN 1),(nN 1),(nN 1),.aB,.aB,.aB,.aB,(.s []),.aB,(nN 0),.aB,(.s []),(nN 0)]
noncomputable def fE:V:=(.s [112,97,98])
noncomputable def D6:List V:=[fE,(nN 2),(nN 0),(nN 1),(nN 1),(nN 1),.aB,.aB,.aB,.aB,(.s []),.aB,(nN 0),.aB,(.s []),(nN 0)]
noncomputable def alD:Nat×Obj:=(7,(.mp none [(aG,(.agg Fh)),(aH,(.agg D6))]))
noncomputable def tG:V:=(.s [110,97])
noncomputable def L6:List V:=[tG,(nN 1),(nN 1),(nN 1),.aB,.aB]
noncomputable def tH:V:=(.s [110,98])
noncomputable def PB:List V:=[tH,(nN 2),(nN 2),(nN 2),.aB,.aB]
noncomputable def kA:Nat×Obj:=(8,(.mp none [(aM,(.agg L6)),(aN,(.agg PB))]))
noncomputable def aW:Nat×Obj:=(9,(.mp (some .i64) [((nN 1),(.b true)),((nN 2),(.b true))]))
noncomputable def mX:V:=(.ms (.g 18) 3 0 1)
noncomputable def zJ:Nat×Obj:=(10,(.cs [(.b false),mX,(pG 3),(pG 4),(pG 6),(.ms (.g 46) 4 0 4),(mG 7),(mG 8),(mG 9)]))
noncomputable def aX:Nat×Obj:=(18,(.arr 3 [v24]))
noncomputable def kB:Nat×Obj:=(23,(.arr 3 [[aM,RW,(.b false)]]))
noncomputable def kC:Nat×Obj:=(30,(.arr 3 [[aN,RX,(.b false)]]))
noncomputable def kD:Nat×Obj:=(37,(.arr 3 [[aG,RY,(.b false)]]))
noncomputable def mY:List V:=[(nN 1),aM,RW,(.b false)]
noncomputable def mZ:List V:=[(nN 2),aN,RX,(.b false)]
noncomputable def m6:List V:=[(nN 3),aG,RY,(.b false)]
noncomputable def m7:List V:=[(nN 4),aH,R3,(.b false)]
noncomputable def alE:Nat×Obj:=(42,(.arr 4 [mY,mZ,m6,m7]))
noncomputable def kE:Nat×Obj:=(44,(.arr 3 [[aH,R3,(.b false)]]))
noncomputable def m8:List V:=[(nN 1),v14,.aB,(.ms (.g 23) 3 0 1)]
noncomputable def m9:List V:=[(nN 2),v14,.aB,(.ms (.g 30) 3 0 1)]
noncomputable def nA:List V:=[(nN 3),v14,.aB,v30]
noncomputable def nC:List V:=[(nN 4),v14,.aB,v32]
noncomputable def zK:Nat×Obj:=(46,(.arr 4 [m8,m9,nA,nC]))
noncomputable def R4:V:=(bR 62 0x135102483a8a28a00000000000000000100000000000100000001000000010000000000000000000000000000002e86b4385ecf18000000000000000005)
noncomputable def dH:List V:=[aG,(nN 6),R4]
noncomputable def R5:V:=(bR 62 0x13510bac707a97000000000000000000200000000000100000001000000010000000000000000000000000000002e70663843c8f4000000000000000005)
noncomputable def dP:List V:=[aH,(nN 7),R5]
noncomputable def vJ:List V:=[(.s [108]),(nN 36),v36]
noncomputable def R6:Obj:=(.mp none [(aM,(.agg cM)),(aN,(.agg cT)),(aG,(.agg dH)),(aH,(.agg dP)),((.s [108]),(.agg vJ))])
noncomputable def zL:Nat×Obj:=(1,(.mp none [(aM,(nN 1)),(aN,(nN 2)),(aG,(nN 6)),(aH,(nN 7)),((.s [108]),(nN 36))]))
noncomputable def zM:Nat×Obj:=(2,(.cs [(.ms (.g 44414) 4 0 36),(nN 64),(nN 0),(nN 36)]))
noncomputable def WU:Nat×Obj:=(3,(.cs [(nN 36),(mG 0),(mG 1),(pG 2),(nN 181),(nN 37)]))
noncomputable def bB:Nat×Obj:=(4,(.cs [(.ms (.g 577) 3 0 0),(nN 200)]))
noncomputable def Fi:Nat×Obj:=(5,(.arr 1 [[(nN 9000)]]))
noncomputable def Bs:List V:=[tE,(nN 1),(nN 0),(nN 1),(nN 1),(nN 1),.aB,.aB,.aB,.aB,(.s []),.aB,(nN 0),.aB,tH,(nN 5)]
noncomputable def Fj:List V:=[fE,(nN 2),(nN 0),(nN 1),(nN 1),(nN 1),.aB,.aB,.aB,.aB,(.s []),.aB,(nN 0),.aB,tG,(nN 5)]
noncomputable def nD:Nat×Obj:=(7,(.mp none [(aG,(.agg Bs)),(aH,(.agg Fj))]))
noncomputable def zN:Nat×Obj:=(10,(.cs [(.b false),mX,(pG 3),(pG 4),(pG 6),(.ms (.g 44418) 4 0 36),(mG 7),(mG 8),(mG 9)]))
noncomputable def zO:Nat×Obj:=(11,(.cs [(mG 445),(nN 36)]))
noncomputable def Fk:Nat×Obj:=(12,(.cs [(nN 0),(nN 180),(pG 11),(.b false),(nN 0),(nN 180),(nN 3),(.s []),(nN 36),.aB,.aB,(nN 8950),(nN 1)]))
noncomputable def zP:Nat×Obj:=(13,(.cs [(nN 0),(.b true),(.b true),(nN 36),(nN 0),(nN 1000),(nN 8750),(.b false),(nN 8750),(nN 36),(nN 8750)]))
noncomputable def iF:V:=(.sl none 6 [L6,PB])
noncomputable def WV:V:=(.ms (.g 45234) 16 0 2)
noncomputable def arB:Nat×Obj:=(14,(.cs [.aB,iF,WV,(.b true)]))
noncomputable def qA:V:=(.ms (.g 2761) 6 0 2)
noncomputable def zQ:Nat×Obj:=(16,(.cs [(nN 0),(.b false),(nN 0),(pG 12),(pG 13),(pG 14),(pG 2504),qA,(nN 66),(nN 0),(nN 3),(nN 0),(nN 8750),(nN 0),(nN 250),fE,(.b true),(nN 36)]))
noncomputable def mD:Nat×Obj:=(1652,(.arr 3 [[aG,R4,(.b false)]]))
noncomputable def bD:Nat×Obj:=(2504,(.cs [(.ms (.g 2508) 6 0 0)]))
noncomputable def arC:List V:=[tE,tH,.aB,(nN 1),(nN 5),(nN 350)]
noncomputable def bE:Nat×Obj:=(2761,(.arr 6 [arC,[fE,tG,.aB,(nN 2),(nN 5),(nN 450)]]))
noncomputable def nE:Nat×Obj:=(3031,(.arr 3 [[aH,R5,(.b false)]]))
noncomputable def pR:List V:=[(nN 6),aG,R4,(.b false)]
noncomputable def qB:List V:=[(nN 7),aH,R5,(.b false)]
noncomputable def hU:List V:=[(nN 28),(.s [108]),v36,(.b false)]
noncomputable def jH:List V:=[(nN 29),(.s [108]),v36,(.b false)]
noncomputable def mE:List V:=[(nN 30),(.s [108]),v36,(.b false)]
noncomputable def mF:List V:=[(nN 31),(.s [108]),v36,(.b false)]
noncomputable def sA:List V:=[(nN 32),(.s [108]),v36,(.b false)]
noncomputable def zR:List V:=[(nN 33),(.s [108]),v36,(.b false)]
noncomputable def Fl:List V:=[(nN 34),(.s [108]),v36,(.b false)]
noncomputable def Fm:List V:=[(nN 35),(.s [108]),v36,(.b false)]
noncomputable def WW:List V:=[(nN 36),(.s [108]),v36,(.b false)]
noncomputable def alF:Nat×Obj:=(44414,(.arr 4 [mY,mZ,m6,m7,dC,pR,qB,v57,dV,eA,eB,eL,eT,v63,v64,fF,fR,gA,gB,gN,iL,jO,jP,lS,oT,rF,rG,hU,jH,mE,mF,sA,zR,Fl,Fm,WW]))
noncomputable def pS:List V:=[(nN 5),(nN 0),v77,(.ms (.g 753) 3 0 1)]
noncomputable def pT:List V:=[(nN 6),(nN 0),(.sl none 3 [v84,[aG,(nN 3),(.b false)],[aN,(nN 2),(.b false)],[v80,(nN 5),(.b true)],[v81,(nN 5),(.b true)]]),(.ms (.g 1652) 3 0 1)]
noncomputable def qC:List V:=[(nN 7),(nN 0),(.sl none 3 [v84,[aH,(nN 4),(.b false)],[aM,(nN 1),(.b false)],[v80,(nN 6),(.b true)],[v81,(nN 6),(.b true)]]),(.ms (.g 3031) 3 0 1)]
noncomputable def qD:List V:=[(nN 8),(nN 0),v85,(.ms (.g 3732) 3 0 1)]
noncomputable def rC:List V:=[(nN 9),(nN 0),v89,(.ms (.g 5185) 3 0 1)]
noncomputable def sB:List V:=[(nN 10),(nN 0),v91,(.ms (.g 6638) 3 0 1)]
noncomputable def sC:List V:=[(nN 11),(nN 0),v93,(.ms (.g 8091) 3 0 1)]
noncomputable def sZ:List V:=[(nN 12),(nN 0),v95,(.ms (.g 9544) 3 0 1)]
noncomputable def tI:List V:=[(nN 13),(nN 0),v97,(.ms (.g 10997) 3 0 1)]
noncomputable def vN:List V:=[(nN 14),(nN 0),v99,(.ms (.g 12450) 3 0 1)]
noncomputable def vO:List V:=[(nN 15),(nN 0),aqO,(.ms (.g 13903) 3 0 1)]
noncomputable def xP:List V:=[(nN 16),(nN 0),aqP,(.ms (.g 15356) 3 0 1)]
noncomputable def zS:List V:=[(nN 17),(nN 0),aqQ,(.ms (.g 16809) 3 0 1)]
noncomputable def AT:List V:=[(nN 18),(nN 0),aqR,(.ms (.g 18262) 3 0 1)]
noncomputable def AU:List V:=[(nN 19),(nN 0),aqS,(.ms (.g 19715) 3 0 1)]
noncomputable def Bt:List V:=[(nN 20),(nN 0),aqT,(.ms (.g 21168) 3 0 1)]
noncomputable def Cn:List V:=[(nN 21),(nN 0),aqU,(.ms (.g 22621) 3 0 1)]
noncomputable def D7:List V:=[(nN 22),(nN 0),aqV,(.ms (.g 24074) 3 0 1)]
noncomputable def D8:List V:=[(nN 23),(nN 0),aqW,(.ms (.g 25527) 3 0 1)]
noncomputable def Fo:List V:=[(nN 24),(nN 0),aqX,(.ms (.g 26980) 3 0 1)]
noncomputable def Jq:List V:=[(nN 25),(nN 0),aqY,(.ms (.g 28433) 3 0 1)]
noncomputable def L7:List V:=[(nN 26),(nN 0),alA,(.ms (.g 29886) 3 0 1)]
noncomputable def L8:List V:=[(nN 27),(nN 0),alB,(.ms (.g 31339) 3 0 1)]
noncomputable def PC:List V:=[(nN 28),(nN 0),(.sl none 3 [[(.s [108]),(nN 27),(.b false)]]),(.ms (.g 32792) 3 0 1)]
noncomputable def R7:List V:=[(nN 29),(nN 0),(.sl none 3 [[(.s [108]),(nN 28),(.b false)]]),(.ms (.g 34245) 3 0 1)]
noncomputable def WX:List V:=[(nN 30),(nN 0),(.sl none 3 [[(.s [108]),(nN 29),(.b false)]]),(.ms (.g 35698) 3 0 1)]
noncomputable def WY:List V:=[(nN 31),(nN 0),(.sl none 3 [[(.s [108]),(nN 30),(.b false)]]),(.ms (.g 37151) 3 0 1)]
noncomputable def agC:List V:=[(nN 32),(nN 0),(.sl none 3 [[(.s [108]),(nN 31),(.b false)]]),(.ms (.g 38604) 3 0 1)]
noncomputable def alG:List V:=[(nN 33),(nN 0),(.sl none 3 [[(.s [108]),(nN 32),(.b false)]]),(.ms (.g 40057) 3 0 1)]
noncomputable def arD:List V:=[(nN 34),(nN 0),(.sl none 3 [[(.s [108]),(nN 33),(.b false)]]),(.ms (.g 41510) 3 0 1)]
noncomputable def arE:List V:=[(nN 35),(nN 0),(.sl none 3 [[(.s [108]),(nN 34),(.b false)]]),(.ms (.g 42963) 3 0 1)]
noncomputable def zT:Nat×Obj:=(44418,(.arr 4 [m8,m9,nA,nC,pS,pT,qC,qD,rC,sB,sC,sZ,tI,vN,vO,xP,zS,AT,AU,Bt,Cn,D7,D8,Fo,Jq,L7,L8,PC,R7,WX,WY,agC,alG,arD,arE,[(nN 36),(nN 0),(.sl none 3 [[(.s [108]),(nN 35),(.b false)]]),(.ms (.g 44416) 3 0 1)]]))
noncomputable def pU:Obj:=(.arr 16 [Bs,Fj])
noncomputable def arF:Nat×Obj:=(45234,pU)
noncomputable def arG:Obj:=(.mp none [(aM,(.agg cM)),(aN,(.agg cT)),(aG,(.agg dH)),(aH,(.agg PA)),((.s [108]),(.agg l3))])
noncomputable def WZ:Nat×Obj:=(1,(.mp none [(aM,(nN 1)),(aN,(nN 2)),(aG,(nN 6)),(aH,(nN 4)),((.s [108]),(nN 5))]))
noncomputable def W0:Nat×Obj:=(2,(.cs [(.ms (.g 1650) 4 0 6),(nN 64),(nN 0),(nN 6)]))
noncomputable def W1:Nat×Obj:=(3,(.cs [(nN 6),(mG 0),(mG 1),(pG 2),(nN 6),(nN 7)]))
noncomputable def W2:Nat×Obj:=(5,(.arr 1 [[(nN 250)]]))
noncomputable def W3:Nat×Obj:=(10,(.cs [(.b false),mX,(pG 3),(pG 4),(pG 6),(.ms (.g 1654) 4 0 6),(mG 7),(mG 8),(mG 9)]))
noncomputable def W4:Nat×Obj:=(11,(.cs [(mG 445),(nN 6)]))
noncomputable def W5:Nat×Obj:=(12,(.cs [(nN 0),(nN 5),(pG 11),(.b false),(nN 0),(nN 5),(nN 3),(.s []),(nN 5),.aB,.aB,(nN 200),(nN 1)]))
noncomputable def W6:Nat×Obj:=(13,(.cs [(nN 0),(.b true),(.b true),(nN 5),(nN 0),(nN 1000),(nN 50),(.b false),(nN 50),(nN 5),(nN 50)]))
noncomputable def W7:V:=(.ms (.g 1860) 1 0 1)
noncomputable def W8:V:=(.ms (.g 1855) 16 0 2)
noncomputable def W9:Nat×Obj:=(16,(.cs [(nN 0),(.b false),(nN 0),(pG 12),(pG 13),(pG 14),(pG 2504),(.ms (.g 2510) 6 0 1),(nN 6),(nN 0),(nN 3),(nN 0),(nN 50),(nN 0),(nN 200),fE,(.b true),(nN 5)]))
noncomputable def Xa:Nat×Obj:=(1654,(.arr 4 [m8,m9,nA,nC,pS,pT]))
noncomputable def Xb:List V:=[tE,(nN 1),(nN 0),(nN 1),(nN 1),(nN 1),.aB,.aB,.aB,.aB,(.s []),.aB,(nN 0),.aB,tH,(nN 0)]
noncomputable def Xc:Nat×Obj:=(1860,(.arr 1 [[(pG 1858)]]))
noncomputable def Xd:Nat×Obj:=(2504,(.cs [(.ms (.g 2508) 6 0 1)]))
noncomputable def Fp:Obj:=(.arr 6 [arC])
noncomputable def arH:Obj:=(.mp none [(aM,(.agg cM)),(aN,(.agg cT)),(aG,(.agg dH)),(aH,(.agg dP)),((.s [108]),(.agg wZ))])
noncomputable def Xe:Nat×Obj:=(1,(.mp none [(aM,(nN 1)),(aN,(nN 2)),(aG,(nN 6)),(aH,(nN 7)),((.s [108]),(nN 8))]))
noncomputable def Xf:Nat×Obj:=(2,(.cs [(.ms (.g 3730) 4 0 8),(nN 64),(nN 0),(nN 8)]))
noncomputable def Xg:Nat×Obj:=(3,(.cs [(nN 8),(mG 0),(mG 1),(pG 2),(nN 11),(nN 9)]))
noncomputable def Xh:Nat×Obj:=(5,(.arr 1 [[(nN 500)]]))
noncomputable def Xi:Nat×Obj:=(10,(.cs [(.b false),mX,(pG 3),(pG 4),(pG 6),(.ms (.g 3734) 4 0 8),(mG 7),(mG 8),(mG 9)]))
noncomputable def Xj:Nat×Obj:=(11,(.cs [(mG 445),(nN 8)]))
noncomputable def Xk:Nat×Obj:=(12,(.cs [(nN 0),(nN 10),(pG 11),(.b false),(nN 0),(nN 10),(nN 3),(.s []),(nN 8),.aB,.aB,(nN 450),(nN 1)]))
noncomputable def Xl:Nat×Obj:=(13,(.cs [(nN 0),(.b true),(.b true),(nN 8),(nN 0),(nN 1000),(nN 350),(.b false),(nN 350),(nN 8),(nN 350)]))
noncomputable def Xm:V:=(.ms (.g 4164) 16 0 2)
noncomputable def Xn:Nat×Obj:=(16,(.cs [(nN 0),(.b false),(nN 0),(pG 12),(pG 13),(pG 14),(pG 2504),qA,(nN 10),(nN 0),(nN 3),(nN 0),(nN 350),(nN 0),(nN 250),fE,(.b true),(nN 8)]))
noncomputable def Xo:Nat×Obj:=(3734,(.arr 4 [m8,m9,nA,nC,pS,pT,qC,qD]))
noncomputable def arI:Obj:=(.mp none [(aM,(.agg cM)),(aN,(.agg cT)),(aG,(.agg dH)),(aH,(.agg dP)),((.s [108]),(.agg w6))])
noncomputable def Xp:Nat×Obj:=(1,(.mp none [(aM,(nN 1)),(aN,(nN 2)),(aG,(nN 6)),(aH,(nN 7)),((.s [108]),(nN 9))]))
noncomputable def Xq:Nat×Obj:=(2,(.cs [(.ms (.g 5183) 4 0 9),(nN 64),(nN 0),(nN 9)]))
noncomputable def Xr:Nat×Obj:=(3,(.cs [(nN 9),(mG 0),(mG 1),(pG 2),(nN 19),(nN 10)]))
noncomputable def Xs:Nat×Obj:=(5,(.arr 1 [[(nN 900)]]))
noncomputable def Xt:Nat×Obj:=(10,(.cs [(.b false),mX,(pG 3),(pG 4),(pG 6),(.ms (.g 5187) 4 0 9),(mG 7),(mG 8),(mG 9)]))
noncomputable def Xu:Nat×Obj:=(11,(.cs [(mG 445),(nN 9)]))
noncomputable def Xv:Nat×Obj:=(12,(.cs [(nN 0),(nN 18),(pG 11),(.b false),(nN 0),(nN 18),(nN 3),(.s []),(nN 9),.aB,.aB,(nN 850),(nN 1)]))
noncomputable def Xw:Nat×Obj:=(13,(.cs [(nN 0),(.b true),(.b true),(nN 9),(nN 0),(nN 1000),(nN 650),(.b false),(nN 650),(nN 9),(nN 650)]))
noncomputable def Xx:V:=(.ms (.g 6003) 16 0 2)
noncomputable def Xy:Nat×Obj:=(16,(.cs [(nN 0),(.b false),(nN 0),(pG 12),(pG 13),(pG 14),(pG 2504),qA,(nN 12),(nN 0),(nN 3),(nN 0),(nN 650),(nN 0),(nN 250),fE,(.b true),(nN 9)]))
noncomputable def Xz:Nat×Obj:=(5187,(.arr 4 [m8,m9,nA,nC,pS,pT,qC,qD,rC]))
noncomputable def XA:Nat×Obj:=(1,(.mp none [(aM,(nN 1)),(aN,(nN 2)),(aG,(nN 6)),(aH,(nN 7)),((.s [108]),(nN 11))]))
noncomputable def XB:Nat×Obj:=(2,(.cs [(.ms (.g 8089) 4 0 11),(nN 64),(nN 0),(nN 11)]))
noncomputable def XC:Nat×Obj:=(3,(.cs [(nN 11),(mG 0),(mG 1),(pG 2),(nN 27),(nN 12)]))
noncomputable def XD:Nat×Obj:=(5,(.arr 1 [[(nN 1300)]]))
noncomputable def XE:Nat×Obj:=(10,(.cs [(.b false),mX,(pG 3),(pG 4),(pG 6),(.ms (.g 8093) 4 0 11),(mG 7),(mG 8),(mG 9)]))
noncomputable def XF:Nat×Obj:=(11,(.cs [(mG 445),(nN 10)]))
noncomputable def XG:Nat×Obj:=(12,(.cs [(nN 0),(nN 26),(pG 11),(.b false),(nN 0),(nN 26),(nN 3),(.s []),(nN 10),.aB,.aB,(nN 1250),(nN 1)]))
noncomputable def XH:Nat×Obj:=(13,(.cs [(nN 0),(.b true),(.b true),(nN 11),(nN 0),(nN 1000),(nN 1250),(.b false),(nN 1250),(nN 11),(nN 1250)]))
noncomputable def XI:V:=(.ms (.g 7649) 16 0 2)
noncomputable def XJ:Nat×Obj:=(16,(.cs [(nN 0),(.b false),(nN 0),(pG 12),(pG 13),(pG 14),(pG 2504),qA,(nN 16),(nN 0),(nN 3),(nN 0),(nN 1250),(nN 0),(nN 250),fE,(.b true),(nN 10)]))
noncomputable def XK:Nat×Obj:=(8093,(.arr 4 [m8,m9,nA,nC,pS,pT,qC,qD,rC,sB,sC]))
noncomputable def arJ:Obj:=(.mp none [(aM,(.agg cM)),(aN,(.agg cT)),(aG,(.agg dH)),(aH,(.agg dP)),((.s [108]),(.agg w9))])
noncomputable def XL:Nat×Obj:=(1,(.mp none [(aM,(nN 1)),(aN,(nN 2)),(aG,(nN 6)),(aH,(nN 7)),((.s [108]),(nN 12))]))
noncomputable def XM:Nat×Obj:=(2,(.cs [(.ms (.g 9542) 4 0 12),(nN 64),(nN 0),(nN 12)]))
noncomputable def XN:Nat×Obj:=(3,(.cs [(nN 12),(mG 0),(mG 1),(pG 2),(nN 35),(nN 13)]))
noncomputable def XO:Nat×Obj:=(5,(.arr 1 [[(nN 1700)]]))
noncomputable def XP:Nat×Obj:=(10,(.cs [(.b false),mX,(pG 3),(pG 4),(pG 6),(.ms (.g 9546) 4 0 12),(mG 7),(mG 8),(mG 9)]))
noncomputable def XQ:Nat×Obj:=(11,(.cs [(mG 445),(nN 12)]))
noncomputable def XR:Nat×Obj:=(12,(.cs [(nN 0),(nN 34),(pG 11),(.b false),(nN 0),(nN 34),(nN 3),(.s []),(nN 12),.aB,.aB,(nN 1650),(nN 1)]))
noncomputable def XS:Nat×Obj:=(13,(.cs [(nN 0),(.b true),(.b true),(nN 12),(nN 0),(nN 1000),(nN 1550),(.b false),(nN 1550),(nN 12),(nN 1550)]))
noncomputable def XT:V:=(.ms (.g 9976) 16 0 2)
noncomputable def XU:Nat×Obj:=(16,(.cs [(nN 0),(.b false),(nN 0),(pG 12),(pG 13),(pG 14),(pG 2504),qA,(nN 18),(nN 0),(nN 3),(nN 0),(nN 1550),(nN 0),(nN 250),fE,(.b true),(nN 12)]))
noncomputable def XV:Nat×Obj:=(9546,(.arr 4 [m8,m9,nA,nC,pS,pT,qC,qD,rC,sB,sC,sZ]))
noncomputable def arK:Obj:=(.mp none [(aM,(.agg cM)),(aN,(.agg cT)),(aG,(.agg dH)),(aH,(.agg dP)),((.s [108]),(.agg xA))])
noncomputable def XW:Nat×Obj:=(1,(.mp none [(aM,(nN 1)),(aN,(nN 2)),(aG,(nN 6)),(aH,(nN 7)),((.s [108]),(nN 13))]))
noncomputable def XX:Nat×Obj:=(2,(.cs [(.ms (.g 10995) 4 0 13),(nN 64),(nN 0),(nN 13)]))
noncomputable def XY:Nat×Obj:=(3,(.cs [(nN 13),(mG 0),(mG 1),(pG 2),(nN 43),(nN 14)]))
noncomputable def XZ:Nat×Obj:=(5,(.arr 1 [[(nN 2100)]]))
noncomputable def X0:Nat×Obj:=(10,(.cs [(.b false),mX,(pG 3),(pG 4),(pG 6),(.ms (.g 10999) 4 0 13),(mG 7),(mG 8),(mG 9)]))
noncomputable def X1:Nat×Obj:=(11,(.cs [(mG 445),(nN 13)]))
noncomputable def X2:Nat×Obj:=(12,(.cs [(nN 0),(nN 42),(pG 11),(.b false),(nN 0),(nN 42),(nN 3),(.s []),(nN 13),.aB,.aB,(nN 2050),(nN 1)]))
noncomputable def X3:Nat×Obj:=(13,(.cs [(nN 0),(.b true),(.b true),(nN 13),(nN 0),(nN 1000),(nN 1850),(.b false),(nN 1850),(nN 13),(nN 1850)]))
noncomputable def X4:V:=(.ms (.g 11815) 16 0 2)
noncomputable def X5:Nat×Obj:=(16,(.cs [(nN 0),(.b false),(nN 0),(pG 12),(pG 13),(pG 14),(pG 2504),qA,(nN 20),(nN 0),(nN 3),(nN 0),(nN 1850),(nN 0),(nN 250),fE,(.b true),(nN 13)]))
noncomputable def X6:Nat×Obj:=(10999,(.arr 4 [m8,m9,nA,nC,pS,pT,qC,qD,rC,sB,sC,sZ,tI]))
noncomputable def X7:Nat×Obj:=(1,(.mp none [(aM,(nN 1)),(aN,(nN 2)),(aG,(nN 6)),(aH,(nN 7)),((.s [108]),(nN 15))]))
noncomputable def X8:Nat×Obj:=(2,(.cs [(.ms (.g 13901) 4 0 15),(nN 64),(nN 0),(nN 15)]))
noncomputable def X9:Nat×Obj:=(3,(.cs [(nN 15),(mG 0),(mG 1),(pG 2),(nN 51),(nN 16)]))
noncomputable def Ya:Nat×Obj:=(5,(.arr 1 [[(nN 2500)]]))
noncomputable def Yb:Nat×Obj:=(10,(.cs [(.b false),mX,(pG 3),(pG 4),(pG 6),(.ms (.g 13905) 4 0 15),(mG 7),(mG 8),(mG 9)]))
noncomputable def Yc:Nat×Obj:=(11,(.cs [(mG 445),(nN 14)]))
noncomputable def Yd:Nat×Obj:=(12,(.cs [(nN 0),(nN 50),(pG 11),(.b false),(nN 0),(nN 50),(nN 3),(.s []),(nN 14),.aB,.aB,(nN 2450),(nN 1)]))
noncomputable def Ye:Nat×Obj:=(13,(.cs [(nN 0),(.b true),(.b true),(nN 15),(nN 0),(nN 1000),(nN 2450),(.b false),(nN 2450),(nN 15),(nN 2450)]))
noncomputable def Yf:V:=(.ms (.g 13461) 16 0 2)
noncomputable def Yg:Nat×Obj:=(16,(.cs [(nN 0),(.b false),(nN 0),(pG 12),(pG 13),(pG 14),(pG 2504),qA,(nN 24),(nN 0),(nN 3),(nN 0),(nN 2450),(nN 0),(nN 250),fE,(.b true),(nN 14)]))
noncomputable def Yh:Nat×Obj:=(13905,(.arr 4 [m8,m9,nA,nC,pS,pT,qC,qD,rC,sB,sC,sZ,tI,vN,vO]))
noncomputable def arL:Obj:=(.mp none [(aM,(.agg cM)),(aN,(.agg cT)),(aG,(.agg dH)),(aH,(.agg dP)),((.s [108]),(.agg xD))])
noncomputable def Yi:Nat×Obj:=(1,(.mp none [(aM,(nN 1)),(aN,(nN 2)),(aG,(nN 6)),(aH,(nN 7)),((.s [108]),(nN 16))]))
noncomputable def Yj:Nat×Obj:=(2,(.cs [(.ms (.g 15354) 4 0 16),(nN 64),(nN 0),(nN 16)]))
noncomputable def Yk:Nat×Obj:=(3,(.cs [(nN 16),(mG 0),(mG 1),(pG 2),(nN 59),(nN 17)]))
noncomputable def Yl:Nat×Obj:=(5,(.arr 1 [[(nN 2900)]]))
noncomputable def Ym:Nat×Obj:=(10,(.cs [(.b false),mX,(pG 3),(pG 4),(pG 6),(.ms (.g 15358) 4 0 16),(mG 7),(mG 8),(mG 9)]))
noncomputable def Yn:Nat×Obj:=(11,(.cs [(mG 445),(nN 16)]))
noncomputable def Yo:Nat×Obj:=(12,(.cs [(nN 0),(nN 58),(pG 11),(.b false),(nN 0),(nN 58),(nN 3),(.s []),(nN 16),.aB,.aB,(nN 2850),(nN 1)]))
noncomputable def Yp:Nat×Obj:=(13,(.cs [(nN 0),(.b true),(.b true),(nN 16),(nN 0),(nN 1000),(nN 2750),(.b false),(nN 2750),(nN 16),(nN 2750)]))
noncomputable def Yq:V:=(.ms (.g 15788) 16 0 2)
noncomputable def Yr:Nat×Obj:=(16,(.cs [(nN 0),(.b false),(nN 0),(pG 12),(pG 13),(pG 14),(pG 2504),qA,(nN 26),(nN 0),(nN 3),(nN 0),(nN 2750),(nN 0),(nN 250),fE,(.b true),(nN 16)]))
noncomputable def Ys:Nat×Obj:=(15358,(.arr 4 [m8,m9,nA,nC,pS,pT,qC,qD,rC,sB,sC,sZ,tI,vN,vO,xP]))
noncomputable def arM:Obj:=(.mp none [(aM,(.agg cM)),(aN,(.agg cT)),(aG,(.agg dH)),(aH,(.agg dP)),((.s [108]),(.agg xF))])
noncomputable def Yt:Nat×Obj:=(1,(.mp none [(aM,(nN 1)),(aN,(nN 2)),(aG,(nN 6)),(aH,(nN 7)),((.s [108]),(nN 17))]))
noncomputable def Yu:Nat×Obj:=(2,(.cs [(.ms (.g 16807) 4 0 17),(nN 64),(nN 0),(nN 17)]))
noncomputable def Yv:Nat×Obj:=(3,(.cs [(nN 17),(mG 0),(mG 1),(pG 2),(nN 67),(nN 18)]))
noncomputable def Yw:Nat×Obj:=(5,(.arr 1 [[(nN 3300)]]))
noncomputable def Yx:Nat×Obj:=(10,(.cs [(.b false),mX,(pG 3),(pG 4),(pG 6),(.ms (.g 16811) 4 0 17),(mG 7),(mG 8),(mG 9)]))
noncomputable def Yy:Nat×Obj:=(11,(.cs [(mG 445),(nN 17)]))
noncomputable def Yz:Nat×Obj:=(12,(.cs [(nN 0),(nN 66),(pG 11),(.b false),(nN 0),(nN 66),(nN 3),(.s []),(nN 17),.aB,.aB,(nN 3250),(nN 1)]))
noncomputable def YA:Nat×Obj:=(13,(.cs [(nN 0),(.b true),(.b true),(nN 17),(nN 0),(nN 1000),(nN 3050),(.b false),(nN 3050),(nN 17),(nN 3050)]))
noncomputable def YB:V:=(.ms (.g 17627) 16 0 2)
noncomputable def YC:Nat×Obj:=(16,(.cs [(nN 0),(.b false),(nN 0),(pG 12),(pG 13),(pG 14),(pG 2504),qA,(nN 28),(nN 0),(nN 3),(nN 0),(nN 3050),(nN 0),(nN 250),fE,(.b true),(nN 17)]))
noncomputable def YD:Nat×Obj:=(16811,(.arr 4 [m8,m9,nA,nC,pS,pT,qC,qD,rC,sB,sC,sZ,tI,vN,vO,xP,zS]))
noncomputable def YE:Nat×Obj:=(1,(.mp none [(aM,(nN 1)),(aN,(nN 2)),(aG,(nN 6)),(aH,(nN 7)),((.s [108]),(nN 19))]))
noncomputable def YF:Nat×Obj:=(2,(.cs [(.ms (.g 19713) 4 0 19),(nN 64),(nN 0),(nN 19)]))
noncomputable def YG:Nat×Obj:=(3,(.cs [(nN 19),(mG 0),(mG 1),(pG 2),(nN 75),(nN 20)]))
noncomputable def YH:Nat×Obj:=(5,(.arr 1 [[(nN 3700)]]))
noncomputable def YI:Nat×Obj:=(10,(.cs [(.b false),mX,(pG 3),(pG 4),(pG 6),(.ms (.g 19717) 4 0 19),(mG 7),(mG 8),(mG 9)]))
noncomputable def YJ:Nat×Obj:=(11,(.cs [(mG 445),(nN 18)]))
noncomputable def YK:Nat×Obj:=(12,(.cs [(nN 0),(nN 74),(pG 11),(.b false),(nN 0),(nN 74),(nN 3),(.s []),(nN 18),.aB,.aB,(nN 3650),(nN 1)]))
noncomputable def YL:Nat×Obj:=(13,(.cs [(nN 0),(.b true),(.b true),(nN 19),(nN 0),(nN 1000),(nN 3650),(.b false),(nN 3650),(nN 19),(nN 3650)]))
noncomputable def YM:V:=(.ms (.g 19273) 16 0 2)
noncomputable def YN:Nat×Obj:=(16,(.cs [(nN 0),(.b false),(nN 0),(pG 12),(pG 13),(pG 14),(pG 2504),qA,(nN 32),(nN 0),(nN 3),(nN 0),(nN 3650),(nN 0),(nN 250),fE,(.b true),(nN 18)]))
noncomputable def YO:Nat×Obj:=(19717,(.arr 4 [m8,m9,nA,nC,pS,pT,qC,qD,rC,sB,sC,sZ,tI,vN,vO,xP,zS,AT,AU]))
noncomputable def arN:Obj:=(.mp none [(aM,(.agg cM)),(aN,(.agg cT)),(aG,(.agg dH)),(aH,(.agg dP)),((.s [108]),(.agg xI))])
noncomputable def YP:Nat×Obj:=(1,(.mp none [(aM,(nN 1)),(aN,(nN 2)),(aG,(nN 6)),(aH,(nN 7)),((.s [108]),(nN 20))]))
noncomputable def YQ:Nat×Obj:=(2,(.cs [(.ms (.g 21166) 4 0 20),(nN 64),(nN 0),(nN 20)]))
noncomputable def YR:Nat×Obj:=(3,(.cs [(nN 20),(mG 0),(mG 1),(pG 2),(nN 83),(nN 21)]))
noncomputable def YS:Nat×Obj:=(5,(.arr 1 [[(nN 4100)]]))
noncomputable def YT:Nat×Obj:=(10,(.cs [(.b false),mX,(pG 3),(pG 4),(pG 6),(.ms (.g 21170) 4 0 20),(mG 7),(mG 8),(mG 9)]))
noncomputable def YU:Nat×Obj:=(11,(.cs [(mG 445),(nN 20)]))
noncomputable def YV:Nat×Obj:=(12,(.cs [(nN 0),(nN 82),(pG 11),(.b false),(nN 0),(nN 82),(nN 3),(.s []),(nN 20),.aB,.aB,(nN 4050),(nN 1)]))
noncomputable def YW:Nat×Obj:=(13,(.cs [(nN 0),(.b true),(.b true),(nN 20),(nN 0),(nN 1000),(nN 3950),(.b false),(nN 3950),(nN 20),(nN 3950)]))
noncomputable def YX:V:=(.ms (.g 21600) 16 0 2)
noncomputable def YY:Nat×Obj:=(16,(.cs [(nN 0),(.b false),(nN 0),(pG 12),(pG 13),(pG 14),(pG 2504),qA,(nN 34),(nN 0),(nN 3),(nN 0),(nN 3950),(nN 0),(nN 250),fE,(.b true),(nN 20)]))
noncomputable def YZ:Nat×Obj:=(21170,(.arr 4 [m8,m9,nA,nC,pS,pT,qC,qD,rC,sB,sC,sZ,tI,vN,vO,xP,zS,AT,AU,Bt]))
noncomputable def arO:Obj:=(.mp none [(aM,(.agg cM)),(aN,(.agg cT)),(aG,(.agg dH)),(aH,(.agg dP)),((.s [108]),(.agg xJ))])
noncomputable def Y0:Nat×Obj:=(1,(.mp none [(aM,(nN 1)),(aN,(nN 2)),(aG,(nN 6)),(aH,(nN 7)),((.s [108]),(nN 21))]))
noncomputable def Y1:Nat×Obj:=(2,(.cs [(.ms (.g 22619) 4 0 21),(nN 64),(nN 0),(nN 21)]))
noncomputable def Y2:Nat×Obj:=(3,(.cs [(nN 21),(mG 0),(mG 1),(pG 2),(nN 91),(nN 22)]))
noncomputable def Y3:Nat×Obj:=(5,(.arr 1 [[(nN 4500)]]))
noncomputable def Y4:Nat×Obj:=(10,(.cs [(.b false),mX,(pG 3),(pG 4),(pG 6),(.ms (.g 22623) 4 0 21),(mG 7),(mG 8),(mG 9)]))
noncomputable def Y5:Nat×Obj:=(11,(.cs [(mG 445),(nN 21)]))
noncomputable def Y6:Nat×Obj:=(12,(.cs [(nN 0),(nN 90),(pG 11),(.b false),(nN 0),(nN 90),(nN 3),(.s []),(nN 21),.aB,.aB,(nN 4450),(nN 1)]))
noncomputable def Y7:Nat×Obj:=(13,(.cs [(nN 0),(.b true),(.b true),(nN 21),(nN 0),(nN 1000),(nN 4250),(.b false),(nN 4250),(nN 21),(nN 4250)]))
noncomputable def Y8:V:=(.ms (.g 23439) 16 0 2)
noncomputable def Y9:Nat×Obj:=(16,(.cs [(nN 0),(.b false),(nN 0),(pG 12),(pG 13),(pG 14),(pG 2504),qA,(nN 36),(nN 0),(nN 3),(nN 0),(nN 4250),(nN 0),(nN 250),fE,(.b true),(nN 21)]))
noncomputable def Za:Nat×Obj:=(22623,(.arr 4 [m8,m9,nA,nC,pS,pT,qC,qD,rC,sB,sC,sZ,tI,vN,vO,xP,zS,AT,AU,Bt,Cn]))
noncomputable def Zb:Nat×Obj:=(1,(.mp none [(aM,(nN 1)),(aN,(nN 2)),(aG,(nN 6)),(aH,(nN 7)),((.s [108]),(nN 23))]))
noncomputable def Zc:Nat×Obj:=(2,(.cs [(.ms (.g 25525) 4 0 23),(nN 64),(nN 0),(nN 23)]))
noncomputable def Zd:Nat×Obj:=(3,(.cs [(nN 23),(mG 0),(mG 1),(pG 2),(nN 99),(nN 24)]))
noncomputable def Ze:Nat×Obj:=(5,(.arr 1 [[(nN 4900)]]))
noncomputable def Zf:Nat×Obj:=(10,(.cs [(.b false),mX,(pG 3),(pG 4),(pG 6),(.ms (.g 25529) 4 0 23),(mG 7),(mG 8),(mG 9)]))
noncomputable def Zg:Nat×Obj:=(11,(.cs [(mG 445),(nN 22)]))
noncomputable def Zh:Nat×Obj:=(12,(.cs [(nN 0),(nN 98),(pG 11),(.b false),(nN 0),(nN 98),(nN 3),(.s []),(nN 22),.aB,.aB,(nN 4850),(nN 1)]))
noncomputable def Zi:Nat×Obj:=(13,(.cs [(nN 0),(.b true),(.b true),(nN 23),(nN 0),(nN 1000),(nN 4850),(.b false),(nN 4850),(nN 23),(nN 4850)]))
noncomputable def Zj:V:=(.ms (.g 25085) 16 0 2)
noncomputable def Zk:Nat×Obj:=(16,(.cs [(nN 0),(.b false),(nN 0),(pG 12),(pG 13),(pG 14),(pG 2504),qA,(nN 40),(nN 0),(nN 3),(nN 0),(nN 4850),(nN 0),(nN 250),fE,(.b true),(nN 22)]))
noncomputable def Zl:Nat×Obj:=(25529,(.arr 4 [m8,m9,nA,nC,pS,pT,qC,qD,rC,sB,sC,sZ,tI,vN,vO,xP,zS,AT,AU,Bt,Cn,D7,D8]))
noncomputable def arP:Obj:=(.mp none [(aM,(.agg cM)),(aN,(.agg cT)),(aG,(.agg dH)),(aH,(.agg dP)),((.s [108]),(.agg xM))])
noncomputable def Zm:Nat×Obj:=(1,(.mp none [(aM,(nN 1)),(aN,(nN 2)),(aG,(nN 6)),(aH,(nN 7)),((.s [108]),(nN 24))]))
noncomputable def Zn:Nat×Obj:=(2,(.cs [(.ms (.g 26978) 4 0 24),(nN 64),(nN 0),(nN 24)]))
noncomputable def Zo:Nat×Obj:=(3,(.cs [(nN 24),(mG 0),(mG 1),(pG 2),(nN 107),(nN 25)]))
noncomputable def Zp:Nat×Obj:=(5,(.arr 1 [[(nN 5300)]]))
noncomputable def Zq:Nat×Obj:=(10,(.cs [(.b false),mX,(pG 3),(pG 4),(pG 6),(.ms (.g 26982) 4 0 24),(mG 7),(mG 8),(mG 9)]))
noncomputable def Zr:Nat×Obj:=(11,(.cs [(mG 445),(nN 24)]))
noncomputable def Zs:Nat×Obj:=(12,(.cs [(nN 0),(nN 106),(pG 11),(.b false),(nN 0),(nN 106),(nN 3),(.s []),(nN 24),.aB,.aB,(nN 5250),(nN 1)]))
noncomputable def Zt:Nat×Obj:=(13,(.cs [(nN 0),(.b true),(.b true),(nN 24),(nN 0),(nN 1000),(nN 5150),(.b false),(nN 5150),(nN 24),(nN 5150)]))
noncomputable def Zu:V:=(.ms (.g 27412) 16 0 2)
noncomputable def Zv:Nat×Obj:=(16,(.cs [(nN 0),(.b false),(nN 0),(pG 12),(pG 13),(pG 14),(pG 2504),qA,(nN 42),(nN 0),(nN 3),(nN 0),(nN 5150),(nN 0),(nN 250),fE,(.b true),(nN 24)]))
noncomputable def Zw:Nat×Obj:=(26982,(.arr 4 [m8,m9,nA,nC,pS,pT,qC,qD,rC,sB,sC,sZ,tI,vN,vO,xP,zS,AT,AU,Bt,Cn,D7,D8,Fo]))
noncomputable def arQ:Obj:=(.mp none [(aM,(.agg cM)),(aN,(.agg cT)),(aG,(.agg dH)),(aH,(.agg dP)),((.s [108]),(.agg xO))])
noncomputable def Zx:Nat×Obj:=(1,(.mp none [(aM,(nN 1)),(aN,(nN 2)),(aG,(nN 6)),(aH,(nN 7)),((.s [108]),(nN 25))]))
noncomputable def Zy:Nat×Obj:=(2,(.cs [(.ms (.g 28431) 4 0 25),(nN 64),(nN 0),(nN 25)]))
noncomputable def Zz:Nat×Obj:=(3,(.cs [(nN 25),(mG 0),(mG 1),(pG 2),(nN 115),(nN 26)]))
noncomputable def ZA:Nat×Obj:=(5,(.arr 1 [[(nN 5700)]]))
noncomputable def ZB:Nat×Obj:=(10,(.cs [(.b false),mX,(pG 3),(pG 4),(pG 6),(.ms (.g 28435) 4 0 25),(mG 7),(mG 8),(mG 9)]))
noncomputable def ZC:Nat×Obj:=(11,(.cs [(mG 445),(nN 25)]))
noncomputable def ZD:Nat×Obj:=(12,(.cs [(nN 0),(nN 114),(pG 11),(.b false),(nN 0),(nN 114),(nN 3),(.s []),(nN 25),.aB,.aB,(nN 5650),(nN 1)]))
noncomputable def ZE:Nat×Obj:=(13,(.cs [(nN 0),(.b true),(.b true),(nN 25),(nN 0),(nN 1000),(nN 5450),(.b false),(nN 5450),(nN 25),(nN 5450)]))
noncomputable def ZF:V:=(.ms (.g 29251) 16 0 2)
noncomputable def ZG:Nat×Obj:=(16,(.cs [(nN 0),(.b false),(nN 0),(pG 12),(pG 13),(pG 14),(pG 2504),qA,(nN 44),(nN 0),(nN 3),(nN 0),(nN 5450),(nN 0),(nN 250),fE,(.b true),(nN 25)]))
noncomputable def ZH:Nat×Obj:=(28435,(.arr 4 [m8,m9,nA,nC,pS,pT,qC,qD,rC,sB,sC,sZ,tI,vN,vO,xP,zS,AT,AU,Bt,Cn,D7,D8,Fo,Jq]))
noncomputable def ZI:Nat×Obj:=(1,(.mp none [(aM,(nN 1)),(aN,(nN 2)),(aG,(nN 6)),(aH,(nN 7)),((.s [108]),(nN 27))]))
noncomputable def ZJ:Nat×Obj:=(2,(.cs [(.ms (.g 31337) 4 0 27),(nN 64),(nN 0),(nN 27)]))
noncomputable def ZK:Nat×Obj:=(3,(.cs [(nN 27),(mG 0),(mG 1),(pG 2),(nN 123),(nN 28)]))
noncomputable def ZL:Nat×Obj:=(5,(.arr 1 [[(nN 6100)]]))
noncomputable def ZM:Nat×Obj:=(10,(.cs [(.b false),mX,(pG 3),(pG 4),(pG 6),(.ms (.g 31341) 4 0 27),(mG 7),(mG 8),(mG 9)]))
noncomputable def ZN:Nat×Obj:=(11,(.cs [(mG 445),(nN 26)]))
noncomputable def ZO:Nat×Obj:=(12,(.cs [(nN 0),(nN 122),(pG 11),(.b false),(nN 0),(nN 122),(nN 3),(.s []),(nN 26),.aB,.aB,(nN 6050),(nN 1)]))
noncomputable def ZP:Nat×Obj:=(13,(.cs [(nN 0),(.b true),(.b true),(nN 27),(nN 0),(nN 1000),(nN 6050),(.b false),(nN 6050),(nN 27),(nN 6050)]))
noncomputable def ZQ:V:=(.ms (.g 30897) 16 0 2)
noncomputable def ZR:Nat×Obj:=(16,(.cs [(nN 0),(.b false),(nN 0),(pG 12),(pG 13),(pG 14),(pG 2504),qA,(nN 48),(nN 0),(nN 3),(nN 0),(nN 6050),(nN 0),(nN 250),fE,(.b true),(nN 26)]))
noncomputable def ZS:Nat×Obj:=(31341,(.arr 4 [m8,m9,nA,nC,pS,pT,qC,qD,rC,sB,sC,sZ,tI,vN,vO,xP,zS,AT,AU,Bt,Cn,D7,D8,Fo,Jq,L7,L8]))
noncomputable def Co:List V:=[(.s [108]),(nN 28),v36]
noncomputable def arR:Obj:=(.mp none [(aM,(.agg cM)),(aN,(.agg cT)),(aG,(.agg dH)),(aH,(.agg dP)),((.s [108]),(.agg Co))])
noncomputable def ZT:Nat×Obj:=(1,(.mp none [(aM,(nN 1)),(aN,(nN 2)),(aG,(nN 6)),(aH,(nN 7)),((.s [108]),(nN 28))]))
noncomputable def ZU:Nat×Obj:=(2,(.cs [(.ms (.g 32790) 4 0 28),(nN 64),(nN 0),(nN 28)]))
noncomputable def ZV:Nat×Obj:=(3,(.cs [(nN 28),(mG 0),(mG 1),(pG 2),(nN 131),(nN 29)]))
noncomputable def ZW:Nat×Obj:=(5,(.arr 1 [[(nN 6500)]]))
noncomputable def ZX:Nat×Obj:=(10,(.cs [(.b false),mX,(pG 3),(pG 4),(pG 6),(.ms (.g 32794) 4 0 28),(mG 7),(mG 8),(mG 9)]))
noncomputable def ZY:Nat×Obj:=(11,(.cs [(mG 445),(nN 28)]))
noncomputable def ZZ:Nat×Obj:=(12,(.cs [(nN 0),(nN 130),(pG 11),(.b false),(nN 0),(nN 130),(nN 3),(.s []),(nN 28),.aB,.aB,(nN 6450),(nN 1)]))
noncomputable def Z0:Nat×Obj:=(13,(.cs [(nN 0),(.b true),(.b true),(nN 28),(nN 0),(nN 1000),(nN 6350),(.b false),(nN 6350),(nN 28),(nN 6350)]))
noncomputable def Z1:V:=(.ms (.g 33224) 16 0 2)
noncomputable def Z2:Nat×Obj:=(16,(.cs [(nN 0),(.b false),(nN 0),(pG 12),(pG 13),(pG 14),(pG 2504),qA,(nN 50),(nN 0),(nN 3),(nN 0),(nN 6350),(nN 0),(nN 250),fE,(.b true),(nN 28)]))
noncomputable def Z3:Nat×Obj:=(32794,(.arr 4 [m8,m9,nA,nC,pS,pT,qC,qD,rC,sB,sC,sZ,tI,vN,vO,xP,zS,AT,AU,Bt,Cn,D7,D8,Fo,Jq,L7,L8,PC]))
noncomputable def Cp:List V:=[(.s [108]),(nN 29),v36]
noncomputable def arS:Obj:=(.mp none [(aM,(.agg cM)),(aN,(.agg cT)),(aG,(.agg dH)),(aH,(.agg dP)),((.s [108]),(.agg Cp))])
noncomputable def Z4:Nat×Obj:=(1,(.mp none [(aM,(nN 1)),(aN,(nN 2)),(aG,(nN 6)),(aH,(nN 7)),((.s [108]),(nN 29))]))
noncomputable def Z5:Nat×Obj:=(2,(.cs [(.ms (.g 34243) 4 0 29),(nN 64),(nN 0),(nN 29)]))
noncomputable def Z6:Nat×Obj:=(3,(.cs [(nN 29),(mG 0),(mG 1),(pG 2),(nN 139),(nN 30)]))
noncomputable def Z7:Nat×Obj:=(5,(.arr 1 [[(nN 6900)]]))
noncomputable def Z8:Nat×Obj:=(10,(.cs [(.b false),mX,(pG 3),(pG 4),(pG 6),(.ms (.g 34247) 4 0 29),(mG 7),(mG 8),(mG 9)]))
noncomputable def Z9:Nat×Obj:=(11,(.cs [(mG 445),(nN 29)]))
noncomputable def aaA:Nat×Obj:=(12,(.cs [(nN 0),(nN 138),(pG 11),(.b false),(nN 0),(nN 138),(nN 3),(.s []),(nN 29),.aB,.aB,(nN 6850),(nN 1)]))
noncomputable def aaB:Nat×Obj:=(13,(.cs [(nN 0),(.b true),(.b true),(nN 29),(nN 0),(nN 1000),(nN 6650),(.b false),(nN 6650),(nN 29),(nN 6650)]))
noncomputable def aaC:V:=(.ms (.g 35063) 16 0 2)
noncomputable def aaD:Nat×Obj:=(16,(.cs [(nN 0),(.b false),(nN 0),(pG 12),(pG 13),(pG 14),(pG 2504),qA,(nN 52),(nN 0),(nN 3),(nN 0),(nN 6650),(nN 0),(nN 250),fE,(.b true),(nN 29)]))
noncomputable def aaE:Nat×Obj:=(34247,(.arr 4 [m8,m9,nA,nC,pS,pT,qC,qD,rC,sB,sC,sZ,tI,vN,vO,xP,zS,AT,AU,Bt,Cn,D7,D8,Fo,Jq,L7,L8,PC,R7]))
noncomputable def Cq:List V:=[(.s [108]),(nN 31),v36]
noncomputable def aaF:Nat×Obj:=(1,(.mp none [(aM,(nN 1)),(aN,(nN 2)),(aG,(nN 6)),(aH,(nN 7)),((.s [108]),(nN 31))]))
noncomputable def aaG:Nat×Obj:=(2,(.cs [(.ms (.g 37149) 4 0 31),(nN 64),(nN 0),(nN 31)]))
noncomputable def aaH:Nat×Obj:=(3,(.cs [(nN 31),(mG 0),(mG 1),(pG 2),(nN 147),(nN 32)]))
noncomputable def aaI:Nat×Obj:=(5,(.arr 1 [[(nN 7300)]]))
noncomputable def aaJ:Nat×Obj:=(10,(.cs [(.b false),mX,(pG 3),(pG 4),(pG 6),(.ms (.g 37153) 4 0 31),(mG 7),(mG 8),(mG 9)]))
noncomputable def aaK:Nat×Obj:=(11,(.cs [(mG 445),(nN 30)]))
noncomputable def aaL:Nat×Obj:=(12,(.cs [(nN 0),(nN 146),(pG 11),(.b false),(nN 0),(nN 146),(nN 3),(.s []),(nN 30),.aB,.aB,(nN 7250),(nN 1)]))
noncomputable def aaM:Nat×Obj:=(13,(.cs [(nN 0),(.b true),(.b true),(nN 31),(nN 0),(nN 1000),(nN 7250),(.b false),(nN 7250),(nN 31),(nN 7250)]))
noncomputable def aaN:V:=(.ms (.g 36709) 16 0 2)
noncomputable def aaO:Nat×Obj:=(16,(.cs [(nN 0),(.b false),(nN 0),(pG 12),(pG 13),(pG 14),(pG 2504),qA,(nN 56),(nN 0),(nN 3),(nN 0),(nN 7250),(nN 0),(nN 250),fE,(.b true),(nN 30)]))
noncomputable def Cr:List V:=[(.s [108]),(nN 30),v36]
noncomputable def aaP:Nat×Obj:=(37153,(.arr 4 [m8,m9,nA,nC,pS,pT,qC,qD,rC,sB,sC,sZ,tI,vN,vO,xP,zS,AT,AU,Bt,Cn,D7,D8,Fo,Jq,L7,L8,PC,R7,WX,WY]))
noncomputable def Cs:List V:=[(.s [108]),(nN 32),v36]
noncomputable def arT:Obj:=(.mp none [(aM,(.agg cM)),(aN,(.agg cT)),(aG,(.agg dH)),(aH,(.agg dP)),((.s [108]),(.agg Cs))])
noncomputable def aaQ:Nat×Obj:=(1,(.mp none [(aM,(nN 1)),(aN,(nN 2)),(aG,(nN 6)),(aH,(nN 7)),((.s [108]),(nN 32))]))
noncomputable def aaR:Nat×Obj:=(2,(.cs [(.ms (.g 38602) 4 0 32),(nN 64),(nN 0),(nN 32)]))
noncomputable def aaS:Nat×Obj:=(3,(.cs [(nN 32),(mG 0),(mG 1),(pG 2),(nN 155),(nN 33)]))
noncomputable def aaT:Nat×Obj:=(5,(.arr 1 [[(nN 7700)]]))
noncomputable def aaU:Nat×Obj:=(10,(.cs [(.b false),mX,(pG 3),(pG 4),(pG 6),(.ms (.g 38606) 4 0 32),(mG 7),(mG 8),(mG 9)]))
noncomputable def aaV:Nat×Obj:=(11,(.cs [(mG 445),(nN 32)]))
noncomputable def aaW:Nat×Obj:=(12,(.cs [(nN 0),(nN 154),(pG 11),(.b false),(nN 0),(nN 154),(nN 3),(.s []),(nN 32),.aB,.aB,(nN 7650),(nN 1)]))
noncomputable def aaX:Nat×Obj:=(13,(.cs [(nN 0),(.b true),(.b true),(nN 32),(nN 0),(nN 1000),(nN 7550),(.b false),(nN 7550),(nN 32),(nN 7550)]))
noncomputable def aaY:V:=(.ms (.g 39036) 16 0 2)
noncomputable def aaZ:Nat×Obj:=(16,(.cs [(nN 0),(.b false),(nN 0),(pG 12),(pG 13),(pG 14),(pG 2504),qA,(nN 58),(nN 0),(nN 3),(nN 0),(nN 7550),(nN 0),(nN 250),fE,(.b true),(nN 32)]))
noncomputable def aa0:Nat×Obj:=(38606,(.arr 4 [m8,m9,nA,nC,pS,pT,qC,qD,rC,sB,sC,sZ,tI,vN,vO,xP,zS,AT,AU,Bt,Cn,D7,D8,Fo,Jq,L7,L8,PC,R7,WX,WY,agC]))
noncomputable def Ct:List V:=[(.s [108]),(nN 33),v36]
noncomputable def arU:Obj:=(.mp none [(aM,(.agg cM)),(aN,(.agg cT)),(aG,(.agg dH)),(aH,(.agg dP)),((.s [108]),(.agg Ct))])
noncomputable def aa1:Nat×Obj:=(1,(.mp none [(aM,(nN 1)),(aN,(nN 2)),(aG,(nN 6)),(aH,(nN 7)),((.s [108]),(nN 33))]))
noncomputable def aa2:Nat×Obj:=(2,(.cs [(.ms (.g 40055) 4 0 33),(nN 64),(nN 0),(nN 33)]))
noncomputable def aa3:Nat×Obj:=(3,(.cs [(nN 33),(mG 0),(mG 1),(pG 2),(nN 163),(nN 34)]))
noncomputable def aa4:Nat×Obj:=(5,(.arr 1 [[(nN 8100)]]))
noncomputable def aa5:Nat×Obj:=(10,(.cs [(.b false),mX,(pG 3),(pG 4),(pG 6),(.ms (.g 40059) 4 0 33),(mG 7),(mG 8),(mG 9)]))
noncomputable def aa6:Nat×Obj:=(11,(.cs [(mG 445),(nN 33)]))
noncomputable def aa7:Nat×Obj:=(12,(.cs [(nN 0),(nN 162),(pG 11),(.b false),(nN 0),(nN 162),(nN 3),(.s []),(nN 33),.aB,.aB,(nN 8050),(nN 1)]))
noncomputable def aa8:Nat×Obj:=(13,(.cs [(nN 0),(.b true),(.b true),(nN 33),(nN 0),(nN 1000),(nN 7850),(.b false),(nN 7850),(nN 33),(nN 7850)]))
noncomputable def aa9:V:=(.ms (.g 40875) 16 0 2)
noncomputable def abA:Nat×Obj:=(16,(.cs [(nN 0),(.b false),(nN 0),(pG 12),(pG 13),(pG 14),(pG 2504),qA,(nN 60),(nN 0),(nN 3),(nN 0),(nN 7850),(nN 0),(nN 250),fE,(.b true),(nN 33)]))
noncomputable def abB:Nat×Obj:=(40059,(.arr 4 [m8,m9,nA,nC,pS,pT,qC,qD,rC,sB,sC,sZ,tI,vN,vO,xP,zS,AT,AU,Bt,Cn,D7,D8,Fo,Jq,L7,L8,PC,R7,WX,WY,agC,alG]))
noncomputable def Cu:List V:=[(.s [108]),(nN 35),v36]
noncomputable def abC:Nat×Obj:=(1,(.mp none [(aM,(nN 1)),(aN,(nN 2)),(aG,(nN 6)),(aH,(nN 7)),((.s [108]),(nN 35))]))
noncomputable def abD:Nat×Obj:=(2,(.cs [(.ms (.g 42961) 4 0 35),(nN 64),(nN 0),(nN 35)]))
noncomputable def abE:Nat×Obj:=(3,(.cs [(nN 35),(mG 0),(mG 1),(pG 2),(nN 171),(nN 36)]))
noncomputable def abF:Nat×Obj:=(5,(.arr 1 [[(nN 8500)]]))
noncomputable def abG:Nat×Obj:=(10,(.cs [(.b false),mX,(pG 3),(pG 4),(pG 6),(.ms (.g 42965) 4 0 35),(mG 7),(mG 8),(mG 9)]))
noncomputable def abH:Nat×Obj:=(11,(.cs [(mG 445),(nN 34)]))
noncomputable def abI:Nat×Obj:=(12,(.cs [(nN 0),(nN 170),(pG 11),(.b false),(nN 0),(nN 170),(nN 3),(.s []),(nN 34),.aB,.aB,(nN 8450),(nN 1)]))
noncomputable def abJ:Nat×Obj:=(13,(.cs [(nN 0),(.b true),(.b true),(nN 35),(nN 0),(nN 1000),(nN 8450),(.b false),(nN 8450),(nN 35),(nN 8450)]))
noncomputable def abK:V:=(.ms (.g 42521) 16 0 2)
noncomputable def abL:Nat×Obj:=(16,(.cs [(nN 0),(.b false),(nN 0),(pG 12),(pG 13),(pG 14),(pG 2504),qA,(nN 64),(nN 0),(nN 3),(nN 0),(nN 8450),(nN 0),(nN 250),fE,(.b true),(nN 34)]))
noncomputable def Cv:List V:=[(.s [108]),(nN 34),v36]
noncomputable def abM:Nat×Obj:=(42965,(.arr 4 [m8,m9,nA,nC,pS,pT,qC,qD,rC,sB,sC,sZ,tI,vN,vO,xP,zS,AT,AU,Bt,Cn,D7,D8,Fo,Jq,L7,L8,PC,R7,WX,WY,agC,alG,arD,arE]))
noncomputable def abN:Nat×Obj:=(3,(.cs [(nN 36),(mG 0),(mG 1),(pG 2),(nN 179),(nN 37)]))
noncomputable def abO:Nat×Obj:=(5,(.arr 1 [[(nN 8900)]]))
noncomputable def abP:Nat×Obj:=(12,(.cs [(nN 0),(nN 178),(pG 11),(.b false),(nN 0),(nN 178),(nN 3),(.s []),(nN 36),.aB,.aB,(nN 8850),(nN 1)]))
noncomputable def abQ:V:=(.ms (.g 44848) 16 0 2)
noncomputable def R8:V:=(bR 23 0x22e70663843c8f4000000000300000003000000030000)
noncomputable def cN:List V:=[aM,(nN 1),R8]
noncomputable def R9:V:=(bR 23 0x22e86b4385ecf18000000000400000004000000040000)
noncomputable def cU:List V:=[aN,(nN 2),R9]
noncomputable def Sa:V:=(bR 62 0x135102483a8a28a000000000000000001000000000002000000020000000200000000000000000000000000000000000000000000000000000000000000)
noncomputable def Sb:List V:=[aG,(nN 3),Sa]
noncomputable def Sc:V:=(bR 62 0x13510bac707a970000000000000000002000000000002000000020000000200000000000000000000000000000000000000000000000000000000000000)
noncomputable def PD:List V:=[aH,(nN 4),Sc]
noncomputable def alH:Nat×Obj:=(0,(.mp none [(aM,(.agg cN)),(aN,(.agg cU)),(aG,(.agg Sb)),(aH,(.agg PD))]))
noncomputable def Fq:List V:=[tE,(nN 1),(nN 0),(nN 2),(nN 2),(nN 2),.aB,.aB,.aB,.aB,(.s []),.aB,(nN 0),.aB,(.s []),(nN 0)]
noncomputable def D9:List V:=[fE,(nN 2),(nN 0),(nN 2),(nN 2),(nN 2),.aB,.aB,.aB,.aB,(.s []),.aB,(nN 0),.aB,(.s []),(nN 0)]
noncomputable def alI:Nat×Obj:=(7,(.mp none [(aG,(.agg Fq)),(aH,(.agg D9))]))
noncomputable def L9:List V:=[tG,(nN 3),(nN 3),(nN 3),.aB,.aB]
noncomputable def PE:List V:=[tH,(nN 4),(nN 4),(nN 4),.aB,.aB]
noncomputable def kG:Nat×Obj:=(8,(.mp none [(aM,(.agg L9)),(aN,(.agg PE))]))
noncomputable def kH:Nat×Obj:=(23,(.arr 3 [[aM,R8,(.b false)]]))
noncomputable def kJ:Nat×Obj:=(30,(.arr 3 [[aN,R9,(.b false)]]))
noncomputable def kK:Nat×Obj:=(37,(.arr 3 [[aG,Sa,(.b false)]]))
noncomputable def nF:List V:=[(nN 1),aM,R8,(.b false)]
noncomputable def nG:List V:=[(nN 2),aN,R9,(.b false)]
noncomputable def nH:List V:=[(nN 3),aG,Sa,(.b false)]
noncomputable def nI:List V:=[(nN 4),aH,Sc,(.b false)]
noncomputable def alJ:Nat×Obj:=(42,(.arr 4 [nF,nG,nH,nI]))
noncomputable def kL:Nat×Obj:=(44,(.arr 3 [[aH,Sc,(.b false)]]))
noncomputable def Se:V:=(bR 62 0x135102483a8a28a00000000000000000100000000000200000002000000020000000000000000000000000000002e86b4385ecf18000000000000000005)
noncomputable def dI:List V:=[aG,(nN 6),Se]
noncomputable def Sf:V:=(bR 62 0x13510bac707a97000000000000000000200000000000200000002000000020000000000000000000000000000002e70663843c8f4000000000000000005)
noncomputable def dQ:List V:=[aH,(nN 7),Sf]
noncomputable def Sg:Obj:=(.mp none [(aM,(.agg cN)),(aN,(.agg cU)),(aG,(.agg dI)),(aH,(.agg dQ)),((.s [108]),(.agg vJ))])
noncomputable def Bu:List V:=[tE,(nN 1),(nN 0),(nN 2),(nN 2),(nN 2),.aB,.aB,.aB,.aB,(.s []),.aB,(nN 0),.aB,tH,(nN 5)]
noncomputable def Fs:List V:=[fE,(nN 2),(nN 0),(nN 2),(nN 2),(nN 2),.aB,.aB,.aB,.aB,(.s []),.aB,(nN 0),.aB,tG,(nN 5)]
noncomputable def nJ:Nat×Obj:=(7,(.mp none [(aG,(.agg Bu)),(aH,(.agg Fs))]))
noncomputable def iG:V:=(.sl none 6 [L9,PE])
noncomputable def arV:Nat×Obj:=(14,(.cs [.aB,iG,WV,(.b true)]))
noncomputable def mH:Nat×Obj:=(1652,(.arr 3 [[aG,Se,(.b false)]]))
noncomputable def nK:Nat×Obj:=(3031,(.arr 3 [[aH,Sf,(.b false)]]))
noncomputable def pV:List V:=[(nN 6),aG,Se,(.b false)]
noncomputable def qE:List V:=[(nN 7),aH,Sf,(.b false)]
noncomputable def alK:Nat×Obj:=(44414,(.arr 4 [nF,nG,nH,nI,dC,pV,qE,v57,dV,eA,eB,eL,eT,v63,v64,fF,fR,gA,gB,gN,iL,jO,jP,lS,oT,rF,rG,hU,jH,mE,mF,sA,zR,Fl,Fm,WW]))
noncomputable def pW:Obj:=(.arr 16 [Bu,Fs])
noncomputable def arW:Nat×Obj:=(45234,pW)
noncomputable def arX:Obj:=(.mp none [(aM,(.agg cN)),(aN,(.agg cU)),(aG,(.agg dI)),(aH,(.agg PD)),((.s [108]),(.agg l3))])
noncomputable def abR:List V:=[tE,(nN 1),(nN 0),(nN 2),(nN 2),(nN 2),.aB,.aB,.aB,.aB,(.s []),.aB,(nN 0),.aB,tH,(nN 0)]
noncomputable def arY:Obj:=(.mp none [(aM,(.agg cN)),(aN,(.agg cU)),(aG,(.agg dI)),(aH,(.agg dQ)),((.s [108]),(.agg wZ))])
noncomputable def arZ:Obj:=(.mp none [(aM,(.agg cN)),(aN,(.agg cU)),(aG,(.agg dI)),(aH,(.agg dQ)),((.s [108]),(.agg w6))])
noncomputable def ar0:Obj:=(.mp none [(aM,(.agg cN)),(aN,(.agg cU)),(aG,(.agg dI)),(aH,(.agg dQ)),((.s [108]),(.agg w9))])
noncomputable def ar1:Obj:=(.mp none [(aM,(.agg cN)),(aN,(.agg cU)),(aG,(.agg dI)),(aH,(.agg dQ)),((.s [108]),(.agg xA))])
noncomputable def ar2:Obj:=(.mp none [(aM,(.agg cN)),(aN,(.agg cU)),(aG,(.agg dI)),(aH,(.agg dQ)),((.s [108]),(.agg xD))])
noncomputable def ar3:Obj:=(.mp none [(aM,(.agg cN)),(aN,(.agg cU)),(aG,(.agg dI)),(aH,(.agg dQ)),((.s [108]),(.agg xF))])
noncomputable def ar4:Obj:=(.mp none [(aM,(.agg cN)),(aN,(.agg cU)),(aG,(.agg dI)),(aH,(.agg dQ)),((.s [108]),(.agg xI))])
noncomputable def ar5:Obj:=(.mp none [(aM,(.agg cN)),(aN,(.agg cU)),(aG,(.agg dI)),(aH,(.agg dQ)),((.s [108]),(.agg xJ))])
noncomputable def ar6:Obj:=(.mp none [(aM,(.agg cN)),(aN,(.agg cU)),(aG,(.agg dI)),(aH,(.agg dQ)),((.s [108]),(.agg xM))])
noncomputable def ar7:Obj:=(.mp none [(aM,(.agg cN)),(aN,(.agg cU)),(aG,(.agg dI)),(aH,(.agg dQ)),((.s [108]),(.agg xO))])
noncomputable def ar8:Obj:=(.mp none [(aM,(.agg cN)),(aN,(.agg cU)),(aG,(.agg dI)),(aH,(.agg dQ)),((.s [108]),(.agg Co))])
noncomputable def ar9:Obj:=(.mp none [(aM,(.agg cN)),(aN,(.agg cU)),(aG,(.agg dI)),(aH,(.agg dQ)),((.s [108]),(.agg Cp))])
noncomputable def asA:Obj:=(.mp none [(aM,(.agg cN)),(aN,(.agg cU)),(aG,(.agg dI)),(aH,(.agg dQ)),((.s [108]),(.agg Cs))])
noncomputable def asB:Obj:=(.mp none [(aM,(.agg cN)),(aN,(.agg cU)),(aG,(.agg dI)),(aH,(.agg dQ)),((.s [108]),(.agg Ct))])
noncomputable def Si:V:=(bR 23 0x22e70663843c8f4000000000500000005000000050000)
noncomputable def cO:List V:=[aM,(nN 1),Si]
noncomputable def Sj:V:=(bR 23 0x22e86b4385ecf18000000000600000006000000060000)
noncomputable def cV:List V:=[aN,(nN 2),Sj]
noncomputable def Sk:V:=(bR 62 0x135102483a8a28a000000000000000001000000000003000000030000000300000000000000000000000000000000000000000000000000000000000000)
noncomputable def Sl:List V:=[aG,(nN 3),Sk]
noncomputable def Sm:V:=(bR 62 0x13510bac707a970000000000000000002000000000003000000030000000300000000000000000000000000000000000000000000000000000000000000)
noncomputable def PF:List V:=[aH,(nN 4),Sm]
noncomputable def alL:Nat×Obj:=(0,(.mp none [(aM,(.agg cO)),(aN,(.agg cV)),(aG,(.agg Sl)),(aH,(.agg PF))]))
noncomputable def Ft:List V:=[tE,(nN 1),(nN 0),(nN 3),(nN 3),(nN 3),.aB,.aB,.aB,.aB,(.s []),.aB,(nN 0),.aB,(.s []),(nN 0)]
noncomputable def Ea:List V:=[fE,(nN 2),(nN 0),(nN 3),(nN 3),(nN 3),.aB,.aB,.aB,.aB,(.s []),.aB,(nN 0),.aB,(.s []),(nN 0)]
noncomputable def alM:Nat×Obj:=(7,(.mp none [(aG,(.agg Ft)),(aH,(.agg Ea))]))
noncomputable def Ma:List V:=[tG,(nN 5),(nN 5),(nN 5),.aB,.aB]
noncomputable def PG:List V:=[tH,(nN 6),(nN 6),(nN 6),.aB,.aB]
noncomputable def kM:Nat×Obj:=(8,(.mp none [(aM,(.agg Ma)),(aN,(.agg PG))]))
noncomputable def kN:Nat×Obj:=(23,(.arr 3 [[aM,Si,(.b false)]]))
noncomputable def kO:Nat×Obj:=(30,(.arr 3 [[aN,Sj,(.b false)]]))
noncomputable def kP:Nat×Obj:=(37,(.arr 3 [[aG,Sk,(.b false)]]))
noncomputable def nL:List V:=[(nN 1),aM,Si,(.b false)]
noncomputable def nM:List V:=[(nN 2),aN,Sj,(.b false)]
noncomputable def nO:List V:=[(nN 3),aG,Sk,(.b false)]
noncomputable def nP:List V:=[(nN 4),aH,Sm,(.b false)]
noncomputable def alN:Nat×Obj:=(42,(.arr 4 [nL,nM,nO,nP]))
noncomputable def kQ:Nat×Obj:=(44,(.arr 3 [[aH,Sm,(.b false)]]))
noncomputable def Sn:V:=(bR 62 0x135102483a8a28a00000000000000000100000000000300000003000000030000000000000000000000000000002e86b4385ecf18000000000000000005)
noncomputable def dJ:List V:=[aG,(nN 6),Sn]
noncomputable def Sp:V:=(bR 62 0x13510bac707a97000000000000000000200000000000300000003000000030000000000000000000000000000002e70663843c8f4000000000000000005)
noncomputable def dR:List V:=[aH,(nN 7),Sp]
noncomputable def Sq:Obj:=(.mp none [(aM,(.agg cO)),(aN,(.agg cV)),(aG,(.agg dJ)),(aH,(.agg dR)),((.s [108]),(.agg vJ))])
noncomputable def Bv:List V:=[tE,(nN 1),(nN 0),(nN 3),(nN 3),(nN 3),.aB,.aB,.aB,.aB,(.s []),.aB,(nN 0),.aB,tH,(nN 5)]
noncomputable def Fu:List V:=[fE,(nN 2),(nN 0),(nN 3),(nN 3),(nN 3),.aB,.aB,.aB,.aB,(.s []),.aB,(nN 0),.aB,tG,(nN 5)]
noncomputable def nR:Nat×Obj:=(7,(.mp none [(aG,(.agg Bv)),(aH,(.agg Fu))]))
noncomputable def iH:V:=(.sl none 6 [Ma,PG])
noncomputable def asC:Nat×Obj:=(14,(.cs [.aB,iH,WV,(.b true)]))
noncomputable def mI:Nat×Obj:=(1652,(.arr 3 [[aG,Sn,(.b false)]]))
noncomputable def nS:Nat×Obj:=(3031,(.arr 3 [[aH,Sp,(.b false)]]))
noncomputable def pX:List V:=[(nN 6),aG,Sn,(.b false)]
noncomputable def qF:List V:=[(nN 7),aH,Sp,(.b false)]
noncomputable def alO:Nat×Obj:=(44414,(.arr 4 [nL,nM,nO,nP,dC,pX,qF,v57,dV,eA,eB,eL,eT,v63,v64,fF,fR,gA,gB,gN,iL,jO,jP,lS,oT,rF,rG,hU,jH,mE,mF,sA,zR,Fl,Fm,WW]))
noncomputable def pY:Obj:=(.arr 16 [Bv,Fu])
noncomputable def asD:Nat×Obj:=(45234,pY)
noncomputable def asE:Obj:=(.mp none [(aM,(.agg cO)),(aN,(.agg cV)),(aG,(.agg dJ)),(aH,(.agg PF)),((.s [108]),(.agg l3))])
noncomputable def abS:List V:=[tE,(nN 1),(nN 0),(nN 3),(nN 3),(nN 3),.aB,.aB,.aB,.aB,(.s []),.aB,(nN 0),.aB,tH,(nN 0)]
noncomputable def asF:Obj:=(.mp none [(aM,(.agg cO)),(aN,(.agg cV)),(aG,(.agg dJ)),(aH,(.agg dR)),((.s [108]),(.agg wZ))])
noncomputable def asG:Obj:=(.mp none [(aM,(.agg cO)),(aN,(.agg cV)),(aG,(.agg dJ)),(aH,(.agg dR)),((.s [108]),(.agg w6))])
noncomputable def asH:Obj:=(.mp none [(aM,(.agg cO)),(aN,(.agg cV)),(aG,(.agg dJ)),(aH,(.agg dR)),((.s [108]),(.agg w9))])
noncomputable def asI:Obj:=(.mp none [(aM,(.agg cO)),(aN,(.agg cV)),(aG,(.agg dJ)),(aH,(.agg dR)),((.s [108]),(.agg xA))])
noncomputable def asJ:Obj:=(.mp none [(aM,(.agg cO)),(aN,(.agg cV)),(aG,(.agg dJ)),(aH,(.agg dR)),((.s [108]),(.agg xD))])
noncomputable def asK:Obj:=(.mp none [(aM,(.agg cO)),(aN,(.agg cV)),(aG,(.agg dJ)),(aH,(.agg dR)),((.s [108]),(.agg xF))])
noncomputable def asL:Obj:=(.mp none [(aM,(.agg cO)),(aN,(.agg cV)),(aG,(.agg dJ)),(aH,(.agg dR)),((.s [108]),(.agg xI))])
noncomputable def asM:Obj:=(.mp none [(aM,(.agg cO)),(aN,(.agg cV)),(aG,(.agg dJ)),(aH,(.agg dR)),((.s [108]),(.agg xJ))])
noncomputable def asN:Obj:=(.mp none [(aM,(.agg cO)),(aN,(.agg cV)),(aG,(.agg dJ)),(aH,(.agg dR)),((.s [108]),(.agg xM))])
noncomputable def asO:Obj:=(.mp none [(aM,(.agg cO)),(aN,(.agg cV)),(aG,(.agg dJ)),(aH,(.agg dR)),((.s [108]),(.agg xO))])
noncomputable def asP:Obj:=(.mp none [(aM,(.agg cO)),(aN,(.agg cV)),(aG,(.agg dJ)),(aH,(.agg dR)),((.s [108]),(.agg Co))])
noncomputable def asQ:Obj:=(.mp none [(aM,(.agg cO)),(aN,(.agg cV)),(aG,(.agg dJ)),(aH,(.agg dR)),((.s [108]),(.agg Cp))])
noncomputable def asR:Obj:=(.mp none [(aM,(.agg cO)),(aN,(.agg cV)),(aG,(.agg dJ)),(aH,(.agg dR)),((.s [108]),(.agg Cs))])
noncomputable def asS:Obj:=(.mp none [(aM,(.agg cO)),(aN,(.agg cV)),(aG,(.agg dJ)),(aH,(.agg dR)),((.s [108]),(.agg Ct))])
noncomputable def Sr:V:=(bR 23 0x22e70663843c8f4000000000700000007000000070000)
noncomputable def cP:List V:=[aM,(nN 1),Sr]
noncomputable def Ss:V:=(bR 23 0x22e86b4385ecf18000000000800000008000000080000)
noncomputable def cW:List V:=[aN,(nN 2),Ss]
noncomputable def Su:V:=(bR 62 0x135102483a8a28a000000000000000001000000000004000000040000000400000000000000000000000000000000000000000000000000000000000000)
noncomputable def Sv:List V:=[aG,(nN 3),Su]
noncomputable def Sw:V:=(bR 62 0x13510bac707a970000000000000000002000000000004000000040000000400000000000000000000000000000000000000000000000000000000000000)
noncomputable def PH:List V:=[aH,(nN 4),Sw]
noncomputable def alP:Nat×Obj:=(0,(.mp none [(aM,(.agg cP)),(aN,(.agg cW)),(aG,(.agg Sv)),(aH,(.agg PH))]))
noncomputable def Fv:List V:=[tE,(nN 1),(nN 0),(nN 4),(nN 4),(nN 4),.aB,.aB,.aB,.aB,(.s []),.aB,(nN 0),.aB,(.s []),(nN 0)]
noncomputable def Eb:List V:=[fE,(nN 2),(nN 0),(nN 4),(nN 4),(nN 4),.aB,.aB,.aB,.aB,(.s []),.aB,(nN 0),.aB,(.s []),(nN 0)]
noncomputable def alQ:Nat×Obj:=(7,(.mp none [(aG,(.agg Fv)),(aH,(.agg Eb))]))
noncomputable def Mb:List V:=[tG,(nN 7),(nN 7),(nN 7),.aB,.aB]
noncomputable def PI:List V:=[tH,(nN 8),(nN 8),(nN 8),.aB,.aB]
noncomputable def kR:Nat×Obj:=(8,(.mp none [(aM,(.agg Mb)),(aN,(.agg PI))]))
noncomputable def kS:Nat×Obj:=(23,(.arr 3 [[aM,Sr,(.b false)]]))
noncomputable def kU:Nat×Obj:=(30,(.arr 3 [[aN,Ss,(.b false)]]))
noncomputable def kV:Nat×Obj:=(37,(.arr 3 [[aG,Su,(.b false)]]))
noncomputable def nT:List V:=[(nN 1),aM,Sr,(.b false)]
noncomputable def nU:List V:=[(nN 2),aN,Ss,(.b false)]
noncomputable def nV:List V:=[(nN 3),aG,Su,(.b false)]
noncomputable def nW:List V:=[(nN 4),aH,Sw,(.b false)]
noncomputable def alR:Nat×Obj:=(42,(.arr 4 [nT,nU,nV,nW]))
noncomputable def kW:Nat×Obj:=(44,(.arr 3 [[aH,Sw,(.b false)]]))
noncomputable def Sx:V:=(bR 62 0x135102483a8a28a00000000000000000100000000000400000004000000040000000000000000000000000000002e86b4385ecf18000000000000000005)
noncomputable def dK:List V:=[aG,(nN 6),Sx]
noncomputable def Sy:V:=(bR 62 0x13510bac707a97000000000000000000200000000000400000004000000040000000000000000000000000000002e70663843c8f4000000000000000005)
noncomputable def dS:List V:=[aH,(nN 7),Sy]
noncomputable def Sz:Obj:=(.mp none [(aM,(.agg cP)),(aN,(.agg cW)),(aG,(.agg dK)),(aH,(.agg dS)),((.s [108]),(.agg vJ))])
noncomputable def Bw:List V:=[tE,(nN 1),(nN 0),(nN 4),(nN 4),(nN 4),.aB,.aB,.aB,.aB,(.s []),.aB,(nN 0),.aB,tH,(nN 5)]
noncomputable def Fw:List V:=[fE,(nN 2),(nN 0),(nN 4),(nN 4),(nN 4),.aB,.aB,.aB,.aB,(.s []),.aB,(nN 0),.aB,tG,(nN 5)]
noncomputable def nX:Nat×Obj:=(7,(.mp none [(aG,(.agg Bw)),(aH,(.agg Fw))]))
noncomputable def iI:V:=(.sl none 6 [Mb,PI])
noncomputable def asT:Nat×Obj:=(14,(.cs [.aB,iI,WV,(.b true)]))
noncomputable def mJ:Nat×Obj:=(1652,(.arr 3 [[aG,Sx,(.b false)]]))
noncomputable def nY:Nat×Obj:=(3031,(.arr 3 [[aH,Sy,(.b false)]]))
noncomputable def pZ:List V:=[(nN 6),aG,Sx,(.b false)]
noncomputable def qG:List V:=[(nN 7),aH,Sy,(.b false)]
noncomputable def alS:Nat×Obj:=(44414,(.arr 4 [nT,nU,nV,nW,dC,pZ,qG,v57,dV,eA,eB,eL,eT,v63,v64,fF,fR,gA,gB,gN,iL,jO,jP,lS,oT,rF,rG,hU,jH,mE,mF,sA,zR,Fl,Fm,WW]))
noncomputable def p0:Obj:=(.arr 16 [Bw,Fw])
noncomputable def asU:Nat×Obj:=(45234,p0)
noncomputable def asV:Obj:=(.mp none [(aM,(.agg cP)),(aN,(.agg cW)),(aG,(.agg dK)),(aH,(.agg PH)),((.s [108]),(.agg l3))])
noncomputable def abT:List V:=[tE,(nN 1),(nN 0),(nN 4),(nN 4),(nN 4),.aB,.aB,.aB,.aB,(.s []),.aB,(nN 0),.aB,tH,(nN 0)]
noncomputable def asW:Obj:=(.mp none [(aM,(.agg cP)),(aN,(.agg cW)),(aG,(.agg dK)),(aH,(.agg dS)),((.s [108]),(.agg wZ))])
noncomputable def asX:Obj:=(.mp none [(aM,(.agg cP)),(aN,(.agg cW)),(aG,(.agg dK)),(aH,(.agg dS)),((.s [108]),(.agg w6))])
noncomputable def asY:Obj:=(.mp none [(aM,(.agg cP)),(aN,(.agg cW)),(aG,(.agg dK)),(aH,(.agg dS)),((.s [108]),(.agg w9))])
noncomputable def asZ:Obj:=(.mp none [(aM,(.agg cP)),(aN,(.agg cW)),(aG,(.agg dK)),(aH,(.agg dS)),((.s [108]),(.agg xA))])
noncomputable def as0:Obj:=(.mp none [(aM,(.agg cP)),(aN,(.agg cW)),(aG,(.agg dK)),(aH,(.agg dS)),((.s [108]),(.agg xD))])
noncomputable def as1:Obj:=(.mp none [(aM,(.agg cP)),(aN,(.agg cW)),(aG,(.agg dK)),(aH,(.agg dS)),((.s [108]),(.agg xF))])
noncomputable def as2:Obj:=(.mp none [(aM,(.agg cP)),(aN,(.agg cW)),(aG,(.agg dK)),(aH,(.agg dS)),((.s [108]),(.agg xI))])
noncomputable def as3:Obj:=(.mp none [(aM,(.agg cP)),(aN,(.agg cW)),(aG,(.agg dK)),(aH,(.agg dS)),((.s [108]),(.agg xJ))])
noncomputable def as4:Obj:=(.mp none [(aM,(.agg cP)),(aN,(.agg cW)),(aG,(.agg dK)),(aH,(.agg dS)),((.s [108]),(.agg xM))])
noncomputable def as5:Obj:=(.mp none [(aM,(.agg cP)),(aN,(.agg cW)),(aG,(.agg dK)),(aH,(.agg dS)),((.s [108]),(.agg xO))])
noncomputable def as6:Obj:=(.mp none [(aM,(.agg cP)),(aN,(.agg cW)),(aG,(.agg dK)),(aH,(.agg dS)),((.s [108]),(.agg Co))])
noncomputable def as7:Obj:=(.mp none [(aM,(.agg cP)),(aN,(.agg cW)),(aG,(.agg dK)),(aH,(.agg dS)),((.s [108]),(.agg Cp))])
noncomputable def as8:Obj:=(.mp none [(aM,(.agg cP)),(aN,(.agg cW)),(aG,(.agg dK)),(aH,(.agg dS)),((.s [108]),(.agg Cs))])
noncomputable def as9:Obj:=(.mp none [(aM,(.agg cP)),(aN,(.agg cW)),(aG,(.agg dK)),(aH,(.agg dS)),((.s [108]),(.agg Ct))])
noncomputable def SA:V:=(bR 23 0x22e70663843c8f4000000000900000009000000090000)
noncomputable def cQ:List V:=[aM,(nN 1),SA]
noncomputable def SB:V:=(bR 23 0x22e86b4385ecf18000000000a0000000a0000000a0000)
noncomputable def cX:List V:=[aN,(nN 2),SB]
noncomputable def SC:V:=(bR 62 0x135102483a8a28a000000000000000001000000000005000000050000000500000000000000000000000000000000000000000000000000000000000000)
noncomputable def SD:List V:=[aG,(nN 3),SC]
noncomputable def SE:V:=(bR 62 0x13510bac707a970000000000000000002000000000005000000050000000500000000000000000000000000000000000000000000000000000000000000)
noncomputable def PJ:List V:=[aH,(nN 4),SE]
noncomputable def alT:Nat×Obj:=(0,(.mp none [(aM,(.agg cQ)),(aN,(.agg cX)),(aG,(.agg SD)),(aH,(.agg PJ))]))
noncomputable def Fx:List V:=[tE,(nN 1),(nN 0),(nN 5),(nN 5),(nN 5),.aB,.aB,.aB,.aB,(.s []),.aB,(nN 0),.aB,(.s []),(nN 0)]
noncomputable def Ec:List V:=[fE,(nN 2),(nN 0),(nN 5),(nN 5),(nN 5),.aB,.aB,.aB,.aB,(.s []),.aB,(nN 0),.aB,(.s []),(nN 0)]
noncomputable def alU:Nat×Obj:=(7,(.mp none [(aG,(.agg Fx)),(aH,(.agg Ec))]))
noncomputable def Mc:List V:=[tG,(nN 9),(nN 9),(nN 9),.aB,.aB]
noncomputable def PK:List V:=[tH,(nN 10),(nN 10),(nN 10),.aB,.aB]
noncomputable def kX:Nat×Obj:=(8,(.mp none [(aM,(.agg Mc)),(aN,(.agg PK))]))
noncomputable def kY:Nat×Obj:=(23,(.arr 3 [[aM,SA,(.b false)]]))
noncomputable def kZ:Nat×Obj:=(30,(.arr 3 [[aN,SB,(.b false)]]))
noncomputable def k7:Nat×Obj:=(37,(.arr 3 [[aG,SC,(.b false)]]))
noncomputable def nZ:List V:=[(nN 1),aM,SA,(.b false)]
noncomputable def n0:List V:=[(nN 2),aN,SB,(.b false)]
noncomputable def oC:List V:=[(nN 3),aG,SC,(.b false)]
noncomputable def oD:List V:=[(nN 4),aH,SE,(.b false)]
noncomputable def alV:Nat×Obj:=(42,(.arr 4 [nZ,n0,oC,oD]))
noncomputable def k8:Nat×Obj:=(44,(.arr 3 [[aH,SE,(.b false)]]))
noncomputable def SF:V:=(bR 62 0x135102483a8a28a00000000000000000100000000000500000005000000050000000000000000000000000000002e86b4385ecf18000000000000000005)
noncomputable def dL:List V:=[aG,(nN 6),SF]
noncomputable def SG:V:=(bR 62 0x13510bac707a97000000000000000000200000000000500000005000000050000000000000000000000000000002e70663843c8f4000000000000000005)
noncomputable def dT:List V:=[aH,(nN 7),SG]
noncomputable def SH:Obj:=(.mp none [(aM,(.agg cQ)),(aN,(.agg cX)),(aG,(.agg dL)),(aH,(.agg dT)),((.s [108]),(.agg vJ))])
noncomputable def By:List V:=[tE,(nN 1),(nN 0),(nN 5),(nN 5),(nN 5),.aB,.aB,.aB,.aB,(.s []),.aB,(nN 0),.aB,tH,(nN 5)]
noncomputable def Fy:List V:=[fE,(nN 2),(nN 0),(nN 5),(nN 5),(nN 5),.aB,.aB,.aB,.aB,(.s []),.aB,(nN 0),.aB,tG,(nN 5)]
noncomputable def oH:Nat×Obj:=(7,(.mp none [(aG,(.agg By)),(aH,(.agg Fy))]))
noncomputable def iJ:V:=(.sl none 6 [Mc,PK])
noncomputable def atA:Nat×Obj:=(14,(.cs [.aB,iJ,WV,(.b true)]))
noncomputable def mK:Nat×Obj:=(1652,(.arr 3 [[aG,SF,(.b false)]]))
noncomputable def oI:Nat×Obj:=(3031,(.arr 3 [[aH,SG,(.b false)]]))
noncomputable def p4:List V:=[(nN 6),aG,SF,(.b false)]
noncomputable def qH:List V:=[(nN 7),aH,SG,(.b false)]
noncomputable def alW:Nat×Obj:=(44414,(.arr 4 [nZ,n0,oC,oD,dC,p4,qH,v57,dV,eA,eB,eL,eT,v63,v64,fF,fR,gA,gB,gN,iL,jO,jP,lS,oT,rF,rG,hU,jH,mE,mF,sA,zR,Fl,Fm,WW]))
noncomputable def p5:Obj:=(.arr 16 [By,Fy])
noncomputable def atB:Nat×Obj:=(45234,p5)
noncomputable def atC:Obj:=(.mp none [(aM,(.agg cQ)),(aN,(.agg cX)),(aG,(.agg dL)),(aH,(.agg PJ)),((.s [108]),(.agg l3))])
noncomputable def abU:List V:=[tE,(nN 1),(nN 0),(nN 5),(nN 5),(nN 5),.aB,.aB,.aB,.aB,(.s []),.aB,(nN 0),.aB,tH,(nN 0)]
noncomputable def atD:Obj:=(.mp none [(aM,(.agg cQ)),(aN,(.agg cX)),(aG,(.agg dL)),(aH,(.agg dT)),((.s [108]),(.agg wZ))])
noncomputable def atE:Obj:=(.mp none [(aM,(.agg cQ)),(aN,(.agg cX)),(aG,(.agg dL)),(aH,(.agg dT)),((.s [108]),(.agg w6))])
noncomputable def atF:Obj:=(.mp none [(aM,(.agg cQ)),(aN,(.agg cX)),(aG,(.agg dL)),(aH,(.agg dT)),((.s [108]),(.agg w9))])
noncomputable def atG:Obj:=(.mp none [(aM,(.agg cQ)),(aN,(.agg cX)),(aG,(.agg dL)),(aH,(.agg dT)),((.s [108]),(.agg xA))])
noncomputable def atH:Obj:=(.mp none [(aM,(.agg cQ)),(aN,(.agg cX)),(aG,(.agg dL)),(aH,(.agg dT)),((.s [108]),(.agg xD))])
noncomputable def atI:Obj:=(.mp none [(aM,(.agg cQ)),(aN,(.agg cX)),(aG,(.agg dL)),(aH,(.agg dT)),((.s [108]),(.agg xF))])
noncomputable def atJ:Obj:=(.mp none [(aM,(.agg cQ)),(aN,(.agg cX)),(aG,(.agg dL)),(aH,(.agg dT)),((.s [108]),(.agg xI))])
noncomputable def atK:Obj:=(.mp none [(aM,(.agg cQ)),(aN,(.agg cX)),(aG,(.agg dL)),(aH,(.agg dT)),((.s [108]),(.agg xJ))])
noncomputable def atL:Obj:=(.mp none [(aM,(.agg cQ)),(aN,(.agg cX)),(aG,(.agg dL)),(aH,(.agg dT)),((.s [108]),(.agg xM))])
noncomputable def atM:Obj:=(.mp none [(aM,(.agg cQ)),(aN,(.agg cX)),(aG,(.agg dL)),(aH,(.agg dT)),((.s [108]),(.agg xO))])
noncomputable def atN:Obj:=(.mp none [(aM,(.agg cQ)),(aN,(.agg cX)),(aG,(.agg dL)),(aH,(.agg dT)),((.s [108]),(.agg Co))])
noncomputable def atO:Obj:=(.mp none [(aM,(.agg cQ)),(aN,(.agg cX)),(aG,(.agg dL)),(aH,(.agg dT)),((.s [108]),(.agg Cp))])
noncomputable def atP:Obj:=(.mp none [(aM,(.agg cQ)),(aN,(.agg cX)),(aG,(.agg dL)),(aH,(.agg dT)),((.s [108]),(.agg Cs))])
noncomputable def atQ:Obj:=(.mp none [(aM,(.agg cQ)),(aN,(.agg cX)),(aG,(.agg dL)),(aH,(.agg dT)),((.s [108]),(.agg Ct))])
noncomputable def abV:List V:=[(pG 10),(nN 0)]
noncomputable def abW:Nat×Obj:=(3,(.cs [(nN 4),(mG 0),(mG 1),(pG 2),(nN 0),(nN 4)]))
noncomputable def abX:Nat×Obj:=(3,(.cs [(nN 36),(mG 0),(mG 1),(pG 2),(nN 182),(nN 37)]))
noncomputable def alX:V:=(.agg [v41,(.sl none 16 [v39])])
noncomputable def oJ:V:=(.bC [alX,(.b true)])
noncomputable def alY:V:=(.agg [v41,(.sl none 16 [v9])])
noncomputable def atS:V:=(.bC [alY,(.b true)])
noncomputable def atT:V:=(.agg [v41,.aB])
noncomputable def Bz:V:=(.bC [(.agg ((.s [])::(WL 5 (nN 0) [.aB,.aB,.aB,.aB,(.s []),.aB,(nN 0),.aB,(.s []),(nN 0)]))),(.b false)])
noncomputable def l4:V:=(.bC [(.agg [(.s []),(nN 0),(nN 0),(nN 0),.aB,.aB]),(.b false)])
noncomputable def SI:V:=(.agg [(nN 0),(nN 0),(nN 0)])
noncomputable def SJ:V:=(.agg [(nN 1),(nN 1),(nN 1)])
noncomputable def agD:V:=(.agg [(nN 0),(nN 1000)])
noncomputable def agE:V:=(.i .u64 (.ofNat 8))
noncomputable def agF:V:=(.agg [(.s []),(nN 0),.aB])
noncomputable def alZ:V:=(.s [112,47,112,97,104])
noncomputable def atU:List V:=[(.agg Fh)]
noncomputable def atV:List V:=[(.agg Bs)]
noncomputable def atW:List V:=[(.agg Fj)]
noncomputable def atX:List V:=[(.agg D6)]
noncomputable def al0:V:=(.s [112,97,104])
noncomputable def PL:List V:=[al0,(nN 8),(nN 0),(nN 1),(nN 1),(nN 1),.aB,.aB,.aB,.aB,(.s []),.aB,(nN 0),.aB,(.s []),(nN 0)]
noncomputable def al1:V:=(bR 62 0x13514405b41d2d4000000000000000008000000000001000000010000000100000000000000000000000000000000000000000000000000000000000000)
noncomputable def atY:List V:=[(.agg Fq)]
noncomputable def atZ:List V:=[(.agg Bu)]
noncomputable def at0:List V:=[(.agg D9)]
noncomputable def at1:List V:=[(.agg Fs)]
noncomputable def at2:List V:=[(.agg Ft)]
noncomputable def at3:List V:=[(.agg Bv)]
noncomputable def at4:List V:=[(.agg Fu)]
noncomputable def at5:List V:=[(.agg Ea)]
noncomputable def at6:List V:=[(.agg Eb)]
noncomputable def at7:List V:=[(.agg Fw)]
noncomputable def at8:List V:=[(.agg Fv)]
noncomputable def at9:List V:=[(.agg Bw)]
noncomputable def auA:List V:=[(.agg By)]
noncomputable def auB:List V:=[(.agg Fy)]
noncomputable def auC:List V:=[(.agg Fx)]
noncomputable def auD:List V:=[(.agg Ec)]
noncomputable def al2:V:=(.agg [iF,(.sl none 16 [Bs,Fj])])
noncomputable def jI:V:=(.bC [al2,(.b true)])
noncomputable def abY:List V:=[alZ,(nN 37),al1]
noncomputable def auE:V:=(.agg [iF,(.sl none 16 [Bs,Fj,PL])])
noncomputable def al3:V:=(.agg [iF,(.sl none 16 [Bs,D6])])
noncomputable def auF:V:=(.agg [iF,(.sl none 16 [Fh])])
noncomputable def auG:V:=(.agg [(.sl none 6 [L6]),.aB])
noncomputable def al4:V:=(.agg [iF,(.sl none 16 [Fh,D6])])
noncomputable def auH:V:=(.bC [al4,(.b true)])
noncomputable def auI:V:=(.agg [iF,.aB])
noncomputable def al5:V:=(.agg [iG,(.sl none 16 [Bu,Fs])])
noncomputable def jJ:V:=(.bC [al5,(.b true)])
noncomputable def al6:V:=(.agg [iG,(.sl none 16 [Bu,D9])])
noncomputable def al7:V:=(.agg [iG,(.sl none 16 [Fq,D9])])
noncomputable def auJ:V:=(.bC [al7,(.b true)])
noncomputable def auK:V:=(.agg [iG,(.sl none 16 [Fq])])
noncomputable def auL:V:=(.agg [iG,(.sl none 16 [Bu,Fs,PL])])
noncomputable def auM:V:=(.agg [iG,.aB])
noncomputable def auN:V:=(.agg [(.sl none 6 [L9]),.aB])
noncomputable def al8:V:=(.agg [iH,(.sl none 16 [Bv,Fu])])
noncomputable def jK:V:=(.bC [al8,(.b true)])
noncomputable def auO:V:=(.agg [(.sl none 6 [Ma]),.aB])
noncomputable def al9:V:=(.agg [iH,(.sl none 16 [Bv,Ea])])
noncomputable def auP:V:=(.agg [iH,(.sl none 16 [Bv,Fu,PL])])
noncomputable def auQ:V:=(.agg [iH,(.sl none 16 [Ft])])
noncomputable def amA:V:=(.agg [iH,(.sl none 16 [Ft,Ea])])
noncomputable def auR:V:=(.bC [amA,(.b true)])
noncomputable def auS:V:=(.agg [iH,.aB])
noncomputable def amB:V:=(.agg [iI,(.sl none 16 [Bw,Fw])])
noncomputable def jL:V:=(.bC [amB,(.b true)])
noncomputable def auT:V:=(.agg [iI,.aB])
noncomputable def auU:V:=(.agg [iI,(.sl none 16 [Bw,Fw,PL])])
noncomputable def amC:V:=(.agg [iI,(.sl none 16 [Bw,Eb])])
noncomputable def auV:V:=(.agg [(.sl none 6 [Mb]),.aB])
noncomputable def auW:V:=(.agg [iI,(.sl none 16 [Fv])])
noncomputable def amD:V:=(.agg [iI,(.sl none 16 [Fv,Eb])])
noncomputable def auX:V:=(.bC [amD,(.b true)])
noncomputable def amE:V:=(.agg [iJ,(.sl none 16 [By,Fy])])
noncomputable def jM:V:=(.bC [amE,(.b true)])
noncomputable def amF:V:=(.agg [iJ,(.sl none 16 [Fx,Ec])])
noncomputable def auY:V:=(.bC [amF,(.b true)])
noncomputable def auZ:V:=(.agg [iJ,.aB])
noncomputable def au0:V:=(.agg [iJ,(.sl none 16 [Fx])])
noncomputable def amG:V:=(.agg [iJ,(.sl none 16 [By,Ec])])
noncomputable def au1:V:=(.agg [iJ,(.sl none 16 [By,Fy,PL])])
noncomputable def au2:V:=(.agg [(.sl none 6 [Mc]),.aB])
noncomputable def agG:V:=(.agg [fE,(nN 2),(nN 0),(nN 1),(nN 1),(nN 1),.aB,.aB,.aB,.aB,(.s []),.aB,(nN 0),.aB,tG,(nN 0)])
noncomputable def agH:V:=(.agg [fE,(nN 2),(nN 0),(nN 2),(nN 2),(nN 2),.aB,.aB,.aB,.aB,(.s []),.aB,(nN 0),.aB,tG,(nN 0)])
noncomputable def agI:V:=(.agg [fE,(nN 2),(nN 0),(nN 3),(nN 3),(nN 3),.aB,.aB,.aB,.aB,(.s []),.aB,(nN 0),.aB,tG,(nN 0)])
noncomputable def agJ:V:=(.agg [fE,(nN 2),(nN 0),(nN 4),(nN 4),(nN 4),.aB,.aB,.aB,.aB,(.s []),.aB,(nN 0),.aB,tG,(nN 0)])
noncomputable def agK:V:=(.agg [fE,(nN 2),(nN 0),(nN 5),(nN 5),(nN 5),.aB,.aB,.aB,.aB,(.s []),.aB,(nN 0),.aB,tG,(nN 0)])
noncomputable def au3:List V:=[(.agg L6)]
noncomputable def au4:List V:=[(.agg PB)]
noncomputable def au5:List V:=[(.agg L9)]
noncomputable def au6:List V:=[(.agg PE)]
noncomputable def au7:List V:=[(.agg PG)]
noncomputable def au8:List V:=[(.agg Ma)]
noncomputable def au9:List V:=[(.agg PI)]
noncomputable def avA:List V:=[(.agg Mb)]
noncomputable def avB:List V:=[(.agg Mc)]
noncomputable def avC:List V:=[(.agg PK)]
noncomputable def agL:V:=(.agg [(nN 2),(nN 2),(nN 2)])
noncomputable def avD:V:=(.bC [agL,(.b true)])
noncomputable def agM:V:=(.agg [(nN 4),(nN 4),(nN 4)])
noncomputable def avE:V:=(.bC [agM,(.b true)])
noncomputable def agN:V:=(.agg [(nN 3),(nN 3),(nN 3)])
noncomputable def agO:V:=(.agg [(nN 5),(nN 5),(nN 5)])
open Go
noncomputable def Me:List (List V×V):=[([(.s [108])],(nN 3)),
 ([v4],(nN 1)),
 ([v1],(nN 2))]
noncomputable def Mf:List (List V×V):=[([(.agg v39)],v34),
 ([(.agg v9)],v5)]
noncomputable def Mg:List (List V×V):=[([(.sl none 3 [WR,v3,v35])],oJ),
 ([(.sl none 3 [v44,v3,v35])],oJ),
 ([(.sl none 3 [xF,v3,v35])],oJ),
 ([(.sl none 3 [xD,v3,v35])],oJ),
 ([.aB],(.bC [(.agg [.aB,.aB]),(.b true)])),
 ([(.sl none 3 [w7,v3,v35])],oJ),
 ([(.sl none 3 [xB,v3,v35])],oJ),
 ([(.sl none 3 [wZ,v3,v35])],oJ),
 ([(.sl none 3 [xM,v3,v35])],oJ),
 ([(.sl none 3 [xK,v3,v35])],oJ),
 ([(.sl none 3 [agA,v3,v35])],oJ),
 ([(.sl none 3 [xH,v3,v35])],oJ),
 ([(.sl none 3 [v3,v6])],atS),
 ([(.sl none 3 [xA,v3,v35])],oJ),
 ([(.sl none 3 [l3,v3,v35])],oJ),
 ([(.sl none 3 [w8,v3,v35])],oJ),
 ([(.sl none 3 [v3])],(.bC [atT,(.b true)])),
 ([(.sl none 3 [w6,v3,v35])],oJ),
 ([(.sl none 3 [xI,v3,v35])],oJ),
 ([(.sl none 3 [xG,v3,v35])],oJ),
 ([(.sl none 3 [agB,v3,v35])],oJ),
 ([(.sl none 3 [xC,v3,v35])],oJ),
 ([(.sl none 3 [xO,v3,v35])],oJ),
 ([(.sl none 3 [WR,v3,v6])],atS),
 ([(.sl none 3 [xJ,v3,v35])],oJ),
 ([(.sl none 3 [w9,v3,v35])],oJ),
 ([(.sl none 3 [xL,v3,v35])],oJ),
 ([(.sl none 3 [Px,v3,v35])],oJ)]
noncomputable def Mh:List (List V×V):=[([(.agg v39)],(.agg v39)),
 ([(.agg v9)],(.agg v9)),
 ([(.agg WS)],(.agg WS))]
noncomputable def Mi:List (List V×V):=[([(.s [112])],(.b true)),
 ([(.s [])],(.b false)),
 ([(.s [110])],(.b true))]
noncomputable def Mj:List (List V×V):=[([alX],(.b true)),
 ([atT],(.b true)),
 ([alY],(.b true))]
noncomputable def Mk:List (List V×V):=[([(nN 1),(.s [112])],v4),
 ([(nN 2),(.s [110])],v1),
 ([(nN 3),(.s [])],(.s [108]))]
noncomputable def Ml:List (List V×V):=[([(.agg v10)],v2)]
noncomputable def Mm:List (List V×V):=[([v5],(.bC [(.agg v9),(.b true)])),
 ([v2],Bz),
 ([v34],(.bC [(.agg v39),(.b true)])),
 ([v36],Bz)]
noncomputable def Mn:List (List V×V):=[([v34],l4),
 ([v2],(.bC [(.agg v10),(.b true)])),
 ([v5],l4),
 ([v36],l4),
 ([.aB],l4)]
noncomputable def GB:List (List V×V):=[([(.agg v10)],(.agg v10))]
noncomputable def GC:List (List V×V):=[([SI,SJ],(.bC [SJ,(.b true)]))]
noncomputable def GD:List (List V×V):=[([v36],(.bC [agD,(.b true)])),
 ([.aB],(.bC [(.agg [(nN 0),(nN 0)]),(.b false)]))]
noncomputable def GF:List (List V×V):=[([(.agg v9),(.agg v9)],(.b true)),
 ([(.agg WS),(.agg v9)],(.b false)),
 ([(.agg v39),(.agg v39)],(.b true)),
 ([(.agg v39),(.agg WS)],(.b false))]
noncomputable def GG:List (List V×V):=[([agD],v36)]
noncomputable def GH:List (List V×V):=[([(.i .u64 (.ofNat 1)),agE],(.bC [(.i .u64 (.ofNat 0)),agE]))]
noncomputable def GI:List (List V×V):=[([alY],v41),
 ([alX],v41)]
noncomputable def GJ:List (List V×V):=[([(.agg xO)],(.agg xO)),
 ([(.agg xB)],(.agg xB)),
 ([(.agg w8)],(.agg w8)),
 ([(.agg xK)],(.agg xK)),
 ([(.agg xI)],(.agg xI)),
 ([(.agg v35)],(.agg v35)),
 ([(.agg l3)],(.agg l3)),
 ([(.agg w7)],(.agg w7)),
 ([(.agg w9)],(.agg w9)),
 ([(.agg xL)],(.agg xL)),
 ([(.agg w6)],(.agg w6)),
 ([agF],agF),
 ([(.agg xG)],(.agg xG)),
 ([(.agg agA)],(.agg agA)),
 ([(.agg xA)],(.agg xA)),
 ([(.agg WR)],(.agg WR)),
 ([(.agg xM)],(.agg xM)),
 ([(.agg v44)],(.agg v44)),
 ([(.agg xH)],(.agg xH)),
 ([(.agg v3)],(.agg v3)),
 ([(.agg xC)],(.agg xC)),
 ([(.agg wZ)],(.agg wZ)),
 ([(.agg xF)],(.agg xF)),
 ([(.agg xD)],(.agg xD)),
 ([(.agg xJ)],(.agg xJ)),
 ([(.agg agB)],(.agg agB)),
 ([(.agg v6)],(.agg v6))]
noncomputable def GK:List (List V×V):=[([(.agg v10),(.agg v10)],(.b true))]
noncomputable def Mo:List (List V×V):=[([aN],(nN 2)),
 ([(.s [108])],(nN 3)),
 ([aM],(nN 2)),
 ([alZ],(nN 1)),
 ([aG],(nN 1)),
 ([aH],(nN 1))]
noncomputable def Mp:List (List V×V):=[(atU,RY),
 (atV,R4),
 (atW,R5),
 (atX,R3),
 ([(.agg PL)],al1),
 (atY,Sa),
 (atZ,Se),
 (at0,Sc),
 (at1,Sf),
 (at2,Sk),
 (at3,Sn),
 (at4,Sp),
 (at5,Sm),
 (at6,Sw),
 (at7,Sy),
 (at8,Su),
 (at9,Sx),
 (auA,SF),
 (auB,SG),
 (auC,SC),
 (auD,SE)]
noncomputable def Ed:List (List V×V):=[([(.sl none 3 [Cs,cM,cT,dH,dP])],jI),
 ([(.sl none 3 [xI,cM,cT,dH,dP])],jI),
 ([.aB],(.bC [(.agg [.aB,.aB]),(.b true)])),
 ([(.sl none 3 [vJ,cM,cT,dH,dP,abY])],(.bC [auE,(.b true)])),
 ([(.sl none 3 [Cv,cM,cT,dH,dP])],jI),
 ([(.sl none 3 [xL,cM,cT,dH,dP])],jI),
 ([(.sl none 3 [vJ,cM,cT,dH,dP])],jI),
 ([(.sl none 3 [xK,cM,cT,dH,dP])],jI),
 ([(.sl none 3 [xD,cM,cT,dH,dP])],jI),
 ([(.sl none 3 [l3,cM,cT,dH,PA])],(.bC [al3,(.b true)])),
 ([(.sl none 3 [l3,cM,cT,dH,dP])],jI),
 ([(.sl none 3 [v44,cM,cT,dH,dP])],jI),
 ([(.sl none 3 [xH,cM,cT,dH,dP])],jI),
 ([(.sl none 3 [w7,cM,cT,dH,dP])],jI),
 ([(.sl none 3 [Cp,cM,cT,dH,dP])],jI),
 ([(.sl none 3 [xG,cM,cT,dH,dP])],jI),
 ([(.sl none 3 [xB,cM,cT,dH,dP])],jI),
 ([(.sl none 3 [xF,cM,cT,dH,dP])],jI),
 ([(.sl none 3 [Cr,cM,cT,dH,dP])],jI),
 ([(.sl none 3 [xO,cM,cT,dH,dP])],jI),
 ([(.sl none 3 [cM,cT,RZ])],(.bC [auF,(.b true)])),
 ([(.sl none 3 [xM,cM,cT,dH,dP])],jI),
 ([(.sl none 3 [Cu,cM,cT,dH,dP])],jI),
 ([(.sl none 3 [w6,cM,cT,dH,dP])],jI),
 ([(.sl none 3 [xA,cM,cT,dH,dP])],jI),
 ([(.sl none 3 [cM])],(.bC [auG,(.b true)])),
 ([(.sl none 3 [l3,cM,cT,RZ,PA])],auH),
 ([(.sl none 3 [Ct,cM,cT,dH,dP])],jI),
 ([(.sl none 3 [cM,cT])],(.bC [auI,(.b true)])),
 ([(.sl none 3 [cM,cT,RZ,PA])],auH),
 ([(.sl none 3 [Px,cM,cT,dH,dP])],jI),
 ([(.sl none 3 [Cq,cM,cT,dH,dP])],jI),
 ([(.sl none 3 [Co,cM,cT,dH,dP])],jI),
 ([(.sl none 3 [xC,cM,cT,dH,dP])],jI),
 ([(.sl none 3 [w8,cM,cT,dH,dP])],jI),
 ([(.sl none 3 [xJ,cM,cT,dH,dP])],jI),
 ([(.sl none 3 [w9,cM,cT,dH,dP])],jI),
 ([(.sl none 3 [wZ,cM,cT,dH,dP])],jI),
 ([(.sl none 3 [w7,cN,cU,dI,dQ])],jJ),
 ([(.sl none 3 [Cr,cN,cU,dI,dQ])],jJ),
 ([(.sl none 3 [xK,cN,cU,dI,dQ])],jJ),
 ([(.sl none 3 [xJ,cN,cU,dI,dQ])],jJ),
 ([(.sl none 3 [Co,cN,cU,dI,dQ])],jJ),
 ([(.sl none 3 [wZ,cN,cU,dI,dQ])],jJ),
 ([(.sl none 3 [xA,cN,cU,dI,dQ])],jJ),
 ([(.sl none 3 [xL,cN,cU,dI,dQ])],jJ),
 ([(.sl none 3 [l3,cN,cU,dI,PD])],(.bC [al6,(.b true)])),
 ([(.sl none 3 [cN,cU,Sb,PD])],auJ),
 ([(.sl none 3 [l3,cN,cU,Sb,PD])],auJ),
 ([(.sl none 3 [xO,cN,cU,dI,dQ])],jJ),
 ([(.sl none 3 [cN,cU,Sb])],(.bC [auK,(.b true)])),
 ([(.sl none 3 [w8,cN,cU,dI,dQ])],jJ),
 ([(.sl none 3 [vJ,cN,cU,dI,dQ])],jJ),
 ([(.sl none 3 [xF,cN,cU,dI,dQ])],jJ),
 ([(.sl none 3 [vJ,cN,cU,dI,dQ,abY])],(.bC [auL,(.b true)])),
 ([(.sl none 3 [w9,cN,cU,dI,dQ])],jJ),
 ([(.sl none 3 [xI,cN,cU,dI,dQ])],jJ),
 ([(.sl none 3 [Cp,cN,cU,dI,dQ])],jJ),
 ([(.sl none 3 [v44,cN,cU,dI,dQ])],jJ),
 ([(.sl none 3 [xB,cN,cU,dI,dQ])],jJ),
 ([(.sl none 3 [Cs,cN,cU,dI,dQ])],jJ),
 ([(.sl none 3 [Cv,cN,cU,dI,dQ])],jJ),
 ([(.sl none 3 [xC,cN,cU,dI,dQ])],jJ),
 ([(.sl none 3 [cN,cU])],(.bC [auM,(.b true)])),
 ([(.sl none 3 [xD,cN,cU,dI,dQ])],jJ),
 ([(.sl none 3 [Cq,cN,cU,dI,dQ])],jJ),
 ([(.sl none 3 [l3,cN,cU,dI,dQ])],jJ),
 ([(.sl none 3 [w6,cN,cU,dI,dQ])],jJ),
 ([(.sl none 3 [Px,cN,cU,dI,dQ])],jJ),
 ([(.sl none 3 [xG,cN,cU,dI,dQ])],jJ)]
noncomputable def Ee:List (List V×V):=[([(.sl none 3 [xH,cN,cU,dI,dQ])],jJ),
 ([(.sl none 3 [xM,cN,cU,dI,dQ])],jJ),
 ([(.sl none 3 [Ct,cN,cU,dI,dQ])],jJ),
 ([(.sl none 3 [cN])],(.bC [auN,(.b true)])),
 ([(.sl none 3 [Cu,cN,cU,dI,dQ])],jJ),
 ([(.sl none 3 [xI,cO,cV,dJ,dR])],jK),
 ([(.sl none 3 [xG,cO,cV,dJ,dR])],jK),
 ([(.sl none 3 [Cp,cO,cV,dJ,dR])],jK),
 ([(.sl none 3 [cO])],(.bC [auO,(.b true)])),
 ([(.sl none 3 [xB,cO,cV,dJ,dR])],jK),
 ([(.sl none 3 [xD,cO,cV,dJ,dR])],jK),
 ([(.sl none 3 [v44,cO,cV,dJ,dR])],jK),
 ([(.sl none 3 [xM,cO,cV,dJ,dR])],jK),
 ([(.sl none 3 [w7,cO,cV,dJ,dR])],jK),
 ([(.sl none 3 [xJ,cO,cV,dJ,dR])],jK),
 ([(.sl none 3 [l3,cO,cV,dJ,PF])],(.bC [al9,(.b true)])),
 ([(.sl none 3 [xA,cO,cV,dJ,dR])],jK),
 ([(.sl none 3 [Cr,cO,cV,dJ,dR])],jK),
 ([(.sl none 3 [xK,cO,cV,dJ,dR])],jK),
 ([(.sl none 3 [Cv,cO,cV,dJ,dR])],jK),
 ([(.sl none 3 [w9,cO,cV,dJ,dR])],jK),
 ([(.sl none 3 [l3,cO,cV,dJ,dR])],jK),
 ([(.sl none 3 [xO,cO,cV,dJ,dR])],jK),
 ([(.sl none 3 [Cs,cO,cV,dJ,dR])],jK),
 ([(.sl none 3 [Ct,cO,cV,dJ,dR])],jK),
 ([(.sl none 3 [vJ,cO,cV,dJ,dR,abY])],(.bC [auP,(.b true)])),
 ([(.sl none 3 [xC,cO,cV,dJ,dR])],jK),
 ([(.sl none 3 [Co,cO,cV,dJ,dR])],jK),
 ([(.sl none 3 [cO,cV,Sl])],(.bC [auQ,(.b true)])),
 ([(.sl none 3 [xL,cO,cV,dJ,dR])],jK),
 ([(.sl none 3 [xF,cO,cV,dJ,dR])],jK),
 ([(.sl none 3 [cO,cV,Sl,PF])],auR),
 ([(.sl none 3 [w6,cO,cV,dJ,dR])],jK),
 ([(.sl none 3 [wZ,cO,cV,dJ,dR])],jK),
 ([(.sl none 3 [w8,cO,cV,dJ,dR])],jK),
 ([(.sl none 3 [cO,cV])],(.bC [auS,(.b true)])),
 ([(.sl none 3 [l3,cO,cV,Sl,PF])],auR),
 ([(.sl none 3 [vJ,cO,cV,dJ,dR])],jK),
 ([(.sl none 3 [Cq,cO,cV,dJ,dR])],jK),
 ([(.sl none 3 [Cu,cO,cV,dJ,dR])],jK),
 ([(.sl none 3 [xH,cO,cV,dJ,dR])],jK),
 ([(.sl none 3 [Px,cO,cV,dJ,dR])],jK),
 ([(.sl none 3 [xB,cP,cW,dK,dS])],jL),
 ([(.sl none 3 [vJ,cP,cW,dK,dS])],jL),
 ([(.sl none 3 [Cq,cP,cW,dK,dS])],jL),
 ([(.sl none 3 [w8,cP,cW,dK,dS])],jL),
 ([(.sl none 3 [cP,cW])],(.bC [auT,(.b true)])),
 ([(.sl none 3 [xC,cP,cW,dK,dS])],jL),
 ([(.sl none 3 [vJ,cP,cW,dK,dS,abY])],(.bC [auU,(.b true)])),
 ([(.sl none 3 [Px,cP,cW,dK,dS])],jL),
 ([(.sl none 3 [xD,cP,cW,dK,dS])],jL),
 ([(.sl none 3 [Cs,cP,cW,dK,dS])],jL),
 ([(.sl none 3 [wZ,cP,cW,dK,dS])],jL),
 ([(.sl none 3 [xF,cP,cW,dK,dS])],jL),
 ([(.sl none 3 [l3,cP,cW,dK,PH])],(.bC [amC,(.b true)])),
 ([(.sl none 3 [xG,cP,cW,dK,dS])],jL),
 ([(.sl none 3 [cP])],(.bC [auV,(.b true)])),
 ([(.sl none 3 [Cv,cP,cW,dK,dS])],jL),
 ([(.sl none 3 [l3,cP,cW,dK,dS])],jL),
 ([(.sl none 3 [v44,cP,cW,dK,dS])],jL),
 ([(.sl none 3 [w6,cP,cW,dK,dS])],jL),
 ([(.sl none 3 [xO,cP,cW,dK,dS])],jL),
 ([(.sl none 3 [xI,cP,cW,dK,dS])],jL),
 ([(.sl none 3 [Cu,cP,cW,dK,dS])],jL),
 ([(.sl none 3 [cP,cW,Sv])],(.bC [auW,(.b true)])),
 ([(.sl none 3 [w7,cP,cW,dK,dS])],jL),
 ([(.sl none 3 [Co,cP,cW,dK,dS])],jL),
 ([(.sl none 3 [Ct,cP,cW,dK,dS])],jL),
 ([(.sl none 3 [xM,cP,cW,dK,dS])],jL),
 ([(.sl none 3 [w9,cP,cW,dK,dS])],jL)]
noncomputable def Ef:List (List V×V):=[([(.sl none 3 [l3,cP,cW,Sv,PH])],auX),
 ([(.sl none 3 [xH,cP,cW,dK,dS])],jL),
 ([(.sl none 3 [Cr,cP,cW,dK,dS])],jL),
 ([(.sl none 3 [xK,cP,cW,dK,dS])],jL),
 ([(.sl none 3 [cP,cW,Sv,PH])],auX),
 ([(.sl none 3 [xJ,cP,cW,dK,dS])],jL),
 ([(.sl none 3 [xL,cP,cW,dK,dS])],jL),
 ([(.sl none 3 [xA,cP,cW,dK,dS])],jL),
 ([(.sl none 3 [Cp,cP,cW,dK,dS])],jL),
 ([(.sl none 3 [Cq,cQ,cX,dL,dT])],jM),
 ([(.sl none 3 [xA,cQ,cX,dL,dT])],jM),
 ([(.sl none 3 [Ct,cQ,cX,dL,dT])],jM),
 ([(.sl none 3 [w9,cQ,cX,dL,dT])],jM),
 ([(.sl none 3 [Cu,cQ,cX,dL,dT])],jM),
 ([(.sl none 3 [l3,cQ,cX,SD,PJ])],auY),
 ([(.sl none 3 [cQ,cX])],(.bC [auZ,(.b true)])),
 ([(.sl none 3 [xB,cQ,cX,dL,dT])],jM),
 ([(.sl none 3 [xD,cQ,cX,dL,dT])],jM),
 ([(.sl none 3 [Cp,cQ,cX,dL,dT])],jM),
 ([(.sl none 3 [w7,cQ,cX,dL,dT])],jM),
 ([(.sl none 3 [xF,cQ,cX,dL,dT])],jM),
 ([(.sl none 3 [Cv,cQ,cX,dL,dT])],jM),
 ([(.sl none 3 [w6,cQ,cX,dL,dT])],jM),
 ([(.sl none 3 [xK,cQ,cX,dL,dT])],jM),
 ([(.sl none 3 [cQ,cX,SD])],(.bC [au0,(.b true)])),
 ([(.sl none 3 [v44,cQ,cX,dL,dT])],jM),
 ([(.sl none 3 [xH,cQ,cX,dL,dT])],jM),
 ([(.sl none 3 [cQ,cX,SD,PJ])],auY),
 ([(.sl none 3 [xC,cQ,cX,dL,dT])],jM),
 ([(.sl none 3 [xL,cQ,cX,dL,dT])],jM),
 ([(.sl none 3 [Px,cQ,cX,dL,dT])],jM),
 ([(.sl none 3 [vJ,cQ,cX,dL,dT])],jM),
 ([(.sl none 3 [l3,cQ,cX,dL,PJ])],(.bC [amG,(.b true)])),
 ([(.sl none 3 [xG,cQ,cX,dL,dT])],jM),
 ([(.sl none 3 [w8,cQ,cX,dL,dT])],jM),
 ([(.sl none 3 [vJ,cQ,cX,dL,dT,abY])],(.bC [au1,(.b true)])),
 ([(.sl none 3 [cQ])],(.bC [au2,(.b true)])),
 ([(.sl none 3 [xJ,cQ,cX,dL,dT])],jM),
 ([(.sl none 3 [xI,cQ,cX,dL,dT])],jM),
 ([(.sl none 3 [Co,cQ,cX,dL,dT])],jM),
 ([(.sl none 3 [Cs,cQ,cX,dL,dT])],jM),
 ([(.sl none 3 [l3,cQ,cX,dL,dT])],jM),
 ([(.sl none 3 [wZ,cQ,cX,dL,dT])],jM),
 ([(.sl none 3 [xM,cQ,cX,dL,dT])],jM),
 ([(.sl none 3 [xO,cQ,cX,dL,dT])],jM),
 ([(.sl none 3 [Cr,cQ,cX,dL,dT])],jM)]
noncomputable def Mq:List (List V×V):=[(atW,(.agg Fj)),
 ([agG],agG),
 (atU,(.agg Fh)),
 (atV,(.agg Bs)),
 (atX,(.agg D6)),
 ([(.agg Xb)],(.agg Xb)),
 (at0,(.agg D9)),
 (atY,(.agg Fq)),
 ([agH],agH),
 (at1,(.agg Fs)),
 ([(.agg abR)],(.agg abR)),
 (atZ,(.agg Bu)),
 (at5,(.agg Ea)),
 ([(.agg abS)],(.agg abS)),
 (at3,(.agg Bv)),
 (at4,(.agg Fu)),
 ([agI],agI),
 (at2,(.agg Ft)),
 (at6,(.agg Eb)),
 ([agJ],agJ),
 ([(.agg abT)],(.agg abT)),
 (at9,(.agg Bw)),
 (at8,(.agg Fv)),
 (at7,(.agg Fw)),
 (auC,(.agg Fx)),
 (auD,(.agg Ec)),
 ([(.agg abU)],(.agg abU)),
 (auA,(.agg By)),
 ([agK],agK),
 (auB,(.agg Fy))]
noncomputable def Mr:List (List V×V):=[([fE],(.b true)),
 ([(.s [])],(.b false)),
 ([tE],(.b true)),
 ([al0],(.b true)),
 ([tH],(.b true)),
 ([tG],(.b true))]
noncomputable def Ms:List (List V×V):=[([al2],(.b true)),
 ([auG],(.b true)),
 ([auF],(.b true)),
 ([al3],(.b true)),
 ([auE],(.b true)),
 ([auI],(.b true)),
 ([al4],(.b true)),
 ([al6],(.b true)),
 ([al7],(.b true)),
 ([auN],(.b true)),
 ([auM],(.b true)),
 ([al5],(.b true)),
 ([auL],(.b true)),
 ([auK],(.b true)),
 ([al9],(.b true)),
 ([auS],(.b true)),
 ([amA],(.b true)),
 ([auO],(.b true)),
 ([al8],(.b true)),
 ([auQ],(.b true)),
 ([auP],(.b true)),
 ([amD],(.b true)),
 ([auT],(.b true)),
 ([auW],(.b true)),
 ([auV],(.b true)),
 ([auU],(.b true)),
 ([amB],(.b true)),
 ([amC],(.b true)),
 ([auZ],(.b true)),
 ([amF],(.b true)),
 ([amG],(.b true)),
 ([au1],(.b true)),
 ([au2],(.b true)),
 ([au0],(.b true)),
 ([amE],(.b true))]
noncomputable def Mt:List (List V×V):=[([(nN 2),tH],aN),
 ([(nN 1),al0],alZ),
 ([(nN 1),fE],aH),
 ([(nN 1),tE],aG),
 ([(nN 2),tG],aM),
 ([(nN 3),(.s [])],(.s [108]))]
noncomputable def Mu:List (List V×V):=[(au3,RW),
 (au4,RX),
 (au5,R8),
 (au6,R9),
 (au7,Sj),
 (au8,Si),
 (au9,Ss),
 (avA,Sr),
 (avB,SA),
 (avC,SB)]
noncomputable def Mv:List (List V×V):=[([RW],Bz),
 ([R4],(.bC [(.agg Bs),(.b true)])),
 ([al1],(.bC [(.agg PL),(.b true)])),
 ([v36],Bz),
 ([R3],(.bC [(.agg D6),(.b true)])),
 ([R5],(.bC [(.agg Fj),(.b true)])),
 ([RX],Bz),
 ([RY],(.bC [(.agg Fh),(.b true)])),
 ([R9],Bz),
 ([R8],Bz),
 ([Sc],(.bC [(.agg D9),(.b true)])),
 ([Se],(.bC [(.agg Bu),(.b true)])),
 ([Sf],(.bC [(.agg Fs),(.b true)])),
 ([Sa],(.bC [(.agg Fq),(.b true)])),
 ([Sp],(.bC [(.agg Fu),(.b true)])),
 ([Sn],(.bC [(.agg Bv),(.b true)])),
 ([Sk],(.bC [(.agg Ft),(.b true)])),
 ([Si],Bz),
 ([Sm],(.bC [(.agg Ea),(.b true)])),
 ([Sj],Bz),
 ([Ss],Bz),
 ([Sr],Bz),
 ([Sy],(.bC [(.agg Fw),(.b true)])),
 ([Sx],(.bC [(.agg Bw),(.b true)])),
 ([Sw],(.bC [(.agg Eb),(.b true)])),
 ([Su],(.bC [(.agg Fv),(.b true)])),
 ([SF],(.bC [(.agg By),(.b true)])),
 ([SB],Bz),
 ([SA],Bz),
 ([SG],(.bC [(.agg Fy),(.b true)])),
 ([SC],(.bC [(.agg Fx),(.b true)])),
 ([SE],(.bC [(.agg Ec),(.b true)]))]
noncomputable def Eg:List (List V×V):=[([v36],l4),
 ([RX],(.bC [(.agg PB),(.b true)])),
 ([RW],(.bC [(.agg L6),(.b true)])),
 ([R4],l4),
 ([R5],l4),
 ([RY],l4),
 ([.aB],l4),
 ([R3],l4),
 ([R8],(.bC [(.agg L9),(.b true)])),
 ([Sa],l4),
 ([R9],(.bC [(.agg PE),(.b true)])),
 ([Sf],l4),
 ([Se],l4),
 ([Sc],l4),
 ([Sk],l4),
 ([Si],(.bC [(.agg Ma),(.b true)])),
 ([Sp],l4),
 ([Sj],(.bC [(.agg PG),(.b true)])),
 ([Sm],l4),
 ([Sn],l4),
 ([Sw],l4),
 ([Sx],l4),
 ([Ss],(.bC [(.agg PI),(.b true)])),
 ([Su],l4),
 ([Sy],l4),
 ([Sr],(.bC [(.agg Mb),(.b true)])),
 ([SF],l4)]
noncomputable def Eh:List (List V×V):=[([SG],l4),
 ([SA],(.bC [(.agg Mc),(.b true)])),
 ([SE],l4),
 ([SB],(.bC [(.agg PK),(.b true)])),
 ([SC],l4)]
noncomputable def GL:List (List V×V):=[(au3,(.agg L6)),
 (au4,(.agg PB)),
 (au5,(.agg L9)),
 (au6,(.agg PE)),
 (au7,(.agg PG)),
 (au8,(.agg Ma)),
 (au9,(.agg PI)),
 (avA,(.agg Mb)),
 (avB,(.agg Mc)),
 (avC,(.agg PK))]
noncomputable def GM:List (List V×V):=[([SI,SJ],(.bC [SJ,(.b true)])),
 ([SJ,SJ],avD),
 ([SI,agL],avD),
 ([agL,agL],avE),
 ([agN,agN],(.bC [(.agg [(nN 6),(nN 6),(nN 6)]),(.b true)])),
 ([SI,agN],(.bC [agN,(.b true)])),
 ([agM,agM],(.bC [(.agg [(nN 8),(nN 8),(nN 8)]),(.b true)])),
 ([SI,agM],avE),
 ([SI,agO],(.bC [agO,(.b true)])),
 ([agO,agO],(.bC [(.agg [(nN 10),(nN 10),(nN 10)]),(.b true)]))]
noncomputable def GN:List (List V×V):=[([v36],(.bC [agD,(.b true)])),
 ([.aB],(.bC [(.agg [(nN 0),(nN 0)]),(.b false)]))]
noncomputable def GO:List (List V×V):=[([agG,(.agg D6)],(.b false)),
 ([(.agg Xb),(.agg Fh)],(.b false)),
 ([(.agg Fj),agG],(.b false)),
 ([(.agg Fj),(.agg Fj)],(.b true)),
 ([(.agg D6),(.agg D6)],(.b true)),
 ([(.agg Bs),(.agg Bs)],(.b true)),
 ([(.agg Bs),(.agg Xb)],(.b false)),
 ([(.agg Fh),(.agg Fh)],(.b true)),
 ([(.agg Fh),(.agg Bs)],(.b false)),
 ([(.agg Fq),(.agg Bu)],(.b false)),
 ([(.agg Bu),(.agg Bu)],(.b true)),
 ([(.agg D9),(.agg D9)],(.b true)),
 ([(.agg Bu),(.agg abR)],(.b false)),
 ([agH,(.agg D9)],(.b false)),
 ([(.agg Fs),(.agg Fs)],(.b true)),
 ([(.agg Fs),agH],(.b false)),
 ([(.agg abR),(.agg Fq)],(.b false)),
 ([(.agg Fq),(.agg Fq)],(.b true)),
 ([(.agg Fu),(.agg Fu)],(.b true)),
 ([(.agg Fu),agI],(.b false)),
 ([agI,(.agg Ea)],(.b false)),
 ([(.agg Ea),(.agg Ea)],(.b true)),
 ([(.agg Ft),(.agg Ft)],(.b true)),
 ([(.agg Bv),(.agg Bv)],(.b true)),
 ([(.agg abS),(.agg Ft)],(.b false)),
 ([(.agg Bv),(.agg abS)],(.b false)),
 ([(.agg Ft),(.agg Bv)],(.b false)),
 ([(.agg Fv),(.agg Fv)],(.b true)),
 ([(.agg Bw),(.agg Bw)],(.b true)),
 ([(.agg Fv),(.agg Bw)],(.b false)),
 ([agJ,(.agg Eb)],(.b false)),
 ([(.agg Fw),agJ],(.b false)),
 ([(.agg Eb),(.agg Eb)],(.b true)),
 ([(.agg Fw),(.agg Fw)],(.b true)),
 ([(.agg Bw),(.agg abT)],(.b false)),
 ([(.agg abT),(.agg Fv)],(.b false)),
 ([(.agg Fy),agK],(.b false)),
 ([(.agg Fx),(.agg Fx)],(.b true)),
 ([(.agg Fx),(.agg By)],(.b false)),
 ([agK,(.agg Ec)],(.b false)),
 ([(.agg Ec),(.agg Ec)],(.b true)),
 ([(.agg Fy),(.agg Fy)],(.b true)),
 ([(.agg abU),(.agg Fx)],(.b false)),
 ([(.agg By),(.agg By)],(.b true)),
 ([(.agg By),(.agg abU)],(.b false))]
noncomputable def GP:List (List V×V):=[([agD],v36)]
noncomputable def GQ:List (List V×V):=[([(.i .u64 (.ofNat 1)),agE],(.bC [(.i .u64 (.ofNat 0)),agE]))]
noncomputable def GR:List (List V×V):=[([al3],iF),
 ([al4],iF),
 ([al2],iF),
 ([al6],iG),
 ([al5],iG),
 ([al7],iG),
 ([al9],iH),
 ([amA],iH),
 ([al8],iH),
 ([amD],iI),
 ([amC],iI),
 ([amB],iI),
 ([amE],iJ),
 ([amG],iJ),
 ([amF],iJ)]
noncomputable def GS:List (List V×V):=[([(.agg cT)],(.agg cT)),
 ([(.agg xB)],(.agg xB)),
 ([(.agg xI)],(.agg xI)),
 ([(.agg w7)],(.agg w7)),
 ([(.agg Cr)],(.agg Cr)),
 ([(.agg Co)],(.agg Co)),
 ([(.agg dH)],(.agg dH)),
 ([(.agg Ct)],(.agg Ct)),
 ([(.agg Cs)],(.agg Cs)),
 ([(.agg xG)],(.agg xG)),
 ([(.agg vJ)],(.agg vJ)),
 ([(.agg PA)],(.agg PA)),
 ([(.agg xM)],(.agg xM)),
 ([(.agg v44)],(.agg v44)),
 ([(.agg xH)],(.agg xH)),
 ([(.agg dP)],(.agg dP)),
 ([(.agg xC)],(.agg xC)),
 ([(.agg wZ)],(.agg wZ)),
 ([(.agg Px)],(.agg Px)),
 ([(.agg xF)],(.agg xF)),
 ([(.agg xJ)],(.agg xJ)),
 ([(.agg Cv)],(.agg Cv)),
 ([(.agg xO)],(.agg xO)),
 ([(.agg w8)],(.agg w8)),
 ([(.agg xK)],(.agg xK)),
 ([(.agg l3)],(.agg l3)),
 ([(.agg w9)],(.agg w9)),
 ([(.agg xL)],(.agg xL)),
 ([(.agg w6)],(.agg w6)),
 ([agF],agF),
 ([(.agg xA)],(.agg xA)),
 ([(.agg RZ)],(.agg RZ)),
 ([(.agg cM)],(.agg cM)),
 ([(.agg Cq)],(.agg Cq)),
 ([(.agg Cp)],(.agg Cp)),
 ([(.agg Cu)],(.agg Cu)),
 ([(.agg xD)],(.agg xD)),
 ([(.agg dQ)],(.agg dQ)),
 ([(.agg Sb)],(.agg Sb)),
 ([(.agg cU)],(.agg cU)),
 ([(.agg PD)],(.agg PD)),
 ([(.agg cN)],(.agg cN)),
 ([(.agg dI)],(.agg dI)),
 ([(.agg cV)],(.agg cV)),
 ([(.agg Sl)],(.agg Sl)),
 ([(.agg cO)],(.agg cO)),
 ([(.agg dR)],(.agg dR)),
 ([(.agg dJ)],(.agg dJ)),
 ([(.agg PF)],(.agg PF)),
 ([(.agg cW)],(.agg cW)),
 ([(.agg dK)],(.agg dK)),
 ([(.agg PH)],(.agg PH)),
 ([(.agg Sv)],(.agg Sv)),
 ([(.agg dS)],(.agg dS)),
 ([(.agg cP)],(.agg cP)),
 ([(.agg dT)],(.agg dT)),
 ([(.agg cQ)],(.agg cQ)),
 ([(.agg dL)],(.agg dL)),
 ([(.agg cX)],(.agg cX)),
 ([(.agg PJ)],(.agg PJ)),
 ([(.agg SD)],(.agg SD))]
noncomputable def GU:List (List V×V):=[([(.agg PB),(.agg PB)],(.b true)),
 ([(.agg L6),(.agg L6)],(.b true)),
 ([(.agg PE),(.agg PE)],(.b true)),
 ([(.agg L9),(.agg L9)],(.b true)),
 ([(.agg PG),(.agg PG)],(.b true)),
 ([(.agg Ma),(.agg Ma)],(.b true)),
 ([(.agg PI),(.agg PI)],(.b true)),
 ([(.agg Mb),(.agg Mb)],(.b true)),
 ([(.agg PK),(.agg PK)],(.b true)),
 ([(.agg Mc),(.agg Mc)],(.b true))]
end Go.Eng
