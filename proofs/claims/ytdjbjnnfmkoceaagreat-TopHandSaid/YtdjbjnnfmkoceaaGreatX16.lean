/-
The table of letters ahead of what it holds, and behind; short forms.
-/
import Derived.Test.YtdjbjnnfmkoceaaGreatX14
import Derived.KernelRfl
import Derived.Test.YtdjbjnnfmkoceaaGreatX10
import Derived.Test.YtdjbjnnfmkoceaaGreatX11
import Derived.Test.YtdjbjnnfmkoceaaGreatX05
import Derived.Test.YtdjbjnnfmkoceaaGreatSync1
import Derived.Test.YtdjbjnnfmkoceaaGreatRows
import Derived.Tactics
import Derived.Tactics2
import Derived.RegionTactic
import Derived.RegionCalls
import Derived.Lib.Bytealg
set_option linter.unusedVariables false
set_option linter.unusedSimpArgs false
set_option maxRecDepth 1000000
namespace Go.Eng
open Go
def nN (n:Nat):V:=.i .i64 (.ofNat n)
def nB (n:Nat):V:=.i .u8 (.ofNat n)
def tU (n:Nat):V:=.i .u64 (.ofNat n)
def pG (n:Nat):V:=.p (.g n) 0
def mG (n:Nat):V:=.m (.g n)
noncomputable def adO {α:Type} (k:Nat) (x:α) (l:List α):List α:=Nat.rec l (fun _ ih=>x::ih) k
noncomputable def bR (k n:Nat):V:=.sl none 1 (Pb k n [])
def tvF:List V:=[.i .u32 (.ofNat 0),.i .i32 (.ofNat 0),.i .u32 (.ofNat 0),tU 0,tU 0,tU 0,tU 0,tU 0,tU 0,tU 0,tU 0,tU 0,tU 0,tU 0,tU 0,tU 0,tU 0,tU 0,tU 0,tU 0,tU 0,tU 0,tU 0,tU 0,tU 0,tU 0,tU 0,tU 0,tU 0,tU 0,tU 0,tU 0,tU 0,tU 0,tU 0,tU 0,tU 0,tU 0,tU 0,tU 0,tU 0,tU 0,tU 0,tU 0,tU 0,tU 0,tU 0,tU 0,tU 0,tU 0,tU 0,tU 0,tU 0,tU 0,tU 0,tU 0,tU 0,tU 0,tU 0,tU 0,tU 0,tU 0,tU 0,tU 0,tU 0,tU 0,tU 0,tU 0,tU 0,tU 0,tU 0,tU 0,tU 0,tU 0,tU 0,tU 0,tU 0,tU 0,tU 0,tU 0,tU 0,tU 0,tU 0,tU 0,tU 0,tU 0,tU 0,tU 0,tU 0,tU 0,tU 0,tU 0,tU 0,tU 0,tU 0,tU 0,tU 0,tU 0,tU 0,tU 0,tU 0,tU 0,tU 0,tU 0,tU 0,tU 0,tU 0,tU 0,tU 0,tU 0,tU 0,tU 0,tU 0,tU 0,tU 0,tU 0,tU 0,tU 0,tU 0,tU 0,tU 0,tU 0,tU 0,tU 0,tU 0,tU 0,tU 0,tU 0,tU 0,tU 0,tU 0,tU 0,tU 0,tU 0,tU 0,tU 0,tU 0,tU 0,tU 0,tU 0,tU 0,tU 0,tU 0,tU 0,tU 0,tU 0,tU 0,tU 0,tU 0,tU 0,tU 0,tU 0,tU 0,tU 0,tU 0,tU 0,tU 0,tU 0,tU 0,tU 0,tU 0,tU 0,tU 0,tU 0,tU 0,tU 0,tU 0,tU 0,tU 0,tU 0,tU 0,tU 0,tU 0,tU 0,tU 0,tU 0,tU 0,tU 0,tU 0,tU 0,tU 0,tU 0,tU 0,tU 0,tU 0,tU 0,tU 0,tU 0,tU 0,tU 0,tU 0,tU 0,tU 0,tU 0,tU 0,tU 0,tU 0,tU 0,tU 0,tU 0,tU 0,tU 0,tU 0,tU 0,tU 0,tU 0,tU 0,tU 0,tU 0,tU 0,tU 0,tU 0,tU 0,tU 0,tU 0,tU 0,tU 0,tU 0,tU 0,tU 0,tU 0,tU 0,tU 0,tU 0,tU 0,tU 0,tU 0,tU 0,tU 0,tU 0,tU 0,tU 0,tU 0,tU 0,tU 0,tU 0,tU 0,tU 0,tU 0,tU 0,tU 0,tU 0,tU 0,tU 0,tU 0,tU 0,tU 0,tU 0,tU 0,tU 0,tU 0,tU 0,tU 0,tU 0,tU 0,tU 0,tU 0,tU 0,tU 0,nB 0,nB 0,nB 0,nB 0,nB 0,nB 0,nB 0,nB 0,nB 0,nB 0,nB 0,nB 0,nB 0,nB 0,nB 0,nB 0,nB 0,nB 0,nB 0,nB 0,nB 0,nB 0,nB 0,nB 0,nB 0,nB 0,nB 0,nB 0,nB 0,nB 0,nB 0,nB 0,nB 0,nB 0,nB 0,nB 0,nB 0,nB 0]
def tvT:List V:=[.i .u32 (.ofNat 1),.i .i32 (.ofNat 0),.i .u32 (.ofNat 0),tU 0,tU 0,tU 0,tU 0,tU 0,tU 0,tU 0,tU 0,tU 0,tU 0,tU 0,tU 0,tU 0,tU 0,tU 0,tU 0,tU 0,tU 0,tU 0,tU 0,tU 0,tU 0,tU 0,tU 0,tU 0,tU 0,tU 0,tU 0,tU 0,tU 0,tU 0,tU 0,tU 0,tU 0,tU 0,tU 0,tU 0,tU 0,tU 0,tU 0,tU 0,tU 0,tU 0,tU 0,tU 0,tU 37,tU 0,tU 0,tU 27,tU 28,tU 29,tU 30,tU 31,tU 32,tU 33,tU 34,tU 35,tU 36,tU 0,tU 0,tU 0,tU 0,tU 0,tU 0,tU 0,tU 0,tU 0,tU 0,tU 0,tU 0,tU 0,tU 0,tU 0,tU 0,tU 0,tU 0,tU 0,tU 0,tU 0,tU 0,tU 0,tU 0,tU 0,tU 0,tU 0,tU 0,tU 0,tU 0,tU 0,tU 0,tU 0,tU 0,tU 0,tU 0,tU 0,tU 0,tU 0,tU 1,tU 2,tU 3,tU 4,tU 5,tU 6,tU 7,tU 8,tU 9,tU 10,tU 11,tU 12,tU 13,tU 14,tU 15,tU 16,tU 17,tU 18,tU 19,tU 20,tU 21,tU 22,tU 23,tU 24,tU 25,tU 26,tU 0,tU 0,tU 0,tU 0,tU 0,tU 0,tU 0,tU 0,tU 0,tU 0,tU 0,tU 0,tU 0,tU 0,tU 0,tU 0,tU 0,tU 0,tU 0,tU 0,tU 0,tU 0,tU 0,tU 0,tU 0,tU 0,tU 0,tU 0,tU 0,tU 0,tU 0,tU 0,tU 0,tU 0,tU 0,tU 0,tU 0,tU 0,tU 0,tU 0,tU 0,tU 0,tU 0,tU 0,tU 0,tU 0,tU 0,tU 0,tU 0,tU 0,tU 0,tU 0,tU 0,tU 0,tU 0,tU 0,tU 0,tU 0,tU 0,tU 0,tU 0,tU 0,tU 0,tU 0,tU 0,tU 0,tU 0,tU 0,tU 0,tU 0,tU 0,tU 0,tU 0,tU 0,tU 0,tU 0,tU 0,tU 0,tU 0,tU 0,tU 0,tU 0,tU 0,tU 0,tU 0,tU 0,tU 0,tU 0,tU 0,tU 0,tU 0,tU 0,tU 0,tU 0,tU 0,tU 0,tU 0,tU 0,tU 0,tU 0,tU 0,tU 0,tU 0,tU 0,tU 0,tU 0,tU 0,tU 0,tU 0,tU 0,tU 0,tU 0,tU 0,tU 0,tU 0,tU 0,tU 0,tU 0,tU 0,tU 0,tU 0,tU 0,tU 0,tU 0,tU 0,tU 0,tU 0,tU 0,tU 0,tU 0,tU 0,tU 0,tU 0,nB 0,nB 97,nB 98,nB 99,nB 100,nB 101,nB 102,nB 103,nB 104,nB 105,nB 106,nB 107,nB 108,nB 109,nB 110,nB 111,nB 112,nB 113,nB 114,nB 115,nB 116,nB 117,nB 118,nB 119,nB 120,nB 121,nB 122,nB 48,nB 49,nB 50,nB 51,nB 52,nB 53,nB 54,nB 55,nB 56,nB 57,nB 45]
theorem Tq:tvF=tv false:=by kernel_rfl
theorem Tr:tvT=tv true:=by kernel_rfl
open Go
noncomputable def kX (f:Nat):Oc:=aZ (AF.fns.get f) ⟨fun _ _ _=>.none⟩ fun F=>Vs fF F
theorem fnC_ok {P:Program} (hG:yD P AF.fns.get) (f:Nat):Al P f (kX f):=by
 unfold kX
 cases h:AF.fns.get f with
 |none=>exact KH
 |some F=>exact SF noGc_ok (hG f F h)
noncomputable def aS (k:Nat) (c:Oc) (o:Nat->Option Oc) (f:Nat):Option Oc:=aL (Nat.beq f k) (some c) (o f)
theorem aM {P:Program} {k:Nat} {c:Oc} {o:Nat->Option Oc} (hc:Al P k c) (ho:KC P o):KC P (aS k c o):=by
 intro f c' he
 unfold aS at he
 cases hb:Nat.beq f k
 · rw [hb] at he
   exact ho f c' he
 · rw [hb] at he
   have hk:=gG hb
   subst hk
   cases he
   exact hc
theorem Lq {P:Program}:KC P fun _=>none:=fun _ _ he=>by cases he
noncomputable def PD:Nat->Option Oc:=
 aS 55 (Ru (kX 55))<|
 aS 156 (Rv (kX 156))<|
 aS 93 (KL (kX 93))<|
 aS 119 (KP tvF tvT)<|
 aS 190 Rt<|
 aS 101 Vz<|
 aS 102 (GP 179)<|
 aS 174 VA<|
 aS 317 (KO (kX 317)) fun _=>none
open Go
section
variable {P:Program} {E:Env} {st:St} {w:World}
theorem bC.cellOf (hs:bC E st w) {k:Key} {c:List V} (hk:st.get k=some (.cs c)) {off:Nat} {v:V} (hv:c[off]? =some v):
 ∃ x,w.cell? ⟨(E.μ k).aW,(E.μ k).base+off,none⟩=some x/\Rel (E.at k) v x/\w.frozen? ⟨(E.μ k).aW,(E.μ k).base+off,none⟩=false:=by
 obtain ⟨cells,t,fz,h1,h2,h3,h4,h5⟩:=hs.cs hk
 obtain ⟨x,hx,hr,_⟩:=h5 off v hv
 refine ⟨x,?_,hr,?_⟩
 · rw [jV];simp [aT,h1,hx]
 · exact Fz.free h1 h2 (Array.getElem?_eq_some_iff.1 hx).1
theorem bC.Cp (hs:bC E st w) {k:Key} {c:List V} (hk:st.get k=some (.cs c)) {off:Nat} (ho:off<c.length) {v:V} {x:Value} (hr:Rel (E.at k) v x) (h1:x.oneCell'=true):
 bC E (st.set k (.cs (c.set off v))) (w.setCell ⟨(E.μ k).aW,(E.μ k).base+off,none⟩ x)/\Ext E st w E (st.set k (.cs (c.set off v))) (w.setCell ⟨(E.μ k).aW,(E.μ k).base+off,none⟩ x):=by
 obtain ⟨cells,ty,fz,r1,r2,r3,r4,r5⟩:=hs.cs hk
 have rT:cP (E.at k) [v] [x].toArray:=⟨rfl,fun j u y hj hy=>by
  cases j with
  |zero=>simp at hj hy;subst hj;subst hy;exact hr
  |succ j=>simp at hj⟩
 have e9:=eH.written r1 r2 r3 r4 r5 (off:=off) (vs:=[v]) (xs:=[x]) rT (by simpa using h1) (by simp;omega)
 exact hs.write hk r1 r4 (pos:=(E.μ k).base+off) (xs:=[x]) (by omega) (by simp;omega) (.cs (b8 c off [v])) ⟨hs.Bq hk,e9⟩
theorem pO {k:IntKind} {n:Int} {x:Value} (h:Rel E (.i k n) x):x=.int k n:=by
 cases h with
 |deep hd=>cases hd;rfl
theorem St.Ts (h:aA) (n:Nat) (o:Obj):(eR h).set (.g n) o=eR (h.set n o):=rfl
theorem aA.G4 (n:Nat) (x y:Obj):∀ l,aA.rF (aA.rF l n x) n y=aA.rF l n y
 |[]=>rfl
 |(k,o)::r=>by
  by_cases hk:k=n
  · simp [aA.rF,hk]
  · simp [aA.rF,hk,aA.G4 n x y r]
theorem aA.set_set (h:aA) (n:Nat) (x y:Obj):(h.set n x).set n y=h.set n y:=by simp [aA.set,aA.G4]
theorem G5 {a0:V} {vs:Array Value} (hv:cP E [a0] vs):∃ x0,vs=#[x0]/\Rel E a0 x0:=by
 obtain ⟨x0,h0,r0⟩:=hv.get (j:=0) rfl
 have hs:=hv.1
 refine ⟨x0,Array.ext (by simpa using hs) fun i h1 h2=>?_,r0⟩
 have:i=0:=by simp at h2;omega
 subst this
 simpa using (Array.getElem?_eq_some_iff.1 h0).2
theorem G6 {a0 a1:V} {vs:Array Value} (hv:cP E [a0,a1] vs):∃ x0 x1,vs=#[x0,x1]/\Rel E a0 x0/\Rel E a1 x1:=by
 obtain ⟨x0,h0,r0⟩:=hv.get (j:=0) rfl
 obtain ⟨x1,h1,r1⟩:=hv.get (j:=1) rfl
 have hs:=hv.1
 refine ⟨x0,x1,Array.ext (by simpa using hs) fun i i1 i2=>?_,r0,r1⟩
 have:i=0\/i=1:=by simp at i2;omega
 rcases this with rfl|rfl
 · simpa using (Array.getElem?_eq_some_iff.1 h0).2
 · simpa using (Array.getElem?_eq_some_iff.1 h1).2
theorem Eo {k:Key} {off:Nat} {x:Value} (h:Rel E (.p k off) x):E.has k/\x=.pointer (some ⟨(E.μ k).aW,(E.μ k).base+off,none⟩):=by
 cases h with
 |deep hd=>cases hd
 |p _ _ hk=>exact ⟨hk,rfl⟩
theorem Wm:Rel E (.bO []) (.tuple #[]):=dN
end
end Go.Eng
namespace Go.Proofs.YtdjbjnnfmkoceaaGreat
open Go.Eng
theorem add_ok:∀ (args:List V) (h:aA) (r:V) (h':aA),BT args h=some (r,h')->∀ K:V->aA->Prop,K r h'->aB Tryz.prog 101 args h K:=by
 intro args h r h' hx K hK
 unfold BT at hx
 split at hx
 case h_2=>cases hx
 rename_i k off n
 split at hx
 case h_2=>cases hx
 rename_i c hc
 split at hx
 case h_2=>cases hx
 rename_i m hm
 cases hx
 refine ⟨by kernel_rfl,fun E w vs vY hs hv=>?_⟩
 obtain ⟨x0,x1,rfl,r0,r1⟩:=G6 hv
 obtain ⟨hk,rfl⟩:=Eo r0
 have:=pO r1
 subst this
 have dC:(eR h).get (.g k)=some (.cs c):=hc
 obtain ⟨y,hy,ry,fy⟩:=hs.cellOf dC hm
 have:=pO ry
 subst this
 have cQ:=(List.getElem?_eq_some_iff.1 hm).1
 obtain ⟨s1,s2⟩:=hs.Cp dC cQ (v:=.i .i64 (IntKind.i64.wrap (m+n))) (x:=.int .i64 (IntKind.i64.wrap (m+n))) (.deep (.i _ _)) rfl
 refine (Wl _ m n _ rfl w hy fy).mono ?_
 rintro e w' ⟨rfl,rfl⟩
 exact ⟨_,_,_,E,hK,rfl,vY,s1,s2,.deep (.i _ _)⟩
theorem once_ok:BJ Tryz.prog 190:=by
 refine ⟨fun k off g first cap c d h K hc hd cO hK=>?_,fun k off g first cap c h K hc hd hm hg=>?_⟩
 · refine ⟨by kernel_rfl,fun E w vs vY hs hv=>?_⟩
   obtain ⟨x0,x1,rfl,r0,r1⟩:=G6 hv
   obtain ⟨hk,rfl⟩:=Eo r0
   have dC:(eR h).get (.g k)=some (.cs c):=hc
   obtain ⟨y,hy,ry,fy⟩:=hs.cellOf dC hd
   have:=pO ry
   subst this
   refine (PE _ d cO x1 w hy).mono ?_
   rintro e w' ⟨rfl,rfl⟩
   exact ⟨_,_,_,E,hK,rfl,vY,hs,.refl _ _ _,Wm⟩
 · refine ⟨by kernel_rfl,fun E w vs vY hs hv=>?_⟩
   obtain ⟨x0,x1,rfl,r0,r1⟩:=G6 hv
   obtain ⟨hk,rfl⟩:=Eo r0
   have dC:(eR h).get (.g k)=some (.cs c):=hc
   obtain ⟨y,hy,ry,fy⟩:=hs.cellOf dC hd
   have:=pO ry
   subst this
   obtain ⟨z,hz,rz,fz⟩:=hs.cellOf dC hm
   have:=pO rz
   subst this
   cases r1 with
   |deep hd=>cases hd
   |fn _ _ _ fa ca h1 h2 h3 h4=>
   have cQ:=(List.getElem?_eq_some_iff.1 hm).1
   obtain ⟨s1,s2⟩:=hs.Cp dC cQ (v:=.i .i32 1) (x:=.int .i32 1) (.deep (.i _ _)) rfl
   have uW:=hg.2 E _ (fa++ca) vY s1 (cP.append ⟨h1,h3⟩ ⟨h2,h4⟩)
   refine (Ls _ _ g fa ca w (fun _ w1=>∃ E' h2 c2,E'.nl=0/\bC E' (eR h2) w1/\Ext E (eR h) w E' (eR h2) w1/\h2.get k=some (.cs c2)/\c2[off]? =some (.i .u32 0)/\c2[off+1]? =some (.i .i32 1)/\
    K (.bO []) (h2.set k (.cs ((c2.set off (.i .u32 1)).set (off+1) (.i .i32 0))))) hy hz fz hg.1 (uW.mono ?_) ?_).mono ?_
   · rintro e w1 ⟨v,x,h2,E',⟨c2,g1,g2,g3,g4⟩,rfl,n1,n2,n3,n4⟩
     exact ⟨x,rfl,E',h2,c2,n1,n2,s2.trans n3,g1,g2,g3,g4⟩
   · rintro x w1 ⟨E',h2,c2,n1,n2,n3,g1,g2,g3,g4⟩
     have Lt:(eR h2).get (.g k)=some (.cs c2):=g1
     obtain ⟨y1,q1,t1,u1⟩:=n2.cellOf Lt g2
     obtain ⟨y2,q2,t2,u2⟩:=n2.cellOf Lt g3
     have:=pO t2
     subst this
     rw [n3.le.loc _ hk] at q1 q2 u1 u2
     exact ⟨⟨y1,q1⟩,q2,u1,u2⟩
   · rintro e w' ⟨rfl,x,w1,⟨E',h2,c2,n1,n2,n3,g1,g2,g3,g4⟩,rfl⟩
     have Lt:(eR h2).get (.g k)=some (.cs c2):=g1
     have hl:=n3.le.loc _ hk
     have d1:bC E' (eR h2) w1.drew:=n2.of_heap (w:=w1) (w':=w1.drew) rfl
     have d2:Ext E' (eR h2) w1 E' (eR h2) w1.drew:=Ext.drawn _
     have OP:=(List.getElem?_eq_some_iff.1 g2).1
     have Ze:=(List.getElem?_eq_some_iff.1 g3).1
     obtain ⟨a1,a2⟩:=d1.Cp Lt OP (v:=.i .u32 1) (x:=.int .u32 1) (.deep (.i _ _)) rfl
     have Zf:(eR (h2.set k (.cs (c2.set off (.i .u32 1))))).get (.g k)=some (.cs (c2.set off (.i .u32 1))):=by
      rw [<-St.Ts,St.rN,if_pos rfl,Lt];rfl
     obtain ⟨b1,b2⟩:=a1.Cp Zf (by simpa using Ze) (v:=.i .i32 0) (x:=.int .i32 0) (.deep (.i _ _)) rfl
     have Zg:((eR h2).set (.g k) (.cs (c2.set off (.i .u32 1)))).set (.g k) (.cs ((c2.set off (.i .u32 1)).set (off+1) (.i .i32 0)))=eR (h2.set k (.cs ((c2.set off (.i .u32 1)).set (off+1) (.i .i32 0)))):=by
      rw [St.Ts,St.Ts,aA.set_set]
     rw [Zg] at b1 b2
     rw [hl] at a2 b1 b2
     rw [Nat.add_assoc]
     exact ⟨_,_,_,E',g4,rfl,n1,b1,n3.trans (d2.trans (a2.trans b2)),Wm⟩
open Go.Eng
theorem Ap (a b:ByteArray) (w:World):Calls Tryz.prog 174 #[.string a,.string b] w fun e w'=>e=.returned (.int .i64 (Lib.compareBytes a.data.toList b.data.toList))/\w'=w:=by
 go_enter Tryz.func174,Tryz.ntmps174
 go_wp2
 rw [run_callFunc_extern Tryz.func255 (by kernel_rfl) (by kernel_rfl) (by kernel_rfl) (e:=Extern.BytealgCompare.compare) (by kernel_rfl),Lib.run_compareString]
 simp only [Result.andThen]
 rw [Oper.upon_value]
 go_wp2
 go_ret
 exact ⟨rfl,rfl⟩
theorem G7:∀ a b:List UInt8,FK a b=Lib.compareBytes a b
 |[],[]=>rfl
 |[],_::_=>rfl
 |_::_,[]=>rfl
 |a::r,b::q=>by
  have ih:=G7 r q
  simp only [FK,Lib.compareBytes,UInt8.lt_iff_toNat_lt]
  by_cases h1:a.toNat<b.toNat
  · have:Nat.blt a.toNat b.toNat=true:=by simpa using h1
    rw [this,if_pos h1]
  · have e1:Nat.blt a.toNat b.toNat=false:=by rw [Bool.eq_false_iff];exact fun hc=>h1 (by simpa [Nat.blt_eq] using hc)
    rw [e1,if_neg h1]
    by_cases h2:b.toNat<a.toNat
    · have:Nat.blt b.toNat a.toNat=true:=by simpa using h2
      rw [this,if_pos h2]
    · have e2:Nat.blt b.toNat a.toNat=false:=by rw [Bool.eq_false_iff];exact fun hc=>h2 (by simpa [Nat.blt_eq] using hc)
      rw [e2,if_neg h2]
      exact ih
theorem cmpS_ok (a b:List UInt8) (h:aA) (K:V->aA->Prop) (hK:K (.i .i64 (FK a b)) h):aB Tryz.prog 174 [.s a,.s b] h K:=by
 refine ⟨by kernel_rfl,fun E w vs vY hs hv=>?_⟩
 obtain ⟨x0,x1,rfl,r0,r1⟩:=G6 hv
 have:=r0.vJ
 subst this
 have:=r1.vJ
 subst this
 refine (Ap _ _ w).mono ?_
 rintro e w' ⟨rfl,rfl⟩
 refine ⟨_,_,_,E,hK,rfl,vY,hs,.refl _ _ _,?_⟩
 rw [G7]
 exact .deep (.i _ _)
end Go.Proofs.YtdjbjnnfmkoceaaGreat
namespace Go.Eng
open Go
noncomputable def v1:V:=(.s [110,47,110])
noncomputable def v2:V:=(bR 23 0x22e5a183828c2d0000000000500000005000000050000)
noncomputable def v3:List V:=[v1,(nN 1),v2]
noncomputable def v4:V:=(.s [112,47,112])
noncomputable def v5:V:=(bR 62 0x134f940402e9580000000000000000001000000000001000000010000000100000000000000000000000000000000000000000000000000000000000000)
noncomputable def v6:List V:=[v4,(nN 2),v5]
noncomputable def v7:Nat×Obj:=(4,(.cs [.bU,(nN 200)]))
noncomputable def v8:Nat×Obj:=(6,(.cs ((.ms (.g 5) 1 0 2)::(adO 128 (nN 0) []))))
noncomputable def v9:List V:=[(.s [112]),(nN 1),(nN 0),(nN 1),(nN 1),(nN 1),.bU,.bU,.bU,.bU,(.s []),.bU,(nN 0),.bU,(.s []),(nN 0)]
noncomputable def v10:List V:=[(.s [110]),(nN 5),(nN 5),(nN 5),.bU,.bU]
noncomputable def v11:Nat×Obj:=(8,(.mp none [(v1,(.agg v10))]))
noncomputable def v12:Nat×Obj:=(9,(.mp (some .i64) [((nN 1),(.b true))]))
noncomputable def v13:V:=(.ms (.g 26) 3 0 2)
noncomputable def v14:V:=(.i .i64 (.negSucc 0))
noncomputable def v15:Obj:=(.cs [.cY,v14])
noncomputable def v16:Nat×Obj:=(12,(.cs [(nN 0),(nN 0),(pG 11),(.b false),(nN 0),(nN 0),(nN 0),(.s []),(nN 0),.bU,.bU,(nN 0),(nN 0)]))
noncomputable def v17:Obj:=(.cs [(nN 0),(.b false),(.b false),(nN 0),(nN 0),(nN 0),(nN 0),(.b false),(nN 0),(nN 0),(nN 0)])
noncomputable def v18:Obj:=(.cs [.bU,.bU,.bU,(.b false)])
noncomputable def v19:Obj:=(.cs [.bU])
noncomputable def v20:Nat×Obj:=(16,(.cs ((nN 0)::(.b false)::(nN 0)::(pG 12)::(pG 13)::(pG 14)::(pG 15)::.bU::(adO 7 (nN 0) [(.s []),(.b false),(nN 0)]))))
noncomputable def v21:Nat×Obj:=(20,(.cs [(nN 1),(nN 0),(pG 19),(.b false),(nN 0),(nN 0),(nN 0),(.s []),(nN 0),.bU,.bU,(nN 0),(nN 0)]))
noncomputable def v22:Nat×Obj:=(21,(.cs [(nN 1),(.b false),(.b false),(nN 0),(nN 0),(nN 0),(nN 0),(.b false),(nN 0),(nN 0),(nN 0)]))
noncomputable def v23:Nat×Obj:=(24,(.cs ((nN 1)::(.b false)::(nN 0)::(pG 20)::(pG 21)::(pG 22)::(pG 23)::.bU::(adO 7 (nN 0) [(.s []),(.b false),(nN 0)]))))
noncomputable def v24:List V:=[(pG 16),(.b false),(nN 0)]
noncomputable def v25:List V:=[(pG 24),(.b false),(nN 0)]
noncomputable def v26:Nat×Obj:=(26,(.arr 3 [v24,v25]))
noncomputable def v27:Nat×Obj:=(37,(.arr 3 [[v1,v2,(.b false)]]))
noncomputable def v28:List V:=[(nN 1),v1,v2,(.b false)]
noncomputable def v29:List V:=[(nN 2),v4,v5,(.b false)]
noncomputable def v30:Nat×Obj:=(44,(.arr 3 [[v4,v5,(.b false)]]))
noncomputable def v31:List V:=[(nN 1),v14,.bU,(.ms (.g 37) 3 0 1)]
noncomputable def v32:List V:=[(nN 2),v14,.bU,(.ms (.g 44) 3 0 1)]
noncomputable def v33:V:=(bR 62 0x134f940402e958000000000000000000100000000000100000001000000010000000000000000000000000000002e5a183828c2d0000000000000000003)
noncomputable def v34:List V:=[v4,(nN 4),v33]
noncomputable def v35:V:=(bR 10 0x30000000000000003e8)
noncomputable def v36:List V:=[(.s [108]),(nN 27),v35]
noncomputable def v37:Nat×Obj:=(4,(.cs [(.ms (.g 562) 3 0 0),(nN 200)]))
noncomputable def v38:List V:=[(.s [112]),(nN 1),(nN 0),(nN 1),(nN 1),(nN 1),.bU,.bU,.bU,.bU,(.s []),.bU,(nN 0),.bU,(.s [110]),(nN 3)]
noncomputable def v39:Nat×Obj:=(7,(.mp none [(v4,(.agg v38))]))
noncomputable def v40:V:=(.sl none 6 [v10])
noncomputable def v41:Nat×Obj:=(15,(.cs [(.ms (.g 1352) 6 0 0)]))
noncomputable def v42:V:=(.ms (.g 1354) 6 0 1)
noncomputable def v43:List V:=[(.s [108]),(nN 26),v35]
noncomputable def v44:List V:=[(.b false),(nN 0),.bU]
noncomputable def v45:Obj:=(.arr 3 [v44,v44])
noncomputable def v46:Obj:=(.arr 3 [[(.s [108]),v35,(.b false)]])
noncomputable def v47:Obj:=(.arr 6 [[(.s []),(.s []),.bU,(nN 0),(nN 0),(nN 0)]])
noncomputable def v48:Obj:=(.arr 6 [[(.s [112]),(.s [110]),.bU,(nN 1),(nN 3),(nN 350)]])
noncomputable def v49:Nat×Obj:=(1624,(.arr 3 [[v4,v33,(.b false)]]))
noncomputable def v50:Obj:=(.arr 16 [v38])
noncomputable def v51:List V:=[(nN 3),(.s [108]),v35,(.b false)]
noncomputable def v52:List V:=[(nN 4),v4,v33,(.b false)]
noncomputable def v53:List V:=[(nN 5),(.s [108]),v35,(.b false)]
noncomputable def v54:List V:=[(nN 6),(.s [108]),v35,(.b false)]
noncomputable def v55:List V:=[(nN 7),(.s [108]),v35,(.b false)]
noncomputable def v56:List V:=[(nN 8),(.s [108]),v35,(.b false)]
noncomputable def v57:List V:=[(nN 9),(.s [108]),v35,(.b false)]
noncomputable def v58:List V:=[(nN 10),(.s [108]),v35,(.b false)]
noncomputable def v59:List V:=[(nN 11),(.s [108]),v35,(.b false)]
noncomputable def v60:List V:=[(nN 12),(.s [108]),v35,(.b false)]
noncomputable def v61:List V:=[(nN 13),(.s [108]),v35,(.b false)]
noncomputable def v62:List V:=[(nN 14),(.s [108]),v35,(.b false)]
noncomputable def v63:List V:=[(nN 15),(.s [108]),v35,(.b false)]
noncomputable def v64:List V:=[(nN 16),(.s [108]),v35,(.b false)]
noncomputable def v65:List V:=[(nN 17),(.s [108]),v35,(.b false)]
noncomputable def v66:List V:=[(nN 18),(.s [108]),v35,(.b false)]
noncomputable def v67:List V:=[(nN 19),(.s [108]),v35,(.b false)]
noncomputable def v68:List V:=[(nN 20),(.s [108]),v35,(.b false)]
noncomputable def v69:List V:=[(nN 21),(.s [108]),v35,(.b false)]
noncomputable def v70:List V:=[(nN 22),(.s [108]),v35,(.b false)]
noncomputable def v71:List V:=[(nN 23),(.s [108]),v35,(.b false)]
noncomputable def v72:List V:=[(nN 24),(.s [108]),v35,(.b false)]
noncomputable def v73:List V:=[(nN 25),(.s [108]),v35,(.b false)]
noncomputable def v74:List V:=[(nN 26),(.s [108]),v35,(.b false)]
noncomputable def v75:List V:=[(nN 27),(.s [108]),v35,(.b false)]
noncomputable def v76:V:=(.sl none 3 [[(.s [108]),(nN 0),(.b false)]])
noncomputable def v77:List V:=[(nN 3),(nN 0),v76,(.ms (.g 738) 3 0 1)]
noncomputable def v78:List V:=[(.s [108]),(nN 3),(.b false)]
noncomputable def v79:V:=(.s [112,47])
noncomputable def v80:V:=(.s [110,47])
noncomputable def v81:List V:=[(nN 4),(nN 0),(.sl none 3 [v78,[v4,(nN 2),(.b false)],[v1,(nN 1),(.b false)],[v79,(nN 3),(.b true)],[v80,(nN 3),(.b true)]]),(.ms (.g 1624) 3 0 1)]
noncomputable def v82:List V:=[(nN 5),(nN 0),(.sl none 3 [v78]),(.ms (.g 2695) 3 0 1)]
noncomputable def v83:List V:=[(nN 6),(nN 0),(.sl none 3 [[(.s [108]),(nN 5),(.b false)]]),(.ms (.g 4132) 3 0 1)]
noncomputable def v84:List V:=[(nN 7),(nN 0),(.sl none 3 [[(.s [108]),(nN 6),(.b false)]]),(.ms (.g 5569) 3 0 1)]
noncomputable def v85:List V:=[(nN 8),(nN 0),(.sl none 3 [[(.s [108]),(nN 7),(.b false)]]),(.ms (.g 7006) 3 0 1)]
noncomputable def v86:List V:=[(nN 9),(nN 0),(.sl none 3 [[(.s [108]),(nN 8),(.b false)]]),(.ms (.g 8443) 3 0 1)]
noncomputable def v87:List V:=[(.s [108]),(nN 9),(.b false)]
noncomputable def v88:V:=(.sl none 3 [v87])
noncomputable def v89:List V:=[(nN 10),(nN 0),v88,(.ms (.g 9880) 3 0 1)]
noncomputable def v90:List V:=[(nN 11),(nN 0),(.sl none 3 [[(.s [108]),(nN 10),(.b false)]]),(.ms (.g 11317) 3 0 1)]
noncomputable def v91:List V:=[(nN 12),(nN 0),(.sl none 3 [[(.s [108]),(nN 11),(.b false)]]),(.ms (.g 12754) 3 0 1)]
noncomputable def v92:List V:=[(.s [108]),(nN 12),(.b false)]
noncomputable def v93:V:=(.sl none 3 [v92])
noncomputable def v94:List V:=[(nN 13),(nN 0),v93,(.ms (.g 14191) 3 0 1)]
noncomputable def v95:List V:=[(nN 14),(nN 0),(.sl none 3 [[(.s [108]),(nN 13),(.b false)]]),(.ms (.g 15628) 3 0 1)]
noncomputable def v96:List V:=[(nN 15),(nN 0),(.sl none 3 [[(.s [108]),(nN 14),(.b false)]]),(.ms (.g 17065) 3 0 1)]
noncomputable def v97:List V:=[(.s [108]),(nN 15),(.b false)]
noncomputable def v98:V:=(.sl none 3 [v97])
noncomputable def v99:List V:=[(nN 16),(nN 0),v98,(.ms (.g 18502) 3 0 1)]
noncomputable def ah9:List V:=[(nN 17),(nN 0),(.sl none 3 [[(.s [108]),(nN 16),(.b false)]]),(.ms (.g 19939) 3 0 1)]
noncomputable def alZ:V:=(.sl none 3 [[(.s [108]),(nN 17),(.b false)]])
noncomputable def aiM:List V:=[(nN 18),(nN 0),alZ,(.ms (.g 21376) 3 0 1)]
noncomputable def al0:V:=(.sl none 3 [[(.s [108]),(nN 18),(.b false)]])
noncomputable def aiN:List V:=[(nN 19),(nN 0),al0,(.ms (.g 22813) 3 0 1)]
noncomputable def al1:V:=(.sl none 3 [[(.s [108]),(nN 19),(.b false)]])
noncomputable def ajB:List V:=[(nN 20),(nN 0),al1,(.ms (.g 24250) 3 0 1)]
noncomputable def al2:V:=(.sl none 3 [[(.s [108]),(nN 20),(.b false)]])
noncomputable def ajO:List V:=[(nN 21),(nN 0),al2,(.ms (.g 25687) 3 0 1)]
noncomputable def al3:V:=(.sl none 3 [[(.s [108]),(nN 21),(.b false)]])
noncomputable def akZ:List V:=[(nN 22),(nN 0),al3,(.ms (.g 27124) 3 0 1)]
noncomputable def al4:V:=(.sl none 3 [[(.s [108]),(nN 22),(.b false)]])
noncomputable def ak0:List V:=[(nN 23),(nN 0),al4,(.ms (.g 28561) 3 0 1)]
noncomputable def al5:V:=(.sl none 3 [[(.s [108]),(nN 23),(.b false)]])
noncomputable def al6:List V:=[(nN 24),(nN 0),al5,(.ms (.g 29998) 3 0 1)]
noncomputable def al7:V:=(.sl none 3 [[(.s [108]),(nN 24),(.b false)]])
noncomputable def aqU:List V:=[(nN 25),(nN 0),al7,(.ms (.g 31435) 3 0 1)]
noncomputable def ak1:V:=(.sl none 3 [[(.s [108]),(nN 25),(.b false)]])
noncomputable def ak2:V:=(.sl none 3 [[(.s [108]),(nN 26),(.b false)]])
noncomputable def ak3:List V:=[(.s [108]),(nN 3),v35]
noncomputable def asP:Obj:=(.mp none [(v1,(.agg v3)),(v4,(.agg v34)),((.s [108]),(.agg ak3))])
noncomputable def ak4:List V:=[(.s [112]),(nN 1),(nN 0),(nN 1),(nN 1),(nN 1),.bU,.bU,.bU,.bU,(.s []),.bU,(nN 0),.bU,(.s [110]),(nN 0)]
noncomputable def al8:List V:=[(.s [108]),(nN 5),v35]
noncomputable def asQ:Obj:=(.mp none [(v1,(.agg v3)),(v4,(.agg v34)),((.s [108]),(.agg al8))])
noncomputable def al9:List V:=[(.s [108]),(nN 7),v35]
noncomputable def amA:List V:=[(.s [108]),(nN 6),v35]
noncomputable def amB:List V:=[(.s [108]),(nN 8),v35]
noncomputable def asR:Obj:=(.mp none [(v1,(.agg v3)),(v4,(.agg v34)),((.s [108]),(.agg amB))])
noncomputable def ahE:List V:=[(.s [108]),(nN 9),v35]
noncomputable def asS:Obj:=(.mp none [(v1,(.agg v3)),(v4,(.agg v34)),((.s [108]),(.agg ahE))])
noncomputable def amC:List V:=[(.s [108]),(nN 11),v35]
noncomputable def amD:List V:=[(.s [108]),(nN 10),v35]
noncomputable def ahF:List V:=[(.s [108]),(nN 12),v35]
noncomputable def asT:Obj:=(.mp none [(v1,(.agg v3)),(v4,(.agg v34)),((.s [108]),(.agg ahF))])
noncomputable def amE:List V:=[(.s [108]),(nN 13),v35]
noncomputable def asU:Obj:=(.mp none [(v1,(.agg v3)),(v4,(.agg v34)),((.s [108]),(.agg amE))])
noncomputable def ahS:List V:=[(.s [108]),(nN 15),v35]
noncomputable def amF:List V:=[(.s [108]),(nN 14),v35]
noncomputable def amG:List V:=[(.s [108]),(nN 16),v35]
noncomputable def asV:Obj:=(.mp none [(v1,(.agg v3)),(v4,(.agg v34)),((.s [108]),(.agg amG))])
noncomputable def aiO:List V:=[(.s [108]),(nN 17),v35]
noncomputable def asW:Obj:=(.mp none [(v1,(.agg v3)),(v4,(.agg v34)),((.s [108]),(.agg aiO))])
noncomputable def aiP:List V:=[(.s [108]),(nN 19),v35]
noncomputable def aiQ:List V:=[(.s [108]),(nN 18),v35]
noncomputable def aiR:List V:=[(.s [108]),(nN 20),v35]
noncomputable def asX:Obj:=(.mp none [(v1,(.agg v3)),(v4,(.agg v34)),((.s [108]),(.agg aiR))])
noncomputable def aiS:List V:=[(.s [108]),(nN 21),v35]
noncomputable def asY:Obj:=(.mp none [(v1,(.agg v3)),(v4,(.agg v34)),((.s [108]),(.agg aiS))])
noncomputable def aiT:List V:=[(.s [108]),(nN 23),v35]
noncomputable def aiU:List V:=[(.s [108]),(nN 22),v35]
noncomputable def aiV:List V:=[(.s [108]),(nN 24),v35]
noncomputable def asZ:Obj:=(.mp none [(v1,(.agg v3)),(v4,(.agg v34)),((.s [108]),(.agg aiV))])
noncomputable def aiW:List V:=[(.s [108]),(nN 25),v35]
noncomputable def as0:Obj:=(.mp none [(v1,(.agg v3)),(v4,(.agg v34)),((.s [108]),(.agg aiW))])
noncomputable def aaF:V:=(.s [110,47,110,97])
noncomputable def ajP:V:=(bR 39 0x22e70663843c8f40000000004000000040000000401576be5de927745005641a46881bf380000)
noncomputable def aaC:List V:=[aaF,(nN 1),ajP]
noncomputable def aaG:V:=(.s [110,47,110,98])
noncomputable def ajQ:V:=(bR 39 0x22e86b4385ecf180000000004000000040000000401576be5de927745005657f2689cc55c0000)
noncomputable def aaD:List V:=[aaG,(nN 2),ajQ]
noncomputable def aaH:V:=(.s [110,47,110,99])
noncomputable def ajR:V:=(bR 39 0x22e9d023879d53c0000000004000000040000000401576be5de927745005641a46881bf380000)
noncomputable def aaE:List V:=[aaH,(nN 3),ajR]
noncomputable def W5:V:=(.s [112,47,112,97,97])
noncomputable def ajS:V:=(bR 62 0x135102483a8a28a000000000000000001000000000002000000020000000200000000000000000000000000000000000000000000000000000000000000)
noncomputable def afY:List V:=[W5,(nN 4),ajS]
noncomputable def Yh:V:=(.s [112,47,112,97,98])
noncomputable def ajT:V:=(bR 62 0x13510bac707a970000000000000000002000100000002000000020000000200000000000000000000000000000000000000000000000000000000000000)
noncomputable def agL:List V:=[Yh,(nN 5),ajT]
noncomputable def aaM:V:=(.s [112,47,112,97,99])
noncomputable def ajU:V:=(bR 62 0x13511510a66b056000000000000000003000200000002000000020000000200000000000000000000000000000000000000000000000000000000000000)
noncomputable def agZ:List V:=[aaM,(nN 6),ajU]
noncomputable def aaA:V:=(.s [112,47,112,97,100])
noncomputable def ajV:V:=(bR 62 0x13511e74dc5b73c000000000000000004000300000002000000020000000200000000000000000000000000000000000000000000000000000000000000)
noncomputable def ahT:List V:=[aaA,(nN 7),ajV]
noncomputable def aaB:V:=(.s [112,47,112,97,101])
noncomputable def ajW:V:=(bR 62 0x135127d9124be22000000000000000005000400000002000000020000000200000000000000000000000000000000000000000000000000000000000000)
noncomputable def ajC:List V:=[aaB,(nN 8),ajW]
noncomputable def aa2:Nat×Obj:=(6,(.cs ((.ms (.g 5) 1 0 3)::(adO 128 (nN 0) []))))
noncomputable def acT:V:=(.s [112,97,97])
noncomputable def afH:List V:=[acT,(nN 1),(nN 0),(nN 2),(nN 2),(nN 2),.bU,.bU,.bU,.bU,(.s []),.bU,(nN 0),.bU,(.s []),(nN 0)]
noncomputable def aiX:V:=(.s [112,97,98])
noncomputable def af2:List V:=[aiX,(nN 2),(nN 1),(nN 2),(nN 2),(nN 2),.bU,.bU,.bU,.bU,(.s []),.bU,(nN 0),.bU,(.s []),(nN 0)]
noncomputable def ahU:V:=(.s [112,97,99])
noncomputable def agM:List V:=[ahU,(nN 3),(nN 2),(nN 2),(nN 2),(nN 2),.bU,.bU,.bU,.bU,(.s []),.bU,(nN 0),.bU,(.s []),(nN 0)]
noncomputable def aiY:V:=(.s [112,97,100])
noncomputable def ag5:List V:=[aiY,(nN 4),(nN 3),(nN 2),(nN 2),(nN 2),.bU,.bU,.bU,.bU,(.s []),.bU,(nN 0),.bU,(.s []),(nN 0)]
noncomputable def aiZ:V:=(.s [112,97,101])
noncomputable def ahV:List V:=[aiZ,(nN 5),(nN 4),(nN 2),(nN 2),(nN 2),.bU,.bU,.bU,.bU,(.s []),.bU,(nN 0),.bU,(.s []),(nN 0)]
noncomputable def aiA:V:=(.s [110,97])
noncomputable def aqV:V:=(.s [122,111,110,101])
noncomputable def as1:V:=(.s [122,98])
noncomputable def as2:V:=(.sl none 2 [[aqV,as1]])
noncomputable def aiB:List V:=[aiA,(nN 4),(nN 4),(nN 4),as2,.bU]
noncomputable def ahW:V:=(.s [110,98])
noncomputable def as3:V:=(.s [122,99])
noncomputable def ai0:List V:=[ahW,(nN 4),(nN 4),(nN 4),(.sl none 2 [[aqV,as3]]),.bU]
noncomputable def ahL:V:=(.s [110,99])
noncomputable def ajD:List V:=[ahL,(nN 4),(nN 4),(nN 4),as2,.bU]
noncomputable def aa3:Nat×Obj:=(8,(.mp none [(aaF,(.agg aiB)),(aaG,(.agg ai0)),(aaH,(.agg ajD))]))
noncomputable def acC:Obj:=(.mp (some .i64) [((nN 1),(.b true)),((nN 2),(.b true)),((nN 3),(.b true)),((nN 4),(.b true)),((nN 5),(.b true))])
noncomputable def abG:V:=(.ms (.g 34) 3 0 3)
noncomputable def aa4:Nat×Obj:=(28,(.cs [(nN 2),(nN 0),(pG 27),(.b false),(nN 0),(nN 0),(nN 0),(.s []),(nN 0),.bU,.bU,(nN 0),(nN 0)]))
noncomputable def aa6:Nat×Obj:=(29,(.cs [(nN 2),(.b false),(.b false),(nN 0),(nN 0),(nN 0),(nN 0),(.b false),(nN 0),(nN 0),(nN 0)]))
noncomputable def aa7:Nat×Obj:=(32,(.cs ((nN 2)::(.b false)::(nN 0)::(pG 28)::(pG 29)::(pG 30)::(pG 31)::.bU::(adO 7 (nN 0) [(.s []),(.b false),(nN 0)]))))
noncomputable def as4:List V:=[(pG 32),(.b false),(nN 0)]
noncomputable def acJ:Nat×Obj:=(34,(.arr 3 [v24,v25,as4]))
noncomputable def aaS:Obj:=(.arr 3 [[aaF,ajP,(.b false)]])
noncomputable def aaT:Obj:=(.arr 3 [[aaG,ajQ,(.b false)]])
noncomputable def aaU:Obj:=(.arr 3 [[aaH,ajR,(.b false)]])
noncomputable def aaV:Obj:=(.arr 3 [[W5,ajS,(.b false)]])
noncomputable def aaW:Obj:=(.arr 3 [[Yh,ajT,(.b false)]])
noncomputable def aaZ:Obj:=(.arr 3 [[aaM,ajU,(.b false)]])
noncomputable def aa0:Obj:=(.arr 3 [[aaA,ajV,(.b false)]])
noncomputable def acY:List V:=[(nN 1),aaF,ajP,(.b false)]
noncomputable def acU:List V:=[(nN 2),aaG,ajQ,(.b false)]
noncomputable def acV:List V:=[(nN 3),aaH,ajR,(.b false)]
noncomputable def acQ:List V:=[(nN 4),W5,ajS,(.b false)]
noncomputable def acN:List V:=[(nN 5),Yh,ajT,(.b false)]
noncomputable def acK:List V:=[(nN 6),aaM,ajU,(.b false)]
noncomputable def acH:List V:=[(nN 7),aaA,ajV,(.b false)]
noncomputable def acD:List V:=[(nN 8),aaB,ajW,(.b false)]
noncomputable def aa1:Obj:=(.arr 3 [[aaB,ajW,(.b false)]])
noncomputable def abH:List V:=[(nN 1),v14,.bU,(.ms (.g 39) 3 0 1)]
noncomputable def abI:List V:=[(nN 2),v14,.bU,(.ms (.g 46) 3 0 1)]
noncomputable def abJ:List V:=[(nN 3),v14,.bU,(.ms (.g 53) 3 0 1)]
noncomputable def abK:List V:=[(nN 4),v14,.bU,(.ms (.g 60) 3 0 1)]
noncomputable def abL:List V:=[(nN 5),v14,.bU,(.ms (.g 67) 3 0 1)]
noncomputable def abN:List V:=[(nN 6),v14,.bU,(.ms (.g 74) 3 0 1)]
noncomputable def abO:List V:=[(nN 7),v14,.bU,(.ms (.g 81) 3 0 1)]
noncomputable def abP:List V:=[(nN 8),v14,.bU,(.ms (.g 88) 3 0 1)]
noncomputable def ajX:V:=(bR 62 0x135102483a8a28a00000000000000000100000000000200000002000000020000000000000000000000000000002e86b4385ecf1800000000000000000f)
noncomputable def aaL:List V:=[W5,(nN 16),ajX]
noncomputable def ajY:V:=(bR 62 0x13510bac707a97000000000000000000200010000000200000002000000020000000000000000000000000000002e70663843c8f400000000000000000c)
noncomputable def aaK:List V:=[Yh,(nN 14),ajY]
noncomputable def ajZ:V:=(bR 62 0x13511510a66b05600000000000000000300020000000200000002000000020000000000000000000000000000002e9d023879d53c00000000000000000c)
noncomputable def aaN:List V:=[aaM,(nN 13),ajZ]
noncomputable def aj0:V:=(bR 62 0x13511e74dc5b73c00000000000000000400030000000200000002000000020000000000000000000000000000002e86b4385ecf18000000000000000009)
noncomputable def aaJ:List V:=[aaA,(nN 11),aj0]
noncomputable def aj1:V:=(bR 62 0x135127d9124be2200000000000000000500040000000200000002000000020000000000000000000000000000002e70663843c8f4000000000000000009)
noncomputable def aaI:List V:=[aaB,(nN 10),aj1]
noncomputable def ajE:List V:=[(.s [108]),(nN 63),v35]
noncomputable def ahG:Obj:=(.mp none [(aaF,(.agg aaC)),(aaG,(.agg aaD)),(aaH,(.agg aaE)),(W5,(.agg aaL)),(Yh,(.agg aaK)),(aaM,(.agg aaN)),(aaA,(.agg aaJ)),(aaB,(.agg aaI)),((.s [108]),(.agg ajE))])
noncomputable def aj2:Nat×Obj:=(1,(.mp none [(aaF,(nN 1)),(aaG,(nN 2)),(aaH,(nN 3)),(W5,(nN 16)),(Yh,(nN 14)),(aaM,(nN 13)),(aaA,(nN 11)),(aaB,(nN 10)),((.s [108]),(nN 63))]))
noncomputable def aj3:Nat×Obj:=(2,(.cs [(.ms (.g 79245) 4 0 63),(nN 64),(nN 0),(nN 63)]))
noncomputable def abA:Nat×Obj:=(4,(.cs [(.ms (.g 835) 3 0 0),(nN 200)]))
noncomputable def ai1:Nat×Obj:=(5,(.arr 1 [[(nN 15000)],[(nN 15000)],[(nN 15000)]]))
noncomputable def ag0:List V:=[acT,(nN 1),(nN 0),(nN 2),(nN 2),(nN 2),.bU,.bU,.bU,.bU,(.s []),.bU,(nN 0),.bU,ahW,(nN 15)]
noncomputable def agN:List V:=[aiX,(nN 2),(nN 1),(nN 2),(nN 2),(nN 2),.bU,.bU,.bU,.bU,(.s []),.bU,(nN 0),.bU,aiA,(nN 12)]
noncomputable def agO:List V:=[ahU,(nN 3),(nN 2),(nN 2),(nN 2),(nN 2),.bU,.bU,.bU,.bU,(.s []),.bU,(nN 0),.bU,ahL,(nN 12)]
noncomputable def afS:List V:=[aiY,(nN 4),(nN 3),(nN 2),(nN 2),(nN 2),.bU,.bU,.bU,.bU,(.s []),.bU,(nN 0),.bU,ahW,(nN 9)]
noncomputable def afE:List V:=[aiZ,(nN 5),(nN 4),(nN 2),(nN 2),(nN 2),.bU,.bU,.bU,.bU,(.s []),.bU,(nN 0),.bU,aiA,(nN 9)]
noncomputable def ac4:Nat×Obj:=(7,(.mp none [(W5,(.agg ag0)),(Yh,(.agg agN)),(aaM,(.agg agO)),(aaA,(.agg afS)),(aaB,(.agg afE))]))
noncomputable def aj4:Nat×Obj:=(10,(.cs [(.b false),abG,(pG 3),(pG 4),(pG 6),(.ms (.g 79249) 4 0 63),(mG 7),(mG 8),(mG 9)]))
noncomputable def aj5:Nat×Obj:=(11,(.cs [(mG 703),(nN 63)]))
noncomputable def aj6:Nat×Obj:=(12,(.cs [(nN 0),(nN 300),(pG 11),(.b false),(nN 0),(nN 300),(nN 3),(.s []),(nN 63),.bU,.bU,(nN 14950),(nN 1)]))
noncomputable def aj7:Nat×Obj:=(13,(.cs [(nN 0),(.b true),(.b true),(nN 63),(nN 0),(nN 1000),(nN 14750),(.b false),(nN 14750),(nN 63),(nN 14750)]))
noncomputable def aaR:V:=(.sl none 6 [aiB,ai0,ajD])
noncomputable def aj8:Nat×Obj:=(14,(.cs [.bU,aaR,(.ms (.g 80101) 16 0 5),(.b true)]))
noncomputable def adI:V:=(.ms (.g 8796) 6 0 2)
noncomputable def aj9:Nat×Obj:=(16,(.cs [(nN 0),(.b false),(nN 0),(pG 12),(pG 13),(pG 14),(pG 7843),adI,(nN 118),(nN 0),(nN 3),(nN 0),(nN 14750),(nN 0),(nN 750),acT,(.b true),(nN 63)]))
noncomputable def aa8:Obj:=(.arr 3 [[aaB,aj1,(.b false)]])
noncomputable def aa9:Obj:=(.arr 3 [[aaA,aj0,(.b false)]])
noncomputable def abB:Obj:=(.arr 3 [[aaM,ajZ,(.b false)]])
noncomputable def abC:Obj:=(.arr 3 [[Yh,ajY,(.b false)]])
noncomputable def ac8:Nat×Obj:=(7843,(.cs [(.ms (.g 7848) 6 0 0)]))
noncomputable def aqW:List V:=[aiX,aiA,.bU,(nN 2),(nN 12),(nN 750)]
noncomputable def as5:List V:=[acT,ahW,.bU,(nN 1),(nN 15),(nN 950)]
noncomputable def ac5:Nat×Obj:=(8796,(.arr 6 [aqW,as5]))
noncomputable def abD:Obj:=(.arr 3 [[W5,ajX,(.b false)]])
noncomputable def acE:List V:=[(nN 10),aaB,aj1,(.b false)]
noncomputable def acF:List V:=[(nN 11),aaA,aj0,(.b false)]
noncomputable def ab7:List V:=[(nN 13),aaM,ajZ,(.b false)]
noncomputable def ab8:List V:=[(nN 14),Yh,ajY,(.b false)]
noncomputable def ab5:List V:=[(nN 16),W5,ajX,(.b false)]
noncomputable def acL:List V:=[(nN 28),(.s [108]),v35,(.b false)]
noncomputable def acO:List V:=[(nN 29),(.s [108]),v35,(.b false)]
noncomputable def acR:List V:=[(nN 30),(.s [108]),v35,(.b false)]
noncomputable def acW:List V:=[(nN 31),(.s [108]),v35,(.b false)]
noncomputable def acZ:List V:=[(nN 32),(.s [108]),v35,(.b false)]
noncomputable def ac1:List V:=[(nN 33),(.s [108]),v35,(.b false)]
noncomputable def ac6:List V:=[(nN 34),(.s [108]),v35,(.b false)]
noncomputable def ac9:List V:=[(nN 35),(.s [108]),v35,(.b false)]
noncomputable def adB:List V:=[(nN 36),(.s [108]),v35,(.b false)]
noncomputable def adD:List V:=[(nN 37),(.s [108]),v35,(.b false)]
noncomputable def adF:List V:=[(nN 38),(.s [108]),v35,(.b false)]
noncomputable def adJ:List V:=[(nN 39),(.s [108]),v35,(.b false)]
noncomputable def adM:List V:=[(nN 40),(.s [108]),v35,(.b false)]
noncomputable def adR:List V:=[(nN 41),(.s [108]),v35,(.b false)]
noncomputable def adU:List V:=[(nN 42),(.s [108]),v35,(.b false)]
noncomputable def adX:List V:=[(nN 43),(.s [108]),v35,(.b false)]
noncomputable def adZ:List V:=[(nN 44),(.s [108]),v35,(.b false)]
noncomputable def ad1:List V:=[(nN 45),(.s [108]),v35,(.b false)]
noncomputable def ad5:List V:=[(nN 46),(.s [108]),v35,(.b false)]
noncomputable def ad8:List V:=[(nN 47),(.s [108]),v35,(.b false)]
noncomputable def aeA:List V:=[(nN 48),(.s [108]),v35,(.b false)]
noncomputable def aeC:List V:=[(nN 49),(.s [108]),v35,(.b false)]
noncomputable def aeF:List V:=[(nN 50),(.s [108]),v35,(.b false)]
noncomputable def aeI:List V:=[(nN 51),(.s [108]),v35,(.b false)]
noncomputable def aeN:List V:=[(nN 52),(.s [108]),v35,(.b false)]
noncomputable def aeS:List V:=[(nN 53),(.s [108]),v35,(.b false)]
noncomputable def aeV:List V:=[(nN 54),(.s [108]),v35,(.b false)]
noncomputable def aeY:List V:=[(nN 55),(.s [108]),v35,(.b false)]
noncomputable def ae2:List V:=[(nN 56),(.s [108]),v35,(.b false)]
noncomputable def ae9:List V:=[(nN 57),(.s [108]),v35,(.b false)]
noncomputable def afB:List V:=[(nN 58),(.s [108]),v35,(.b false)]
noncomputable def afF:List V:=[(nN 59),(.s [108]),v35,(.b false)]
noncomputable def afI:List V:=[(nN 60),(.s [108]),v35,(.b false)]
noncomputable def afM:List V:=[(nN 61),(.s [108]),v35,(.b false)]
noncomputable def afT:List V:=[(nN 62),(.s [108]),v35,(.b false)]
noncomputable def afZ:List V:=[(nN 63),(.s [108]),v35,(.b false)]
noncomputable def akA:Nat×Obj:=(79245,(.arr 4 [acY,acU,acV,acQ,acN,acK,acH,acD,v57,acE,acF,v60,ab7,ab8,v63,ab5,v65,v66,v67,v68,v69,v70,v71,v72,v73,v74,v75,acL,acO,acR,acW,acZ,ac1,ac6,ac9,adB,adD,adF,adJ,adM,adR,adU,adX,adZ,ad1,ad5,ad8,aeA,aeC,aeF,aeI,aeN,aeS,aeV,aeY,ae2,ae9,afB,afF,afI,afM,afT,afZ]))
noncomputable def abQ:List V:=[(nN 9),(nN 0),v76,(.ms (.g 1011) 3 0 1)]
noncomputable def as6:List V:=[aaF,(nN 1),(.b false)]
noncomputable def aqX:V:=(.sl none 3 [v87,[aaB,(nN 8),(.b false)],as6,[v79,(nN 9),(.b true)],[v80,(nN 9),(.b true)]])
noncomputable def abR:List V:=[(nN 10),(nN 0),aqX,(.ms (.g 1941) 3 0 1)]
noncomputable def as7:List V:=[aaG,(nN 2),(.b false)]
noncomputable def aqY:V:=(.sl none 3 [v87,[aaA,(nN 7),(.b false)],as7,[v79,(nN 10),(.b true)],[v80,(nN 10),(.b true)]])
noncomputable def abS:List V:=[(nN 11),(nN 0),aqY,(.ms (.g 3394) 3 0 1)]
noncomputable def abT:List V:=[(nN 12),(nN 0),v88,(.ms (.g 4600) 3 0 1)]
noncomputable def as8:List V:=[aaH,(nN 3),(.b false)]
noncomputable def aqZ:V:=(.sl none 3 [v92,[aaM,(nN 6),(.b false)],as8,[v79,(nN 12),(.b true)],[v80,(nN 12),(.b true)]])
noncomputable def abU:List V:=[(nN 13),(nN 0),aqZ,(.ms (.g 5523) 3 0 1)]
noncomputable def aq0:V:=(.sl none 3 [v92,[Yh,(nN 5),(.b false)],as6,[v79,(nN 13),(.b true)],[v80,(nN 13),(.b true)]])
noncomputable def abV:List V:=[(nN 14),(nN 0),aq0,(.ms (.g 6965) 3 0 1)]
noncomputable def abW:List V:=[(nN 15),(nN 0),v93,(.ms (.g 8157) 3 0 1)]
noncomputable def aq1:V:=(.sl none 3 [v97,[W5,(nN 4),(.b false)],as7,[v79,(nN 15),(.b true)],[v80,(nN 15),(.b true)]])
noncomputable def abX:List V:=[(nN 16),(nN 0),aq1,(.ms (.g 9066) 3 0 1)]
noncomputable def abY:List V:=[(nN 17),(nN 0),v98,(.ms (.g 10201) 3 0 1)]
noncomputable def abZ:List V:=[(nN 18),(nN 0),alZ,(.ms (.g 11702) 3 0 1)]
noncomputable def ab0:List V:=[(nN 19),(nN 0),al0,(.ms (.g 13203) 3 0 1)]
noncomputable def ab1:List V:=[(nN 20),(nN 0),al1,(.ms (.g 14704) 3 0 1)]
noncomputable def ab2:List V:=[(nN 21),(nN 0),al2,(.ms (.g 16205) 3 0 1)]
noncomputable def ab3:List V:=[(nN 22),(nN 0),al3,(.ms (.g 17706) 3 0 1)]
noncomputable def ab4:List V:=[(nN 23),(nN 0),al4,(.ms (.g 19207) 3 0 1)]
noncomputable def ab6:List V:=[(nN 24),(nN 0),al5,(.ms (.g 20708) 3 0 1)]
noncomputable def acA:List V:=[(nN 25),(nN 0),al7,(.ms (.g 22209) 3 0 1)]
noncomputable def acG:List V:=[(nN 26),(nN 0),ak1,(.ms (.g 23710) 3 0 1)]
noncomputable def acI:List V:=[(nN 27),(nN 0),ak2,(.ms (.g 25211) 3 0 1)]
noncomputable def aq2:V:=(.sl none 3 [[(.s [108]),(nN 27),(.b false)]])
noncomputable def acM:List V:=[(nN 28),(nN 0),aq2,(.ms (.g 26712) 3 0 1)]
noncomputable def aq3:V:=(.sl none 3 [[(.s [108]),(nN 28),(.b false)]])
noncomputable def acP:List V:=[(nN 29),(nN 0),aq3,(.ms (.g 28213) 3 0 1)]
noncomputable def aq4:V:=(.sl none 3 [[(.s [108]),(nN 29),(.b false)]])
noncomputable def acS:List V:=[(nN 30),(nN 0),aq4,(.ms (.g 29714) 3 0 1)]
noncomputable def aq5:V:=(.sl none 3 [[(.s [108]),(nN 30),(.b false)]])
noncomputable def acX:List V:=[(nN 31),(nN 0),aq5,(.ms (.g 31215) 3 0 1)]
noncomputable def aq6:V:=(.sl none 3 [[(.s [108]),(nN 31),(.b false)]])
noncomputable def ac0:List V:=[(nN 32),(nN 0),aq6,(.ms (.g 32716) 3 0 1)]
noncomputable def aq7:V:=(.sl none 3 [[(.s [108]),(nN 32),(.b false)]])
noncomputable def ac2:List V:=[(nN 33),(nN 0),aq7,(.ms (.g 34217) 3 0 1)]
noncomputable def aq8:V:=(.sl none 3 [[(.s [108]),(nN 33),(.b false)]])
noncomputable def ac7:List V:=[(nN 34),(nN 0),aq8,(.ms (.g 35718) 3 0 1)]
noncomputable def aq9:V:=(.sl none 3 [[(.s [108]),(nN 34),(.b false)]])
noncomputable def adA:List V:=[(nN 35),(nN 0),aq9,(.ms (.g 37219) 3 0 1)]
noncomputable def arA:V:=(.sl none 3 [[(.s [108]),(nN 35),(.b false)]])
noncomputable def adC:List V:=[(nN 36),(nN 0),arA,(.ms (.g 38720) 3 0 1)]
noncomputable def arB:V:=(.sl none 3 [[(.s [108]),(nN 36),(.b false)]])
noncomputable def adE:List V:=[(nN 37),(nN 0),arB,(.ms (.g 40221) 3 0 1)]
noncomputable def arC:V:=(.sl none 3 [[(.s [108]),(nN 37),(.b false)]])
noncomputable def adG:List V:=[(nN 38),(nN 0),arC,(.ms (.g 41722) 3 0 1)]
noncomputable def arD:V:=(.sl none 3 [[(.s [108]),(nN 38),(.b false)]])
noncomputable def adK:List V:=[(nN 39),(nN 0),arD,(.ms (.g 43223) 3 0 1)]
noncomputable def arE:V:=(.sl none 3 [[(.s [108]),(nN 39),(.b false)]])
noncomputable def adN:List V:=[(nN 40),(nN 0),arE,(.ms (.g 44724) 3 0 1)]
noncomputable def arF:V:=(.sl none 3 [[(.s [108]),(nN 40),(.b false)]])
noncomputable def adS:List V:=[(nN 41),(nN 0),arF,(.ms (.g 46225) 3 0 1)]
noncomputable def arG:V:=(.sl none 3 [[(.s [108]),(nN 41),(.b false)]])
noncomputable def adW:List V:=[(nN 42),(nN 0),arG,(.ms (.g 47726) 3 0 1)]
noncomputable def arH:V:=(.sl none 3 [[(.s [108]),(nN 42),(.b false)]])
noncomputable def adY:List V:=[(nN 43),(nN 0),arH,(.ms (.g 49227) 3 0 1)]
noncomputable def arI:V:=(.sl none 3 [[(.s [108]),(nN 43),(.b false)]])
noncomputable def ad0:List V:=[(nN 44),(nN 0),arI,(.ms (.g 50728) 3 0 1)]
noncomputable def arJ:V:=(.sl none 3 [[(.s [108]),(nN 44),(.b false)]])
noncomputable def ad2:List V:=[(nN 45),(nN 0),arJ,(.ms (.g 52229) 3 0 1)]
noncomputable def arK:V:=(.sl none 3 [[(.s [108]),(nN 45),(.b false)]])
noncomputable def ad6:List V:=[(nN 46),(nN 0),arK,(.ms (.g 53730) 3 0 1)]
noncomputable def arL:V:=(.sl none 3 [[(.s [108]),(nN 46),(.b false)]])
noncomputable def ad9:List V:=[(nN 47),(nN 0),arL,(.ms (.g 55231) 3 0 1)]
noncomputable def arM:V:=(.sl none 3 [[(.s [108]),(nN 47),(.b false)]])
noncomputable def aeB:List V:=[(nN 48),(nN 0),arM,(.ms (.g 56732) 3 0 1)]
noncomputable def arN:V:=(.sl none 3 [[(.s [108]),(nN 48),(.b false)]])
noncomputable def aeD:List V:=[(nN 49),(nN 0),arN,(.ms (.g 58233) 3 0 1)]
noncomputable def arO:V:=(.sl none 3 [[(.s [108]),(nN 49),(.b false)]])
noncomputable def aeG:List V:=[(nN 50),(nN 0),arO,(.ms (.g 59734) 3 0 1)]
noncomputable def arP:V:=(.sl none 3 [[(.s [108]),(nN 50),(.b false)]])
noncomputable def aeJ:List V:=[(nN 51),(nN 0),arP,(.ms (.g 61235) 3 0 1)]
noncomputable def arQ:V:=(.sl none 3 [[(.s [108]),(nN 51),(.b false)]])
noncomputable def aeO:List V:=[(nN 52),(nN 0),arQ,(.ms (.g 62736) 3 0 1)]
noncomputable def arR:V:=(.sl none 3 [[(.s [108]),(nN 52),(.b false)]])
noncomputable def aeT:List V:=[(nN 53),(nN 0),arR,(.ms (.g 64237) 3 0 1)]
noncomputable def arS:V:=(.sl none 3 [[(.s [108]),(nN 53),(.b false)]])
noncomputable def aeW:List V:=[(nN 54),(nN 0),arS,(.ms (.g 65738) 3 0 1)]
noncomputable def arT:V:=(.sl none 3 [[(.s [108]),(nN 54),(.b false)]])
noncomputable def aeZ:List V:=[(nN 55),(nN 0),arT,(.ms (.g 67239) 3 0 1)]
noncomputable def arU:V:=(.sl none 3 [[(.s [108]),(nN 55),(.b false)]])
noncomputable def ae3:List V:=[(nN 56),(nN 0),arU,(.ms (.g 68740) 3 0 1)]
noncomputable def arV:V:=(.sl none 3 [[(.s [108]),(nN 56),(.b false)]])
noncomputable def afA:List V:=[(nN 57),(nN 0),arV,(.ms (.g 70241) 3 0 1)]
noncomputable def arW:V:=(.sl none 3 [[(.s [108]),(nN 57),(.b false)]])
noncomputable def afC:List V:=[(nN 58),(nN 0),arW,(.ms (.g 71742) 3 0 1)]
noncomputable def arX:V:=(.sl none 3 [[(.s [108]),(nN 58),(.b false)]])
noncomputable def afG:List V:=[(nN 59),(nN 0),arX,(.ms (.g 73243) 3 0 1)]
noncomputable def arY:V:=(.sl none 3 [[(.s [108]),(nN 59),(.b false)]])
noncomputable def afJ:List V:=[(nN 60),(nN 0),arY,(.ms (.g 74744) 3 0 1)]
noncomputable def arZ:V:=(.sl none 3 [[(.s [108]),(nN 60),(.b false)]])
noncomputable def afN:List V:=[(nN 61),(nN 0),arZ,(.ms (.g 76245) 3 0 1)]
noncomputable def ar0:V:=(.sl none 3 [[(.s [108]),(nN 61),(.b false)]])
noncomputable def afU:List V:=[(nN 62),(nN 0),ar0,(.ms (.g 77746) 3 0 1)]
noncomputable def ar1:V:=(.sl none 3 [[(.s [108]),(nN 62),(.b false)]])
noncomputable def af0:List V:=[(nN 63),(nN 0),ar1,(.ms (.g 79247) 3 0 1)]
noncomputable def akB:Nat×Obj:=(79249,(.arr 4 [abH,abI,abJ,abK,abL,abN,abO,abP,abQ,abR,abS,abT,abU,abV,abW,abX,abY,abZ,ab0,ab1,ab2,ab3,ab4,ab6,acA,acG,acI,acM,acP,acS,acX,ac0,ac2,ac7,adA,adC,adE,adG,adK,adN,adS,adW,adY,ad0,ad2,ad6,ad9,aeB,aeD,aeG,aeJ,aeO,aeT,aeW,aeZ,ae3,afA,afC,afG,afJ,afN,afU,af0]))
noncomputable def adP:Obj:=(.arr 16 [ag0,agN,agO,afS,afE])
noncomputable def akC:Nat×Obj:=(80101,adP)
noncomputable def as9:Obj:=(.mp none [(aaF,(.agg aaC)),(aaG,(.agg aaD)),(aaH,(.agg aaE)),(W5,(.agg afY)),(Yh,(.agg agL)),(aaM,(.agg agZ)),(aaA,(.agg ahT)),(aaB,(.agg aaI)),((.s [108]),(.agg ahE))])
noncomputable def atA:Nat×Obj:=(13,(.cs [(nN 0),(.b true),(.b true),(nN 9),(nN 0),(nN 1000),(nN 50),(.b false),(nN 50),(nN 9),(nN 50)]))
noncomputable def atB:Obj:=(.cs [aiY,(nN 4),(nN 3),(nN 2),(nN 2),(nN 2),.bU,.bU,.bU,.bU,(.s []),.bU,(nN 0),.bU,(.s []),(nN 0),(.b false),(nN 0),(nN 0)])
noncomputable def ar2:Obj:=(.cs [ahU,(nN 3),(nN 2),(nN 2),(nN 2),(nN 2),.bU,.bU,.bU,.bU,(.s []),.bU,(nN 0),.bU,(.s []),(nN 0),(.b false),(nN 0),(nN 0)])
noncomputable def amH:Obj:=(.cs [aiX,(nN 2),(nN 1),(nN 2),(nN 2),(nN 2),.bU,.bU,.bU,.bU,(.s []),.bU,(nN 0),.bU,(.s []),(nN 0),(.b false),(nN 0),(nN 0)])
noncomputable def ak5:Obj:=(.cs [acT,(nN 1),(nN 0),(nN 2),(nN 2),(nN 2),.bU,.bU,.bU,.bU,(.s []),.bU,(nN 0),.bU,(.s []),(nN 0),(.b false),(nN 0),(nN 0)])
noncomputable def atC:List V:=[aiZ,aiA,.bU,(nN 5),(nN 9),(nN 350)]
noncomputable def atD:Obj:=(.arr 6 [atC])
noncomputable def ar3:List V:=[aiY,ahW,.bU,(nN 4),(nN 9),(nN 450)]
noncomputable def atE:Obj:=(.mp none [(aaF,(.agg aaC)),(aaG,(.agg aaD)),(aaH,(.agg aaE)),(W5,(.agg afY)),(Yh,(.agg agL)),(aaM,(.agg aaN)),(aaA,(.agg aaJ)),(aaB,(.agg aaI)),((.s [108]),(.agg ahF))])
noncomputable def atF:Nat×Obj:=(13,(.cs [(nN 0),(.b true),(.b true),(nN 12),(nN 0),(nN 1000),(nN 350),(.b false),(nN 350),(nN 12),(nN 350)]))
noncomputable def ar4:List V:=[ahU,ahL,.bU,(nN 3),(nN 12),(nN 650)]
noncomputable def atG:Obj:=(.mp none [(aaF,(.agg aaC)),(aaG,(.agg aaD)),(aaH,(.agg aaE)),(W5,(.agg aaL)),(Yh,(.agg aaK)),(aaM,(.agg aaN)),(aaA,(.agg aaJ)),(aaB,(.agg aaI)),((.s [108]),(.agg aiO))])
noncomputable def atH:Obj:=(.mp none [(aaF,(.agg aaC)),(aaG,(.agg aaD)),(aaH,(.agg aaE)),(W5,(.agg aaL)),(Yh,(.agg aaK)),(aaM,(.agg aaN)),(aaA,(.agg aaJ)),(aaB,(.agg aaI)),((.s [108]),(.agg aiQ))])
noncomputable def atI:Obj:=(.mp none [(aaF,(.agg aaC)),(aaG,(.agg aaD)),(aaH,(.agg aaE)),(W5,(.agg aaL)),(Yh,(.agg aaK)),(aaM,(.agg aaN)),(aaA,(.agg aaJ)),(aaB,(.agg aaI)),((.s [108]),(.agg aiP))])
noncomputable def ar5:Obj:=(.mp none [(aaF,(.agg aaC)),(aaG,(.agg aaD)),(aaH,(.agg aaE)),(W5,(.agg aaL)),(Yh,(.agg aaK)),(aaM,(.agg aaN)),(aaA,(.agg aaJ)),(aaB,(.agg aaI)),((.s [108]),(.agg aiR))])
noncomputable def atJ:Obj:=(.mp none [(aaF,(.agg aaC)),(aaG,(.agg aaD)),(aaH,(.agg aaE)),(W5,(.agg aaL)),(Yh,(.agg aaK)),(aaM,(.agg aaN)),(aaA,(.agg aaJ)),(aaB,(.agg aaI)),((.s [108]),(.agg aiT))])
noncomputable def atK:Obj:=(.mp none [(aaF,(.agg aaC)),(aaG,(.agg aaD)),(aaH,(.agg aaE)),(W5,(.agg aaL)),(Yh,(.agg aaK)),(aaM,(.agg aaN)),(aaA,(.agg aaJ)),(aaB,(.agg aaI)),((.s [108]),(.agg aiV))])
noncomputable def atL:Obj:=(.mp none [(aaF,(.agg aaC)),(aaG,(.agg aaD)),(aaH,(.agg aaE)),(W5,(.agg aaL)),(Yh,(.agg aaK)),(aaM,(.agg aaN)),(aaA,(.agg aaJ)),(aaB,(.agg aaI)),((.s [108]),(.agg aiW))])
noncomputable def atM:Obj:=(.mp none [(aaF,(.agg aaC)),(aaG,(.agg aaD)),(aaH,(.agg aaE)),(W5,(.agg aaL)),(Yh,(.agg aaK)),(aaM,(.agg aaN)),(aaA,(.agg aaJ)),(aaB,(.agg aaI)),((.s [108]),(.agg v43))])
noncomputable def atN:Obj:=(.mp none [(aaF,(.agg aaC)),(aaG,(.agg aaD)),(aaH,(.agg aaE)),(W5,(.agg aaL)),(Yh,(.agg aaK)),(aaM,(.agg aaN)),(aaA,(.agg aaJ)),(aaB,(.agg aaI)),((.s [108]),(.agg v36))])
noncomputable def amI:List V:=[(.s [108]),(nN 28),v35]
noncomputable def atO:Obj:=(.mp none [(aaF,(.agg aaC)),(aaG,(.agg aaD)),(aaH,(.agg aaE)),(W5,(.agg aaL)),(Yh,(.agg aaK)),(aaM,(.agg aaN)),(aaA,(.agg aaJ)),(aaB,(.agg aaI)),((.s [108]),(.agg amI))])
noncomputable def amJ:List V:=[(.s [108]),(nN 29),v35]
noncomputable def atP:Obj:=(.mp none [(aaF,(.agg aaC)),(aaG,(.agg aaD)),(aaH,(.agg aaE)),(W5,(.agg aaL)),(Yh,(.agg aaK)),(aaM,(.agg aaN)),(aaA,(.agg aaJ)),(aaB,(.agg aaI)),((.s [108]),(.agg amJ))])
noncomputable def amK:List V:=[(.s [108]),(nN 30),v35]
noncomputable def atQ:Obj:=(.mp none [(aaF,(.agg aaC)),(aaG,(.agg aaD)),(aaH,(.agg aaE)),(W5,(.agg aaL)),(Yh,(.agg aaK)),(aaM,(.agg aaN)),(aaA,(.agg aaJ)),(aaB,(.agg aaI)),((.s [108]),(.agg amK))])
noncomputable def amL:List V:=[(.s [108]),(nN 31),v35]
noncomputable def atS:Obj:=(.mp none [(aaF,(.agg aaC)),(aaG,(.agg aaD)),(aaH,(.agg aaE)),(W5,(.agg aaL)),(Yh,(.agg aaK)),(aaM,(.agg aaN)),(aaA,(.agg aaJ)),(aaB,(.agg aaI)),((.s [108]),(.agg amL))])
noncomputable def amM:List V:=[(.s [108]),(nN 32),v35]
noncomputable def atT:Obj:=(.mp none [(aaF,(.agg aaC)),(aaG,(.agg aaD)),(aaH,(.agg aaE)),(W5,(.agg aaL)),(Yh,(.agg aaK)),(aaM,(.agg aaN)),(aaA,(.agg aaJ)),(aaB,(.agg aaI)),((.s [108]),(.agg amM))])
noncomputable def amN:List V:=[(.s [108]),(nN 33),v35]
noncomputable def atU:Obj:=(.mp none [(aaF,(.agg aaC)),(aaG,(.agg aaD)),(aaH,(.agg aaE)),(W5,(.agg aaL)),(Yh,(.agg aaK)),(aaM,(.agg aaN)),(aaA,(.agg aaJ)),(aaB,(.agg aaI)),((.s [108]),(.agg amN))])
noncomputable def amO:List V:=[(.s [108]),(nN 34),v35]
noncomputable def atV:Obj:=(.mp none [(aaF,(.agg aaC)),(aaG,(.agg aaD)),(aaH,(.agg aaE)),(W5,(.agg aaL)),(Yh,(.agg aaK)),(aaM,(.agg aaN)),(aaA,(.agg aaJ)),(aaB,(.agg aaI)),((.s [108]),(.agg amO))])
noncomputable def amP:List V:=[(.s [108]),(nN 35),v35]
noncomputable def atW:Obj:=(.mp none [(aaF,(.agg aaC)),(aaG,(.agg aaD)),(aaH,(.agg aaE)),(W5,(.agg aaL)),(Yh,(.agg aaK)),(aaM,(.agg aaN)),(aaA,(.agg aaJ)),(aaB,(.agg aaI)),((.s [108]),(.agg amP))])
noncomputable def amQ:List V:=[(.s [108]),(nN 36),v35]
noncomputable def atX:Obj:=(.mp none [(aaF,(.agg aaC)),(aaG,(.agg aaD)),(aaH,(.agg aaE)),(W5,(.agg aaL)),(Yh,(.agg aaK)),(aaM,(.agg aaN)),(aaA,(.agg aaJ)),(aaB,(.agg aaI)),((.s [108]),(.agg amQ))])
noncomputable def amR:List V:=[(.s [108]),(nN 37),v35]
noncomputable def atY:Obj:=(.mp none [(aaF,(.agg aaC)),(aaG,(.agg aaD)),(aaH,(.agg aaE)),(W5,(.agg aaL)),(Yh,(.agg aaK)),(aaM,(.agg aaN)),(aaA,(.agg aaJ)),(aaB,(.agg aaI)),((.s [108]),(.agg amR))])
noncomputable def amS:List V:=[(.s [108]),(nN 38),v35]
noncomputable def atZ:Obj:=(.mp none [(aaF,(.agg aaC)),(aaG,(.agg aaD)),(aaH,(.agg aaE)),(W5,(.agg aaL)),(Yh,(.agg aaK)),(aaM,(.agg aaN)),(aaA,(.agg aaJ)),(aaB,(.agg aaI)),((.s [108]),(.agg amS))])
noncomputable def amT:List V:=[(.s [108]),(nN 39),v35]
noncomputable def at0:Obj:=(.mp none [(aaF,(.agg aaC)),(aaG,(.agg aaD)),(aaH,(.agg aaE)),(W5,(.agg aaL)),(Yh,(.agg aaK)),(aaM,(.agg aaN)),(aaA,(.agg aaJ)),(aaB,(.agg aaI)),((.s [108]),(.agg amT))])
noncomputable def amU:List V:=[(.s [108]),(nN 40),v35]
noncomputable def at1:Obj:=(.mp none [(aaF,(.agg aaC)),(aaG,(.agg aaD)),(aaH,(.agg aaE)),(W5,(.agg aaL)),(Yh,(.agg aaK)),(aaM,(.agg aaN)),(aaA,(.agg aaJ)),(aaB,(.agg aaI)),((.s [108]),(.agg amU))])
noncomputable def amV:List V:=[(.s [108]),(nN 41),v35]
noncomputable def at2:Obj:=(.mp none [(aaF,(.agg aaC)),(aaG,(.agg aaD)),(aaH,(.agg aaE)),(W5,(.agg aaL)),(Yh,(.agg aaK)),(aaM,(.agg aaN)),(aaA,(.agg aaJ)),(aaB,(.agg aaI)),((.s [108]),(.agg amV))])
noncomputable def amW:List V:=[(.s [108]),(nN 42),v35]
noncomputable def at3:Obj:=(.mp none [(aaF,(.agg aaC)),(aaG,(.agg aaD)),(aaH,(.agg aaE)),(W5,(.agg aaL)),(Yh,(.agg aaK)),(aaM,(.agg aaN)),(aaA,(.agg aaJ)),(aaB,(.agg aaI)),((.s [108]),(.agg amW))])
noncomputable def amX:List V:=[(.s [108]),(nN 43),v35]
noncomputable def at4:Obj:=(.mp none [(aaF,(.agg aaC)),(aaG,(.agg aaD)),(aaH,(.agg aaE)),(W5,(.agg aaL)),(Yh,(.agg aaK)),(aaM,(.agg aaN)),(aaA,(.agg aaJ)),(aaB,(.agg aaI)),((.s [108]),(.agg amX))])
noncomputable def amY:List V:=[(.s [108]),(nN 44),v35]
noncomputable def at5:Obj:=(.mp none [(aaF,(.agg aaC)),(aaG,(.agg aaD)),(aaH,(.agg aaE)),(W5,(.agg aaL)),(Yh,(.agg aaK)),(aaM,(.agg aaN)),(aaA,(.agg aaJ)),(aaB,(.agg aaI)),((.s [108]),(.agg amY))])
noncomputable def amZ:List V:=[(.s [108]),(nN 45),v35]
noncomputable def at6:Obj:=(.mp none [(aaF,(.agg aaC)),(aaG,(.agg aaD)),(aaH,(.agg aaE)),(W5,(.agg aaL)),(Yh,(.agg aaK)),(aaM,(.agg aaN)),(aaA,(.agg aaJ)),(aaB,(.agg aaI)),((.s [108]),(.agg amZ))])
noncomputable def am0:List V:=[(.s [108]),(nN 46),v35]
noncomputable def at7:Obj:=(.mp none [(aaF,(.agg aaC)),(aaG,(.agg aaD)),(aaH,(.agg aaE)),(W5,(.agg aaL)),(Yh,(.agg aaK)),(aaM,(.agg aaN)),(aaA,(.agg aaJ)),(aaB,(.agg aaI)),((.s [108]),(.agg am0))])
noncomputable def am1:List V:=[(.s [108]),(nN 47),v35]
noncomputable def ar6:Obj:=(.mp none [(aaF,(.agg aaC)),(aaG,(.agg aaD)),(aaH,(.agg aaE)),(W5,(.agg aaL)),(Yh,(.agg aaK)),(aaM,(.agg aaN)),(aaA,(.agg aaJ)),(aaB,(.agg aaI)),((.s [108]),(.agg am1))])
noncomputable def am2:List V:=[(.s [108]),(nN 48),v35]
noncomputable def at8:Obj:=(.mp none [(aaF,(.agg aaC)),(aaG,(.agg aaD)),(aaH,(.agg aaE)),(W5,(.agg aaL)),(Yh,(.agg aaK)),(aaM,(.agg aaN)),(aaA,(.agg aaJ)),(aaB,(.agg aaI)),((.s [108]),(.agg am2))])
noncomputable def am3:List V:=[(.s [108]),(nN 49),v35]
noncomputable def at9:Obj:=(.mp none [(aaF,(.agg aaC)),(aaG,(.agg aaD)),(aaH,(.agg aaE)),(W5,(.agg aaL)),(Yh,(.agg aaK)),(aaM,(.agg aaN)),(aaA,(.agg aaJ)),(aaB,(.agg aaI)),((.s [108]),(.agg am3))])
noncomputable def am4:List V:=[(.s [108]),(nN 50),v35]
noncomputable def auA:Obj:=(.mp none [(aaF,(.agg aaC)),(aaG,(.agg aaD)),(aaH,(.agg aaE)),(W5,(.agg aaL)),(Yh,(.agg aaK)),(aaM,(.agg aaN)),(aaA,(.agg aaJ)),(aaB,(.agg aaI)),((.s [108]),(.agg am4))])
noncomputable def am5:List V:=[(.s [108]),(nN 51),v35]
noncomputable def auB:Obj:=(.mp none [(aaF,(.agg aaC)),(aaG,(.agg aaD)),(aaH,(.agg aaE)),(W5,(.agg aaL)),(Yh,(.agg aaK)),(aaM,(.agg aaN)),(aaA,(.agg aaJ)),(aaB,(.agg aaI)),((.s [108]),(.agg am5))])
noncomputable def am6:List V:=[(.s [108]),(nN 52),v35]
noncomputable def auC:Obj:=(.mp none [(aaF,(.agg aaC)),(aaG,(.agg aaD)),(aaH,(.agg aaE)),(W5,(.agg aaL)),(Yh,(.agg aaK)),(aaM,(.agg aaN)),(aaA,(.agg aaJ)),(aaB,(.agg aaI)),((.s [108]),(.agg am6))])
noncomputable def am7:List V:=[(.s [108]),(nN 53),v35]
noncomputable def auD:Obj:=(.mp none [(aaF,(.agg aaC)),(aaG,(.agg aaD)),(aaH,(.agg aaE)),(W5,(.agg aaL)),(Yh,(.agg aaK)),(aaM,(.agg aaN)),(aaA,(.agg aaJ)),(aaB,(.agg aaI)),((.s [108]),(.agg am7))])
noncomputable def am8:List V:=[(.s [108]),(nN 54),v35]
noncomputable def auE:Obj:=(.mp none [(aaF,(.agg aaC)),(aaG,(.agg aaD)),(aaH,(.agg aaE)),(W5,(.agg aaL)),(Yh,(.agg aaK)),(aaM,(.agg aaN)),(aaA,(.agg aaJ)),(aaB,(.agg aaI)),((.s [108]),(.agg am8))])
noncomputable def am9:List V:=[(.s [108]),(nN 55),v35]
noncomputable def auF:Obj:=(.mp none [(aaF,(.agg aaC)),(aaG,(.agg aaD)),(aaH,(.agg aaE)),(W5,(.agg aaL)),(Yh,(.agg aaK)),(aaM,(.agg aaN)),(aaA,(.agg aaJ)),(aaB,(.agg aaI)),((.s [108]),(.agg am9))])
noncomputable def anA:List V:=[(.s [108]),(nN 56),v35]
noncomputable def auG:Obj:=(.mp none [(aaF,(.agg aaC)),(aaG,(.agg aaD)),(aaH,(.agg aaE)),(W5,(.agg aaL)),(Yh,(.agg aaK)),(aaM,(.agg aaN)),(aaA,(.agg aaJ)),(aaB,(.agg aaI)),((.s [108]),(.agg anA))])
noncomputable def anB:List V:=[(.s [108]),(nN 57),v35]
noncomputable def auH:Obj:=(.mp none [(aaF,(.agg aaC)),(aaG,(.agg aaD)),(aaH,(.agg aaE)),(W5,(.agg aaL)),(Yh,(.agg aaK)),(aaM,(.agg aaN)),(aaA,(.agg aaJ)),(aaB,(.agg aaI)),((.s [108]),(.agg anB))])
noncomputable def anC:List V:=[(.s [108]),(nN 58),v35]
noncomputable def auI:Obj:=(.mp none [(aaF,(.agg aaC)),(aaG,(.agg aaD)),(aaH,(.agg aaE)),(W5,(.agg aaL)),(Yh,(.agg aaK)),(aaM,(.agg aaN)),(aaA,(.agg aaJ)),(aaB,(.agg aaI)),((.s [108]),(.agg anC))])
noncomputable def anD:List V:=[(.s [108]),(nN 59),v35]
noncomputable def auJ:Obj:=(.mp none [(aaF,(.agg aaC)),(aaG,(.agg aaD)),(aaH,(.agg aaE)),(W5,(.agg aaL)),(Yh,(.agg aaK)),(aaM,(.agg aaN)),(aaA,(.agg aaJ)),(aaB,(.agg aaI)),((.s [108]),(.agg anD))])
noncomputable def anE:List V:=[(.s [108]),(nN 60),v35]
noncomputable def auK:Obj:=(.mp none [(aaF,(.agg aaC)),(aaG,(.agg aaD)),(aaH,(.agg aaE)),(W5,(.agg aaL)),(Yh,(.agg aaK)),(aaM,(.agg aaN)),(aaA,(.agg aaJ)),(aaB,(.agg aaI)),((.s [108]),(.agg anE))])
noncomputable def anF:List V:=[(.s [108]),(nN 61),v35]
noncomputable def auL:Obj:=(.mp none [(aaF,(.agg aaC)),(aaG,(.agg aaD)),(aaH,(.agg aaE)),(W5,(.agg aaL)),(Yh,(.agg aaK)),(aaM,(.agg aaN)),(aaA,(.agg aaJ)),(aaB,(.agg aaI)),((.s [108]),(.agg anF))])
noncomputable def anG:List V:=[(.s [108]),(nN 62),v35]
noncomputable def auM:Obj:=(.mp none [(aaF,(.agg aaC)),(aaG,(.agg aaD)),(aaH,(.agg aaE)),(W5,(.agg aaL)),(Yh,(.agg aaK)),(aaM,(.agg aaN)),(aaA,(.agg aaJ)),(aaB,(.agg aaI)),((.s [108]),(.agg anG))])
noncomputable def ar7:V:=(.ms (.g 80490) 4 0 63)
noncomputable def anH:Nat×Obj:=(3,(.cs [(nN 63),(mG 0),(mG 1),(pG 2),(nN 302),(nN 67)]))
noncomputable def anI:Nat×Obj:=(80240,aaS)
noncomputable def anJ:Nat×Obj:=(80244,aaT)
noncomputable def anK:Nat×Obj:=(80248,aaU)
noncomputable def anL:Nat×Obj:=(80252,aaV)
noncomputable def anM:Nat×Obj:=(80256,aaW)
noncomputable def anN:Nat×Obj:=(80260,aaZ)
noncomputable def anO:Nat×Obj:=(80264,aa0)
noncomputable def anP:Nat×Obj:=(80268,aa1)
noncomputable def anQ:Nat×Obj:=(80276,aa8)
noncomputable def anR:Nat×Obj:=(80280,aa9)
noncomputable def anS:Nat×Obj:=(80288,abB)
noncomputable def anT:Nat×Obj:=(80292,abC)
noncomputable def anU:Nat×Obj:=(80300,abD)
noncomputable def anV:Nat×Obj:=(80490,(.arr 4 [[(nN 1),v14,.bU,(.ms (.g 80240) 3 0 1)],[(nN 2),v14,.bU,(.ms (.g 80244) 3 0 1)],[(nN 3),v14,.bU,(.ms (.g 80248) 3 0 1)],[(nN 4),v14,.bU,(.ms (.g 80252) 3 0 1)],[(nN 5),v14,.bU,(.ms (.g 80256) 3 0 1)],[(nN 6),v14,.bU,(.ms (.g 80260) 3 0 1)],[(nN 7),v14,.bU,(.ms (.g 80264) 3 0 1)],[(nN 8),v14,.bU,(.ms (.g 80268) 3 0 1)],[(nN 9),(nN 0),v76,(.ms (.g 80272) 3 0 1)],[(nN 10),(nN 0),aqX,(.ms (.g 80276) 3 0 1)],[(nN 11),(nN 0),aqY,(.ms (.g 80280) 3 0 1)],[(nN 12),(nN 0),v88,(.ms (.g 80284) 3 0 1)],[(nN 13),(nN 0),aqZ,(.ms (.g 80288) 3 0 1)],[(nN 14),(nN 0),aq0,(.ms (.g 80292) 3 0 1)],[(nN 15),(nN 0),v93,(.ms (.g 80296) 3 0 1)],[(nN 16),(nN 0),aq1,(.ms (.g 80300) 3 0 1)],[(nN 17),(nN 0),v98,(.ms (.g 80304) 3 0 1)],[(nN 18),(nN 0),alZ,(.ms (.g 80308) 3 0 1)],[(nN 19),(nN 0),al0,(.ms (.g 80312) 3 0 1)],[(nN 20),(nN 0),al1,(.ms (.g 80316) 3 0 1)],[(nN 21),(nN 0),al2,(.ms (.g 80320) 3 0 1)],[(nN 22),(nN 0),al3,(.ms (.g 80324) 3 0 1)],[(nN 23),(nN 0),al4,(.ms (.g 80328) 3 0 1)],[(nN 24),(nN 0),al5,(.ms (.g 80332) 3 0 1)],[(nN 25),(nN 0),al7,(.ms (.g 80336) 3 0 1)],[(nN 26),(nN 0),ak1,(.ms (.g 80340) 3 0 1)],[(nN 27),(nN 0),ak2,(.ms (.g 80344) 3 0 1)],[(nN 28),(nN 0),aq2,(.ms (.g 80348) 3 0 1)],[(nN 29),(nN 0),aq3,(.ms (.g 80352) 3 0 1)],[(nN 30),(nN 0),aq4,(.ms (.g 80356) 3 0 1)],[(nN 31),(nN 0),aq5,(.ms (.g 80360) 3 0 1)],[(nN 32),(nN 0),aq6,(.ms (.g 80364) 3 0 1)],[(nN 33),(nN 0),aq7,(.ms (.g 80368) 3 0 1)],[(nN 34),(nN 0),aq8,(.ms (.g 80372) 3 0 1)],[(nN 35),(nN 0),aq9,(.ms (.g 80376) 3 0 1)],[(nN 36),(nN 0),arA,(.ms (.g 80380) 3 0 1)],[(nN 37),(nN 0),arB,(.ms (.g 80384) 3 0 1)],[(nN 38),(nN 0),arC,(.ms (.g 80388) 3 0 1)],[(nN 39),(nN 0),arD,(.ms (.g 80392) 3 0 1)],[(nN 40),(nN 0),arE,(.ms (.g 80396) 3 0 1)],[(nN 41),(nN 0),arF,(.ms (.g 80400) 3 0 1)],[(nN 42),(nN 0),arG,(.ms (.g 80404) 3 0 1)],[(nN 43),(nN 0),arH,(.ms (.g 80408) 3 0 1)],[(nN 44),(nN 0),arI,(.ms (.g 80412) 3 0 1)],[(nN 45),(nN 0),arJ,(.ms (.g 80416) 3 0 1)],[(nN 46),(nN 0),arK,(.ms (.g 80420) 3 0 1)],[(nN 47),(nN 0),arL,(.ms (.g 80424) 3 0 1)],[(nN 48),(nN 0),arM,(.ms (.g 80428) 3 0 1)],[(nN 49),(nN 0),arN,(.ms (.g 80432) 3 0 1)],[(nN 50),(nN 0),arO,(.ms (.g 80436) 3 0 1)],[(nN 51),(nN 0),arP,(.ms (.g 80440) 3 0 1)],[(nN 52),(nN 0),arQ,(.ms (.g 80444) 3 0 1)],[(nN 53),(nN 0),arR,(.ms (.g 80448) 3 0 1)],[(nN 54),(nN 0),arS,(.ms (.g 80452) 3 0 1)],[(nN 55),(nN 0),arT,(.ms (.g 80456) 3 0 1)],[(nN 56),(nN 0),arU,(.ms (.g 80460) 3 0 1)],[(nN 57),(nN 0),arV,(.ms (.g 80464) 3 0 1)],[(nN 58),(nN 0),arW,(.ms (.g 80468) 3 0 1)],[(nN 59),(nN 0),arX,(.ms (.g 80472) 3 0 1)],[(nN 60),(nN 0),arY,(.ms (.g 80476) 3 0 1)],[(nN 61),(nN 0),arZ,(.ms (.g 80480) 3 0 1)],[(nN 62),(nN 0),ar0,(.ms (.g 80484) 3 0 1)],[(nN 63),(nN 0),ar1,(.ms (.g 80488) 3 0 1)]]))
noncomputable def auN:Obj:=(.mp none [])
noncomputable def auO:Obj:=(.mp (some .i64) [])
noncomputable def abE:V:=(.s [112,47,112,97,106])
noncomputable def akD:V:=(bR 62 0x135156ce1ffe0a000000000000000000a006400000004000000040000000400000000000000000000000000000000000000000000000000000000000000)
noncomputable def ai2:List V:=[abE,(nN 64),akD]
noncomputable def anW:Nat×Obj:=(0,(.mp none [(aaF,(.agg aaC)),(aaG,(.agg aaD)),(aaH,(.agg aaE)),(W5,(.agg aaL)),(Yh,(.agg aaK)),(aaM,(.agg aaN)),(aaA,(.agg aaJ)),(aaB,(.agg aaI)),((.s [108]),(.agg ajE)),(abE,(.agg ai2))]))
noncomputable def anX:Nat×Obj:=(1,(.mp none [(aaF,(nN 1)),(aaG,(nN 2)),(aaH,(nN 3)),(W5,(nN 16)),(Yh,(nN 14)),(aaM,(nN 13)),(aaA,(nN 11)),(aaB,(nN 10)),((.s [108]),(nN 63)),(abE,(nN 64))]))
noncomputable def anY:Nat×Obj:=(2,(.cs [(.ms (.g 80693) 4 0 64),(nN 64),(nN 0),(nN 64)]))
noncomputable def afD:V:=(.s [112,97,106])
noncomputable def ai3:List V:=[afD,(nN 10),(nN 100),(nN 4),(nN 4),(nN 4),.bU,.bU,.bU,.bU,(.s []),.bU,(nN 0),.bU,(.s []),(nN 0)]
noncomputable def ak6:Nat×Obj:=(7,(.mp none [(W5,(.agg ag0)),(Yh,(.agg agN)),(aaM,(.agg agO)),(aaA,(.agg afS)),(aaB,(.agg afE)),(abE,(.agg ai3))]))
noncomputable def ae4:Nat×Obj:=(9,(.mp (some .i64) [((nN 1),(.b true)),((nN 2),(.b true)),((nN 3),(.b true)),((nN 4),(.b true)),((nN 5),(.b true)),((nN 10),(.b true))]))
noncomputable def anZ:Nat×Obj:=(10,(.cs [(.b false),abG,(pG 3),(pG 4),(pG 6),(.ms (.g 80697) 4 0 64),(mG 7),(mG 8),(mG 9)]))
noncomputable def ae5:Nat×Obj:=(34,(.arr 3 [[(pG 80703),(.b false),(nN 1)],v25,as4]))
noncomputable def af3:List V:=[(nN 64),abE,akD,(.b false)]
noncomputable def an0:Nat×Obj:=(80693,(.arr 4 [acY,acU,acV,acQ,acN,acK,acH,acD,v57,acE,acF,v60,ab7,ab8,v63,ab5,v65,v66,v67,v68,v69,v70,v71,v72,v73,v74,v75,acL,acO,acR,acW,acZ,ac1,ac6,ac9,adB,adD,adF,adJ,adM,adR,adU,adX,adZ,ad1,ad5,ad8,aeA,aeC,aeF,aeI,aeN,aeS,aeV,aeY,ae2,ae9,afB,afF,afI,afM,afT,afZ,af3]))
noncomputable def auP:Obj:=(.arr 3 [[abE,akD,(.b false)]])
noncomputable def ae6:Nat×Obj:=(80695,auP)
noncomputable def af4:List V:=[(nN 64),v14,.bU,(.ms (.g 80695) 3 0 1)]
noncomputable def an1:Nat×Obj:=(80697,(.arr 4 [abH,abI,abJ,abK,abL,abN,abO,abP,abQ,abR,abS,abT,abU,abV,abW,abX,abY,abZ,ab0,ab1,ab2,ab3,ab4,ab6,acA,acG,acI,acM,acP,acS,acX,ac0,ac2,ac7,adA,adC,adE,adG,adK,adN,adS,adW,adY,ad0,ad2,ad6,ad9,aeB,aeD,aeG,aeJ,aeO,aeT,aeW,aeZ,ae3,afA,afC,afG,afJ,afN,afU,af0,af4]))
noncomputable def ae7:Nat×Obj:=(80699,(.cs [(nN 0),(nN 0),(pG 80698),(.b false),(nN 0),(nN 0),(nN 0),(.s []),(nN 0),.bU,.bU,(nN 0),(nN 0)]))
noncomputable def ae8:Nat×Obj:=(80703,(.cs ((nN 0)::(.b false)::(nN 1048576)::(pG 80699)::(pG 80700)::(pG 80701)::(pG 80702)::.bU::(adO 7 (nN 0) [(.s []),(.b false),(nN 0)]))))
noncomputable def adT:V:=(bR 10 0x30100000000000003e8)
noncomputable def ak7:List V:=[(.s [108]),(nN 85),adT]
noncomputable def akE:V:=(bR 62 0x135156ce1ffe0a000000000000000000a00640000000400000004000000040000000000000000000000000000002e9d023879d53c000000000000000041)
noncomputable def acB:List V:=[abE,(nN 66),akE]
noncomputable def akF:Nat×Obj:=(0,(.mp none [(aaF,(.agg aaC)),(aaG,(.agg aaD)),(aaH,(.agg aaE)),(W5,(.agg aaL)),(Yh,(.agg aaK)),(aaA,(.agg aaJ)),(aaB,(.agg aaI)),((.s [108]),(.agg ak7)),(abE,(.agg acB))]))
noncomputable def akG:Nat×Obj:=(1,(.mp none [(aaF,(nN 1)),(aaG,(nN 2)),(aaH,(nN 3)),(W5,(nN 16)),(Yh,(nN 14)),(aaM,(nN 66)),(aaA,(nN 11)),(aaB,(nN 10)),((.s [108]),(nN 85)),(abE,(nN 66))]))
noncomputable def af9:V:=(.ms (.g 86265) 4 0 64)
noncomputable def akH:Nat×Obj:=(2,(.cs [af9,(nN 64),(nN 22),(nN 85)]))
noncomputable def ak8:Nat×Obj:=(5,(.arr 1 [[(nN 22000)],[(nN 22000)],[(nN 22000)]]))
noncomputable def aiC:List V:=[afD,(nN 10),(nN 100),(nN 4),(nN 4),(nN 4),.bU,.bU,.bU,.bU,(.s []),.bU,(nN 0),.bU,ahL,(nN 65)]
noncomputable def afO:Nat×Obj:=(7,(.mp none [(W5,(.agg ag0)),(Yh,(.agg agN)),(aaA,(.agg afS)),(aaB,(.agg afE)),(abE,(.agg aiC))]))
noncomputable def akI:Nat×Obj:=(10,(.cs [(.b false),abG,(pG 3),(pG 4),(pG 6),(.ms (.g 114482) 4 0 85),(mG 7),(mG 8),(mG 9)]))
noncomputable def akJ:Nat×Obj:=(19,(.cs [(mG 81411),(nN 85)]))
noncomputable def ak9:Nat×Obj:=(20,(.cs [(nN 1),(nN 140),(pG 19),(.b false),(nN 1),(nN 140),(nN 3),(.s []),(nN 85),.bU,.bU,(nN 21950),(nN 1)]))
noncomputable def akK:Nat×Obj:=(21,(.cs [(nN 1),(.b true),(.b true),(nN 85),(nN 1),(nN 1000),(nN 21700),(.b false),(nN 21700),(nN 85),(nN 21700)]))
noncomputable def alA:Nat×Obj:=(22,(.cs [.bU,aaR,(.ms (.g 115539) 16 0 5),(.b true)]))
noncomputable def afV:Nat×Obj:=(23,(.cs [(.ms (.g 85983) 6 0 0)]))
noncomputable def agA:V:=(.ms (.g 85985) 6 0 1)
noncomputable def akL:Nat×Obj:=(24,(.cs [(nN 1),(.b false),(nN 0),(pG 20),(pG 21),(pG 22),(pG 23),agA,(nN 42),(nN 0),(nN 3),(nN 0),(nN 21700),(nN 0),(nN 16100),afD,(.b true),(nN 85)]))
noncomputable def akM:Nat×Obj:=(81411,(.mp none [((.s [108]),(.agg ak7)),(aaF,(.agg aaC)),(aaG,(.agg aaD)),(aaH,(.agg aaE)),(W5,(.agg aaL)),(Yh,(.agg aaK)),(aaA,(.agg aaJ)),(aaB,(.agg aaI)),(abE,(.agg acB))]))
noncomputable def ad7:Obj:=(.arr 3 [[(.s [108]),adT,(.b false)]])
noncomputable def afK:Nat×Obj:=(85215,ad7)
noncomputable def auQ:Obj:=(.arr 1 [[ahU]])
noncomputable def afP:Nat×Obj:=(85765,auQ)
noncomputable def afQ:Nat×Obj:=(85985,(.arr 6 [[afD,ahL,(.ms (.g 85765) 1 0 1),(nN 10),(nN 65),(nN 16300)]]))
noncomputable def af6:List V:=[(nN 65),(.s [108]),adT,(.b false)]
noncomputable def agB:List V:=[(nN 66),abE,akE,(.b false)]
noncomputable def an2:V:=(.sl none 1 [])
noncomputable def agC:List V:=[(nN 66),aaM,an2,(.b true)]
noncomputable def agI:List V:=[(nN 67),(.s [108]),adT,(.b false)]
noncomputable def agP:List V:=[(nN 68),(.s [108]),adT,(.b false)]
noncomputable def agS:List V:=[(nN 69),(.s [108]),adT,(.b false)]
noncomputable def agW:List V:=[(nN 70),(.s [108]),adT,(.b false)]
noncomputable def ag1:List V:=[(nN 71),(.s [108]),adT,(.b false)]
noncomputable def ag6:List V:=[(nN 72),(.s [108]),adT,(.b false)]
noncomputable def ag9:List V:=[(nN 73),(.s [108]),adT,(.b false)]
noncomputable def ahH:List V:=[(nN 74),(.s [108]),adT,(.b false)]
noncomputable def ahM:List V:=[(nN 75),(.s [108]),adT,(.b false)]
noncomputable def ahX:List V:=[(nN 76),(.s [108]),adT,(.b false)]
noncomputable def aiD:List V:=[(nN 77),(.s [108]),adT,(.b false)]
noncomputable def ai4:List V:=[(nN 78),(.s [108]),adT,(.b false)]
noncomputable def ajF:List V:=[(nN 79),(.s [108]),adT,(.b false)]
noncomputable def akN:List V:=[(nN 80),(.s [108]),adT,(.b false)]
noncomputable def alB:List V:=[(nN 81),(.s [108]),adT,(.b false)]
noncomputable def an3:List V:=[(nN 82),(.s [108]),adT,(.b false)]
noncomputable def ar8:List V:=[(nN 83),(.s [108]),adT,(.b false)]
noncomputable def auR:List V:=[(nN 84),(.s [108]),adT,(.b false)]
noncomputable def ad3:List V:=[(nN 0),(.s []),.bU,(.b false)]
noncomputable def akO:Nat×Obj:=(86265,(.arr 4 [v71,v72,v73,v74,v75,acL,acO,acR,acW,acZ,ac1,ac6,ac9,adB,adD,adF,adJ,adM,adR,adU,adX,adZ,ad1,ad5,ad8,aeA,aeC,aeF,aeI,aeN,aeS,aeV,aeY,ae2,ae9,afB,afF,afI,afM,afT,afZ,af3,af6,agB,agC,agI,agP,agS,agW,ag1,ag6,ag9,ahH,ahM,ahX,aiD,ai4,ajF,akN,alB,an3,ar8,auR,[(nN 85),(.s [108]),adT,(.b false)],ad3,ad3]))
noncomputable def auS:Obj:=(.arr 3 [[abE,akE,(.b false)],[aaM,an2,(.b true)]])
noncomputable def afR:Nat×Obj:=(86269,auS)
noncomputable def afW:Nat×Obj:=(87462,ad7)
noncomputable def af1:Nat×Obj:=(88963,ad7)
noncomputable def af5:Nat×Obj:=(90464,ad7)
noncomputable def af7:Nat×Obj:=(91965,ad7)
noncomputable def agD:Nat×Obj:=(93466,ad7)
noncomputable def agJ:Nat×Obj:=(94967,ad7)
noncomputable def agQ:Nat×Obj:=(96468,ad7)
noncomputable def agT:Nat×Obj:=(97969,ad7)
noncomputable def agX:Nat×Obj:=(99470,ad7)
noncomputable def ag2:Nat×Obj:=(100971,ad7)
noncomputable def ag7:Nat×Obj:=(102472,ad7)
noncomputable def ahA:Nat×Obj:=(103973,ad7)
noncomputable def ahI:Nat×Obj:=(105474,ad7)
noncomputable def ahN:Nat×Obj:=(106975,ad7)
noncomputable def ahY:Nat×Obj:=(108476,ad7)
noncomputable def aiE:Nat×Obj:=(109977,ad7)
noncomputable def ai5:Nat×Obj:=(111478,ad7)
noncomputable def ajG:Nat×Obj:=(112979,ad7)
noncomputable def akP:Nat×Obj:=(114480,ad7)
noncomputable def auT:V:=(.sl none 3 [[(.s [108]),(nN 63),(.b false)]])
noncomputable def af8:List V:=[(nN 65),(nN 1),auT,(.ms (.g 85215) 3 0 1)]
noncomputable def auU:List V:=[(.s [108]),(nN 65),(.b false)]
noncomputable def auV:V:=(.sl none 3 [auU,[abE,(nN 64),(.b false)],as8,[v79,(nN 65),(.b true)],[v80,(nN 65),(.b true)]])
noncomputable def agE:List V:=[(nN 66),(nN 1),auV,(.ms (.g 86269) 3 0 2)]
noncomputable def auW:V:=(.sl none 3 [auU])
noncomputable def agK:List V:=[(nN 67),(nN 1),auW,(.ms (.g 87462) 3 0 1)]
noncomputable def auX:V:=(.sl none 3 [[(.s [108]),(nN 67),(.b false)]])
noncomputable def agR:List V:=[(nN 68),(nN 1),auX,(.ms (.g 88963) 3 0 1)]
noncomputable def auY:V:=(.sl none 3 [[(.s [108]),(nN 68),(.b false)]])
noncomputable def agU:List V:=[(nN 69),(nN 1),auY,(.ms (.g 90464) 3 0 1)]
noncomputable def auZ:V:=(.sl none 3 [[(.s [108]),(nN 69),(.b false)]])
noncomputable def agY:List V:=[(nN 70),(nN 1),auZ,(.ms (.g 91965) 3 0 1)]
noncomputable def au0:V:=(.sl none 3 [[(.s [108]),(nN 70),(.b false)]])
noncomputable def ag3:List V:=[(nN 71),(nN 1),au0,(.ms (.g 93466) 3 0 1)]
noncomputable def au1:V:=(.sl none 3 [[(.s [108]),(nN 71),(.b false)]])
noncomputable def ag8:List V:=[(nN 72),(nN 1),au1,(.ms (.g 94967) 3 0 1)]
noncomputable def au2:V:=(.sl none 3 [[(.s [108]),(nN 72),(.b false)]])
noncomputable def ahB:List V:=[(nN 73),(nN 1),au2,(.ms (.g 96468) 3 0 1)]
noncomputable def au3:V:=(.sl none 3 [[(.s [108]),(nN 73),(.b false)]])
noncomputable def ahJ:List V:=[(nN 74),(nN 1),au3,(.ms (.g 97969) 3 0 1)]
noncomputable def au4:V:=(.sl none 3 [[(.s [108]),(nN 74),(.b false)]])
noncomputable def ahO:List V:=[(nN 75),(nN 1),au4,(.ms (.g 99470) 3 0 1)]
noncomputable def au5:V:=(.sl none 3 [[(.s [108]),(nN 75),(.b false)]])
noncomputable def ahZ:List V:=[(nN 76),(nN 1),au5,(.ms (.g 100971) 3 0 1)]
noncomputable def au6:V:=(.sl none 3 [[(.s [108]),(nN 76),(.b false)]])
noncomputable def aiF:List V:=[(nN 77),(nN 1),au6,(.ms (.g 102472) 3 0 1)]
noncomputable def au7:V:=(.sl none 3 [[(.s [108]),(nN 77),(.b false)]])
noncomputable def ai6:List V:=[(nN 78),(nN 1),au7,(.ms (.g 103973) 3 0 1)]
noncomputable def au8:V:=(.sl none 3 [[(.s [108]),(nN 78),(.b false)]])
noncomputable def ajH:List V:=[(nN 79),(nN 1),au8,(.ms (.g 105474) 3 0 1)]
noncomputable def au9:V:=(.sl none 3 [[(.s [108]),(nN 79),(.b false)]])
noncomputable def akQ:List V:=[(nN 80),(nN 1),au9,(.ms (.g 106975) 3 0 1)]
noncomputable def avA:V:=(.sl none 3 [[(.s [108]),(nN 80),(.b false)]])
noncomputable def alC:List V:=[(nN 81),(nN 1),avA,(.ms (.g 108476) 3 0 1)]
noncomputable def avB:V:=(.sl none 3 [[(.s [108]),(nN 81),(.b false)]])
noncomputable def an4:List V:=[(nN 82),(nN 1),avB,(.ms (.g 109977) 3 0 1)]
noncomputable def avC:V:=(.sl none 3 [[(.s [108]),(nN 82),(.b false)]])
noncomputable def ar9:List V:=[(nN 83),(nN 1),avC,(.ms (.g 111478) 3 0 1)]
noncomputable def avD:V:=(.sl none 3 [[(.s [108]),(nN 83),(.b false)]])
noncomputable def avE:List V:=[(nN 84),(nN 1),avD,(.ms (.g 112979) 3 0 1)]
noncomputable def avF:V:=(.sl none 3 [[(.s [108]),(nN 84),(.b false)]])
noncomputable def akR:Nat×Obj:=(114482,(.arr 4 [abH,abI,abJ,abK,abL,abN,abO,abP,abQ,abR,abS,abT,abU,abV,abW,abX,abY,abZ,ab0,ab1,ab2,ab3,ab4,ab6,acA,acG,acI,acM,acP,acS,acX,ac0,ac2,ac7,adA,adC,adE,adG,adK,adN,adS,adW,adY,ad0,ad2,ad6,ad9,aeB,aeD,aeG,aeJ,aeO,aeT,aeW,aeZ,ae3,afA,afC,afG,afJ,afN,afU,af0,af4,af8,agE,agK,agR,agU,agY,ag3,ag8,ahB,ahJ,ahO,ahZ,aiF,ai6,ajH,akQ,alC,an4,ar9,avE,[(nN 85),(nN 1),avF,(.ms (.g 114480) 3 0 1)]]))
noncomputable def agF:Obj:=(.arr 16 [ag0,agN,afS,afE,aiC])
noncomputable def alD:Nat×Obj:=(115539,agF)
noncomputable def asA:Nat×Obj:=(19,(.cs [(mG 81411),(nN 64)]))
noncomputable def avG:Nat×Obj:=(21,(.cs [(nN 1),(.b true),(.b true),(nN 63),(nN 0),(nN 1000),(nN 15000),(.b false),(nN 0),(nN 0),(nN 0)]))
noncomputable def avH:Nat×Obj:=(24,(.cs [(nN 1),(.b false),(nN 0),(pG 20),(pG 21),(pG 22),(pG 23),.bU,(nN 0),(nN 0),(nN 3),(nN 0),(nN 0),(nN 0),(nN 0),(.s []),(.b true),(nN 63)]))
noncomputable def asB:Nat×Obj:=(81411,(.mp none [((.s [108]),(.agg ajE)),(aaF,(.agg aaC)),(aaG,(.agg aaD)),(aaH,(.agg aaE)),(W5,(.agg aaL)),(Yh,(.agg aaK)),(aaM,(.agg aaN)),(aaA,(.agg aaJ)),(aaB,(.agg aaI)),(abE,(.agg ai2))]))
noncomputable def ajI:List V:=[(.s [108]),(nN 65),adT]
noncomputable def avI:Nat×Obj:=(21,(.cs [(nN 1),(.b true),(.b true),(nN 65),(nN 1),(nN 1000),(nN 16000),(.b false),(nN 16000),(nN 65),(nN 16000)]))
noncomputable def alE:List V:=[(.s [108]),(nN 67),adT]
noncomputable def alF:List V:=[(.s [108]),(nN 68),adT]
noncomputable def alG:List V:=[(.s [108]),(nN 69),adT]
noncomputable def alH:List V:=[(.s [108]),(nN 70),adT]
noncomputable def alI:List V:=[(.s [108]),(nN 71),adT]
noncomputable def alJ:List V:=[(.s [108]),(nN 72),adT]
noncomputable def alK:List V:=[(.s [108]),(nN 73),adT]
noncomputable def alL:List V:=[(.s [108]),(nN 74),adT]
noncomputable def alM:List V:=[(.s [108]),(nN 75),adT]
noncomputable def alN:List V:=[(.s [108]),(nN 76),adT]
noncomputable def alO:List V:=[(.s [108]),(nN 77),adT]
noncomputable def alP:List V:=[(.s [108]),(nN 78),adT]
noncomputable def alQ:List V:=[(.s [108]),(nN 79),adT]
noncomputable def alR:List V:=[(.s [108]),(nN 80),adT]
noncomputable def alS:List V:=[(.s [108]),(nN 81),adT]
noncomputable def alT:List V:=[(.s [108]),(nN 82),adT]
noncomputable def alU:List V:=[(.s [108]),(nN 83),adT]
noncomputable def alV:List V:=[(.s [108]),(nN 84),adT]
noncomputable def asC:V:=(.ms (.g 116016) 4 0 85)
noncomputable def an5:Nat×Obj:=(3,(.cs [(nN 85),(mG 0),(mG 1),(pG 2),(nN 445),(nN 89)]))
noncomputable def an6:Nat×Obj:=(115678,aaS)
noncomputable def an7:Nat×Obj:=(115682,aaT)
noncomputable def an8:Nat×Obj:=(115686,aaU)
noncomputable def an9:Nat×Obj:=(115690,aaV)
noncomputable def aoA:Nat×Obj:=(115694,aaW)
noncomputable def aoB:Nat×Obj:=(115698,aaZ)
noncomputable def aoC:Nat×Obj:=(115702,aa0)
noncomputable def aoD:Nat×Obj:=(115706,aa1)
noncomputable def aoE:Nat×Obj:=(115710,v46)
noncomputable def aoF:Nat×Obj:=(115714,aa8)
noncomputable def aoG:Nat×Obj:=(115718,aa9)
noncomputable def aoH:Nat×Obj:=(115722,v46)
noncomputable def aoI:Nat×Obj:=(115726,abB)
noncomputable def aoJ:Nat×Obj:=(115730,abC)
noncomputable def aoK:Nat×Obj:=(115734,v46)
noncomputable def aoL:Nat×Obj:=(115738,abD)
noncomputable def aoM:Nat×Obj:=(115742,v46)
noncomputable def aoN:Nat×Obj:=(115746,v46)
noncomputable def aoO:Nat×Obj:=(115750,v46)
noncomputable def aoP:Nat×Obj:=(115754,v46)
noncomputable def aoQ:Nat×Obj:=(115758,v46)
noncomputable def aoR:Nat×Obj:=(115762,v46)
noncomputable def aoS:Nat×Obj:=(115766,v46)
noncomputable def aoT:Nat×Obj:=(115770,v46)
noncomputable def aoU:Nat×Obj:=(115774,v46)
noncomputable def aoV:Nat×Obj:=(115778,v46)
noncomputable def aoW:Nat×Obj:=(115782,v46)
noncomputable def aoX:Nat×Obj:=(115786,v46)
noncomputable def aoY:Nat×Obj:=(115790,v46)
noncomputable def aoZ:Nat×Obj:=(115794,v46)
noncomputable def ao0:Nat×Obj:=(115798,v46)
noncomputable def ao1:Nat×Obj:=(115802,v46)
noncomputable def ao2:Nat×Obj:=(115806,v46)
noncomputable def ao3:Nat×Obj:=(115810,v46)
noncomputable def ao4:Nat×Obj:=(115814,v46)
noncomputable def ao5:Nat×Obj:=(115818,v46)
noncomputable def ao6:Nat×Obj:=(115822,v46)
noncomputable def ao7:Nat×Obj:=(115826,v46)
noncomputable def ao8:Nat×Obj:=(115830,v46)
noncomputable def ao9:Nat×Obj:=(115834,v46)
noncomputable def apA:Nat×Obj:=(115838,v46)
noncomputable def apB:Nat×Obj:=(115842,v46)
noncomputable def apC:Nat×Obj:=(115846,v46)
noncomputable def apD:Nat×Obj:=(115850,v46)
noncomputable def apE:Nat×Obj:=(115854,v46)
noncomputable def apF:Nat×Obj:=(115858,v46)
noncomputable def apG:Nat×Obj:=(115862,v46)
noncomputable def apH:Nat×Obj:=(115866,v46)
noncomputable def apI:Nat×Obj:=(115870,v46)
noncomputable def apJ:Nat×Obj:=(115874,v46)
noncomputable def apK:Nat×Obj:=(115878,v46)
noncomputable def apL:Nat×Obj:=(115882,v46)
noncomputable def apM:Nat×Obj:=(115886,v46)
noncomputable def apN:Nat×Obj:=(115890,v46)
noncomputable def apO:Nat×Obj:=(115894,v46)
noncomputable def apP:Nat×Obj:=(115898,v46)
noncomputable def apQ:Nat×Obj:=(115902,v46)
noncomputable def apR:Nat×Obj:=(115906,v46)
noncomputable def apS:Nat×Obj:=(115910,v46)
noncomputable def apT:Nat×Obj:=(115914,v46)
noncomputable def apU:Nat×Obj:=(115918,v46)
noncomputable def apV:Nat×Obj:=(115922,v46)
noncomputable def apW:Nat×Obj:=(115926,v46)
noncomputable def apX:Nat×Obj:=(115930,auP)
noncomputable def apY:Nat×Obj:=(115934,ad7)
noncomputable def apZ:Nat×Obj:=(115938,auS)
noncomputable def ap0:Nat×Obj:=(115942,ad7)
noncomputable def ap1:Nat×Obj:=(115946,ad7)
noncomputable def ap2:Nat×Obj:=(115950,ad7)
noncomputable def ap3:Nat×Obj:=(115954,ad7)
noncomputable def ap4:Nat×Obj:=(115958,ad7)
noncomputable def ap5:Nat×Obj:=(115962,ad7)
noncomputable def ap6:Nat×Obj:=(115966,ad7)
noncomputable def ap7:Nat×Obj:=(115970,ad7)
noncomputable def ap8:Nat×Obj:=(115974,ad7)
noncomputable def ap9:Nat×Obj:=(115978,ad7)
noncomputable def aqA:Nat×Obj:=(115982,ad7)
noncomputable def aqB:Nat×Obj:=(115986,ad7)
noncomputable def aqC:Nat×Obj:=(115990,ad7)
noncomputable def aqD:Nat×Obj:=(115994,ad7)
noncomputable def aqE:Nat×Obj:=(115998,ad7)
noncomputable def aqF:Nat×Obj:=(116002,ad7)
noncomputable def aqG:Nat×Obj:=(116006,ad7)
noncomputable def aqH:Nat×Obj:=(116010,ad7)
noncomputable def aqI:Nat×Obj:=(116014,ad7)
noncomputable def aqJ:Nat×Obj:=(116016,(.arr 4 [[(nN 1),v14,.bU,(.ms (.g 115678) 3 0 1)],[(nN 2),v14,.bU,(.ms (.g 115682) 3 0 1)],[(nN 3),v14,.bU,(.ms (.g 115686) 3 0 1)],[(nN 4),v14,.bU,(.ms (.g 115690) 3 0 1)],[(nN 5),v14,.bU,(.ms (.g 115694) 3 0 1)],[(nN 6),v14,.bU,(.ms (.g 115698) 3 0 1)],[(nN 7),v14,.bU,(.ms (.g 115702) 3 0 1)],[(nN 8),v14,.bU,(.ms (.g 115706) 3 0 1)],[(nN 9),(nN 0),v76,(.ms (.g 115710) 3 0 1)],[(nN 10),(nN 0),aqX,(.ms (.g 115714) 3 0 1)],[(nN 11),(nN 0),aqY,(.ms (.g 115718) 3 0 1)],[(nN 12),(nN 0),v88,(.ms (.g 115722) 3 0 1)],[(nN 13),(nN 0),aqZ,(.ms (.g 115726) 3 0 1)],[(nN 14),(nN 0),aq0,(.ms (.g 115730) 3 0 1)],[(nN 15),(nN 0),v93,(.ms (.g 115734) 3 0 1)],[(nN 16),(nN 0),aq1,(.ms (.g 115738) 3 0 1)],[(nN 17),(nN 0),v98,(.ms (.g 115742) 3 0 1)],[(nN 18),(nN 0),alZ,(.ms (.g 115746) 3 0 1)],[(nN 19),(nN 0),al0,(.ms (.g 115750) 3 0 1)],[(nN 20),(nN 0),al1,(.ms (.g 115754) 3 0 1)],[(nN 21),(nN 0),al2,(.ms (.g 115758) 3 0 1)],[(nN 22),(nN 0),al3,(.ms (.g 115762) 3 0 1)],[(nN 23),(nN 0),al4,(.ms (.g 115766) 3 0 1)],[(nN 24),(nN 0),al5,(.ms (.g 115770) 3 0 1)],[(nN 25),(nN 0),al7,(.ms (.g 115774) 3 0 1)],[(nN 26),(nN 0),ak1,(.ms (.g 115778) 3 0 1)],[(nN 27),(nN 0),ak2,(.ms (.g 115782) 3 0 1)],[(nN 28),(nN 0),aq2,(.ms (.g 115786) 3 0 1)],[(nN 29),(nN 0),aq3,(.ms (.g 115790) 3 0 1)],[(nN 30),(nN 0),aq4,(.ms (.g 115794) 3 0 1)],[(nN 31),(nN 0),aq5,(.ms (.g 115798) 3 0 1)],[(nN 32),(nN 0),aq6,(.ms (.g 115802) 3 0 1)],[(nN 33),(nN 0),aq7,(.ms (.g 115806) 3 0 1)],[(nN 34),(nN 0),aq8,(.ms (.g 115810) 3 0 1)],[(nN 35),(nN 0),aq9,(.ms (.g 115814) 3 0 1)],[(nN 36),(nN 0),arA,(.ms (.g 115818) 3 0 1)],[(nN 37),(nN 0),arB,(.ms (.g 115822) 3 0 1)],[(nN 38),(nN 0),arC,(.ms (.g 115826) 3 0 1)],[(nN 39),(nN 0),arD,(.ms (.g 115830) 3 0 1)],[(nN 40),(nN 0),arE,(.ms (.g 115834) 3 0 1)],[(nN 41),(nN 0),arF,(.ms (.g 115838) 3 0 1)],[(nN 42),(nN 0),arG,(.ms (.g 115842) 3 0 1)],[(nN 43),(nN 0),arH,(.ms (.g 115846) 3 0 1)],[(nN 44),(nN 0),arI,(.ms (.g 115850) 3 0 1)],[(nN 45),(nN 0),arJ,(.ms (.g 115854) 3 0 1)],[(nN 46),(nN 0),arK,(.ms (.g 115858) 3 0 1)],[(nN 47),(nN 0),arL,(.ms (.g 115862) 3 0 1)],[(nN 48),(nN 0),arM,(.ms (.g 115866) 3 0 1)],[(nN 49),(nN 0),arN,(.ms (.g 115870) 3 0 1)],[(nN 50),(nN 0),arO,(.ms (.g 115874) 3 0 1)],[(nN 51),(nN 0),arP,(.ms (.g 115878) 3 0 1)],[(nN 52),(nN 0),arQ,(.ms (.g 115882) 3 0 1)],[(nN 53),(nN 0),arR,(.ms (.g 115886) 3 0 1)],[(nN 54),(nN 0),arS,(.ms (.g 115890) 3 0 1)],[(nN 55),(nN 0),arT,(.ms (.g 115894) 3 0 1)],[(nN 56),(nN 0),arU,(.ms (.g 115898) 3 0 1)],[(nN 57),(nN 0),arV,(.ms (.g 115902) 3 0 1)],[(nN 58),(nN 0),arW,(.ms (.g 115906) 3 0 1)],[(nN 59),(nN 0),arX,(.ms (.g 115910) 3 0 1)],[(nN 60),(nN 0),arY,(.ms (.g 115914) 3 0 1)],[(nN 61),(nN 0),arZ,(.ms (.g 115918) 3 0 1)],[(nN 62),(nN 0),ar0,(.ms (.g 115922) 3 0 1)],[(nN 63),(nN 0),ar1,(.ms (.g 115926) 3 0 1)],[(nN 64),v14,.bU,(.ms (.g 115930) 3 0 1)],[(nN 65),(nN 1),auT,(.ms (.g 115934) 3 0 1)],[(nN 66),(nN 1),auV,(.ms (.g 115938) 3 0 2)],[(nN 67),(nN 1),auW,(.ms (.g 115942) 3 0 1)],[(nN 68),(nN 1),auX,(.ms (.g 115946) 3 0 1)],[(nN 69),(nN 1),auY,(.ms (.g 115950) 3 0 1)],[(nN 70),(nN 1),auZ,(.ms (.g 115954) 3 0 1)],[(nN 71),(nN 1),au0,(.ms (.g 115958) 3 0 1)],[(nN 72),(nN 1),au1,(.ms (.g 115962) 3 0 1)],[(nN 73),(nN 1),au2,(.ms (.g 115966) 3 0 1)],[(nN 74),(nN 1),au3,(.ms (.g 115970) 3 0 1)],[(nN 75),(nN 1),au4,(.ms (.g 115974) 3 0 1)],[(nN 76),(nN 1),au5,(.ms (.g 115978) 3 0 1)],[(nN 77),(nN 1),au6,(.ms (.g 115982) 3 0 1)],[(nN 78),(nN 1),au7,(.ms (.g 115986) 3 0 1)],[(nN 79),(nN 1),au8,(.ms (.g 115990) 3 0 1)],[(nN 80),(nN 1),au9,(.ms (.g 115994) 3 0 1)],[(nN 81),(nN 1),avA,(.ms (.g 115998) 3 0 1)],[(nN 82),(nN 1),avB,(.ms (.g 116002) 3 0 1)],[(nN 83),(nN 1),avC,(.ms (.g 116006) 3 0 1)],[(nN 84),(nN 1),avD,(.ms (.g 116010) 3 0 1)],[(nN 85),(nN 1),avF,(.ms (.g 116014) 3 0 1)]]))
noncomputable def asD:V:=(.agg [v40,(.sl none 16 [v38])])
noncomputable def afX:V:=(.bO [asD,(.b true)])
noncomputable def asE:V:=(.agg [v40,(.sl none 16 [v9])])
noncomputable def avJ:V:=(.bO [asE,(.b true)])
noncomputable def avK:V:=(.agg [v40,.bU])
noncomputable def ai7:V:=(.bO [(.agg ((.s [])::(adO 5 (nN 0) [.bU,.bU,.bU,.bU,(.s []),.bU,(nN 0),.bU,(.s []),(nN 0)]))),(.b false)])
noncomputable def agG:V:=(.bO [(.agg [(.s []),(nN 0),(nN 0),(nN 0),.bU,.bU]),(.b false)])
noncomputable def asF:V:=(.agg [(nN 0),(nN 0),(nN 0)])
noncomputable def avL:V:=(.agg [(nN 1),(nN 1),(nN 1)])
noncomputable def aqK:V:=(.agg [(nN 0),(nN 1000)])
noncomputable def aqL:V:=(.i .u64 (.ofNat 8))
noncomputable def aqM:V:=(.agg [(.s []),(nN 0),.bU])
noncomputable def avM:List V:=[(.agg aiC)]
noncomputable def avN:List V:=[(.agg af2)]
noncomputable def avO:List V:=[(.agg afH)]
noncomputable def avP:List V:=[(.agg ag5)]
noncomputable def avQ:List V:=[(.agg ag0)]
noncomputable def avR:List V:=[(.agg ai3)]
noncomputable def avS:List V:=[(.agg afS)]
noncomputable def avT:List V:=[(.agg afE)]
noncomputable def avU:List V:=[(.agg agN)]
noncomputable def avV:List V:=[(.agg agO)]
noncomputable def avW:List V:=[(.agg agM)]
noncomputable def avX:List V:=[(.agg ahV)]
noncomputable def asG:V:=(.agg [aaR,(.sl none 16 [ag0,agN,agO,afS,afE])])
noncomputable def adH:V:=(.bO [asG,(.b true)])
noncomputable def asH:V:=(.agg [aaR,(.sl none 16 [afH,af2,agM,ag5,ahV])])
noncomputable def avY:V:=(.bO [asH,(.b true)])
noncomputable def asI:V:=(.agg [aaR,(.sl none 16 [ag0,agN,afS,afE,aiC])])
noncomputable def agH:V:=(.bO [asI,(.b true)])
noncomputable def asJ:V:=(.agg [aaR,(.sl none 16 [afH,af2,agM,afS,afE])])
noncomputable def avZ:V:=(.bO [asJ,(.b true)])
noncomputable def av0:V:=(.agg [aaR,.bU])
noncomputable def av1:V:=(.agg [aaR,(.sl none 16 [afH,af2])])
noncomputable def av2:V:=(.agg [aaR,(.sl none 16 [afH,af2,agM,ag5])])
noncomputable def asK:V:=(.agg [aaR,(.sl none 16 [afH,af2,agO,afS,afE])])
noncomputable def asL:V:=(.agg [aaR,(.sl none 16 [ag0,agN,agO,afS,afE,ai3])])
noncomputable def av3:V:=(.bO [asL,(.b true)])
noncomputable def av4:V:=(.agg [(.sl none 6 [aiB]),.bU])
noncomputable def asM:V:=(.agg [aaR,(.sl none 16 [afH,af2,agM,ag5,afE])])
noncomputable def asN:V:=(.agg [aaR,(.sl none 16 [afH,agN,agO,afS,afE])])
noncomputable def av5:V:=(.bO [asN,(.b true)])
noncomputable def av6:V:=(.agg [aaR,(.sl none 16 [afH,af2,agM])])
noncomputable def av7:V:=(.agg [aaR,(.sl none 16 [afH])])
noncomputable def av8:V:=(.agg [(.sl none 6 [aiB,ai0]),.bU])
noncomputable def aqN:V:=(.agg [ahU,(nN 3),(nN 2),(nN 2),(nN 2),(nN 2),.bU,.bU,.bU,.bU,(.s []),.bU,(nN 0),.bU,ahL,(nN 0)])
noncomputable def asO:V:=(.agg [afD,(nN 10),(nN 100),(nN 4),(nN 4),(nN 4),.bU,.bU,.bU,.bU,(.s []),.bU,(nN 0),.bU,ahL,(nN 0)])
noncomputable def aqO:V:=(.agg [aiY,(nN 4),(nN 3),(nN 2),(nN 2),(nN 2),.bU,.bU,.bU,.bU,(.s []),.bU,(nN 0),.bU,ahW,(nN 0)])
noncomputable def aqP:V:=(.agg [aiZ,(nN 5),(nN 4),(nN 2),(nN 2),(nN 2),.bU,.bU,.bU,.bU,(.s []),.bU,(nN 0),.bU,aiA,(nN 0)])
noncomputable def aqQ:V:=(.agg [aiX,(nN 2),(nN 1),(nN 2),(nN 2),(nN 2),.bU,.bU,.bU,.bU,(.s []),.bU,(nN 0),.bU,aiA,(nN 0)])
noncomputable def aqR:V:=(.agg [acT,(nN 1),(nN 0),(nN 2),(nN 2),(nN 2),.bU,.bU,.bU,.bU,(.s []),.bU,(nN 0),.bU,ahW,(nN 0)])
noncomputable def av9:List V:=[(.agg ajD)]
noncomputable def awA:List V:=[(.agg ai0)]
noncomputable def awB:List V:=[(.agg aiB)]
noncomputable def akS:V:=(.agg [(nN 2),(nN 2),(nN 2)])
noncomputable def akT:V:=(.agg [(nN 4),(nN 4),(nN 4)])
noncomputable def awC:V:=(.bO [(.agg [(nN 6),(nN 6),(nN 6)]),(.b true)])
noncomputable def awD:V:=(.bO [akT,(.b true)])
noncomputable def awE:V:=(.agg [(nN 1),(nN 1000)])
open Go
noncomputable def Lv:List (List V×V):=[([(.s [108])],(nN 3)),
 ([v4],(nN 1)),
 ([v1],(nN 2))]
noncomputable def Lw:List (List V×V):=[([(.agg v38)],v33),
 ([(.agg v9)],v5)]
noncomputable def LD:List (List V×V):=[([(.sl none 3 [ak3,v3,v34])],afX),
 ([(.sl none 3 [v43,v3,v34])],afX),
 ([(.sl none 3 [aiO,v3,v34])],afX),
 ([(.sl none 3 [amG,v3,v34])],afX),
 ([.bU],(.bO [(.agg [.bU,.bU]),(.b true)])),
 ([(.sl none 3 [amC,v3,v34])],afX),
 ([(.sl none 3 [ahS,v3,v34])],afX),
 ([(.sl none 3 [amB,v3,v34])],afX),
 ([(.sl none 3 [aiV,v3,v34])],afX),
 ([(.sl none 3 [aiT,v3,v34])],afX),
 ([(.sl none 3 [al9,v3,v34])],afX),
 ([(.sl none 3 [aiQ,v3,v34])],afX),
 ([(.sl none 3 [v3,v6])],avJ),
 ([(.sl none 3 [amE,v3,v34])],afX),
 ([(.sl none 3 [al8,v3,v34])],afX),
 ([(.sl none 3 [amD,v3,v34])],afX),
 ([(.sl none 3 [v3])],(.bO [avK,(.b true)])),
 ([(.sl none 3 [ahE,v3,v34])],afX),
 ([(.sl none 3 [aiR,v3,v34])],afX),
 ([(.sl none 3 [aiP,v3,v34])],afX),
 ([(.sl none 3 [amA,v3,v34])],afX),
 ([(.sl none 3 [amF,v3,v34])],afX),
 ([(.sl none 3 [aiW,v3,v34])],afX),
 ([(.sl none 3 [ak3,v3,v6])],avJ),
 ([(.sl none 3 [aiS,v3,v34])],afX),
 ([(.sl none 3 [ahF,v3,v34])],afX),
 ([(.sl none 3 [aiU,v3,v34])],afX),
 ([(.sl none 3 [v36,v3,v34])],afX)]
noncomputable def Lx:List (List V×V):=[([(.agg v38)],(.agg v38)),
 ([(.agg v9)],(.agg v9)),
 ([(.agg ak4)],(.agg ak4))]
noncomputable def Ly:List (List V×V):=[([(.s [112])],(.b true)),
 ([(.s [])],(.b false)),
 ([(.s [110])],(.b true))]
noncomputable def LF:List (List V×V):=[([asD],(.b true)),
 ([avK],(.b true)),
 ([asE],(.b true))]
noncomputable def Lz:List (List V×V):=[([(nN 1),(.s [112])],v4),
 ([(nN 2),(.s [110])],v1),
 ([(nN 3),(.s [])],(.s [108]))]
noncomputable def LA:List (List V×V):=[([(.agg v10)],v2)]
noncomputable def LB:List (List V×V):=[([v5],(.bO [(.agg v9),(.b true)])),
 ([v2],ai7),
 ([v33],(.bO [(.agg v38),(.b true)])),
 ([v35],ai7)]
noncomputable def LC:List (List V×V):=[([v33],agG),
 ([v2],(.bO [(.agg v10),(.b true)])),
 ([v5],agG),
 ([v35],agG),
 ([.bU],agG)]
noncomputable def H8:List (List V×V):=[([(.agg v10)],(.agg v10))]
noncomputable def H9:List (List V×V):=[([asF,avL],(.bO [avL,(.b true)]))]
noncomputable def Ia:List (List V×V):=[([v35],(.bO [aqK,(.b true)])),
 ([.bU],(.bO [(.agg [(nN 0),(nN 0)]),(.b false)]))]
noncomputable def Ib:List (List V×V):=[([(.agg v9),(.agg v9)],(.b true)),
 ([(.agg ak4),(.agg v9)],(.b false)),
 ([(.agg v38),(.agg v38)],(.b true)),
 ([(.agg v38),(.agg ak4)],(.b false))]
noncomputable def Ic:List (List V×V):=[([aqK],v35)]
noncomputable def Ie:List (List V×V):=[([(.i .u64 (.ofNat 1)),aqL],(.bO [(.i .u64 (.ofNat 0)),aqL]))]
noncomputable def Ii:List (List V×V):=[([asE],v40),
 ([asD],v40)]
noncomputable def Ig:List (List V×V):=[([(.agg aiW)],(.agg aiW)),
 ([(.agg ahS)],(.agg ahS)),
 ([(.agg amD)],(.agg amD)),
 ([(.agg aiT)],(.agg aiT)),
 ([(.agg aiR)],(.agg aiR)),
 ([(.agg v34)],(.agg v34)),
 ([(.agg al8)],(.agg al8)),
 ([(.agg amC)],(.agg amC)),
 ([(.agg ahF)],(.agg ahF)),
 ([(.agg aiU)],(.agg aiU)),
 ([(.agg ahE)],(.agg ahE)),
 ([aqM],aqM),
 ([(.agg aiP)],(.agg aiP)),
 ([(.agg al9)],(.agg al9)),
 ([(.agg amE)],(.agg amE)),
 ([(.agg ak3)],(.agg ak3)),
 ([(.agg aiV)],(.agg aiV)),
 ([(.agg v43)],(.agg v43)),
 ([(.agg aiQ)],(.agg aiQ)),
 ([(.agg v3)],(.agg v3)),
 ([(.agg amF)],(.agg amF)),
 ([(.agg amB)],(.agg amB)),
 ([(.agg aiO)],(.agg aiO)),
 ([(.agg amG)],(.agg amG)),
 ([(.agg aiS)],(.agg aiS)),
 ([(.agg amA)],(.agg amA)),
 ([(.agg v6)],(.agg v6))]
noncomputable def Ih:List (List V×V):=[([(.agg v10),(.agg v10)],(.b true))]
noncomputable def PF:List (List V×V):=[([aaM],(nN 1)),
 ([aaA],(nN 1)),
 ([aaG],(nN 2)),
 ([Yh],(nN 1)),
 ([abE],(nN 1)),
 ([aaH],(nN 2)),
 ([(.s [108])],(nN 3)),
 ([aaF],(nN 2)),
 ([W5],(nN 1)),
 ([aaB],(nN 1))]
noncomputable def PG:List (List V×V):=[(avM,akE),
 (avN,ajT),
 (avO,ajS),
 ([(.agg [acT,(nN 1),(nN 0),(nN 2),(nN 2),(nN 2),.bU,.bU,.bU,.bU,(.s []),.bU,(nN 0),.bU,ahW,(nN 12)])],(bR 62 0x135102483a8a28a00000000000000000100000000000200000002000000020000000000000000000000000000002e86b4385ecf1800000000000000000c)),
 (avP,ajV),
 (avQ,ajX),
 (avR,akD),
 (avS,aj0),
 ([(.agg [ahU,(nN 3),(nN 2),(nN 2),(nN 2),(nN 2),.bU,.bU,.bU,.bU,(.s []),.bU,(nN 0),.bU,ahL,(nN 9)])],(bR 62 0x13511510a66b05600000000000000000300020000000200000002000000020000000000000000000000000000002e9d023879d53c000000000000000009)),
 (avT,aj1),
 (avU,ajY),
 (avV,ajZ),
 (avW,ajU),
 (avX,ajW)]
noncomputable def Ij:List (List V×V):=[([(.sl none 3 [am8,aaC,aaD,aaE,aaL,aaK,aaN,aaJ,aaI])],adH),
 ([.bU],(.bO [(.agg [.bU,.bU]),(.b true)])),
 ([(.sl none 3 [am2,aaC,aaD,aaE,aaL,aaK,aaN,aaJ,aaI])],adH),
 ([(.sl none 3 [amO,aaC,aaD,aaE,aaL,aaK,aaN,aaJ,aaI])],adH),
 ([(.sl none 3 [ahE,aaC,aaD,aaE,afY,agL,agZ,ahT,ajC])],avY),
 ([(.sl none 3 [alO,aaC,aaD,aaE,aaL,aaK,aaJ,aaI,acB])],agH),
 ([(.sl none 3 [ahE,aaC,aaD,aaE,afY,agL,agZ,aaJ,aaI])],avZ),
 ([(.sl none 3 [alE,aaC,aaD,aaE,aaL,aaK,aaJ,aaI,acB])],agH),
 ([(.sl none 3 [aaC,aaD,aaE])],(.bO [av0,(.b true)])),
 ([(.sl none 3 [am5,aaC,aaD,aaE,aaL,aaK,aaN,aaJ,aaI])],adH),
 ([(.sl none 3 [aaC,aaD,aaE,afY,agL])],(.bO [av1,(.b true)])),
 ([(.sl none 3 [aaC,aaD,aaE,afY,agL,agZ,ahT])],(.bO [av2,(.b true)])),
 ([(.sl none 3 [aiR,aaC,aaD,aaE,aaL,aaK,aaN,aaJ,aaI])],adH),
 ([(.sl none 3 [ahF,aaC,aaD,aaE,afY,agL,agZ,aaJ,aaI])],avZ),
 ([(.sl none 3 [amP,aaC,aaD,aaE,aaL,aaK,aaN,aaJ,aaI])],adH),
 ([(.sl none 3 [amW,aaC,aaD,aaE,aaL,aaK,aaN,aaJ,aaI])],adH),
 ([(.sl none 3 [alJ,aaC,aaD,aaE,aaL,aaK,aaJ,aaI,acB])],agH),
 ([(.sl none 3 [alG,aaC,aaD,aaE,aaL,aaK,aaJ,aaI,acB])],agH),
 ([(.sl none 3 [ak7,aaC,aaD,aaE,aaL,aaK,aaJ,aaI,acB])],agH),
 ([(.sl none 3 [anE,aaC,aaD,aaE,aaL,aaK,aaN,aaJ,aaI])],adH),
 ([(.sl none 3 [amT,aaC,aaD,aaE,aaL,aaK,aaN,aaJ,aaI])],adH),
 ([(.sl none 3 [aiT,aaC,aaD,aaE,aaL,aaK,aaN,aaJ,aaI])],adH),
 ([(.sl none 3 [amU,aaC,aaD,aaE,aaL,aaK,aaN,aaJ,aaI])],adH),
 ([(.sl none 3 [alK,aaC,aaD,aaE,aaL,aaK,aaJ,aaI,acB])],agH),
 ([(.sl none 3 [ahF,aaC,aaD,aaE,afY,agL,aaN,aaJ,aaI])],(.bO [asK,(.b true)])),
 ([(.sl none 3 [aiU,aaC,aaD,aaE,aaL,aaK,aaN,aaJ,aaI])],adH),
 ([(.sl none 3 [alT,aaC,aaD,aaE,aaL,aaK,aaJ,aaI,acB])],agH),
 ([(.sl none 3 [alN,aaC,aaD,aaE,aaL,aaK,aaJ,aaI,acB])],agH),
 ([(.sl none 3 [v43,aaC,aaD,aaE,aaL,aaK,aaN,aaJ,aaI])],adH),
 ([(.sl none 3 [amI,aaC,aaD,aaE,aaL,aaK,aaN,aaJ,aaI])],adH),
 ([(.sl none 3 [ajI,aaC,aaD,aaE,aaL,aaK,aaN,aaJ,aaI,ai2])],av3),
 ([(.sl none 3 [anB,aaC,aaD,aaE,aaL,aaK,aaN,aaJ,aaI])],adH),
 ([(.sl none 3 [alM,aaC,aaD,aaE,aaL,aaK,aaJ,aaI,acB])],agH),
 ([(.sl none 3 [am3,aaC,aaD,aaE,aaL,aaK,aaN,aaJ,aaI])],adH),
 ([(.sl none 3 [aaC])],(.bO [av4,(.b true)])),
 ([(.sl none 3 [ahE,aaC,aaD,aaE,afY,agL,agZ,ahT,aaI])],(.bO [asM,(.b true)])),
 ([(.sl none 3 [alH,aaC,aaD,aaE,aaL,aaK,aaJ,aaI,acB])],agH)]
noncomputable def Ik:List (List V×V):=[([(.sl none 3 [alR,aaC,aaD,aaE,aaL,aaK,aaJ,aaI,acB])],agH),
 ([(.sl none 3 [amS,aaC,aaD,aaE,aaL,aaK,aaN,aaJ,aaI])],adH),
 ([(.sl none 3 [alF,aaC,aaD,aaE,aaL,aaK,aaJ,aaI,acB])],agH),
 ([(.sl none 3 [ahS,aaC,aaD,aaE,afY,aaK,aaN,aaJ,aaI])],av5),
 ([(.sl none 3 [am4,aaC,aaD,aaE,aaL,aaK,aaN,aaJ,aaI])],adH),
 ([(.sl none 3 [amN,aaC,aaD,aaE,aaL,aaK,aaN,aaJ,aaI])],adH),
 ([(.sl none 3 [aaC,aaD,aaE,afY,agL,agZ,ahT,ajC])],avY),
 ([(.sl none 3 [amX,aaC,aaD,aaE,aaL,aaK,aaN,aaJ,aaI])],adH),
 ([(.sl none 3 [aiP,aaC,aaD,aaE,aaL,aaK,aaN,aaJ,aaI])],adH),
 ([(.sl none 3 [anC,aaC,aaD,aaE,aaL,aaK,aaN,aaJ,aaI])],adH),
 ([(.sl none 3 [alQ,aaC,aaD,aaE,aaL,aaK,aaJ,aaI,acB])],agH),
 ([(.sl none 3 [alI,aaC,aaD,aaE,aaL,aaK,aaJ,aaI,acB])],agH),
 ([(.sl none 3 [alU,aaC,aaD,aaE,aaL,aaK,aaJ,aaI,acB])],agH),
 ([(.sl none 3 [alV,aaC,aaD,aaE,aaL,aaK,aaJ,aaI,acB])],agH),
 ([(.sl none 3 [alL,aaC,aaD,aaE,aaL,aaK,aaJ,aaI,acB])],agH),
 ([(.sl none 3 [anF,aaC,aaD,aaE,aaL,aaK,aaN,aaJ,aaI])],adH),
 ([(.sl none 3 [am1,aaC,aaD,aaE,aaL,aaK,aaN,aaJ,aaI])],adH),
 ([(.sl none 3 [amQ,aaC,aaD,aaE,aaL,aaK,aaN,aaJ,aaI])],adH),
 ([(.sl none 3 [aiV,aaC,aaD,aaE,aaL,aaK,aaN,aaJ,aaI])],adH),
 ([(.sl none 3 [ajI,aaC,aaD,aaE,aaL,aaK,aaJ,aaI,acB])],agH),
 ([(.sl none 3 [amR,aaC,aaD,aaE,aaL,aaK,aaN,aaJ,aaI])],adH),
 ([(.sl none 3 [aiW,aaC,aaD,aaE,aaL,aaK,aaN,aaJ,aaI])],adH),
 ([(.sl none 3 [am7,aaC,aaD,aaE,aaL,aaK,aaN,aaJ,aaI])],adH),
 ([(.sl none 3 [anD,aaC,aaD,aaE,aaL,aaK,aaN,aaJ,aaI])],adH),
 ([(.sl none 3 [aaC,aaD,aaE,afY,agL,agZ])],(.bO [av6,(.b true)])),
 ([(.sl none 3 [am0,aaC,aaD,aaE,aaL,aaK,aaN,aaJ,aaI])],adH),
 ([(.sl none 3 [aiO,aaC,aaD,aaE,aaL,aaK,aaN,aaJ,aaI])],adH),
 ([(.sl none 3 [aaC,aaD,aaE,afY])],(.bO [av7,(.b true)])),
 ([(.sl none 3 [ajE,aaC,aaD,aaE,aaL,aaK,aaN,aaJ,aaI])],adH),
 ([(.sl none 3 [amZ,aaC,aaD,aaE,aaL,aaK,aaN,aaJ,aaI])],adH),
 ([(.sl none 3 [am9,aaC,aaD,aaE,aaL,aaK,aaN,aaJ,aaI])],adH),
 ([(.sl none 3 [alP,aaC,aaD,aaE,aaL,aaK,aaJ,aaI,acB])],agH),
 ([(.sl none 3 [am6,aaC,aaD,aaE,aaL,aaK,aaN,aaJ,aaI])],adH),
 ([(.sl none 3 [alS,aaC,aaD,aaE,aaL,aaK,aaJ,aaI,acB])],agH),
 ([(.sl none 3 [aaC,aaD])],(.bO [av8,(.b true)])),
 ([(.sl none 3 [v36,aaC,aaD,aaE,aaL,aaK,aaN,aaJ,aaI])],adH)]
noncomputable def Il:List (List V×V):=[([(.sl none 3 [anA,aaC,aaD,aaE,aaL,aaK,aaN,aaJ,aaI])],adH),
 ([(.sl none 3 [ahS,aaC,aaD,aaE,aaL,aaK,aaN,aaJ,aaI])],adH),
 ([(.sl none 3 [amL,aaC,aaD,aaE,aaL,aaK,aaN,aaJ,aaI])],adH),
 ([(.sl none 3 [ajE,aaC,aaD,aaE,aaL,aaK,aaN,aaJ,aaI,ai2])],av3),
 ([(.sl none 3 [anG,aaC,aaD,aaE,aaL,aaK,aaN,aaJ,aaI])],adH),
 ([(.sl none 3 [amY,aaC,aaD,aaE,aaL,aaK,aaN,aaJ,aaI])],adH),
 ([(.sl none 3 [amV,aaC,aaD,aaE,aaL,aaK,aaN,aaJ,aaI])],adH),
 ([(.sl none 3 [amK,aaC,aaD,aaE,aaL,aaK,aaN,aaJ,aaI])],adH),
 ([(.sl none 3 [aiQ,aaC,aaD,aaE,aaL,aaK,aaN,aaJ,aaI])],adH),
 ([(.sl none 3 [aiS,aaC,aaD,aaE,aaL,aaK,aaN,aaJ,aaI])],adH),
 ([(.sl none 3 [ahF,aaC,aaD,aaE,afY,aaK,aaN,aaJ,aaI])],av5),
 ([(.sl none 3 [amJ,aaC,aaD,aaE,aaL,aaK,aaN,aaJ,aaI])],adH),
 ([(.sl none 3 [amM,aaC,aaD,aaE,aaL,aaK,aaN,aaJ,aaI])],adH)]
noncomputable def PH:List (List V×V):=[(avO,(.agg afH)),
 ([aqN],aqN),
 (avM,(.agg aiC)),
 (avN,(.agg af2)),
 ([asO],asO),
 ([aqO],aqO),
 (avP,(.agg ag5)),
 (avR,(.agg ai3)),
 ([aqP],aqP),
 (avW,(.agg agM)),
 (avV,(.agg agO)),
 (avT,(.agg afE)),
 (avX,(.agg ahV)),
 ([aqQ],aqQ),
 (avQ,(.agg ag0)),
 ([aqR],aqR),
 (avU,(.agg agN)),
 (avS,(.agg afS))]
noncomputable def PI:List (List V×V):=[([as3],(.b true)),
 ([as1],(.b true)),
 ([ahL],(.b true)),
 ([ahW],(.b true)),
 ([aqV],(.b true)),
 ([aiX],(.b true)),
 ([(.s [])],(.b false)),
 ([aiZ],(.b true)),
 ([afD],(.b true)),
 ([aiY],(.b true)),
 ([acT],(.b true)),
 ([ahU],(.b true)),
 ([aiA],(.b true))]
noncomputable def PN:List (List V×V):=[([asL],(.b true)),
 ([asH],(.b true)),
 ([asJ],(.b true)),
 ([av7],(.b true)),
 ([av6],(.b true)),
 ([av1],(.b true)),
 ([av4],(.b true)),
 ([asN],(.b true)),
 ([av2],(.b true)),
 ([asG],(.b true)),
 ([asK],(.b true)),
 ([av8],(.b true)),
 ([asM],(.b true)),
 ([av0],(.b true)),
 ([asI],(.b true))]
noncomputable def PJ:List (List V×V):=[([(nN 2),ahL],aaH),
 ([(nN 1),afD],abE),
 ([(nN 1),aiY],aaA),
 ([(nN 1),aiZ],aaB),
 ([(nN 2),ahW],aaG),
 ([(nN 1),ahU],aaM),
 ([(nN 1),aiX],Yh),
 ([(nN 1),acT],W5),
 ([(nN 2),aiA],aaF),
 ([(nN 3),(.s [])],(.s [108]))]
noncomputable def PK:List (List V×V):=[(av9,ajR),
 (awA,ajQ),
 (awB,ajP)]
noncomputable def PL:List (List V×V):=[([ajR],ai7),
 ([ajZ],(.bO [(.agg agO),(.b true)])),
 ([akE],(.bO [(.agg aiC),(.b true)])),
 ([v35],ai7),
 ([adT],ai7),
 ([ajY],(.bO [(.agg agN),(.b true)])),
 ([ajT],(.bO [(.agg af2),(.b true)])),
 ([ajU],(.bO [(.agg agM),(.b true)])),
 ([ajS],(.bO [(.agg afH),(.b true)])),
 ([ajV],(.bO [(.agg ag5),(.b true)])),
 ([ajW],(.bO [(.agg ahV),(.b true)])),
 ([ajP],ai7),
 ([ajX],(.bO [(.agg ag0),(.b true)])),
 ([ajQ],ai7),
 ([aj1],(.bO [(.agg afE),(.b true)])),
 ([aj0],(.bO [(.agg afS),(.b true)])),
 ([akD],(.bO [(.agg ai3),(.b true)])),
 ([an2],ai7)]
noncomputable def PM:List (List V×V):=[([ajU],agG),
 ([ajZ],agG),
 ([ajW],agG),
 ([ajS],agG),
 ([ajT],agG),
 ([ajX],agG),
 ([adT],agG),
 ([.bU],agG),
 ([akE],agG),
 ([ajQ],(.bO [(.agg ai0),(.b true)])),
 ([ajP],(.bO [(.agg aiB),(.b true)])),
 ([akD],agG),
 ([v35],agG),
 ([an2],agG),
 ([ajY],agG),
 ([ajV],agG),
 ([aj1],agG),
 ([ajR],(.bO [(.agg ajD),(.b true)])),
 ([aj0],agG)]
noncomputable def LG:List (List V×V):=[(awB,(.agg aiB)),
 (av9,(.agg ajD)),
 (awA,(.agg ai0))]
noncomputable def LH:List (List V×V):=[([asF,akS],(.bO [akS,(.b true)])),
 ([akS,akT],awC),
 ([akS,akS],awD),
 ([asF,akT],awD),
 ([akT,akT],(.bO [(.agg [(nN 8),(nN 8),(nN 8)]),(.b true)])),
 ([akT,akS],awC)]
noncomputable def LI:List (List V×V):=[([adT],(.bO [awE,(.b true)])),
 ([v35],(.bO [aqK,(.b true)])),
 ([.bU],(.bO [(.agg [(nN 0),(nN 0)]),(.b false)]))]
noncomputable def LJ:List (List V×V):=[([(.agg ai3),(.agg ai3)],(.b true)),
 ([(.agg agO),(.agg agO)],(.b true)),
 ([(.agg agN),aqQ],(.b false)),
 ([(.agg agN),(.agg agN)],(.b true)),
 ([(.agg ahV),(.agg ahV)],(.b true)),
 ([aqR,(.agg afH)],(.b false)),
 ([aqO,(.agg ag5)],(.b false)),
 ([(.agg afS),(.agg afS)],(.b true)),
 ([(.agg agO),aqN],(.b false)),
 ([(.agg afS),aqO],(.b false)),
 ([(.agg aiC),(.agg aiC)],(.b true)),
 ([(.agg ag0),aqR],(.b false)),
 ([(.agg ag5),(.agg ag5)],(.b true)),
 ([aqN,(.agg agM)],(.b false)),
 ([(.agg aiC),asO],(.b false)),
 ([(.agg afE),aqP],(.b false)),
 ([(.agg afH),(.agg afH)],(.b true)),
 ([(.agg af2),(.agg af2)],(.b true)),
 ([(.agg afE),(.agg afE)],(.b true)),
 ([(.agg agM),(.agg agM)],(.b true)),
 ([aqP,(.agg ahV)],(.b false)),
 ([aqQ,(.agg af2)],(.b false)),
 ([(.agg ag0),(.agg ag0)],(.b true))]
noncomputable def LK:List (List V×V):=[([awE],adT),
 ([aqK],v35)]
noncomputable def LL:List (List V×V):=[([(.i .u64 (.ofNat 1)),aqL],(.bO [(.i .u64 (.ofNat 0)),aqL]))]
noncomputable def LP:List (List V×V):=[([asM],aaR),
 ([asH],aaR),
 ([asL],aaR),
 ([asN],aaR),
 ([asJ],aaR),
 ([asK],aaR),
 ([asI],aaR),
 ([asG],aaR)]
noncomputable def LM:List (List V×V):=[([(.agg ahS)],(.agg ahS)),
 ([(.agg alF)],(.agg alF)),
 ([(.agg aaI)],(.agg aaI)),
 ([(.agg amY)],(.agg amY)),
 ([(.agg amK)],(.agg amK)),
 ([(.agg amN)],(.agg amN)),
 ([(.agg am8)],(.agg am8)),
 ([(.agg amV)],(.agg amV)),
 ([(.agg amM)],(.agg amM)),
 ([(.agg aiP)],(.agg aiP)),
 ([(.agg amQ)],(.agg amQ)),
 ([(.agg aiV)],(.agg aiV)),
 ([(.agg anA)],(.agg anA)),
 ([(.agg aaJ)],(.agg aaJ)),
 ([(.agg aiQ)],(.agg aiQ)),
 ([(.agg alH)],(.agg alH)),
 ([(.agg amW)],(.agg amW)),
 ([(.agg alR)],(.agg alR)),
 ([(.agg alT)],(.agg alT)),
 ([(.agg am4)],(.agg am4)),
 ([(.agg aiS)],(.agg aiS)),
 ([(.agg alP)],(.agg alP)),
 ([(.agg acB)],(.agg acB)),
 ([(.agg aiW)],(.agg aiW)),
 ([(.agg alE)],(.agg alE)),
 ([(.agg am3)],(.agg am3)),
 ([(.agg am6)],(.agg am6)),
 ([(.agg anF)],(.agg anF)),
 ([(.agg alS)],(.agg alS)),
 ([(.agg ak7)],(.agg ak7)),
 ([(.agg am2)],(.agg am2)),
 ([(.agg aaD)],(.agg aaD)),
 ([(.agg aaN)],(.agg aaN)),
 ([(.agg alG)],(.agg alG)),
 ([(.agg amS)],(.agg amS)),
 ([(.agg ajC)],(.agg ajC)),
 ([(.agg alL)],(.agg alL)),
 ([(.agg am9)],(.agg am9)),
 ([(.agg am1)],(.agg am1)),
 ([(.agg alI)],(.agg alI)),
 ([(.agg ai2)],(.agg ai2)),
 ([(.agg amU)],(.agg amU)),
 ([(.agg alQ)],(.agg alQ)),
 ([(.agg aiR)],(.agg aiR)),
 ([(.agg amZ)],(.agg amZ)),
 ([(.agg alK)],(.agg alK)),
 ([(.agg amI)],(.agg amI)),
 ([(.agg aaC)],(.agg aaC)),
 ([(.agg alN)],(.agg alN)),
 ([(.agg ajE)],(.agg ajE)),
 ([(.agg alV)],(.agg alV)),
 ([(.agg v43)],(.agg v43)),
 ([(.agg agZ)],(.agg agZ)),
 ([(.agg anE)],(.agg anE)),
 ([(.agg aaK)],(.agg aaK)),
 ([(.agg ahT)],(.agg ahT)),
 ([(.agg anG)],(.agg anG)),
 ([(.agg alO)],(.agg alO)),
 ([(.agg am0)],(.agg am0)),
 ([(.agg am5)],(.agg am5)),
 ([(.agg anB)],(.agg anB)),
 ([(.agg v36)],(.agg v36)),
 ([(.agg aiO)],(.agg aiO)),
 ([(.agg amX)],(.agg amX)),
 ([(.agg amT)],(.agg amT)),
 ([(.agg amO)],(.agg amO)),
 ([(.agg aaE)],(.agg aaE)),
 ([(.agg aiT)],(.agg aiT)),
 ([(.agg am7)],(.agg am7)),
 ([(.agg ahF)],(.agg ahF)),
 ([(.agg aiU)],(.agg aiU)),
 ([(.agg amR)],(.agg amR)),
 ([(.agg ahE)],(.agg ahE)),
 ([aqM],aqM),
 ([(.agg afY)],(.agg afY)),
 ([(.agg anC)],(.agg anC)),
 ([(.agg alM)],(.agg alM)),
 ([(.agg agL)],(.agg agL)),
 ([(.agg anD)],(.agg anD)),
 ([(.agg ajI)],(.agg ajI)),
 ([(.agg amL)],(.agg amL)),
 ([(.agg amJ)],(.agg amJ)),
 ([(.agg aaL)],(.agg aaL)),
 ([(.agg amP)],(.agg amP)),
 ([(.agg alU)],(.agg alU)),
 ([(.agg alJ)],(.agg alJ))]
noncomputable def LN:List (List V×V):=[([(.agg ajD),(.agg ajD)],(.b true)),
 ([(.agg ai0),(.agg ai0)],(.b true)),
 ([(.agg aiB),(.agg aiB)],(.b true))]
end Go.Eng
