/-
sync.Once and atomic.Int64 as what the abstract run takes them for.
-/
import Derived.Test.YtmfelikepmmjkaaGreatY13
import Derived.Test.YtmfelikepmmjkaaGreatY08
import Derived.Test.YtmfelikepmmjkaaGreatY17
import Derived.Test.YtmfelikepmmjkaaGreatRows
import Derived.Tactics
import Derived.Tactics2
import Derived.RegionTactic
import Derived.RegionCalls
import Derived.Lib.Bytealg
import Derived.KernelRfl
set_option linter.unusedVariables false
set_option linter.unusedSimpArgs false
set_option maxRecDepth 100000
namespace Go.Eng
open Go
section
variable {P:Program} {E:Env} {st:St} {w:World}
theorem b9.cellOf (hs:b9 E st w) {k:Key} {c:List V} (hk:st.get k=some (.cs c)) {off:Nat} {v:V} (hv:c[off]? =some v):
 ∃ x,w.cell? ⟨(E.μ k).bL,(E.μ k).base+off,none⟩=some x/\Rel (E.at k) v x/\w.frozen? ⟨(E.μ k).bL,(E.μ k).base+off,none⟩=false:=by
 obtain ⟨cells,t,fz,h1,h2,h3,h4,h5⟩:=hs.cs hk
 obtain ⟨x,hx,hr,_⟩:=h5 off v hv
 refine ⟨x,?_,hr,?_⟩
 · rw [kW];simp [bI,h1,hx]
 · exact Fz.free h1 h2 (Array.getElem?_eq_some_iff.1 hx).1
theorem b9.Hq (hs:b9 E st w) {k:Key} {c:List V} (hk:st.get k=some (.cs c)) {off:Nat} (ho:off<c.length) {v:V} {x:Value} (hr:Rel (E.at k) v x) (h1:x.oneCell'=true):
 b9 E (st.set k (.cs (c.set off v))) (w.setCell ⟨(E.μ k).bL,(E.μ k).base+off,none⟩ x)/\Ext E st w E (st.set k (.cs (c.set off v))) (w.setCell ⟨(E.μ k).bL,(E.μ k).base+off,none⟩ x):=by
 obtain ⟨cells,ty,fz,r1,r2,r3,r4,r5⟩:=hs.cs hk
 have wN:eI (E.at k) [v] [x].toArray:=⟨rfl,fun j u y hj hy=>by
  cases j with
  |zero=>simp at hj hy;subst hj;subst hy;exact hr
  |succ j=>simp at hj⟩
 have dH:=gR.written r1 r2 r3 r4 r5 (off:=off) (vs:=[v]) (xs:=[x]) wN (by simpa using h1) (by simp;omega)
 exact hs.write hk r1 r4 (pos:=(E.μ k).base+off) (xs:=[x]) (by omega) (by simp;omega) (.cs (dI c off [v])) ⟨hs.C5 hk,dH⟩
theorem vX {k:IntKind} {n:Int} {x:Value} (h:Rel E (.i k n) x):x=.int k n:=by
 cases h with
 |deep hd=>cases hd;rfl
theorem St.V8 (h:aA) (n:Nat) (o:Obj):(dG h).set (.g n) o=dG (h.set n o):=rfl
theorem aA.Mx (n:Nat) (x y:Obj):∀ l,aA.Bv (aA.Bv l n x) n y=aA.Bv l n y
 |[]=>rfl
 |(k,o)::r=>by
  by_cases hk:k=n
  · simp [aA.Bv,hk]
  · simp [aA.Bv,hk,aA.Mx n x y r]
theorem aA.set_set (h:aA) (n:Nat) (x y:Obj):(h.set n x).set n y=h.set n y:=by simp [aA.set,aA.Mx]
theorem FW {a0:V} {vs:Array Value} (hv:eI E [a0] vs):∃ x0,vs=#[x0]/\Rel E a0 x0:=by
 obtain ⟨x0,h0,r0⟩:=hv.get (j:=0) rfl
 have hs:=hv.1
 refine ⟨x0,Array.ext (by simpa using hs) fun i h1 h2=>?_,r0⟩
 have:i=0:=by simp at h2;omega
 subst this
 simpa using (Array.getElem?_eq_some_iff.1 h0).2
theorem My {a0 a1:V} {vs:Array Value} (hv:eI E [a0,a1] vs):∃ x0 x1,vs=#[x0,x1]/\Rel E a0 x0/\Rel E a1 x1:=by
 obtain ⟨x0,h0,r0⟩:=hv.get (j:=0) rfl
 obtain ⟨x1,h1,r1⟩:=hv.get (j:=1) rfl
 have hs:=hv.1
 refine ⟨x0,x1,Array.ext (by simpa using hs) fun i i1 i2=>?_,r0,r1⟩
 have:i=0\/i=1:=by simp at i2;omega
 rcases this with rfl|rfl
 · simpa using (Array.getElem?_eq_some_iff.1 h0).2
 · simpa using (Array.getElem?_eq_some_iff.1 h1).2
theorem FX {k:Key} {off:Nat} {x:Value} (h:Rel E (.p k off) x):E.has k/\x=.pointer (some ⟨(E.μ k).bL,(E.μ k).base+off,none⟩):=by
 cases h with
 |deep hd=>cases hd
 |p _ _ hk=>exact ⟨hk,rfl⟩
theorem Zi:Rel E (.bY []) (.tuple #[]):=fJ
end
end Go.Eng
namespace Go.Proofs.YtmfelikepmmjkaaGreat
open Go.Eng
theorem add_ok:∀ (args:List V) (h:aA) (r:V) (h':aA),sI args h=some (r,h')->∀ K:V->aA->Prop,K r h'->aB Tryz.prog 42 args h K:=by
 intro args h r h' hx K hK
 unfold sI at hx
 split at hx
 case h_2=>cases hx
 rename_i k off n
 split at hx
 case h_2=>cases hx
 rename_i c hc
 split at hx
 case h_2=>cases hx
 rename_i m hm
 cases hx
 refine ⟨by kernel_rfl,fun E w vs rX hs hv=>?_⟩
 obtain ⟨x0,x1,rfl,r0,r1⟩:=My hv
 obtain ⟨hk,rfl⟩:=FX r0
 have:=vX r1
 subst this
 have eC:(dG h).get (.g k)=some (.cs c):=hc
 obtain ⟨y,hy,ry,fy⟩:=hs.cellOf eC hm
 have:=vX ry
 subst this
 have cL:=(List.getElem?_eq_some_iff.1 hm).1
 obtain ⟨s1,s2⟩:=hs.Hq eC cL (v:=.i .i64 (IntKind.i64.wrap (m+n))) (x:=.int .i64 (IntKind.i64.wrap (m+n))) (.deep (.i _ _)) rfl
 refine (Zh _ m n _ rfl w hy fy).mono ?_
 rintro e w' ⟨rfl,rfl⟩
 exact ⟨_,_,_,E,hK,rfl,rX,s1,s2,.deep (.i _ _)⟩
theorem once_ok:eD Tryz.prog 285:=by
 refine ⟨fun k off g first cap c d h K hc hd dM hK=>?_,fun k off g first cap c h K hc hd hm hg=>?_⟩
 · refine ⟨by kernel_rfl,fun E w vs rX hs hv=>?_⟩
   obtain ⟨x0,x1,rfl,r0,r1⟩:=My hv
   obtain ⟨hk,rfl⟩:=FX r0
   have eC:(dG h).get (.g k)=some (.cs c):=hc
   obtain ⟨y,hy,ry,fy⟩:=hs.cellOf eC hd
   have:=vX ry
   subst this
   refine (Tj _ d dM x1 w hy).mono ?_
   rintro e w' ⟨rfl,rfl⟩
   exact ⟨_,_,_,E,hK,rfl,rX,hs,.refl _ _ _,Zi⟩
 · refine ⟨by kernel_rfl,fun E w vs rX hs hv=>?_⟩
   obtain ⟨x0,x1,rfl,r0,r1⟩:=My hv
   obtain ⟨hk,rfl⟩:=FX r0
   have eC:(dG h).get (.g k)=some (.cs c):=hc
   obtain ⟨y,hy,ry,fy⟩:=hs.cellOf eC hd
   have:=vX ry
   subst this
   obtain ⟨z,hz,rz,fz⟩:=hs.cellOf eC hm
   have:=vX rz
   subst this
   cases r1 with
   |deep hd=>cases hd
   |fn _ _ _ fa ca h1 h2 h3 h4=>
   have cL:=(List.getElem?_eq_some_iff.1 hm).1
   obtain ⟨s1,s2⟩:=hs.Hq eC cL (v:=.i .i32 1) (x:=.int .i32 1) (.deep (.i _ _)) rfl
   have DK:=hg.2 E _ (fa++ca) rX s1 (eI.append ⟨h1,h3⟩ ⟨h2,h4⟩)
   refine (QA _ _ g fa ca w (fun _ w1=>∃ E' h2 c2,E'.nl=0/\b9 E' (dG h2) w1/\Ext E (dG h) w E' (dG h2) w1/\h2.get k=some (.cs c2)/\c2[off]? =some (.i .u32 0)/\c2[off+1]? =some (.i .i32 1)/\
    K (.bY []) (h2.set k (.cs ((c2.set off (.i .u32 1)).set (off+1) (.i .i32 0))))) hy hz fz hg.1 (DK.mono ?_) ?_).mono ?_
   · rintro e w1 ⟨v,x,h2,E',⟨c2,g1,g2,g3,g4⟩,rfl,n1,n2,n3,n4⟩
     exact ⟨x,rfl,E',h2,c2,n1,n2,s2.trans n3,g1,g2,g3,g4⟩
   · rintro x w1 ⟨E',h2,c2,n1,n2,n3,g1,g2,g3,g4⟩
     have QB:(dG h2).get (.g k)=some (.cs c2):=g1
     obtain ⟨y1,q1,t1,u1⟩:=n2.cellOf QB g2
     obtain ⟨y2,q2,t2,u2⟩:=n2.cellOf QB g3
     have:=vX t2
     subst this
     rw [n3.le.loc _ hk] at q1 q2 u1 u2
     exact ⟨⟨y1,q1⟩,q2,u1,u2⟩
   · rintro e w' ⟨rfl,x,w1,⟨E',h2,c2,n1,n2,n3,g1,g2,g3,g4⟩,rfl⟩
     have QB:(dG h2).get (.g k)=some (.cs c2):=g1
     have hl:=n3.le.loc _ hk
     have d1:b9 E' (dG h2) w1.drew:=n2.of_heap (w:=w1) (w':=w1.drew) rfl
     have d2:Ext E' (dG h2) w1 E' (dG h2) w1.drew:=Ext.drawn _
     have NN:=(List.getElem?_eq_some_iff.1 g2).1
     have ad5:=(List.getElem?_eq_some_iff.1 g3).1
     obtain ⟨a1,a2⟩:=d1.Hq QB NN (v:=.i .u32 1) (x:=.int .u32 1) (.deep (.i _ _)) rfl
     have ad6:(dG (h2.set k (.cs (c2.set off (.i .u32 1))))).get (.g k)=some (.cs (c2.set off (.i .u32 1))):=by
      rw [<-St.V8,St.vK,if_pos rfl,QB];rfl
     obtain ⟨b1,b2⟩:=a1.Hq ad6 (by simpa using ad5) (v:=.i .i32 0) (x:=.int .i32 0) (.deep (.i _ _)) rfl
     have Sl:((dG h2).set (.g k) (.cs (c2.set off (.i .u32 1)))).set (.g k) (.cs ((c2.set off (.i .u32 1)).set (off+1) (.i .i32 0)))=dG (h2.set k (.cs ((c2.set off (.i .u32 1)).set (off+1) (.i .i32 0)))):=by
      rw [St.V8,St.V8,aA.set_set]
     rw [Sl] at b1 b2
     rw [hl] at a2 b1 b2
     rw [Nat.add_assoc]
     exact ⟨_,_,_,E',g4,rfl,n1,b1,n3.trans (d2.trans (a2.trans b2)),Zi⟩
open Go.Eng
theorem xM (a b:ByteArray) (w:World):Calls Tryz.prog 144 #[.string a,.string b] w fun e w'=>e=.returned (.int .i64 (Lib.compareBytes a.data.toList b.data.toList))/\w'=w:=by
 go_enter Tryz.func144,Tryz.ntmps144
 go_wp2
 rw [run_callFunc_extern Tryz.func233 (by kernel_rfl) (by kernel_rfl) (by kernel_rfl) (e:=Extern.BytealgCompare.compare) (by kernel_rfl),Lib.run_compareString]
 simp only [Result.andThen]
 rw [Oper.upon_value]
 go_wp2
 go_ret
 exact ⟨rfl,rfl⟩
theorem Hr:∀ a b:List UInt8,mF a b=Lib.compareBytes a b
 |[],[]=>rfl
 |[],_::_=>rfl
 |_::_,[]=>rfl
 |a::r,b::q=>by
  have ih:=Hr r q
  simp only [mF,Lib.compareBytes,UInt8.lt_iff_toNat_lt]
  by_cases h1:a.toNat<b.toNat
  · have:Nat.blt a.toNat b.toNat=true:=by simpa using h1
    rw [this,if_pos h1]
  · have e1:Nat.blt a.toNat b.toNat=false:=by rw [Bool.eq_false_iff];exact fun hc=>h1 (by simpa [Nat.blt_eq] using hc)
    rw [e1,if_neg h1]
    by_cases h2:b.toNat<a.toNat
    · have:Nat.blt b.toNat a.toNat=true:=by simpa using h2
      rw [this,if_pos h2]
    · have e2:Nat.blt b.toNat a.toNat=false:=by rw [Bool.eq_false_iff];exact fun hc=>h2 (by simpa [Nat.blt_eq] using hc)
      rw [e2,if_neg h2]
      exact ih
theorem cmpS_ok (a b:List UInt8) (h:aA) (K:V->aA->Prop) (hK:K (.i .i64 (mF a b)) h):aB Tryz.prog 144 [.s a,.s b] h K:=by
 refine ⟨by kernel_rfl,fun E w vs rX hs hv=>?_⟩
 obtain ⟨x0,x1,rfl,r0,r1⟩:=My hv
 have:=r0.Ca
 subst this
 have:=r1.Ca
 subst this
 refine (xM _ _ w).mono ?_
 rintro e w' ⟨rfl,rfl⟩
 refine ⟨_,_,_,E,hK,rfl,rX,hs,.refl _ _ _,?_⟩
 rw [Hr]
 exact .deep (.i _ _)
end Go.Proofs.YtmfelikepmmjkaaGreat
