/-
A pod that may be can be read again.
-/
import Derived.Test.YtmfelikepmmjkaaGreatY42
import Derived.Test.YtmfelikepmmjkaaGreatY29
import Derived.Test.YtmfelikepmmjkaaGreatY09
set_option linter.unusedVariables false
set_option linter.unusedSimpArgs false
set_option maxHeartbeats 32000000
set_option maxRecDepth 20000
namespace Go.Eng
open Go
theorem sW:fR []:=⟨Nat.zero_le _,fun _ h=>by cases h⟩
theorem portsB_ok:∀ {l:List Int} {o:Option Int},mJ o l=true->∀ n∈l,1<=n/\n<=65535
 |x::r,o,h,n,hn=>by
  rw [vA] at h
  simp only [Bool.and_eq_true,decide_eq_true_eq] at h
  cases hn with
  |head=>exact h.1.1
  |tail _ hn=>exact portsB_ok h.2 n hn
theorem pairsB_ok:∀ {l:List dE} {o:Option aU},fB o l=true->∀ q∈l,fR q.key/\fR q.val
 |x::r,o,h,q,hq=>by
  rw [qH] at h
  simp only [Bool.and_eq_true] at h
  cases hq with
  |head=>exact ⟨nameB_ok h.1.1.1,nameB_ok h.1.1.2⟩
  |tail _ hq=>exact pairsB_ok h.2 q hq
theorem termB_ok {t:cM} (h:lM t=true):yT t:=by
 unfold lM at h
 simp only [Bool.and_eq_true] at h
 obtain ⟨⟨h1,h2⟩,h3⟩:=h
 have hv:∀ s∈t.bF,fR s:=fun s hs=>nameB_ok (List.all_eq_true.1 h3 s hs)
 by_cases k:t.kind=1\/t.kind=2
 · rw [if_pos k] at h1
   simp only [Bool.and_eq_true,decide_eq_true_eq] at h1
   exact ⟨nameB_ok h2,by omega,by omega,hv⟩
 · rw [if_neg k] at h1
   simp only [Bool.and_eq_true,decide_eq_true_eq] at h1
   exact ⟨nameB_ok h2,by omega,by omega,hv⟩
theorem termsB_ok {l:List cM} (h:fI l=true):l.length<=6/\∀ t∈l,yT t:=by
 unfold fI at h
 simp only [Bool.and_eq_true,decide_eq_true_eq] at h
 exact ⟨h.1,fun t ht=>termB_ok (List.all_eq_true.1 h.2 t ht)⟩
theorem tolB_ok {t:j8} (h:Et t=true):fR t.key/\fR t.val:=by
 unfold Et at h
 simp only [Bool.and_eq_true,Bool.or_eq_true,decide_eq_true_eq] at h
 refine ⟨?_,?_⟩
 · rcases h.1 with e|e
   · rw [e];exact sW
   · exact nameB_ok e
 · have h2:=h.2
   cases hA:t.any with
   |true=>rw [hA,if_pos rfl,decide_eq_true_eq] at h2;rw [h2];exact sW
   |false=>rw [hA,if_neg (by decide)] at h2;exact nameB_ok h2
theorem tolsB_ok {l:List j8} (h:vB l=true):l.length<=6/\∀ t∈l,fR t.key/\fR t.val:=by
 unfold vB at h
 simp only [Bool.and_eq_true,decide_eq_true_eq] at h
 exact ⟨h.1,fun t ht=>tolB_ok (List.all_eq_true.1 h.2 t ht)⟩
theorem Ew {p:aO} (h:j0 p=true) (ht:p.term<=9223372036854775807):HQ p:=by
 unfold j0 at h
 simp only [Bool.and_eq_true,decide_eq_true_eq] at h
 obtain ⟨h1,h2,h3,h4,h5,h6,⟨h7,h7'⟩,⟨h8,h8'⟩,h9,EZ,HK,Ei⟩:=h
 unfold Au at HK
 simp only [Bool.and_eq_true,Bool.or_eq_true,decide_eq_true_eq] at HK
 obtain ⟨t1,t2,t3,t4,t5⟩:=HK
 unfold Gj at Ei
 simp only [Bool.and_eq_true,Bool.or_eq_true,decide_eq_true_eq] at Ei
 unfold Bj qG at h6
 simp only [Bool.and_eq_true,decide_eq_true_eq] at h6
 obtain ⟨s1,s2⟩:=termsB_ok h9
 obtain ⟨o1,o2⟩:=tolsB_ok EZ
 obtain ⟨a1,a2⟩:=termsB_ok t3
 obtain ⟨e1,e2⟩:=termsB_ok t4
 have hp:=portsB_ok h7
 exact {
  small:=⟨by omega,by omega,by omega,by omega,by omega,by omega,fun t hm=>(s2 t hm).len,fun t hm=>(a2 t hm).len,fun t hm=>(e2 t hm).len⟩
  name:=nameB_ok h1
  uid:=by omega
  prio:=by omega
  gG:=⟨by omega,by omega,by omega⟩
  aX:=fun n hn=>by have:=hp n hn;omega
  labels:=pairsB_ok h8
  lR:=s2
  b8:=o2
  dV:=by
   rcases t5 with e|⟨e,_⟩
   · exact nameB_ok e
   · rw [e];exact sW
  cT:=a2
  j9:=by omega
  even:=e2
  node:=by
   rcases Ei with ⟨e,_⟩|⟨e,_⟩
   · exact nameB_ok e
   · rw [e];exact sW
  term:=by rcases Ei with ⟨_,e⟩|⟨_,e⟩<;>omega }
section
variable {P:Program} (hG:bN P AF.fns.get)
include hG
theorem Gk (p:aO) (hp:qR p):Pure P 115 [.agg (aJ p)] (·=.b (j0 p)):=by
 unfold Pure
 exact mpod_at hG p hp (aE rfl rfl)
theorem TX (fD:eD P 285) (p:aO) (hp:qR p) (hb:j0 p=true) (ht:p.term<=9223372036854775807) {h:aA} {K:V->aA->Prop}
 (hK:∀ h',aA.aI (fun _=>False) h h'->K (.sl none 1 ((bW p).map gH)) h'):aB P 49 [.agg (aJ p)] h K:=
 wput_at hG fD p (Ew hb ht).small (by have:=Gk hG p hp;rw [hb] at this;exact this) hK
theorem TY (fD:eD P 285) (p:aO) (hp:qR p) (hb:j0 p=true) (ht:p.term<=9223372036854775807) {h:aA} {K:V->aA->Prop}
 (hK:∀ h',aA.aI (fun _=>False) h h'->K (.bY [.agg (aJ p),.b true]) h'):aB P 53 [.sl none 1 ((bW p).map gH)] h K:=
 rget_at hG fD p (Ew hb ht) (by have:=Gk hG p hp;rw [hb] at this;exact this) hK
end
open Go
def b7 (s:aU):aU:=[112,47]++s
section
variable {P:Program} (hG:bN P AF.fns.get)
include hG
theorem keyp_at {h:aA} (s:aU) (hl:s.length<=9223372036854775807) (hs:bK s=true) {K:V->aA->Prop} (hK:K (.s (b7 s)) h):aB P 52 [.i .i64 1,.s s] h K:=by
 have hk:=fun K hK=>name_at (K:=K) hG (h:=h) s hl hK
 rw [hs] at hk
 have hlen:s.length<=12:=(nameB_ok hs).1
 refine aN (hG _ AF.f52 rfl) rfl ?_
 (refine iU @hk (decide_eq_true (show ((([112,47]:aU).length+s.length:Nat):Int)<=9223372036854775807 by simp;omega)) ?_)
 exact hK
theorem TZ {h:aA} (s:aU) (hl:s.length<=9223372036854775807) (hs:bK s=false) {K:V->aA->Prop} (hK:K (.s []) h):aB P 52 [.i .i64 1,.s s] h K:=by
 have hk:=fun K hK=>name_at (K:=K) hG (h:=h) s hl hK
 rw [hs] at hk
 refine aN (hG _ AF.f52 rfl) rfl ?_
 (refine cJ @hk ?_)
 exact hK
end
open Go
def eF (s:aU):aU:=[110,47]++s
def iS:aU:=[108]
section
variable {P:Program} (hG:bN P AF.fns.get)
include hG
theorem keyn_at {h:aA} (s:aU) (hl:s.length<=9223372036854775807) (hs:bK s=true) {K:V->aA->Prop} (hK:K (.s (eF s)) h):aB P 52 [.i .i64 2,.s s] h K:=by
 have hk:=fun K hK=>name_at (K:=K) hG (h:=h) s hl hK
 rw [hs] at hk
 have hlen:s.length<=12:=(nameB_ok hs).1
 refine aN (hG _ AF.f52 rfl) rfl ?_
 (refine iU @hk (decide_eq_true (show ((([110,47]:aU).length+s.length:Nat):Int)<=9223372036854775807 by simp;omega)) ?_)
 exact hK
theorem T0 {h:aA} (s:aU) (hl:s.length<=9223372036854775807) (hs:bK s=false) {K:V->aA->Prop} (hK:K (.s []) h):aB P 52 [.i .i64 2,.s s] h K:=by
 have hk:=fun K hK=>name_at (K:=K) hG (h:=h) s hl hK
 rw [hs] at hk
 refine aN (hG _ AF.f52 rfl) rfl ?_
 (refine cJ @hk ?_)
 exact hK
theorem keyl_at {h:aA} {K:V->aA->Prop} (hK:K (.s iS) h):aB P 52 [.i .i64 3,.s []] h K:=by
 refine aN (hG _ AF.f52 rfl) rfl ?_
 (refine zr ?_)
 exact hK
end
open Go
def nN (h:aA) (a:Nat) (m bad:Bool):Prop:=a<h.next/\h.get a=some (.cs (tv m++[.aV,.b bad]))
theorem Xe (m:Bool) (x y z:V):dI (tv m++[x,y]) (0+298) [z]=tv m++[x,z]:=by
 show List.set _ _ _=_
 rw [List.set_append_right _ _ (by rw [nI];omega),nI];rfl
theorem Ud (m:Bool) (x y z:V):oH (tv m++[x,y]) (0+298) [z]=true:=decide_eq_true (by rw [List.length_append,nI];simp)
section
variable {P:Program} (hG:bN P AF.fns.get)
include hG
theorem kC {h:aA} {a:Nat} {m bad:Bool} (hr:nN h a m bad) (size:Nat) (hs:0<size) {K:V->aA->Prop}
 (hK:∀ h',nN h' a m true->aA.aI (fun n=>n=a) h h'->K (.i .i64 0) h'):aB P 127 [.p (.g a) 0,.i .i64 size] h K:=by
 obtain ⟨U7,ga⟩:=hr
 refine aN (hG _ AF.f127 rfl) rfl ?_
 ((conv=>whnf);repeat ((first|refine aZ.of (lK _ _ _) ?_|refine aH.dt (show (0:Int)<(size:Int) by omega) ?_|refine aK.mk (Ud _ _ _ _) ?_|refine ye (congrArg some (Xe _ _ _ _)) ?_|refine aK.mk (wE _ _ _ _) ?_|refine ye (congrArg some (Gd _ _ _ _)) ?_|refine ye (ga) ?_|refine ye (aA.aD ga) ?_|refine zz ?_)<;>(conv=>whnf)))
 exact hK _ ⟨U7,aA.aD (aA.aD ga)⟩ (aA.aI.set (b:=fun n=>n=a) (aA.aI.set (b:=fun n=>n=a) (.refl _ _) (.inl rfl) _) (.inl rfl) _)
theorem OH (fD:eD P 285) {h:aA} {a:Nat} {m bad:Bool} (hr:nN h a m bad) {K:V->aA->Prop}
 (hK:∀ h',nN h' a true bad->aA.aI (fun n=>n=a) h h'->K (.bY []) h'):aB P 211 [.p (.g a) 0] h K:=
 tmake_at hG fD hr.1 hr.2 fun h' q1 q2=>hK h' ⟨Nat.lt_of_lt_of_le hr.1 q2.1,q1⟩ q2
theorem Bs (fD:eD P 285) {h:aA} {a:Nat} {m bad:Bool} (hr:nN h a m bad) {K:V->aA->Prop}
 (hK:∀ h',nN h' a true true->aA.aI (fun n=>n=a) h h'->K (.s []) h'):aB P 128 [.p (.g a) 0] h K:=by
 have WE:=fun K hK=>OH (K:=K) hG fD hr hK
 refine aN (hG _ AF.f128 rfl) rfl ?_
 (refine cJ @WE ?_)
 intro h1 r1 k1
 have Cg:=fun K hK=>kC (K:=K) hG r1 8 (by omega) hK
 (refine cJ @Cg ?_)
 intro h2 r2 k2
 have hrn:=fun K hK=>MR (K:=K) hG (h:=h2) hK
 ((conv=>whnf);repeat ((first|refine aQ.of (by decide) (by decide) ?_|refine bV.un ?_|refine cA (hrn _) ?_|refine zz ?_)<;>(conv=>whnf)))
 exact hK h2 r2 (k1.trans k2)
theorem s7 {h:aA} {a:Nat} {m bad:Bool} (hr:nN h a m bad) {K:V->aA->Prop}
 (hK:∀ h',nN h' a m true->aA.aI (fun n=>n=a) h h'->K (.i .i64 0) h'):aB P 130 [.p (.g a) 0,.i .i64 1] h K:=by
 have h1:=fun K hK=>kC (K:=K) hG hr 1 (by omega) hK
 refine aN (hG _ AF.f130 rfl) rfl ?_
 (refine cJ @h1 ?_)
 intro h2 r2 k2
 (refine iU @lK @r2.2 ?_)
 exact hK h2 r2 k2
theorem RW {h:aA} {a:Nat} {m:Bool} (hr:nN h a m true) {K:V->aA->Prop} (hK:K (.b false) h):aB P 135 [.p (.g a) 0] h K:=by
 refine aN (hG _ AF.f135 rfl) rfl ?_
 (refine pU @Rp @lK @hr.2 ?_)
 exact hK
theorem RX {h:aA} {a:Nat} {m bad:Bool} (hr:nN h a m bad) {K:V->aA->Prop}
 (hK:∀ h',nN h' a m true->aA.aI (fun n=>n=a) h h'->K (.agg [.i .i64 0,.i .i64 0,.i .i64 0]) h'):aB P 129 [.p (.g a) 0] h K:=by
 have h1:=fun K hK=>kC (K:=K) hG hr 4 (by omega) hK
 refine aN (hG _ AF.f129 rfl) rfl ?_
 ((conv=>whnf);repeat ((first|refine bV.un ?_|refine cA (h1 _) ?_|refine zz ?_)<;>(conv=>whnf)))
 intro h2 r2 k2
 have h3:=fun K hK=>kC (K:=K) hG r2 4 (by omega) hK
 ((conv=>whnf);repeat ((first|refine bV.un ?_|refine cA (h3 _) ?_|refine zz ?_)<;>(conv=>whnf)))
 intro h4 r4 k4
 have h5:=fun K hK=>kC (K:=K) hG r4 4 (by omega) hK
 ((conv=>whnf);repeat ((first|refine bV.un ?_|refine cA (h5 _) ?_|refine zz ?_)<;>(conv=>whnf)))
 intro h6 r6 k6
 ((conv=>whnf);repeat ((first|refine bV.un ?_|refine zz ?_)<;>(conv=>whnf)))
 exact hK h6 r6 ((k2.trans k4).trans k6)
theorem LW {h:aA} {a:Nat} {m bad:Bool} (hr:nN h a m bad) {K:V->aA->Prop}
 (hK:∀ h',nN h' a m true->aA.aI (fun n=>n=a) h h'->K .aV h'):aB P 131 [.p (.g a) 0,.fn 132 [] []] h K:=by
 have h1:=fun K hK=>s7 (K:=K) hG hr hK
 refine aN (hG _ AF.f131 rfl) rfl ?_
 (refine cJ @h1 ?_)
 intro h2 r2 k2
 ((conv=>whnf);repeat ((first|refine bV.un ?_|refine zz ?_)<;>(conv=>whnf)))
 exact hK h2 r2 k2
theorem yV {h:aA} {a:Nat} {m bad:Bool} (hr:nN h a m bad) {K:V->aA->Prop}
 (hK:∀ h',nN h' a m true->aA.aI (fun n=>n=a) h h'->K .aV h'):aB P 133 [.p (.g a) 0] h K:=by
 have h1:=fun K hK=>s7 (K:=K) hG hr hK
 refine aN (hG _ AF.f133 rfl) rfl ?_
 (refine cJ @h1 ?_)
 intro h2 r2 k2
 ((conv=>whnf);repeat ((first|refine bV.un ?_|refine zz ?_)<;>(conv=>whnf)))
 exact hK h2 r2 k2
theorem RY {h:aA} {K:V->aA->Prop} (hK:∀ h',nN h' h.next false false->aA.aI (fun _=>False) h h'->K (.p (.g h.next) 0) h'):aB P 126 [.aV] h K:=by
 refine aN (hG _ AF.f126 rfl) rfl ?_
 (refine cJ (aN (hG _ AF.f105 rfl) rfl) ?_)
 exact hK _ ⟨Nat.lt_succ_self _,aA.aC _ _⟩ (.push (.refl _ _) _)
theorem RZ (fD:eD P 285) {h:aA} {K:V->aA->Prop} (hK:∀ h',aA.aI (fun _=>False) h h'->K (.bY [.agg JL,.b false]) h'):aB P 53 [.aV] h K:=by
 have zB:=fun K hK=>RY (K:=K) hG (h:=h) hK
 refine jG (hG _ AF.f53 rfl) rfl ?_
 (refine cJ @zB ?_)
 intro hA rA kA
 have c0:=fun K hK=>kC (K:=K) hG rA 1 (by omega) hK
 (refine cJ @c0 ?_)
 intro h0 r0 k0
 have c1:=fun K hK=>Bs (K:=K) hG fD r0 hK
 (refine cJ @c1 ?_)
 intro h1 r1 k1
 have c2:=fun K hK=>kC (K:=K) hG r1 8 (by omega) hK
 (refine cJ @c2 ?_)
 intro h2 r2 k2
 have c3:=fun K hK=>kC (K:=K) hG r2 2 (by omega) hK
 (refine cJ @c3 ?_)
 intro h3 r3 k3
 have c4:=fun K hK=>RX (K:=K) hG r3 hK
 (refine cJ @c4 ?_)
 intro h4 r4 k4
 have c5:=fun K hK=>s7 (K:=K) hG r4 hK
 (refine cJ @c5 ?_)
 intro h5 r5 k5
 have c6:=fun K hK=>LW (K:=K) hG r5 hK
 ((conv=>whnf);repeat ((first|refine fQ.un rfl ?_|refine cA (c6 _) ?_|refine zz ?_)<;>(conv=>whnf)))
 intro h6 r6 k6
 have c7:=fun K hK=>yV (K:=K) hG r6 hK
 (refine cJ @c7 ?_)
 intro h7 r7 k7
 have c8:=fun K hK=>s7 (K:=K) hG r7 hK
 (refine cJ @c8 ?_)
 intro h8 r8 k8
 have c9:=fun K hK=>Bs (K:=K) hG fD r8 hK
 ((conv=>whnf);repeat ((first|refine fQ.un rfl ?_|refine cA (c9 _) ?_|refine zz ?_)<;>(conv=>whnf)))
 intro h9 r9 k9
 have Vb:=fun K hK=>yV (K:=K) hG r9 hK
 (refine cJ @Vb ?_)
 intro EZ r10 ZL
 have XZ:=fun K hK=>kC (K:=K) hG r10 1 (by omega) hK
 (refine cJ @XZ ?_)
 intro HK r11 ZR
 have XT:=fun K hK=>yV (K:=K) hG r11 hK
 (refine cJ @XT ?_)
 intro Ei r12 TL
 have XU:=fun K hK=>Bs (K:=K) hG fD r12 hK
 (refine cJ @XU ?_)
 intro XR r13 ZS
 have XV:=fun K hK=>kC (K:=K) hG r13 8 (by omega) hK
 (refine cJ @XV ?_)
 intro ZK r14 WC
 have XW:=fun K hK=>RW (K:=K) hG r14 hK
 (refine cJ @XW ?_)
 have kk:=(((((((((((((k0.trans k1).trans k2).trans k3).trans k4).trans k5).trans k6).trans k7).trans k8).trans k9).trans ZL).trans ZR).trans TL).trans ZS).trans WC
 have HR:aA.aI (fun _=>False) h ZK:=(aA.aI.trans (b:=fun n=>n=h.next) (kA.mono fun _ _ e=>e.elim) kk).mono fun n hn e=>absurd hn (by omega)
 exact hK _ HR
end
end Go.Eng
