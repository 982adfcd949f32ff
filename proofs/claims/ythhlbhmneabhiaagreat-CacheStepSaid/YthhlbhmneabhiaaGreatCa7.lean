/-
CacheStep: events one by one, or all at once: what is known is one.
-/
import Derived.Test.YthhlbhmneabhiaaGreatCa8
import Derived.Test.YthhlbhmneabhiaaGreatArgX
import Derived.Test.YthhlbhmneabhiaaGreatAfCS
set_option linter.unusedVariables false
set_option linter.unusedSimpArgs false
namespace Go.Eng
open Go
def renE (T : List EvD) : List EvD := T.mapIdx fun j x => ⟨⟨x.e.key, 101 + (j : Int), x.e.val⟩, x.gone⟩
theorem renE_get {T : List EvD} {i : Nat} {x : EvD} (h : T[i]? = some x) : (renE T)[i]? = some ⟨⟨x.e.key, 101 + (i : Int), x.e.val⟩, x.gone⟩ := by
  rw [renE, List.getElem?_mapIdx, h]; rfl
theorem renE_len (T : List EvD) : (renE T).length = T.length := by simp [renE]
theorem okAp_one (n : Int) (z : EvD) (hn : 0 ≤ n) (hz : z.e.rev = n + 1) : okAp n n (n + 1) [z] = true := by
  unfold okAp okV okV
  rw [hz, decide_eq_true hn, decide_eq_true (rfl : n = n), decide_eq_true (show n ≤ n + 1 by omega), decide_eq_true (show n < n + 1 by omega), decide_eq_true (Int.le_refl (n + 1))]
  rfl
theorem okV_ren (T : List EvD) : ∀ (d i : Nat) (last : Int), i + d = T.length → last ≤ 101 + (i : Int) → okV 100 (100 + (T.length : Int)) last ((renE T).drop i) = true
  | 0, i, last, hd, _ => by
    have hr := renE_len T
    rw [List.drop_of_length_le (by omega)]; rfl
  | d + 1, i, last, hd, hl => by
    have hr := renE_len T
    have hi : i < (renE T).length := by omega
    have hx := List.getElem?_eq_getElem (show i < T.length by omega)
    have hg := renE_get hx
    rw [List.getElem?_eq_getElem hi] at hg
    have hv : (renE T)[i].e.rev = 101 + (i : Int) := by rw [Option.some.inj hg]
    rw [List.drop_eq_getElem_cons hi]
    unfold okV
    rw [hv, okV_ren T d (i + 1) _ (by omega) (by omega), decide_eq_true (by omega), decide_eq_true (by omega), decide_eq_true (by omega)]
    rfl
theorem okAp_ren (T : List EvD) : okAp 100 100 (100 + (T.length : Int)) (renE T) = true := by
  have h := okV_ren T T.length 0 100 (by omega) (by omega)
  rw [List.drop_zero] at h
  unfold okAp
  rw [h, decide_eq_true (by omega), decide_eq_true rfl, decide_eq_true (by omega)]
  rfl
section
variable {P : Program} (hG : FnsOk P AF.fns.get)
include hG
set_option maxHeartbeats 4000000 in
theorem capply_nil {h : Heap} {a mk : Nat} {rev : Int} {D : List EnD} (hc : CacheAt h a (some mk) rev D) (hr : 0 ≤ rev) {K : V → Heap → Prop}
    (hK : ∀ h', CacheAt h' a (some mk) rev D → Heap.Keeps (fun n => n = a) h h' → K (.b true) h') : ACall P 13 [.p (.g a) 0, .i .i64 rev, .i .i64 rev, .nils] h K := by
  obtain ⟨h1, ⟨hm0, _⟩ | ⟨mk', hm0, h2, h3, h4, h5⟩⟩ := hc
  · cases hm0
  cases hm0
  refine fn_sv (hG _ AF.f13 rfl) rfl ?_
  ((conv => whnf); repeat ((first | refine SIf.df (show ¬ rev < 0 by omega) ?_ | refine SIf.nf (rfl : rev = rev) ?_ | refine SIf.df (show ¬ rev < rev by omega) ?_ | refine SLoopV.un rfl ?_ | refine SEx.of (h4) ?_ | refine yf rfl ?_ | refine yt rfl ?_ | refine yo rfl ?_ | refine yc rfl ?_ | refine ys rfl ?_ | refine ye rfl ?_ | refine yn rfl ?_ | refine zw ?_ | refine zdt ?_ | refine zdf ?_ | refine znt ?_ | refine znf ?_ | refine zcd ?_ | refine zci ?_ | refine zc3 ?_) <;> (conv => whnf)))
  exact hK _ ⟨h1, .inr ⟨mk, rfl, h2, h3, Heap.get_set_self h4, Heap.gs h2 h5⟩⟩ (Heap.Keeps.set (b := fun n => n = a) (.refl _ _) (.inl rfl) _)
set_option maxHeartbeats 16000000 in
set_option maxRecDepth 20000 in
theorem cacheStep_ok (hk : okFn P 3 AF.cs = true) (hS : SortedOk P) (hb0 : ACall P 10 [] noG (fun r _ => r = .b true)) (es : List EnD) (xs : List EvD) (hes : ∀ e ∈ es, EnOk e) (hxs : ∀ x ∈ xs, EnOk x.e) (_hl1 : es.length ≤ 9223372036854775807) (_hl2 : xs.length ≤ 9223372036854775807) :
    ACall P 3 [.sl none 3 (es.map enR), .sl none 4 (xs.map evR)] noG (fun r _ => r = .b true) := by
  have hel : (es.map enR).length = es.length := List.length_map _
  have hxl : (xs.map evR).length = xs.length := List.length_map _
  refine fn_sv hk rfl ?_
  ((conv => whnf); repeat ((first | refine yf rfl ?_ | refine yt rfl ?_ | refine yo rfl ?_ | refine yc rfl ?_ | refine ys rfl ?_ | refine ye rfl ?_ | refine yn rfl ?_ | refine zw ?_ | refine zdt ?_ | refine zdf ?_ | refine znt ?_ | refine znf ?_ | refine zcd ?_ | refine zci ?_ | refine zc3 ?_) <;> (conv => whnf)))
  refine ⟨hb0.frame rfl fun v h' hv => ?_⟩
  subst hv
  refine ⟨rfl, ?_⟩
  obtain ⟨Q1, hQ1⟩ : ∃ Q, Q = min es.length 8 := ⟨_, rfl⟩
  obtain ⟨Q2, hQ2⟩ : ∃ Q, Q = min xs.length 10 := ⟨_, rfl⟩
  obtain ⟨T1, hT1⟩ : ∃ T, T = es.take Q1 := ⟨_, rfl⟩
  obtain ⟨T2, hT2⟩ : ∃ T, T = xs.take Q2 := ⟨_, rfl⟩
  have hT1l : T1.length ≤ 8 := by rw [hT1]; simp; omega
  have hT2l : T2.length ≤ 10 := by rw [hT2]; simp; omega
  have hT1k : ∀ e ∈ T1, EnOk e := fun e h => hes e (List.mem_of_mem_take (by rw [← hT1]; exact h))
  have hT2k : ∀ x ∈ T2, EnOk x.e := fun e h => hxs e (List.mem_of_mem_take (by rw [← hT2]; exact h))
  have hN1 : List.drop (Int.toNat 0) (List.take (Q1 : Int).toNat (List.map enR es)) = T1.map enR := by rw [hT1, List.map_take]; rfl
  have hN2 : List.drop (Int.toNat 0) (List.take (Q2 : Int).toNat (List.map evR xs)) = T2.map evR := by rw [hT2, List.map_take]; rfl
  obtain ⟨h0, hh0⟩ : ∃ h0 : Heap, h0 = (noG.push (.cs [.nilm, .i .i64 (-1)])).push (.cs [.nilm, .i .i64 (-1)]) := ⟨_, rfl⟩
  have hn0 : h0.next = 2 := by rw [hh0]; rfl
  have ca0 : CacheAt h0 0 none (-1) [] := by rw [hh0]; exact ⟨by decide, .inl ⟨rfl, rfl, rfl, rfl⟩⟩
  have cb0 : CacheAt h0 1 none (-1) [] := by rw [hh0]; exact ⟨by decide, .inl ⟨rfl, rfl, rfl, rfl⟩⟩
  ((conv => whnf); repeat ((first | refine SCall.app (fn_sv (hG _ AF.f11 rfl) rfl) ?_ | refine SOpt.of (mn2 (z := (Q1 : Int)) (by rw [hel]; split <;> omega)) ?_ | refine SOpt.of (mn2 (z := (Q2 : Int)) (by rw [hxl]; split <;> omega)) ?_ | refine yf rfl ?_ | refine yt rfl ?_ | refine yo rfl ?_ | refine yc rfl ?_ | refine ys rfl ?_ | refine ye rfl ?_ | refine yn rfl ?_ | refine zw ?_ | refine zdt ?_ | refine zdf ?_ | refine znt ?_ | refine znf ?_ | refine zcd ?_ | refine zci ?_ | refine zc3 ?_) <;> (conv => whnf)))
  rw [hN1, hN2]
  cases hok : okE 100 [] T1
  · have hbk : (decide ((0 : Int) ≤ 100) && okE 100 [] T1) = false := by rw [hok]; rfl
    have hca := fun (K : V → Heap → Prop) (hK : ∀ h', CacheAt h' 0 none (-1) [] → Heap.Keeps (fun _ => False) h0 h' → K (.b false) h') => clist_at (K := K) hG ca0 T1 hT1k (by omega) 100 (fun _ => hK) (fun hc => by rw [hbk] at hc; cases hc)
    rw [hh0] at hca
    ((conv => whnf); repeat ((first | refine SCall.app (hca _) ?_ | refine yf rfl ?_ | refine yt rfl ?_ | refine yo rfl ?_ | refine yc rfl ?_ | refine ys rfl ?_ | refine ye rfl ?_ | refine yn rfl ?_ | refine zw ?_ | refine zdt ?_ | refine zdf ?_ | refine znt ?_ | refine znf ?_ | refine zcd ?_ | refine zci ?_ | refine zc3 ?_) <;> (conv => whnf)))
    intro h1 c1 hk1
    have hcb := fun (K : V → Heap → Prop) (hK : ∀ h', CacheAt h' 1 none (-1) [] → Heap.Keeps (fun _ => False) h1 h' → K (.b false) h') => clist_at (K := K) hG (cb0.keep (hh0 ▸ hk1)) T1 hT1k (by omega) 100 (fun _ => hK) (fun hc => by rw [hbk] at hc; cases hc)
    ((conv => whnf); repeat ((first | refine SCall.app (hcb _) ?_ | refine yf rfl ?_ | refine yt rfl ?_ | refine yo rfl ?_ | refine yc rfl ?_ | refine ys rfl ?_ | refine ye rfl ?_ | refine yn rfl ?_ | refine zw ?_ | refine zdt ?_ | refine zdf ?_ | refine znt ?_ | refine znf ?_ | refine zcd ?_ | refine zci ?_ | refine zc3 ?_) <;> (conv => whnf)))
    intro h2 c2 hk2
    ((conv => whnf); repeat ((first | refine yf rfl ?_ | refine yt rfl ?_ | refine yo rfl ?_ | refine yc rfl ?_ | refine ys rfl ?_ | refine ye rfl ?_ | refine yn rfl ?_ | refine zw ?_ | refine zdt ?_ | refine zdf ?_ | refine znt ?_ | refine znf ?_ | refine zcd ?_ | refine zci ?_ | refine zc3 ?_) <;> (conv => whnf)))
    rfl
  · have hbk : (decide ((0 : Int) ≤ 100) && okE 100 [] T1) = true := by rw [hok]; rfl
    have hca := fun (K : V → Heap → Prop) (hK : ∀ h' k, h0.next ≤ k → CacheAt h' 0 (some k) 100 T1 → Heap.Keeps (fun n => n = 0) h0 h' → K (.b true) h') => clist_at (K := K) hG ca0 T1 hT1k (by omega) 100 (fun hc => by rw [hbk] at hc; cases hc) (fun _ => hK)
    rw [hh0] at hca
    ((conv => whnf); repeat ((first | refine SCall.app (hca _) ?_ | refine yf rfl ?_ | refine yt rfl ?_ | refine yo rfl ?_ | refine yc rfl ?_ | refine ys rfl ?_ | refine ye rfl ?_ | refine yn rfl ?_ | refine zw ?_ | refine zdt ?_ | refine zdf ?_ | refine znt ?_ | refine znf ?_ | refine zcd ?_ | refine zci ?_ | refine zc3 ?_) <;> (conv => whnf)))
    rw [← hh0]
    intro h1 k1 hk1 c1 hkp1
    have cb1 : CacheAt h1 1 none (-1) [] := cb0.keep2 hkp1 (by decide) (fun k hk => by cases hk)
    have hcb := fun (K : V → Heap → Prop) (hK : ∀ h' k, h1.next ≤ k → CacheAt h' 1 (some k) 100 T1 → Heap.Keeps (fun n => n = 1) h1 h' → K (.b true) h') => clist_at (K := K) hG cb1 T1 hT1k (by omega) 100 (fun hc => by rw [hbk] at hc; cases hc) (fun _ => hK)
    ((conv => whnf); repeat ((first | refine SCall.app (hcb _) ?_ | refine yf rfl ?_ | refine yt rfl ?_ | refine yo rfl ?_ | refine yc rfl ?_ | refine ys rfl ?_ | refine ye rfl ?_ | refine yn rfl ?_ | refine zw ?_ | refine zdt ?_ | refine zdf ?_ | refine znt ?_ | refine znf ?_ | refine zcd ?_ | refine zci ?_ | refine zc3 ?_) <;> (conv => whnf)))
    intro h2 k2 hk2 c2 hkp2
    have hk1n : k1 < h1.next := c1.map_lt
    have ca2 : CacheAt h2 0 (some k1) 100 T1 := c1.keep2 hkp2 (by decide) (fun k hk => by cases hk; omega)
    have hne : k1 ≠ k2 := by omega
    have hk1' : 2 ≤ k1 := by omega
    have hk2' : 2 ≤ k2 := by omega
    have hzl := renE_len T2
    have hzk : ∀ x ∈ renE T2, EnOk x.e := by
      intro x hx
      obtain ⟨j, hj⟩ := List.getElem?_of_mem hx
      have hjl : j < T2.length := by rw [← hzl]; exact (List.getElem?_eq_some_iff.1 hj).1
      have hy := List.getElem?_eq_getElem hjl
      have hm := hT2k _ (List.getElem_mem hjl)
      rw [renE_get hy] at hj
      cases hj
      exact ⟨hm.val, hm.key⟩
    have hxl2 : (T2.map evR).length = T2.length := List.length_map _
    ((conv => whnf); repeat ((first | refine yf rfl ?_ | refine yt rfl ?_ | refine yo rfl ?_ | refine yc rfl ?_ | refine ys rfl ?_ | refine ye rfl ?_ | refine yn rfl ?_ | refine zw ?_ | refine zdt ?_ | refine zdf ?_ | refine znt ?_ | refine znf ?_ | refine zcd ?_ | refine zci ?_ | refine zc3 ?_) <;> (conv => whnf)))
    refine SLoopV.by (fun q fr st => ∃ (i : Nat) (hh lo : Heap) (lv : V), i ≤ T2.length ∧ q = T2.length - i ∧ CacheAt hh 0 (some k1) 100 T1 ∧ CacheAt hh 1 (some k2) (100 + i) (((renE T2).take i).foldl stepE T1) ∧
        ((i = 0 ∧ lv = .nils) ∨ (0 < i ∧ ∃ t, lv = .sl (some (.l t)) 4 (((renE T2).take i).map evR) ∧ t < lo.next ∧ lo.get t = some .spare)) ∧
        Fr.le [(39, .i .i64 i), (38, .i .i64 (T2.map evR).length), (8, lv), (7, .p (.g 1) 0), (6, .p (.g 0) 0), (1, .sl none 4 (T2.map evR))] fr ∧ st = ⟨hh, lo⟩)
      T2.length ⟨0, h2, _, .nils, Nat.zero_le _, rfl, ca2, by simpa using c2, .inl ⟨rfl, rfl⟩, (by repeat (first | exact Fr.le_nil | refine Fr.le_cons rfl ?_)), rfl⟩ ?_
    rintro q fr st ⟨i, hh, lo, lv, hi, rfl, cA, cB, hlv, hle0, rfl⟩
    refine ⟨_, hle0, fun R hR => ?_⟩
    by_cases hin : i < T2.length
    · have he := List.getElem?_eq_getElem hin
      have hz := renE_get he
      generalize T2[i] = x at he hz
      obtain ⟨z, hze⟩ : ∃ z : EvD, z = ⟨⟨x.e.key, 101 + (i : Int), x.e.val⟩, x.gone⟩ := ⟨_, rfl⟩
      rw [← hze] at hz
      have hzr : z.e.rev = (100 + (i : Int)) + 1 := by rw [hze]; show 101 + (i : Int) = _; omega
      have hrow : [V.i .i64 (101 + (i : Int)), .s x.e.key, .sl none 1 (x.e.val.map byR), .b x.gone] = evR z := by rw [hze]; rfl
      have htk : (renE T2).take (i + 1) = (renE T2).take i ++ [z] := by rw [List.take_add_one, hz]; rfl
      have hst : ((renE T2).take (i + 1)).foldl stepE T1 = [z].foldl stepE (((renE T2).take i).foldl stepE T1) := by rw [htk, List.foldl_append]
      have hap := okAp_one (100 + (i : Int)) z (by omega) hzr
      have hrevB := fun K => crev_at (K := K) hG cB
      have hapB := fun (K : V → Heap → Prop) (hK : ∀ h', CacheAt h' 1 (some k2) (100 + ((i + 1 : Nat) : Int)) (((renE T2).take (i + 1)).foldl stepE T1) → Heap.Keeps (fun n => n = 1 ∨ some k2 = some n) hh h' → K (.b true) h') =>
        capply_at (K := K) hG cB [z] (fun y hy => by rw [List.mem_singleton.1 hy]; exact hzk z (List.mem_of_getElem? hz)) (by simp) (100 + (i : Int)) ((100 + (i : Int)) + 1) (fun hc => by rw [hap] at hc; cases hc) (fun _ h' hc hk => hK h' (by rw [hst, show 100 + ((i + 1 : Nat) : Int) = (100 + (i : Int)) + 1 by omega]; exact hc) hk)
      rw [show (100 + (i : Int)) + 1 = 101 + (i : Int) by omega] at hapB
      have htl : (((renE T2).take i).map evR).length = i := by simp; omega
      have a2 : ∀ o o2, ((lo.push o).set lo.next o2).get lo.next = some o2 := fun o o2 => Heap.get_set_self (Heap.get_push_self _ _)
      have a3 : ∀ o o2 o3, (((lo.push o).set lo.next o2).set lo.next o3).get lo.next = some o3 := fun o o2 o3 => Heap.get_set_self (a2 _ _)
      rcases hlv with ⟨rfl, rfl⟩ | ⟨hi0, t, rfl, ht1, ht2⟩
      · have f2 : ∀ o o2 o3, ((((lo.push o).set lo.next o2).set lo.next o3).push .spare).get lo.next = some o3 := fun o o2 o3 => Heap.gp (by show lo.next ≠ lo.next + 1; omega) (a3 _ _ _)
        ((conv => whnf); repeat ((first | refine SIf.dt (show ((0 : Nat) : Int) < (T2.map evR).length by omega) ?_ | refine SChk.ix (by omega) (by omega) ?_ | refine SWrap.w64 (by omega) (by omega) ?_ | refine SEx.of (congrArg (fun r => some [r]) hrow) ?_ | refine SCall.app (hrevB _) ?_ | refine SCall.app (hapB _) ?_ | refine SEx.of (map_get' (by omega) he) ?_ | refine SEx.of (a2 _ _) ?_ | refine SEx.of (a3 _ _ _) ?_ | refine SEx.of (f2 _ _ _) ?_ | refine SEx.of (Heap.get_push_self _ _) ?_ | refine yf rfl ?_ | refine yt rfl ?_ | refine yo rfl ?_ | refine yc rfl ?_ | refine ys rfl ?_ | refine ye rfl ?_ | refine yn rfl ?_ | refine zw ?_ | refine zdt ?_ | refine zdf ?_ | refine znt ?_ | refine znf ?_ | refine zcd ?_ | refine zci ?_ | refine zc3 ?_) <;> (conv => whnf)))
        intro h' cB' hk'
        have cA' : CacheAt h' 0 (some k1) 100 T1 := cA.keep2 hk' (by rintro (h | h); cases h; cases h; omega) (fun k hk => by cases hk; rintro (h | h); omega; cases h; exact hne rfl)
        ((conv => whnf); repeat ((first | refine SWrap.w64 (by omega) (by omega) ?_ | refine yf rfl ?_ | refine yt rfl ?_ | refine yo rfl ?_ | refine yc rfl ?_ | refine ys rfl ?_ | refine ye rfl ?_ | refine yn rfl ?_ | refine zw ?_ | refine zdt ?_ | refine zdf ?_ | refine znt ?_ | refine znf ?_ | refine zcd ?_ | refine zci ?_ | refine zc3 ?_) <;> (conv => whnf)))
        exact hR (T2.length - (0 + 1)) _ _ (by omega) ⟨0 + 1, h', _, _, by omega, rfl, cA', cB', .inr ⟨by omega, lo.next + 1, by first | (rw [htk]; done) | (rw [htk]; rfl), Nat.lt_succ_self _, Heap.get_push_self _ _⟩, (by repeat (first | exact Fr.le_nil | refine Fr.le_cons rfl ?_)), rfl⟩
      · have f0 : ∀ o o2 o3, (((lo.push o).set lo.next o2).set lo.next o3).get t = some .spare := fun o o2 o3 => Heap.gs (by omega) (Heap.gs (by omega) (Heap.gp (by omega) ht2))
        have f1 : ∀ o o2 o3, (((((lo.push o).set lo.next o2).set lo.next o3).remove t).push .spare).get lo.next = some o3 := fun o o2 o3 => Heap.gp (by show lo.next ≠ lo.next + 1; omega) (Heap.gr (by omega) (a3 _ _ _))
        ((conv => whnf); repeat ((first | refine SIf.dt (show (i : Int) < (T2.map evR).length by omega) ?_ | refine SChk.ix (by omega) (by omega) ?_ | refine SWrap.w64 (by omega) (by omega) ?_ | refine SChk.mk (by simp [roomOk]; omega) ?_ | refine SEx.of (congrArg (fun r => some [r]) hrow) ?_ | refine SCall.app (hrevB _) ?_ | refine SCall.app (hapB _) ?_ | refine SEx.of (map_get' (by omega) he) ?_ | refine SEx.of (a2 _ _) ?_ | refine SEx.of (a3 _ _ _) ?_ | refine SEx.of (f0 _ _ _) ?_ | refine SEx.of (f1 _ _ _) ?_ | refine SEx.of (Heap.get_push_self _ _) ?_ | refine yf rfl ?_ | refine yt rfl ?_ | refine yo rfl ?_ | refine yc rfl ?_ | refine ys rfl ?_ | refine ye rfl ?_ | refine yn rfl ?_ | refine zw ?_ | refine zdt ?_ | refine zdf ?_ | refine znt ?_ | refine znf ?_ | refine zcd ?_ | refine zci ?_ | refine zc3 ?_) <;> (conv => whnf)))
        intro h' cB' hk'
        have cA' : CacheAt h' 0 (some k1) 100 T1 := cA.keep2 hk' (by rintro (h | h); cases h; cases h; omega) (fun k hk => by cases hk; rintro (h | h); omega; cases h; exact hne rfl)
        ((conv => whnf); repeat ((first | refine SWrap.w64 (by omega) (by omega) ?_ | refine yf rfl ?_ | refine yt rfl ?_ | refine yo rfl ?_ | refine yc rfl ?_ | refine ys rfl ?_ | refine ye rfl ?_ | refine yn rfl ?_ | refine zw ?_ | refine zdt ?_ | refine zdf ?_ | refine znt ?_ | refine znf ?_ | refine zcd ?_ | refine zci ?_ | refine zc3 ?_) <;> (conv => whnf)))
        exact hR (T2.length - (i + 1)) _ _ (by omega) ⟨i + 1, h', _, _, by omega, rfl, cA', cB', .inr ⟨by omega, lo.next + 1, by first | (rw [htk, List.map_append]; done) | (rw [htk, List.map_append]; rfl), Nat.lt_succ_self _, Heap.get_push_self _ _⟩, (by repeat (first | exact Fr.le_nil | refine Fr.le_cons rfl ?_)), rfl⟩
    · obtain rfl : i = T2.length := by omega
      have hfull : (renE T2).take T2.length = renE T2 := List.take_of_length_le (by omega)
      rw [hfull] at cB hlv
      have hrel : CaRel ((renE T2).foldl stepE T1) ((renE T2).foldl stepL (T1.foldl layL [])) := (list_rel hok).steps _
      have hDk : ∀ e ∈ (renE T2).foldl stepE T1, EnOk e := fun e he => by
        rcases stepE_mem _ he with h9 | ⟨x, hx, rfl⟩
        · exact hT1k e h9
        · exact hzk x hx
      have hLn := foldl_step_len (renE T2) (T1.foldl layL [])
      have hLn2 := foldl_lay_len T1 []
      have hDn := hrel.len
      simp only [List.length_nil] at hLn2
      have hrevB := fun (h' : Heap) (c : CacheAt h' 1 (some k2) (100 + (T2.length : Int)) ((renE T2).foldl stepE T1)) (K : V → Heap → Prop) => crev_at (K := K) hG c
      have hrevA := fun (h' : Heap) (c : CacheAt h' 0 (some k1) (100 + (T2.length : Int)) ((renE T2).foldl stepE T1)) (K : V → Heap → Prop) => crev_at (K := K) hG c
      have hallA := fun (h' : Heap) (c : CacheAt h' 0 (some k1) (100 + (T2.length : Int)) ((renE T2).foldl stepE T1)) (K : V → Heap → Prop) => call_at (K := K) hG hS c hDk (by omega) hrel
      have hallB := fun (h' : Heap) (c : CacheAt h' 1 (some k2) (100 + (T2.length : Int)) ((renE T2).foldl stepE T1)) (K : V → Heap → Prop) => call_at (K := K) hG hS c hDk (by omega) hrel
      rcases hlv with ⟨hT0, rfl⟩ | ⟨hi0, t, rfl, ht1, ht2⟩
      · have hT20 : T2 = [] := List.length_eq_zero_iff.1 (by omega)
        have cB' : CacheAt hh 1 (some k2) 100 T1 := by simpa [hT20, renE] using cB
        have hrel0 := list_rel hok
        have hDn0 := hrel0.len
        have hz0 : (100 : Int) + 0 = 100 := rfl
        have hapA := fun (K : V → Heap → Prop) (hK : ∀ h', CacheAt h' 0 (some k1) 100 T1 → Heap.Keeps (fun n => n = 0) hh h' → K (.b true) h') => capply_nil (K := K) hG cA (by omega) hK
        ((conv => whnf); repeat ((first | refine SIf.df (show ¬ ((T2.length : Nat) : Int) < (T2.map evR).length by omega) ?_ | refine SWrap.w64 (by omega) (by omega) ?_ | refine SCall.app (hapA _) ?_ | refine yf rfl ?_ | refine yt rfl ?_ | refine yo rfl ?_ | refine yc rfl ?_ | refine ys rfl ?_ | refine ye rfl ?_ | refine yn rfl ?_ | refine zw ?_ | refine zdt ?_ | refine zdf ?_ | refine znt ?_ | refine znf ?_ | refine zcd ?_ | refine zci ?_ | refine zc3 ?_) <;> (conv => whnf)))
        intro h3 cA3 hk3
        have cB3 : CacheAt h3 1 (some k2) 100 T1 := cB'.keep2 hk3 (by decide) (fun k hk => by cases hk; omega)
        have hallA := fun (h' : Heap) (c : CacheAt h' 0 (some k1) 100 T1) (K : V → Heap → Prop) => call_at (K := K) hG hS c hT1k (by omega) hrel0
        have hallB := fun (h' : Heap) (c : CacheAt h' 1 (some k2) 100 T1) (K : V → Heap → Prop) => call_at (K := K) hG hS c hT1k (by omega) hrel0
        have hrA := fun K => crev_at (K := K) hG cA3
        have hrB := fun K => crev_at (K := K) hG cB3
        ((conv => whnf); repeat ((first | refine SCall.app (hrA _) ?_ | refine SCall.app (hrB _) ?_ | refine yf rfl ?_ | refine yt rfl ?_ | refine yo rfl ?_ | refine yc rfl ?_ | refine ys rfl ?_ | refine ye rfl ?_ | refine yn rfl ?_ | refine zw ?_ | refine zdt ?_ | refine zdf ?_ | refine znt ?_ | refine znf ?_ | refine zcd ?_ | refine zci ?_ | refine zc3 ?_) <;> (conv => whnf)))
        refine SCall.app (hallA _ cA3 _) ?_
        intro lv h4 hlv hk4
        have hv1 := hlv
        rcases hlv with ⟨rfl, hlv⟩ | rfl
        all_goals
          ((conv => whnf); repeat ((first | refine yf rfl ?_ | refine yt rfl ?_ | refine yo rfl ?_ | refine yc rfl ?_ | refine ys rfl ?_ | refine ye rfl ?_ | refine yn rfl ?_ | refine zw ?_ | refine zdt ?_ | refine zdf ?_ | refine znt ?_ | refine znf ?_ | refine zcd ?_ | refine zci ?_ | refine zc3 ?_) <;> (conv => whnf)))
          refine SCall.app (hallB _ (cB3.keep hk4) _) ?_
          intro lw h5 hlw hk5
          have hv2 := hlw
          have heqs := fun K => eqEns_at (K := K) hG (h := h5) hv1 hv2 (by omega)
          rcases hlw with ⟨rfl, hlw⟩ | rfl
          all_goals
            ((conv => whnf); repeat ((first | refine SCall.app (heqs _) ?_ | refine yf rfl ?_ | refine yt rfl ?_ | refine yo rfl ?_ | refine yc rfl ?_ | refine ys rfl ?_ | refine ye rfl ?_ | refine yn rfl ?_ | refine zw ?_ | refine zdt ?_ | refine zdf ?_ | refine znt ?_ | refine znf ?_ | refine zcd ?_ | refine zci ?_ | refine zc3 ?_) <;> (conv => whnf)))
            all_goals rfl
      · have hap := okAp_ren T2
        have hzm : ((renE T2).map evR).length = T2.length := by simp [hzl]
        have hapA := fun (K : V → Heap → Prop) (hK : ∀ h', CacheAt h' 0 (some k1) (100 + (T2.length : Int)) ((renE T2).foldl stepE T1) → Heap.Keeps (fun n => n = 0 ∨ some k1 = some n) hh h' → K (.b true) h') =>
          capply_at (K := K) hG cA (renE T2) hzk (by omega) 100 (100 + (T2.length : Int)) (fun hc => by rw [hap] at hc; cases hc) (fun _ => hK)
        rw [← hzm] at hapA
        ((conv => whnf); repeat ((first | refine SIf.df (show ¬ ((T2.length : Nat) : Int) < (T2.map evR).length by omega) ?_ | refine SWrap.w64 (by omega) (by omega) ?_ | refine SCall.app (hapA _) ?_ | refine yf rfl ?_ | refine yt rfl ?_ | refine yo rfl ?_ | refine yc rfl ?_ | refine ys rfl ?_ | refine ye rfl ?_ | refine yn rfl ?_ | refine zw ?_ | refine zdt ?_ | refine zdf ?_ | refine znt ?_ | refine znf ?_ | refine zcd ?_ | refine zci ?_ | refine zc3 ?_) <;> (conv => whnf)))
        rw [hzm]
        intro h3 cA3 hk3
        have cB3 : CacheAt h3 1 (some k2) (100 + (T2.length : Int)) ((renE T2).foldl stepE T1) := cB.keep2 hk3 (by rintro (h | h); cases h; cases h; omega) (fun k hk => by cases hk; rintro (h | h); omega; cases h; exact hne rfl)
        ((conv => whnf); repeat ((first | refine SCall.app (hrevA _ cA3 _) ?_ | refine SCall.app (hrevB _ cB3 _) ?_ | refine SIf.dt (rfl : (100 + (T2.length : Int)) = 100 + (T2.length : Int)) ?_ | refine yf rfl ?_ | refine yt rfl ?_ | refine yo rfl ?_ | refine yc rfl ?_ | refine ys rfl ?_ | refine ye rfl ?_ | refine yn rfl ?_ | refine zw ?_ | refine zdt ?_ | refine zdf ?_ | refine znt ?_ | refine znf ?_ | refine zcd ?_ | refine zci ?_ | refine zc3 ?_) <;> (conv => whnf)))
        refine SCall.app (hallA _ cA3 _) ?_
        intro lv h4 hlv hk4
        have hv1 := hlv
        rcases hlv with ⟨rfl, hlv⟩ | rfl
        all_goals
          ((conv => whnf); repeat ((first | refine yf rfl ?_ | refine yt rfl ?_ | refine yo rfl ?_ | refine yc rfl ?_ | refine ys rfl ?_ | refine ye rfl ?_ | refine yn rfl ?_ | refine zw ?_ | refine zdt ?_ | refine zdf ?_ | refine znt ?_ | refine znf ?_ | refine zcd ?_ | refine zci ?_ | refine zc3 ?_) <;> (conv => whnf)))
          refine SCall.app (hallB _ (cB3.keep hk4) _) ?_
          intro lw h5 hlw hk5
          have hv2 := hlw
          have heqs := fun K => eqEns_at (K := K) hG (h := h5) hv1 hv2 (by omega)
          rcases hlw with ⟨rfl, hlw⟩ | rfl
          all_goals
            ((conv => whnf); repeat ((first | refine SCall.app (heqs _) ?_ | refine yf rfl ?_ | refine yt rfl ?_ | refine yo rfl ?_ | refine yc rfl ?_ | refine ys rfl ?_ | refine ye rfl ?_ | refine yn rfl ?_ | refine zw ?_ | refine zdt ?_ | refine zdf ?_ | refine znt ?_ | refine znf ?_ | refine zcd ?_ | refine zci ?_ | refine zc3 ?_) <;> (conv => whnf)))
            all_goals rfl
end
end Go.Eng
