/-
Who has to go, by the document.
-/
import Derived.Test.YtcmknonnlnobnaaGreatEvXa
import Derived.Test.YtcmknonnlnobnaaGreatWfa0
import Derived.Test.YtcmknonnlnobnaaGreatEvQ
import Derived.Test.YtcmknonnlnobnaaGreatFitA
import Derived.Test.YtcmknonnlnobnaaGreatFitL
set_option linter.unusedVariables false
set_option linter.unusedSimpArgs false
set_option maxHeartbeats 16000000
set_option maxRecDepth 20000
namespace Go.Eng
open Go
theorem mdelK : ∀ {S : List Str} {x : Str}, mdel (seenK S) (.s x) = seenK (S.erase x)
 | [], x => rfl
 | y :: r, x => by
   simp only [seenK, List.map_cons, mdel, keyEq_ss, List.erase_cons]
   by_cases h : x = y
   · rw [if_pos (by simp [h]), if_pos (by simp [h])]
   · rw [if_neg (by simpa using h), if_neg (by simpa using fun e : y = x => h e.symm)]
     have := mdelK (S := r) (x := x)
     simp only [seenK] at this
     rw [this]; rfl
theorem sortE_congr {S T : List Str} (h1 : S.Nodup) (h2 : T.Nodup) (h : ∀ x, x ∈ S ↔ x ∈ T) : sortE S = sortE T := by
 unfold sortE
 rw [sortE_le]
 exact Go.mergeSort_of_perm ((List.perm_ext_iff_of_nodup h1 h2).2 h)
theorem less_ntrans {a b c : Str} (h1 : Op.bytesLess a b = false) (h2 : Op.bytesLess b c = false) : Op.bytesLess a c = false := by
 cases h : Op.bytesLess a c with
 | false => rfl
 | true =>
   by_cases e : a = b
   · rw [e, h2] at h; cases h
   · have := less_trans (less_tri h1 e) h
     rw [lessS, h2] at this; cases this
theorem ahead_asymm {a b : PodD} (h : aheadV a b = true) : aheadV b a = false := by
 cases hc : aheadV b a with
 | false => rfl
 | true =>
   have h4 := ahead_trans h hc
   unfold aheadV at h4
   simp only [Bool.or_eq_true, Bool.and_eq_true, decide_eq_true_eq] at h4
   rcases h4 with h4 | ⟨_, h4⟩
   · omega
   · rw [less_irr] at h4; cases h4
theorem ahead_ntrans {a b c : PodD} (h1 : aheadV a b = false) (h2 : aheadV b c = false) : aheadV a c = false := by
 unfold aheadV at *
 simp only [Bool.or_eq_false_iff, Bool.and_eq_false_iff, decide_eq_false_iff_not] at *
 obtain ⟨h1, h1'⟩ := h1
 obtain ⟨h2, h2'⟩ := h2
 refine ⟨by omega, ?_⟩
 by_cases e : a.prio = c.prio
 · refine .inr (less_ntrans (b := b.name) ?_ ?_)
   · rcases h1' with h | h
     · omega
     · exact h
   · rcases h2' with h | h
     · omega
     · exact h
 · exact .inl e
theorem low_sorted (l : List PodD) (hn : l.Pairwise fun a b => a.name ≠ b.name) : (isortD ltV l).Pairwise fun a b => aheadV a b = true := by
 have h1 := isortD_sorted (lt := ltV) (fun a b h => by rw [ltV_iff] at *; exact ahead_asymm h) (fun a b c h1 h2 => by rw [ltV_iff] at *; exact ahead_ntrans h1 h2) l
 have h2 : (isortD ltV l).Pairwise fun a b => a.name ≠ b.name := ((isortD_perm l).pairwise_iff (fun {a b} h => Ne.symm h)).2 hn
 refine (h1.and h2).imp fun {a b} ⟨h3, h4⟩ => ?_
 rw [ltV_iff] at h3
 exact ahead_tri (Ne.symm h4) h3
theorem low_ins {l : List PodD} {q : PodD} {k : Nat} (hl : l.Pairwise fun a b => aheadV a b = true) (hk : k ≤ l.length) (hn : ∀ y ∈ l, y.name ≠ q.name) (h1 : ∀ y ∈ l.take k, aheadV y q = true) (h2 : ∀ y, l[k]? = some y → aheadV y q = false) :
 insD ltV l q = l.take k ++ [q] ++ l.drop k := by
 rw [List.append_assoc]
 refine insD_at hk (fun t y ht hy => ?_) (fun y h0 hy => ?_)
 · rw [ltV_iff]
   have hm := List.mem_of_getElem? hy
   have hlt : t < l.length := (List.getElem?_eq_some_iff.1 hy).1
   have hf := gE (show k < l.length by omega)
   generalize l[k] = f at hf
   have h3 := ahead_tri (hn f (List.mem_of_getElem? hf)) (h2 f hf)
   rcases Nat.lt_or_ge k t with hkt | hkt
   · exact ahead_trans h3 (pair_get hl hkt hf hy)
   · obtain rfl : t = k := by omega
     rw [hf] at hy; cases hy; exact h3
 · rw [ltV_iff]
   have hm : y ∈ l.take k := by
    refine List.mem_of_getElem? (i := k - 1) ?_
    rw [List.getElem?_take_of_lt (by omega)]; exact hy
   have h3 := h1 y hm
   cases hc : aheadV q y with
   | false => rfl
   | true =>
     have h4 := ahead_trans h3 hc
     unfold aheadV at h4
     simp only [Bool.or_eq_true, Bool.and_eq_true, decide_eq_true_eq] at h4
     rcases h4 with h4 | ⟨_, h4⟩
     · omega
     · rw [less_irr] at h4; cases h4
theorem rel_tupn {b : Bool} (E : Env) (x : Value) (h : Rel E (.tup [.nils, .b b]) x) : Rel E (.tup [.sl none 1 [], .b b]) x := by
 cases h with
 | deep hd => cases hd
 | tup _ a ha hr =>
   refine .tup _ a ha fun j v x hv hx => ?_
   match j with
   | 0 =>
     simp only [List.getElem?_cons_zero, Option.some.injEq] at hv
     subst hv
     exact rel_ce .nil E x (hr 0 _ x rfl hx)
   | j + 1 => exact hr (j + 1) v x hv hx
def Bas (A B : Obj) (lo : Heap) : Prop := 2 ≤ lo.next ∧ lo.get 0 = some A ∧ lo.get 1 = some B
section
variable {A B : Obj} {lo : Heap}
theorem Bas.push (h : Bas A B lo) (o : Obj) : Bas A B (lo.push o) := ⟨Nat.le_succ_of_le h.1, Heap.gp (by have := h.1; omega) h.2.1, Heap.gp (by have := h.1; omega) h.2.2⟩
theorem Bas.set (h : Bas A B lo) {n : Nat} (hn : 2 ≤ n) (o : Obj) : Bas A B (lo.set n o) := ⟨h.1, Heap.gs (by omega) h.2.1, Heap.gs (by omega) h.2.2⟩
theorem Bas.rem (h : Bas A B lo) {n : Nat} (hn : 2 ≤ n) : Bas A B (lo.remove n) := ⟨h.1, Heap.gr (by omega) h.2.1, Heap.gr (by omega) h.2.2⟩
theorem Bas.mk (h : Bas A B lo) (o o2 : Obj) : Bas A B ((lo.push o).set lo.next o2) := (h.push o).set h.1 o2
theorem Bas.a1 (h : Bas A B lo) : Bas A B (lo.push .spare) := h.push _
theorem Bas.a2 (h : Bas A B lo) : Bas A B (((lo.push .spare).remove lo.next).push .spare) := ((h.push _).rem h.1).push _
theorem Bas.a3 (h : Bas A B lo) : Bas A B (((((lo.push .spare).remove lo.next).push .spare).remove (lo.next + 1)).push .spare) := (h.a2.rem (Nat.le_succ_of_le h.1)).push _
end
def LowP (ev : V) (es : List PodD) : Prop := (es = [] ∧ ev = .nils) ∨ (0 < es.length ∧ ∃ t, ev = .sl (some (.l t)) 16 (es.map podR))
section
variable {P : Program} (hG : FnsOk P AF.fns.get) (hL : okRFn P 56 AF.rlist = true)
include hG hL
theorem rvict0_at {h : Heap} (s : StD) (p : PodD) (node : Str) (hs : s.ok) (hp : p.ok) (hnm : s.pods.Pairwise fun a b => a.name ≠ b.name) (h19 : s.pods.length ≤ 1000) {K : V → Heap → Prop}
 (hK : ∀ h' ev, Heap.Keeps (fun _ => False) h h' → (victD s p node = none ∧ ev = .tup [.nils, .b false] ∨ ∃ l, victD s p node = some l ∧ ev = .tup [.sl none 1 (l.map strR), .b true]) → K ev h') :
 ACall P 9 [stV s, .agg (podR p), .s node] h K := by
 have hon := ron_ok hG s node hs
 obtain ⟨L, hLo⟩ : ∃ L, L = onD s node := ⟨_, rfl⟩
 have hLs : L.Sublist s.pods := by rw [hLo]; exact List.filter_sublist
 have hLn := hnm.sublist hLs
 have hLl : L.length ≤ 1000 := Nat.le_trans hLs.length_le h19
 rw [← hLo] at hon
 have hlm : (L.map podR).length = L.length := List.length_map _
 obtain ⟨F, hF⟩ : ∃ F : PodD → Bool, F = fun q => !decide (p.prio ≤ q.prio) := ⟨_, rfl⟩
 have hlow : lowerD s p node = isortD ltV (L.filter F) := by rw [hLo, hF]; rfl
 have hsub : ∀ i, ((L.take i).filter F).Sublist s.pods := fun i => (List.filter_sublist.trans (List.take_sublist _ _)).trans hLs
 refine fn_sv (hG _ AF.f9 rfl) rfl ?_
 ((conv => whnf); repeat ((first | refine cA (Pure.go hon rfl) ?_ | refine ye (Heap.get_push_self _ _) ?_ | refine zz ?_) <;> (conv => whnf)))
 refine SLoopV.by (fun q fr st => ∃ (i : Nat) (lo : Heap) (ev : V) (l : List PodD), i ≤ L.length ∧ q = L.length - i ∧ Bas (.cs [.sl none 6 (s.nodes.map nodeR), .sl none 16 (s.pods.map podR)]) (.cs (podR p)) lo ∧ l = isortD ltV ((L.take i).filter F) ∧ LowP ev l ∧
  Fr.le [(21, .i .i64 i), (20, .i .i64 (L.map podR).length), (19, .sl none 16 (L.map podR)), (8, ev), (4, .p (.l 1) 0), (3, .p (.l 0) 0), (2, .s node)] fr ∧ st = ⟨h, lo⟩)
  L.length ⟨0, _, .nils, [], Nat.zero_le _, rfl, ⟨Nat.le_refl _, rfl, rfl⟩, rfl, .inl ⟨rfl, rfl⟩, fle, rfl⟩ ?_
 rintro q fr st ⟨i, lo, ev, l, hi, rfl, hb, hl, hev, hle0, rfl⟩
 refine ⟨_, hle0, fun R hR => ?_⟩
 obtain ⟨hb0, g0, g1⟩ := id hb
 by_cases hin : i < L.length
 · have he := gE hin
   generalize L[i] = e at he
   have f0 : ∀ o o2, ((lo.push o).set lo.next o2).get lo.next = some o2 := fun o o2 => Heap.get_set_self (Heap.get_push_self _ _)
   have f1 : ∀ o o2, ((lo.push o).set lo.next o2).get 1 = some (.cs (podR p)) := fun o o2 => Heap.gs (by omega) (Heap.gp (by omega) g1)
   have hb1 : ∀ o o2, Bas (.cs [.sl none 6 (s.nodes.map nodeR), .sl none 16 (s.pods.map podR)]) (.cs (podR p)) ((lo.push o).set lo.next o2) := fun o o2 => hb.mk o o2
   have hst : (L.take (i + 1)).filter F = (L.take i).filter F ++ (if F e then [e] else []) := by
    rw [List.take_add_one, he, List.filter_append]
    cases hc : F e <;> simp [hc]
   by_cases hpr : e.prio < p.prio
   · have hFe : F e = true := by rw [hF]; simp; omega
     rw [hFe, if_pos rfl] at hst
     have hne : ∀ y ∈ l, y.name ≠ e.name := fun y hy => by
      rw [hl] at hy
      have hy := (isortD_perm _).mem_iff.1 hy
      obtain ⟨j, hj⟩ := List.mem_iff_getElem?.1 (List.mem_filter.1 hy).1
      have hji : j < i := by
       have := (List.getElem?_eq_some_iff.1 hj).1
       rw [List.length_take] at this; omega
      rw [List.getElem?_take_of_lt hji] at hj
      exact pair_get hLn hji hj he
     have hsrt : l.Pairwise fun a b => aheadV a b = true := by rw [hl]; exact low_sorted _ (hnm.sublist (hsub i))
     have hll : l.length ≤ 1000 := by
      rw [hl]
      have := (isortD_perm (lt := ltV) ((L.take i).filter F)).length_eq
      have := (hsub i).length_le
      omega
     have hnext : isortD ltV ((L.take (i + 1)).filter F) = insD ltV l e := by
      rw [hst, hl]
      unfold isortD
      rw [List.foldl_append]
      rfl
     have doneA : ∀ (k : Nat) (lo' : Heap) (fr' : Fr) (t : Nat), k ≤ l.length → (∀ y ∈ l.take k, aheadV y e = true) → (∀ y, l[k]? = some y → aheadV y e = false) → Bas (.cs [.sl none 6 (s.nodes.map nodeR), .sl none 16 (s.pods.map podR)]) (.cs (podR p)) lo' →
      Fr.le [(21, .i .i64 ((i : Int) + 1)), (20, .i .i64 (L.map podR).length), (19, .sl none 16 (L.map podR)), (8, .sl (some (.l t)) 16 ((l.take k ++ [e] ++ l.drop k).map podR)), (4, .p (.l 1) 0), (3, .p (.l 0) 0), (2, .s node)] fr' → R fr' ⟨h, lo'⟩ := fun k lo' fr' t hk h1 h2 hbb hf =>
      hR (L.length - (i + 1)) _ _ (by omega) ⟨i + 1, lo', _, l.take k ++ [e] ++ l.drop k, by omega, rfl, hbb, by rw [hnext, low_ins hsrt hk hne h1 h2], .inr ⟨by simp; omega, t, rfl⟩, hf, rfl⟩
     rcases hev with ⟨rfl, rfl⟩ | ⟨hA, t, rfl⟩
     · ((conv => whnf); repeat ((first | refine SIf.dt (show (i : Int) < (L.map podR).length by omega) ?_ | refine SChk.ix (by omega) (by omega) ?_ | refine SIf.dt hpr ?_ | refine SLoopV.un rfl ?_ | refine SWrap.w64 (by omega) (by omega) ?_ | refine SChk.mk (by decide) ?_ | refine ye (map_get' (f := podR) (by omega) he) ?_ | refine ye (f0 _ _) ?_ | refine ye (f1 _ _) ?_ | refine ye (Heap.get_push_self _ _) ?_ | refine zz ?_) <;> (conv => whnf)))
       exact doneA 0 _ _ _ (Nat.zero_le _) (fun y hy => by cases hy) (fun y hy => by simp at hy) (.a1 (hb1 _ _)) fle
     · have hlm2 : (l.map podR).length = l.length := List.length_map _
       ((conv => whnf); repeat ((first | refine SIf.dt (show (i : Int) < (L.map podR).length by omega) ?_ | refine SChk.ix (by omega) (by omega) ?_ | refine SIf.dt hpr ?_ | refine ye (map_get' (f := podR) (by omega) he) ?_ | refine ye (f0 _ _) ?_ | refine ye (f1 _ _) ?_ | refine ye (Heap.get_push_self _ _) ?_ | refine zz ?_) <;> (conv => whnf)))
       refine SLoopV.by (fun q fr st => ∃ (k : Nat) (lo1 : Heap), k ≤ l.length ∧ q = l.length - k ∧ Bas (.cs [.sl none 6 (s.nodes.map nodeR), .sl none 16 (s.pods.map podR)]) (.cs (podR p)) lo1 ∧ lo.next < lo1.next ∧ lo1.get lo.next = some (.cs (podR e)) ∧ (∀ y ∈ l.take k, aheadV y e = true) ∧
        Fr.le [(21, .i .i64 i), (20, .i .i64 (L.map podR).length), (19, .sl none 16 (L.map podR)), (11, .i .i64 k), (10, .p (.l lo.next) 0), (8, .sl (some (.l t)) 16 (l.map podR)), (4, .p (.l 1) 0), (3, .p (.l 0) 0), (2, .s node)] fr ∧ st = ⟨h, lo1⟩)
        l.length ⟨0, _, Nat.zero_le _, rfl, hb1 _ _, Nat.lt_succ_self _, f0 _ _, (fun y hy => by cases hy), fle, rfl⟩ ?_
       rintro q fr st ⟨k, lo1, hk, rfl, hbl, qn, q0, hless, hle1, rfl⟩
       have q1 : ∀ o, (lo1.push o).get lo.next = some (.cs (podR e)) := fun o => Heap.gp (by omega) q0
       refine ⟨_, hle1, fun R2 hR2 => ?_⟩
       obtain ⟨A, hA'⟩ : ∃ A, A = l.take k := ⟨_, rfl⟩
       obtain ⟨B, hB⟩ : ∃ B, B = l.drop k := ⟨_, rfl⟩
       have hT : ((l.map podR).take ((k : Nat) : Int).toNat).drop (Int.toNat 0) = A.map podR := by rw [Int.toNat_natCast, ← List.map_take, hA']; rfl
       have hD : (l.map podR).drop ((k : Nat) : Int).toNat = B.map podR := by rw [Int.toNat_natCast, ← List.map_drop, hB]
       have hAl : A.length ≤ 1000 := by rw [hA']; exact Nat.le_trans (List.length_take_le _ _) (by omega)
       have hBl : B.length ≤ 1000 := by rw [hB, List.length_drop]; omega
       have done2 := fun lo' fr' t h2 hf hb => doneA k lo' fr' t hk hless h2 hb hf
       rw [← hA', ← hB] at done2
       by_cases hlt : k < l.length
       · have hf := gE hlt
         generalize l[k] = f at hf
         have goon : aheadV f e = true → ∀ y ∈ l.take (k + 1), aheadV y e = true := fun hfe y hy => by
          rw [List.take_add_one, hf] at hy
          rcases List.mem_append.1 hy with h1 | h1
          · exact hless y h1
          · rw [List.mem_singleton.1 h1]; exact hfe
         have stop : aheadV f e = false → ∀ y, l[k]? = some y → aheadV y e = false := fun hfe y hy => by rw [hf] at hy; cases hy; exact hfe
         by_cases c1 : f.prio > e.prio
         · ((conv => whnf); repeat ((first | refine SIf.dt (show (k : Int) < (l.map podR).length by omega) ?_ | refine SChk.ix (by omega) (by omega) ?_ | refine SIf.dt c1 ?_ | refine SWrap.w64 (by omega) (by omega) ?_ | refine ye (map_get' (f := podR) (by omega) hf) ?_ | refine ye (q0) ?_ | refine ye (q1 _) ?_ | refine ye (Heap.get_push_self _ _) ?_ | refine zz ?_) <;> (conv => whnf)))
           exact hR2 (l.length - (k + 1)) _ _ (by omega) ⟨k + 1, lo1, by omega, rfl, hbl, qn, q0, goon (by unfold aheadV; rw [decide_eq_true c1]; rfl), fle, rfl⟩
         · by_cases c2 : f.prio = e.prio
           · cases c3 : Op.bytesLess f.name e.name
             · have hd2 := fun lo' fr' t => done2 lo' fr' t (stop (by unfold aheadV; rw [decide_eq_false c1, c3, Bool.and_false]; rfl))
               cases A <;> cases B
               all_goals ((conv => whnf); repeat ((first | refine SIf.dt (show (k : Int) < (l.map podR).length by omega) ?_ | refine SChk.ix (by omega) (by omega) ?_ | refine SIf.df c1 ?_ | refine SIf.dt c2 ?_ | refine SIf.ff c3 ?_ | refine ye (congrArg some hT) ?_ | refine ye (congrArg some hD) ?_ | refine SSame.mk (congrArg (V.sl (some (Key.l t)) 16) hD.symm) ?_ | refine ye (deep_map (R := podR) (fun _ => rfl) _) ?_ | refine ye (congrArg some (List.map_append (f := podR) (l₂ := [e])).symm) ?_ | refine ye (congrArg some (List.map_append (f := podR)).symm) ?_ | refine SChk.mk (by simp only [roomOk, List.length_map, List.length_append, List.length_cons, List.length_nil, decide_eq_true_eq] at *; omega) ?_ | refine SWrap.w64 (by omega) (by omega) ?_ | refine ye (map_get' (f := podR) (by omega) hf) ?_ | refine ye (q0) ?_ | refine ye (q1 _) ?_ | refine ye (Heap.get_push_self _ _) ?_ | refine zz ?_) <;> (conv => whnf)))
               all_goals (try rw [List.append_nil] at hd2)
               all_goals refine hd2 _ _ _ fle ?_
               all_goals first | exact .a1 hbl | exact .a2 hbl | exact .a3 hbl
             · ((conv => whnf); repeat ((first | refine SIf.dt (show (k : Int) < (l.map podR).length by omega) ?_ | refine SChk.ix (by omega) (by omega) ?_ | refine SIf.df c1 ?_ | refine SIf.dt c2 ?_ | refine SIf.tt c3 ?_ | refine SWrap.w64 (by omega) (by omega) ?_ | refine ye (map_get' (f := podR) (by omega) hf) ?_ | refine ye (q0) ?_ | refine ye (q1 _) ?_ | refine ye (Heap.get_push_self _ _) ?_ | refine zz ?_) <;> (conv => whnf)))
               exact hR2 (l.length - (k + 1)) _ _ (by omega) ⟨k + 1, lo1, by omega, rfl, hbl, qn, q0, goon (by unfold aheadV; rw [decide_eq_true c2, c3]; simp), fle, rfl⟩
           · have hd2 := fun lo' fr' t => done2 lo' fr' t (stop (by unfold aheadV; rw [decide_eq_false c1, decide_eq_false c2]; rfl))
             cases A <;> cases B
             all_goals ((conv => whnf); repeat ((first | refine SIf.dt (show (k : Int) < (l.map podR).length by omega) ?_ | refine SChk.ix (by omega) (by omega) ?_ | refine SIf.df c1 ?_ | refine SIf.df c2 ?_ | refine ye (congrArg some hT) ?_ | refine ye (congrArg some hD) ?_ | refine SSame.mk (congrArg (V.sl (some (Key.l t)) 16) hD.symm) ?_ | refine ye (deep_map (R := podR) (fun _ => rfl) _) ?_ | refine ye (congrArg some (List.map_append (f := podR) (l₂ := [e])).symm) ?_ | refine ye (congrArg some (List.map_append (f := podR)).symm) ?_ | refine SChk.mk (by simp only [roomOk, List.length_map, List.length_append, List.length_cons, List.length_nil, decide_eq_true_eq] at *; omega) ?_ | refine SWrap.w64 (by omega) (by omega) ?_ | refine ye (map_get' (f := podR) (by omega) hf) ?_ | refine ye (q0) ?_ | refine ye (q1 _) ?_ | refine ye (Heap.get_push_self _ _) ?_ | refine zz ?_) <;> (conv => whnf)))
             all_goals (try rw [List.append_nil] at hd2)
             all_goals refine hd2 _ _ _ fle ?_
             all_goals first | exact .a1 hbl | exact .a2 hbl | exact .a3 hbl
       · obtain rfl : k = l.length := by omega
         rw [List.drop_eq_nil_of_le (Nat.le_refl _)] at hB
         subst hB
         have hd2 := fun lo' fr' t => done2 lo' fr' t (fun y hy => by rw [List.getElem?_eq_none (Nat.le_refl _)] at hy; cases hy)
         cases A
         all_goals ((conv => whnf); repeat ((first | refine SIf.df (show ¬ ((l.length : Nat) : Int) < (l.map podR).length by omega) ?_ | refine ye (congrArg some hT) ?_ | refine ye (congrArg some hD) ?_ | refine SSame.mk (congrArg (V.sl (some (Key.l t)) 16) hD.symm) ?_ | refine ye (deep_map (R := podR) (fun _ => rfl) _) ?_ | refine ye (congrArg some (List.map_append (f := podR) (l₂ := [e])).symm) ?_ | refine ye (congrArg some (List.map_append (f := podR)).symm) ?_ | refine SChk.mk (by simp only [roomOk, List.length_map, List.length_append, List.length_cons, List.length_nil, decide_eq_true_eq] at *; omega) ?_ | refine SWrap.w64 (by omega) (by omega) ?_ | refine ye (q0) ?_ | refine ye (q1 _) ?_ | refine ye (Heap.get_push_self _ _) ?_ | refine zz ?_) <;> (conv => whnf)))
         all_goals (try rw [List.append_nil] at hd2)
         all_goals refine hd2 _ _ _ fle ?_
         all_goals first | exact .a1 hbl | exact .a2 hbl | exact .a3 hbl
   · have hFe : F e = false := by rw [hF]; simp; omega
     rw [hFe] at hst
     simp only [Bool.false_eq_true, if_false, List.append_nil] at hst
     have hend : ∀ fr' ev', LowP ev' l → Fr.le [(21, .i .i64 ((i : Int) + 1)), (20, .i .i64 (L.map podR).length), (19, .sl none 16 (L.map podR)), (8, ev'), (4, .p (.l 1) 0), (3, .p (.l 0) 0), (2, .s node)] fr' → R fr' ⟨h, (lo.push (.cs [.s [], .i .i64 0, .i .i64 0, .i .i64 0, .i .i64 0, .i .i64 0, .nils, .nils, .nils, .nils, .s [], .nils, .i .i64 0, .nils, .s [], .i .i64 0])).set lo.next (.cs (podR e))⟩ := fun fr' ev' h1 h2 =>
      hR (L.length - (i + 1)) _ _ (by omega) ⟨i + 1, _, ev', l, by omega, rfl, hb1 _ _, by rw [hst]; exact hl, h1, h2, rfl⟩
     rcases hev with ⟨rfl, rfl⟩ | ⟨hA, t, rfl⟩
     · ((conv => whnf); repeat ((first | refine SIf.dt (show (i : Int) < (L.map podR).length by omega) ?_ | refine SChk.ix (by omega) (by omega) ?_ | refine SIf.df hpr ?_ | refine SWrap.w64 (by omega) (by omega) ?_ | refine ye (map_get' (f := podR) (by omega) he) ?_ | refine ye (f0 _ _) ?_ | refine ye (f1 _ _) ?_ | refine ye (Heap.get_push_self _ _) ?_ | refine zz ?_) <;> (conv => whnf)))
       exact hend _ _ (.inl ⟨rfl, rfl⟩) fle
     · ((conv => whnf); repeat ((first | refine SIf.dt (show (i : Int) < (L.map podR).length by omega) ?_ | refine SChk.ix (by omega) (by omega) ?_ | refine SIf.df hpr ?_ | refine SWrap.w64 (by omega) (by omega) ?_ | refine ye (map_get' (f := podR) (by omega) he) ?_ | refine ye (f0 _ _) ?_ | refine ye (f1 _ _) ?_ | refine ye (Heap.get_push_self _ _) ?_ | refine zz ?_) <;> (conv => whnf)))
       exact hend _ _ (.inr ⟨hA, t, rfl⟩) fle
 · obtain rfl : i = L.length := by omega
   rw [List.take_length] at hl
   have hlw : l = lowerD s p node := by rw [hlow]; exact hl
   clear hR
   have hperm := isortD_perm (lt := ltV) (L.filter F)
   have hln : l.Pairwise fun a b => a.name ≠ b.name := by
    rw [hl]
    exact (hperm.pairwise_iff (fun {a b} h => Ne.symm h)).2 (hnm.sublist (List.filter_sublist.trans hLs))
   have hll : l.length ≤ 1000 := by
    rw [hl, hperm.length_eq]
    exact Nat.le_trans (List.length_filter_le _ _) hLl
   have hv : victD s p node = if feasD (withoutD s (l.map (·.name))) p node then some (sortE (keepGo s p node l (l.map (·.name)))) else none := by
    unfold victD
    rw [← hlw]
   have hfe := fun X => rfeas_ok hG (withoutD s X) p node (hs.without X) hp
   have hsl : ∀ X : List Str, (sortE X).length = X.length := fun X => (List.mergeSort_perm X _).length_eq
   have hwo := fun (X : List Str) => (without_congr (s := s) (fun x => mem_sortE (l := X) (x := x)))
   clear hl hlow
   rcases hev with ⟨rfl, rfl⟩ | ⟨hA, t, rfl⟩
   · have gm : (h.push (.mp none [])).get h.next = some (.mp none (seenK [])) := Heap.get_push_self _ _
     have hf := hfe (sortE [])
     rw [hwo []] at hf
     have hs0 : sortE ([] : List Str) = [] := by simp [sortE]
     have hv : victD s p node = if feasD (withoutD s []) p node then some [] else none := by rw [hv]; simp [keepGo, hs0]
     have hk0 : Heap.Keeps (fun _ => False) h (h.push (.mp none [])) := (Heap.Keeps.refl _ _).push _
     have r1 := fun K hK => rlist_at (K := K) hL [] .nil (Nat.zero_le _) gm hK
     have r2 := fun (h : Heap) K hK => rwoL_at (h := h) (K := K) hG s hs (sortE []) (by rw [hs0]; exact Nat.zero_le _) hK
     rw [hwo []] at r2
     cases hb2 : feasD (withoutD s []) p node
     · rw [hb2] at hv
       rw [hb2] at hf
       ((conv => whnf); repeat ((first | refine SIf.df (show ¬ ((L.length : Nat) : Int) < (L.map podR).length by omega) ?_ | refine SLoopV.un rfl ?_ | refine cA (r1 _) ?_ | refine cA (r2 _ _) ?_ | refine cA (Pure.go hf rfl) ?_ | refine ye (g0) ?_ | refine ye (g1) ?_ | refine zz ?_) <;> (conv => whnf)))
       exact hK _ _ hk0 (.inl ⟨hv, rfl⟩)
     · rw [hb2] at hv
       rw [hb2] at hf
       ((conv => whnf); repeat ((first | refine SIf.df (show ¬ ((L.length : Nat) : Int) < (L.map podR).length by omega) ?_ | refine SLoopV.un rfl ?_ | refine cA (r1 _) ?_ | refine cA (r2 _ _) ?_ | refine cA (Pure.go hf rfl) ?_ | refine ye (g0) ?_ | refine ye (g1) ?_ | refine zz ?_) <;> (conv => whnf)))
       rw [hs0]
       exact hK _ _ hk0 (.inr ⟨[], hv, rfl⟩)
   · have hlm2 : (l.map podR).length = l.length := List.length_map _
     ((conv => whnf); repeat ((first | refine SIf.df (show ¬ ((L.length : Nat) : Int) < (L.map podR).length by omega) ?_ | refine zz ?_) <;> (conv => whnf)))
     refine SLoopV.by (fun q fr st => ∃ (i : Nat) (hh lo : Heap), i ≤ l.length ∧ q = l.length - i ∧ Bas (.cs [.sl none 6 (s.nodes.map nodeR), .sl none 16 (s.pods.map podR)]) (.cs (podR p)) lo ∧ Heap.Keeps (fun _ => False) h hh ∧ hh.get h.next = some (.mp none (seenK ((l.take i).map (·.name)))) ∧
      Fr.le [(81, .i .i64 i), (80, .i .i64 (l.map podR).length), (79, .sl (some (.l t)) 16 (l.map podR)), (12, .m (.g h.next)), (8, .sl (some (.l t)) 16 (l.map podR)), (4, .p (.l 1) 0), (3, .p (.l 0) 0), (2, .s node)] fr ∧ st = ⟨hh, lo⟩)
      l.length ⟨0, _, _, Nat.zero_le _, rfl, hb, (Heap.Keeps.refl _ _).push _, Heap.get_push_self _ _, fle, rfl⟩ ?_
     clear hb g0 g1 hb0 hle0
     rintro q fr st ⟨i, hh, lo, hi, rfl, hb, hk, gm, hle1, rfl⟩
     refine ⟨_, hle1, fun R hR => ?_⟩
     obtain ⟨hb0, g0, g1⟩ := id hb
     have f0 : ∀ o o2, ((lo.push o).set lo.next o2).get lo.next = some o2 := fun o o2 => Heap.get_set_self (Heap.get_push_self _ _)
     by_cases hin : i < l.length
     · have he := gE hin
       generalize l[i] = e at he
       have hnew : e.name ∉ (l.take i).map (·.name) := fun hc => by
        obtain ⟨y, hy, hye⟩ := List.mem_map.1 hc
        obtain ⟨j, hj⟩ := List.mem_iff_getElem?.1 hy
        have hji : j < i := by
         have := (List.getElem?_eq_some_iff.1 hj).1
         rw [List.length_take] at this; omega
        rw [List.getElem?_take_of_lt hji] at hj
        exact pair_get hln hji hj he hye
       have hnx : (l.take (i + 1)).map (·.name) = (l.take i).map (·.name) ++ [e.name] := by rw [List.take_add_one, he, List.map_append]; rfl
       ((conv => whnf); repeat ((first | refine SIf.dt (show (i : Int) < (l.map podR).length by omega) ?_ | refine SChk.ix (by omega) (by omega) ?_ | refine SWrap.w64 (by omega) (by omega) ?_ | refine ye (map_get' (f := podR) (by omega) he) ?_ | refine ye (f0 _ _) ?_ | refine ye (Heap.get_push_self _ _) ?_ | refine ye (gm) ?_ | refine zz ?_) <;> (conv => whnf)))
       exact hR (l.length - (i + 1)) _ _ (by omega) ⟨i + 1, _, _, by omega, rfl, hb.mk _ _, hk.set (.inr (Nat.le_refl _)) _, (Heap.get_set_self gm).trans (by show some (Obj.mp none (mput _ (.s e.name) (.b true))) = _; rw [mputK_new hnew, hnx]), fle, rfl⟩
     obtain rfl : i = l.length := by omega
     clear hR
     rw [List.take_length] at gm
     obtain ⟨N0, hN0⟩ : ∃ N0, N0 = l.map (·.name) := ⟨_, rfl⟩
     rw [← hN0] at gm hv
     have hNn : N0.Nodup := by rw [hN0]; exact List.pairwise_map.2 hln
     have hNl : N0.length = l.length := by rw [hN0]; exact List.length_map _
     have hf := hfe (sortE N0)
     rw [hwo N0] at hf
     have r1 := fun K hK => rlist_at (K := K) hL N0 hNn (by omega) gm hK
     have r2 := fun (h : Heap) K hK => rwoL_at (h := h) (K := K) hG s hs (sortE N0) (by rw [hsl]; omega) hK
     rw [hwo N0] at r2
     cases hb2 : feasD (withoutD s N0) p node
     · rw [hb2] at hv hf
       ((conv => whnf); repeat ((first | refine SIf.df (show ¬ ((l.length : Nat) : Int) < (l.map podR).length by omega) ?_ | refine cA (r1 _) ?_ | refine cA (r2 _ _) ?_ | refine cA (Pure.go hf rfl) ?_ | refine ye (g0) ?_ | refine ye (g1) ?_ | refine zz ?_) <;> (conv => whnf)))
       exact hK _ _ hk (.inl ⟨hv, rfl⟩)
     rw [hb2, if_pos rfl] at hv
     rw [hb2] at hf
     ((conv => whnf); repeat ((first | refine SIf.df (show ¬ ((l.length : Nat) : Int) < (l.map podR).length by omega) ?_ | refine cA (r1 _) ?_ | refine cA (r2 _ _) ?_ | refine cA (Pure.go hf rfl) ?_ | refine ye (g0) ?_ | refine ye (g1) ?_ | refine zz ?_) <;> (conv => whnf)))
     refine SLoopV.by (fun q fr st => ∃ (i : Nat) (hh lo : Heap) (S G : List Str), i ≤ l.length ∧ q = l.length - i ∧ Bas (.cs [.sl none 6 (s.nodes.map nodeR), .sl none 16 (s.pods.map podR)]) (.cs (podR p)) lo ∧ Heap.Keeps (fun _ => False) h hh ∧ hh.get h.next = some (.mp none (seenK S)) ∧ S.Nodup ∧ S.length ≤ l.length ∧ G.Nodup ∧ (∀ x, x ∈ S ↔ x ∈ G) ∧ (∀ q ∈ l.drop i, q.name ∈ G) ∧
      keepGo s p node l N0 = keepGo s p node (l.drop i) G ∧
      Fr.le [(99, .i .i64 i), (98, .i .i64 (l.map podR).length), (97, .sl (some (.l t)) 16 (l.map podR)), (12, .m (.g h.next)), (4, .p (.l 1) 0), (3, .p (.l 0) 0), (2, .s node)] fr ∧ st = ⟨hh, lo⟩)
      l.length ⟨0, _, _, N0, N0, Nat.zero_le _, rfl, hb, hk, gm, hNn, by omega, hNn, (fun x => Iff.rfl), (fun q hq => by rw [hN0]; exact List.mem_map.2 ⟨q, hq, rfl⟩), rfl, fle, rfl⟩ ?_
     clear hb g0 g1 hb0 hle1 hk gm f0 r1 r2 hf hin
     rintro q fr st ⟨i, hh, lo, S, G, hi, rfl, hb, hk, gm, hSn, hSl, hGn, hSG, hdr, hkp, hle1, rfl⟩
     refine ⟨_, hle1, fun R hR => ?_⟩
     obtain ⟨hb0, g0, g1⟩ := id hb
     have f0 : ∀ o o2, ((lo.push o).set lo.next o2).get lo.next = some o2 := fun o o2 => Heap.get_set_self (Heap.get_push_self _ _)
     have f1 : ∀ o o2, ((lo.push o).set lo.next o2).get 1 = some (.cs (podR p)) := fun o o2 => Heap.gs (by omega) (Heap.gp (by omega) g1)
     have f2 : ∀ o o2, ((lo.push o).set lo.next o2).get 0 = some (.cs [.sl none 6 (s.nodes.map nodeR), .sl none 16 (s.pods.map podR)]) := fun o o2 => Heap.gs (by omega) (Heap.gp (by omega) g0)
     by_cases hin : i < l.length
     · have he := gE hin
       have hdc := List.drop_eq_getElem_cons hin
       generalize l[i] = e at he hdc
       have heG : e.name ∈ G := hdr e (by rw [hdc]; exact .head _)
       have heS : e.name ∈ S := (hSG _).2 heG
       have hS1n : (S.erase e.name).Nodup := hSn.erase _
       have hS1l : (S.erase e.name).length + 1 = S.length := by rw [List.length_erase_of_mem heS]; have := List.length_pos_of_mem heS; omega
       have hrest : ∀ q ∈ l.drop (i + 1), e.name ≠ q.name := by
        have := hln.sublist (List.drop_sublist i l)
        rw [hdc] at this
        exact (List.pairwise_cons.1 this).1
       have hm1 : ∀ x, x ∈ S.erase e.name ↔ x ∈ lessG G e := fun x => by
        unfold lessG
        rw [hSn.mem_erase_iff, List.mem_filter, hSG]
        simp only [Bool.not_eq_true', beq_eq_false_iff_ne, ne_eq]
        exact ⟨fun ⟨a, b⟩ => ⟨b, a⟩, fun ⟨a, b⟩ => ⟨b, a⟩⟩
       have gm2 : ∀ o, o = Obj.mp none (mdel (seenK S) (.s e.name)) → (hh.set h.next o).get h.next = some (.mp none (seenK (S.erase e.name))) := fun o ho => by rw [ho, Heap.get_set_self gm, mdelK]
       have hwl : withoutD s (sortE (S.erase e.name)) = withoutD s (lessG G e) := without_congr fun x => mem_sortE.trans (hm1 x)
       have hf := hfe (sortE (S.erase e.name))
       rw [hwl] at hf
       have r1 := fun K hK => rlist_at (K := K) hL (S.erase e.name) hS1n (by omega) (gm2 _ rfl) hK
       have r2 := fun (h : Heap) K hK => rwoL_at (h := h) (K := K) hG s hs (sortE (S.erase e.name)) (by rw [hsl]; omega) hK
       rw [hwl] at r2
       have hkn : keepGo s p node (l.drop i) G = keepGo s p node (l.drop (i + 1)) (if feasD (withoutD s (lessG G e)) p node then lessG G e else G) := by rw [hdc]; rfl
       rw [hkn] at hkp
       cases hb3 : feasD (withoutD s (lessG G e)) p node
       · rw [hb3] at hkp hf
         simp only [Bool.false_eq_true, if_false] at hkp
         have hne1 : e.name ∉ S.erase e.name := fun hc => by rw [hSn.mem_erase_iff] at hc; exact hc.1 rfl
         have hne2 : (S.erase e.name ++ [e.name]).Nodup := List.nodup_append.2 ⟨hS1n, List.pairwise_singleton _ _, fun a ha b hb => by rw [List.mem_singleton.1 hb]; rintro rfl; exact hne1 ha⟩
         ((conv => whnf); repeat ((first | refine SIf.dt (show (i : Int) < (l.map podR).length by omega) ?_ | refine SChk.ix (by omega) (by omega) ?_ | refine SWrap.w64 (by omega) (by omega) ?_ | refine cA (r1 _) ?_ | refine cA (r2 _ _) ?_ | refine cA (Pure.go hf rfl) ?_ | refine ye (map_get' (f := podR) (by omega) he) ?_ | refine ye (f0 _ _) ?_ | refine ye (f1 _ _) ?_ | refine ye (f2 _ _) ?_ | refine ye (Heap.get_push_self _ _) ?_ | refine ye (gm) ?_ | refine ye (gm2 _ rfl) ?_ | refine zz ?_) <;> (conv => whnf)))
         exact hR (l.length - (i + 1)) _ _ (by omega) ⟨i + 1, _, _, S.erase e.name ++ [e.name], G, by omega, rfl, hb.mk _ _, (hk.set (.inr (Nat.le_refl _)) _).set (.inr (Nat.le_refl _)) _, (Heap.get_set_self (gm2 _ rfl)).trans (by show some (Obj.mp none (mput _ (.s e.name) (.b true))) = _; rw [mputK_new hne1]), hne2,
          by rw [List.length_append]; show _ + 1 ≤ _; omega, hGn, (fun x => by
           rw [List.mem_append, List.mem_singleton, hSn.mem_erase_iff, hSG]
           by_cases hx : x = e.name
           · simp [hx, heG]
           · simp [hx]), (fun q hq => hdr q (by rw [hdc]; exact .tail _ hq)), hkp, fle, rfl⟩
       · rw [hb3] at hkp hf
         rw [if_pos rfl] at hkp
         ((conv => whnf); repeat ((first | refine SIf.dt (show (i : Int) < (l.map podR).length by omega) ?_ | refine SChk.ix (by omega) (by omega) ?_ | refine SWrap.w64 (by omega) (by omega) ?_ | refine cA (r1 _) ?_ | refine cA (r2 _ _) ?_ | refine cA (Pure.go hf rfl) ?_ | refine ye (map_get' (f := podR) (by omega) he) ?_ | refine ye (f0 _ _) ?_ | refine ye (f1 _ _) ?_ | refine ye (f2 _ _) ?_ | refine ye (Heap.get_push_self _ _) ?_ | refine ye (gm) ?_ | refine ye (gm2 _ rfl) ?_ | refine zz ?_) <;> (conv => whnf)))
         exact hR (l.length - (i + 1)) _ _ (by omega) ⟨i + 1, _, _, S.erase e.name, lessG G e, by omega, rfl, hb.mk _ _, hk.set (.inr (Nat.le_refl _)) _, gm2 _ rfl, hS1n, by omega, hGn.filter _, hm1,
          (fun q hq => List.mem_filter.2 ⟨hdr q (by rw [hdc]; exact .tail _ hq), by simp; exact Ne.symm (hrest q hq)⟩), hkp, fle, rfl⟩
     obtain rfl : i = l.length := by omega
     rw [List.drop_length] at hkp
     have hgo : keepGo s p node [] G = G := rfl
     rw [hgo] at hkp
     rw [hkp, ← sortE_congr hSn hGn hSG] at hv
     have r1 := fun K hK => rlist_at (K := K) hL S hSn (by omega) gm hK
     ((conv => whnf); repeat ((first | refine SIf.df (show ¬ ((l.length : Nat) : Int) < (l.map podR).length by omega) ?_ | refine cA (r1 _) ?_ | refine zz ?_) <;> (conv => whnf)))
     exact hK _ _ hk (.inr ⟨_, hv, rfl⟩)
theorem rvict_at {h : Heap} (s : StD) (p : PodD) (node : Str) (hs : s.ok) (hp : p.ok) (hnm : s.pods.Pairwise fun a b => a.name ≠ b.name) (h19 : s.pods.length ≤ 1000) {K : V → Heap → Prop}
 (hK : ∀ h', Heap.Keeps (fun _ => False) h h' → K (victV (victD s p node)) h') : ACall P 9 [stV s, .agg (podR p), .s node] h K := by
 refine ACall.tell (rvict0_at hG hL s p node hs hp hnm h19 (K := fun v h' => Heap.Keeps (fun _ => False) h h' ∧ (victD s p node = none ∧ v = .tup [.nils, .b false] ∨ ∃ l, victD s p node = some l ∧ v = .tup [.sl none 1 (l.map strR), .b true])) fun h' ev h1 h2 => ⟨h1, h2⟩) ?_
 rintro v h' ⟨h1, h2⟩
 refine ⟨victV (victD s p node), fun E x hx => ?_, hK h' h1⟩
 rcases h2 with ⟨h3, rfl⟩ | ⟨l, h3, rfl⟩
 · rw [h3]; exact rel_tupn E x hx
 · rw [h3]; exact hx
end
end Go.Eng
/-
At which node it is cheapest, by the document.
-/
namespace Go.Eng
open Go
theorem lessC_first {a1 a2 a3 b1 b2 b3 : Int} (h : a1 ≠ b1) : lessC (a1, a2, a3) (b1, b2, b3) = decide (a1 < b1) := by
 unfold lessC cmpI
 by_cases c : a1 < b1
 · simp [c]
 · have d : b1 < a1 := by omega
   simp [c, d]
theorem lessC_next {a1 a2 a3 b2 b3 : Int} (h : a2 ≠ b2) : lessC (a1, a2, a3) (a1, b2, b3) = decide (a2 < b2) := by
 unfold lessC cmpI
 by_cases c : a2 < b2
 · simp [c]
 · have d : b2 < a2 := by omega
   simp [c, d]
theorem lessC_last {a1 a2 a3 b3 : Int} : lessC (a1, a2, a3) (a1, a2, b3) = decide (a3 < b3) := by
 unfold lessC cmpI
 by_cases c : a3 < b3
 · simp [c]
 · by_cases d : b3 < a3
   · simp [c, d]
   · simp [c, d]
section
variable {P : Program} (hG : FnsOk P AF.fns.get)
include hG
theorem rless_ok (a b : Int × Int × Int) : Pure P 62 [costV a, costV b] (· = .b (lessC a b)) := by
 obtain ⟨a1, a2, a3⟩ := a
 obtain ⟨b1, b2, b3⟩ := b
 refine pure_fn (hG _ AF.f62 rfl) rfl ?_
 by_cases c1 : a1 = b1
 · subst c1
   by_cases c2 : a2 = b2
   · subst c2
     rw [lessC_last]
     by_cases c3 : a3 = b3
     · subst c3
       rw [decide_eq_false (Int.lt_irrefl a3)]
       ((conv => whnf); repeat ((first | refine SIf.nf rfl ?_ | refine zz ?_ | refine SLoopZ.un rfl ?_) <;> (conv => whnf)))
       exact pure_free rfl rfl
     · ((conv => whnf); repeat ((first | refine SIf.nf rfl ?_ | refine SIf.nt c3 ?_ | refine zz ?_ | refine SLoopZ.un rfl ?_) <;> (conv => whnf)))
       exact pure_free rfl rfl
   · rw [lessC_next c2]
     ((conv => whnf); repeat ((first | refine SIf.nf rfl ?_ | refine SIf.nt c2 ?_ | refine zz ?_ | refine SLoopZ.un rfl ?_) <;> (conv => whnf)))
     exact pure_free rfl rfl
 · rw [lessC_first c1]
   ((conv => whnf); repeat ((first | refine SIf.nt c1 ?_ | refine zz ?_ | refine SLoopZ.un rfl ?_) <;> (conv => whnf)))
   exact pure_free rfl rfl
variable (hL : okRFn P 56 AF.rlist = true)
include hL
theorem rvict_ok (s : StD) (p : PodD) (node : Str) (hs : s.ok) (hp : p.ok) (hnm : s.pods.Pairwise fun a b => a.name ≠ b.name) (h19 : s.pods.length ≤ 1000) :
 Pure P 9 [stV s, .agg (podR p), .s node] (· = victV (victD s p node)) :=
 rvict_at hG hL s p node hs hp hnm h19 fun h' _ => pure_free (by cases victD s p node <;> rfl) rfl
theorem revict_ok (s : StD) (p : PodD) (hs : s.ok) (hp : p.ok) (hnm : s.pods.Pairwise fun a b => a.name ≠ b.name) (h6 : s.nodes.length ≤ 6) (h19 : s.pods.length ≤ 19) (hso : s.nodes.Pairwise fun a b => lessS a.name b.name) :
 Pure P 11 [stV s, .agg (podR p)] (· = .tup [.agg (doC p.name (evictD s p)), .b (evictD s p).isSome]) := by
 have hlm : (s.nodes.map nodeR).length = s.nodes.length := List.length_map _
 refine pure_fn (hG _ AF.f11 rfl) rfl ?_
 ((conv => whnf); repeat ((first | refine zz ?_) <;> (conv => whnf)))
 refine SLoopZ.by (fun q fr st => ∃ (i : Nat) (b : BestV), i ≤ s.nodes.length ∧ q = s.nodes.length - i ∧ evictD s p = (s.nodes.drop i).foldl (bestStep s p) b ∧ (∀ d, b = some d → ∀ (j : Nat) (y : NodeD), i ≤ j → s.nodes[j]? = some y → lessS d.1 y.name) ∧
  fr = [(21, .i .i64 i), (20, .i .i64 (s.nodes.map nodeR).length), (8, .p (.l 4) 0), (7, .b b.isSome), (6, .p (.l 3) 0), (4, .p (.l 2) 0), (3, .p (.l 1) 0), (2, .p (.l 0) 0)] ∧
  st = ⟨noG, ⟨5, [(4, .cs (costC b)), (3, .cs (doC p.name b)), (2, .cs [.s [], .s [], .sl none 1 []]), (1, .cs (podR p)), (0, .cs [.sl none 6 (s.nodes.map nodeR), .sl none 16 (s.pods.map podR)])]⟩⟩)
  s.nodes.length ⟨_, _, ?_, 0, none, Nat.zero_le _, rfl, rfl, (fun d h => by cases h), rfl, rfl⟩ ?_
 · exact tL [0, 1, 2, 3, 4]
 rintro q fr st ⟨i, b, hi, rfl, hb, hbn, rfl, rfl⟩ R hR
 generalize evictD s p = E at hb hR ⊢
 (conv => whnf)
 refine SIf.ds (fun hlt => ?_) (fun hge => ?_)
 · have hi' : i < s.nodes.length := by omega
   have he := gE hi'
   have hdr : s.nodes.drop i = s.nodes[i] :: s.nodes.drop (i + 1) := List.drop_eq_getElem_cons hi'
   rw [hdr, List.foldl_cons] at hb
   generalize s.nodes[i] = e at he hb
   have hv := rvict_ok hG hL s p e.name hs hp hnm (by omega)
   have hlater : ∀ (j : Nat) (y : NodeD), i + 1 ≤ j → s.nodes[j]? = some y → lessS e.name y.name := fun j y hj hy => pair_get hso (by omega) he hy
   cases hvd : victD s p e.name with
   | none =>
     rw [hvd] at hv
     have h1 : bestStep s p b e = b := by unfold bestStep; rw [hvd]
     rw [h1] at hb
     cases b
     all_goals ((conv => whnf); repeat ((first | refine cA (Pure.go hv rfl) ?_ | refine ye (map_get' (by omega) he) ?_ | refine zz ?_) <;> (conv => whnf)))
     all_goals refine hR (s.nodes.length - (i + 1)) _ _ (by omega) ⟨_, _, ?_, i + 1, _, by omega, rfl, hb, (fun d h j y hj => hbn d h j y (by omega)), rfl, rfl⟩
     all_goals exact tL [0, 1, 2, 3, 4]
   | some l =>
     rw [hvd] at hv
     have hll := vict_len hvd
     have hlml : (l.map strR).length = l.length := List.length_map _
     obtain ⟨cc, hcc⟩ : ∃ cc, cc = costD s l := ⟨_, rfl⟩
     cases b with
     | none =>
       have h1 : bestStep s p none e = some (e.name, l, cc) := by unfold bestStep; rw [hvd, hcc]
       rw [h1] at hb
       ((conv => whnf); repeat ((first | refine cA (Pure.go hv rfl) ?_ | refine ye (map_get' (by omega) he) ?_ | refine zz ?_) <;> (conv => whnf)))
       refine SLoopZ.by (fun q fr st => ∃ (j : Nat) (m u : Int), j ≤ l.length ∧ q = l.length - j ∧ costGo s l (-1) 0 = costGo s (l.drop j) m u ∧
        fr = [(44, .i .i64 j), (43, .i .i64 (l.map strR).length), (42, .sl none 1 (l.map strR)), (21, .i .i64 i), (20, .i .i64 (s.nodes.map nodeR).length), (13, .p (.l 5) 0), (11, .sl none 1 (l.map strR)), (10, .s e.name), (8, .p (.l 4) 0), (7, .b false), (6, .p (.l 3) 0), (4, .p (.l 2) 0), (3, .p (.l 1) 0), (2, .p (.l 0) 0)] ∧
        st = ⟨noG, ⟨6, [(5, .cs [.i .i64 m, .i .i64 (l.map strR).length, .i .i64 u]), (4, .cs (costC none)), (3, .cs (doC p.name none)), (2, .cs [.s [], .s [], .sl none 1 []]), (1, .cs (podR p)), (0, .cs [.sl none 6 (s.nodes.map nodeR), .sl none 16 (s.pods.map podR)])]⟩⟩)
        l.length ⟨_, _, ?_, 0, -1, 0, Nat.zero_le _, rfl, rfl, rfl, rfl⟩ ?_
       · exact tL [0, 1, 2, 3, 4, 5]
       rintro q fr st ⟨j, m, u, hj, rfl, hc, rfl, rfl⟩ R2 hR2
       (conv => whnf)
       refine SIf.ds (fun hlt2 => ?_) (fun hge2 => ?_)
       · have hj' : j < l.length := by omega
         have hx := gE hj'
         have hdr2 : l.drop j = l[j] :: l.drop (j + 1) := List.drop_eq_getElem_cons hj'
         rw [hdr2, costGo] at hc
         generalize l[j] = x at hx hc
         have hg := rgetpod_ok hG s x hs.pods
         obtain ⟨z, hz⟩ : ∃ z, z = (s.pods.find? fun q => q.name == x).getD podZ := ⟨_, rfl⟩
         have hpo : ∃ b : Bool, podO (s.pods.find? fun q => q.name == x) = .tup [.agg (podR z), .b b] := by
          rw [hz]
          cases s.pods.find? fun q => q.name == x with
          | none => exact ⟨_, rfl⟩
          | some q => exact ⟨_, rfl⟩
         obtain ⟨b, hb2⟩ := hpo
         rw [hb2] at hg
         rw [← hz] at hc
         ((conv => whnf); repeat ((first | refine cA (Pure.go hg rfl) ?_ | refine SOpt.of (mx2 (z := maxI m z.prio) rfl) ?_ | refine SWrap.w64 (by omega) (by omega) ?_ | refine SWrap.mk ?_ | refine ye (map_get' (by omega) hx) ?_ | refine zz ?_) <;> (conv => whnf)))
         refine hR2 (l.length - (j + 1)) _ _ (by omega) ⟨_, _, ?_, j + 1, maxI m z.prio, _, by omega, rfl, hc, rfl, rfl⟩
         exact tL [0, 1, 2, 3, 4, 5]
       have hd2 : l.drop j = [] := List.drop_of_length_le (by omega)
       rw [hd2, costGo] at hc
       have hce : cc = (m, ((l.map strR).length : Int), u) := by rw [hcc]; unfold costD; rw [hc, hlml]
       rw [hce] at hb
       ((conv => whnf); repeat ((first | refine zz ?_) <;> (conv => whnf)))
       refine hR (s.nodes.length - (i + 1)) _ _ (by omega) ⟨_, _, ?_, i + 1, some (e.name, l, (m, ((l.map strR).length : Int), u)), by omega, rfl, hb, (fun d h => by cases h; exact hlater), rfl, rfl⟩
       exact tL [0, 1, 2, 3, 4]
     | some d =>
       obtain ⟨d1, d2, k1, k2, k3⟩ := d
       ((conv => whnf); repeat ((first | refine cA (Pure.go hv rfl) ?_ | refine ye (map_get' (by omega) he) ?_ | refine zz ?_) <;> (conv => whnf)))
       refine SLoopZ.by (fun q fr st => ∃ (j : Nat) (m u : Int), j ≤ l.length ∧ q = l.length - j ∧ costGo s l (-1) 0 = costGo s (l.drop j) m u ∧
        fr = [(44, .i .i64 j), (43, .i .i64 (l.map strR).length), (42, .sl none 1 (l.map strR)), (21, .i .i64 i), (20, .i .i64 (s.nodes.map nodeR).length), (13, .p (.l 5) 0), (11, .sl none 1 (l.map strR)), (10, .s e.name), (8, .p (.l 4) 0), (7, .b true), (6, .p (.l 3) 0), (4, .p (.l 2) 0), (3, .p (.l 1) 0), (2, .p (.l 0) 0)] ∧
        st = ⟨noG, ⟨6, [(5, .cs [.i .i64 m, .i .i64 (l.map strR).length, .i .i64 u]), (4, .cs (costC (some (d1, d2, k1, k2, k3)))), (3, .cs (doC p.name (some (d1, d2, k1, k2, k3)))), (2, .cs [.s [], .s [], .sl none 1 []]), (1, .cs (podR p)), (0, .cs [.sl none 6 (s.nodes.map nodeR), .sl none 16 (s.pods.map podR)])]⟩⟩)
        l.length ⟨_, _, ?_, 0, -1, 0, Nat.zero_le _, rfl, rfl, rfl, rfl⟩ ?_
       · exact tL [0, 1, 2, 3, 4, 5]
       rintro q fr st ⟨j, m, u, hj, rfl, hc, rfl, rfl⟩ R2 hR2
       (conv => whnf)
       refine SIf.ds (fun hlt2 => ?_) (fun hge2 => ?_)
       · have hj' : j < l.length := by omega
         have hx := gE hj'
         have hdr2 : l.drop j = l[j] :: l.drop (j + 1) := List.drop_eq_getElem_cons hj'
         rw [hdr2, costGo] at hc
         generalize l[j] = x at hx hc
         have hg := rgetpod_ok hG s x hs.pods
         obtain ⟨z, hz⟩ : ∃ z, z = (s.pods.find? fun q => q.name == x).getD podZ := ⟨_, rfl⟩
         have hpo : ∃ b : Bool, podO (s.pods.find? fun q => q.name == x) = .tup [.agg (podR z), .b b] := by
          rw [hz]
          cases s.pods.find? fun q => q.name == x with
          | none => exact ⟨_, rfl⟩
          | some q => exact ⟨_, rfl⟩
         obtain ⟨b, hb2⟩ := hpo
         rw [hb2] at hg
         rw [← hz] at hc
         ((conv => whnf); repeat ((first | refine cA (Pure.go hg rfl) ?_ | refine SOpt.of (mx2 (z := maxI m z.prio) rfl) ?_ | refine SWrap.w64 (by omega) (by omega) ?_ | refine SWrap.mk ?_ | refine ye (map_get' (by omega) hx) ?_ | refine zz ?_) <;> (conv => whnf)))
         refine hR2 (l.length - (j + 1)) _ _ (by omega) ⟨_, _, ?_, j + 1, maxI m z.prio, _, by omega, rfl, hc, rfl, rfl⟩
         exact tL [0, 1, 2, 3, 4, 5]
       have hd2 : l.drop j = [] := List.drop_of_length_le (by omega)
       rw [hd2, costGo] at hc
       have hce : cc = (m, ((l.map strR).length : Int), u) := by rw [hcc]; unfold costD; rw [hc, hlml]
       have hle := rless_ok hG (m, ((l.map strR).length : Int), u) (k1, k2, k3)
       rw [hce] at hcc
       cases hlc : lessC (m, ((l.map strR).length : Int), u) (k1, k2, k3) with
       | true =>
         have h1 : bestStep s p (some (d1, d2, k1, k2, k3)) e = some (e.name, l, (m, ((l.map strR).length : Int), u)) := by unfold bestStep; rw [hvd]; dsimp only; rw [← hcc, if_pos hlc]
         rw [h1] at hb
         rw [hlc] at hle
         ((conv => whnf); repeat ((first | refine cA (Pure.go hle rfl) ?_ | refine zz ?_) <;> (conv => whnf)))
         refine hR (s.nodes.length - (i + 1)) _ _ (by omega) ⟨_, _, ?_, i + 1, some (e.name, l, (m, ((l.map strR).length : Int), u)), by omega, rfl, hb, (fun d h => by cases h; exact hlater), rfl, rfl⟩
         exact tL [0, 1, 2, 3, 4]
       | false =>
         have h1 : bestStep s p (some (d1, d2, k1, k2, k3)) e = some (d1, d2, k1, k2, k3) := by unfold bestStep; rw [hvd]; dsimp only; rw [← hcc, if_neg (by rw [hlc]; decide)]
         rw [h1] at hb
         rw [hlc] at hle
         have hnl := less_asymm (hbn _ rfl i e (Nat.le_refl _) he)
         have go : ∀ fr' st', TelR fr' st' [(21, .i .i64 ((i : Int) + 1)), (20, .i .i64 (s.nodes.map nodeR).length), (8, .p (.l 4) 0), (7, .b true), (6, .p (.l 3) 0), (4, .p (.l 2) 0), (3, .p (.l 1) 0), (2, .p (.l 0) 0)] ⟨noG, ⟨5, [(4, .cs (costC (some (d1, d2, k1, k2, k3)))), (3, .cs (doC p.name (some (d1, d2, k1, k2, k3)))), (2, .cs [.s [], .s [], .sl none 1 []]), (1, .cs (podR p)), (0, .cs [.sl none 6 (s.nodes.map nodeR), .sl none 16 (s.pods.map podR)])]⟩⟩ → R fr' st' := fun fr' st' ht =>
          hR (s.nodes.length - (i + 1)) _ _ (by omega) ⟨_, _, ht, i + 1, some (d1, d2, k1, k2, k3), by omega, rfl, hb, (fun d h j y hj => hbn d h j y (by omega)), rfl, rfl⟩
         by_cases q1 : m = k1
         · by_cases q2 : ((l.map strR).length : Int) = k2
           · by_cases q3 : u = k3
             · have hq : (!(decide (m = k1) && (decide (((l.map strR).length : Int) = k2) && (decide (u = k3) && true)))) = false := by rw [decide_eq_true q1, decide_eq_true q2, decide_eq_true q3]; rfl
               ((conv => whnf); repeat ((first | refine cA (Pure.go hle rfl) ?_ | refine SIf.ff hq ?_ | refine SIf.tt (show (!Op.bytesLess e.name d1) = true by rw [hnl]; rfl) ?_ | refine zz ?_) <;> (conv => whnf)))
               refine go _ _ ?_
               exact tL [0, 1, 2, 3, 4]
             · have hq : (!(decide (m = k1) && (decide (((l.map strR).length : Int) = k2) && (decide (u = k3) && true)))) = true := by rw [decide_eq_false q3]; simp
               ((conv => whnf); repeat ((first | refine cA (Pure.go hle rfl) ?_ | refine SIf.tt hq ?_ | refine zz ?_) <;> (conv => whnf)))
               refine go _ _ ?_
               exact tL [0, 1, 2, 3, 4]
           · have hq : (!(decide (m = k1) && (decide (((l.map strR).length : Int) = k2) && (decide (u = k3) && true)))) = true := by rw [decide_eq_false q2]; simp
             ((conv => whnf); repeat ((first | refine cA (Pure.go hle rfl) ?_ | refine SIf.tt hq ?_ | refine zz ?_) <;> (conv => whnf)))
             refine go _ _ ?_
             exact tL [0, 1, 2, 3, 4]
         · have hq : (!(decide (m = k1) && (decide (((l.map strR).length : Int) = k2) && (decide (u = k3) && true)))) = true := by rw [decide_eq_false q1]; rfl
           ((conv => whnf); repeat ((first | refine cA (Pure.go hle rfl) ?_ | refine SIf.tt hq ?_ | refine zz ?_) <;> (conv => whnf)))
           refine go _ _ ?_
           exact tL [0, 1, 2, 3, 4]
 · have hd0 : s.nodes.drop i = [] := List.drop_of_length_le (by omega)
   rw [hd0, List.foldl_nil] at hb
   subst hb
   cases E
   all_goals ((conv => whnf); repeat ((first | refine zz ?_) <;> (conv => whnf)))
   all_goals exact pure_free rfl rfl
end
end Go.Eng
/-
The same thing to do, by the document.
-/
namespace Go.Eng
open Go
section
variable {P : Program} (hG : FnsOk P AF.fns.get)
include hG
theorem eqDo_ok (pod node : Str) (l : List Str) (hl : l.length ≤ 1000) : Pure P 12 [.agg [.s pod, .s node, .sl none 1 (l.map strR)], .agg [.s pod, .s node, .sl none 1 (l.map strR)]] (· = .b true) := by
 have hlm : (l.map strR).length = l.length := List.length_map _
 have e1 : (!(pod == pod)) = false := by simp
 have e2 : (!(node == node)) = false := by simp
 have e3 : (!decide (((l.map strR).length : Int) = ((l.map strR).length : Int))) = false := by simp
 refine pure_fn (hG _ AF.f12 rfl) rfl ?_
 ((conv => whnf); repeat ((first | refine SIf.ff e1 ?_ | refine SIf.ff e2 ?_ | refine SIf.ff e3 ?_ | refine zz ?_) <;> (conv => whnf)))
 refine SLoopZ.by (fun q fr st => ∃ i : Nat, i ≤ l.length ∧ q = l.length - i ∧
  fr = [(30, .i .i64 i), (29, .i .i64 (l.map strR).length), (3, .p (.l 1) 0), (2, .p (.l 0) 0)] ∧
  st = ⟨noG, ⟨2, [(1, .cs [.s pod, .s node, .sl none 1 (l.map strR)]), (0, .cs [.s pod, .s node, .sl none 1 (l.map strR)])]⟩⟩)
  l.length ⟨_, _, ?_, 0, Nat.zero_le _, rfl, rfl, rfl⟩ ?_
 · exact tL [0, 1]
 rintro q fr st ⟨i, hi, rfl, rfl, rfl⟩ R hR
 (conv => whnf)
 refine SIf.ds (fun hlt => ?_) (fun hge => ?_)
 · have hi' : i < l.length := by omega
   have he := gE hi'
   generalize l[i] = e at he
   have e4 : (!(e == e)) = false := by simp
   ((conv => whnf); repeat ((first | refine SIf.ff e4 ?_ | refine ye (map_get' (by omega) he) ?_ | refine zz ?_) <;> (conv => whnf)))
   refine hR (l.length - (i + 1)) _ _ (by omega) ⟨_, _, ?_, i + 1, by omega, rfl, rfl, rfl⟩
   exact tL [0, 1]
 · ((conv => whnf); repeat ((first | refine zz ?_) <;> (conv => whnf)))
   exact pure_free rfl rfl
end
end Go.Eng
/-
EvictAll: who has to go for a pod at a node; at which node it is cheapest.
-/
namespace Go.Eng
open Go
section
variable {P : Program} (hG : FnsOk P AF.fns.get) (hL : okRFn P 56 AF.rlist = true)
include hG hL
theorem evictAll_ok (hb : ACall P 6 [] noG (fun r _ => r = .b true)) (hcmp : CmpOk P) (hS : SortFOk P 52 47)
 (s : StD) (p : PodD) (node : Str) (hs : s.arg) (hp : p.fit ∧ p.sok) : ACall P 3 [stV s, .agg (podR p), .s node] noG (fun r _ => r = .b true) := by
 refine fn_sz (hG _ AF.f3 rfl) rfl ?_
 ((conv => whnf); repeat ((first | refine zz ?_) <;> (conv => whnf)))
 refine ⟨hb.frame rfl fun v h' hv => ?_⟩
 subst hv
 refine ⟨rfl, ?_⟩
 ((conv => whnf); repeat ((first | refine zz ?_) <;> (conv => whnf)))
 refine SCall.mk (Pure.state (hs.cut hG) rfl fun w hw => ?_)
 have hwo := hw.ok hs
 have hsm : Small w := fun n hn => by
  have := hw.nodes.sub n hn
  omega
 have h6 : w.nodes.length ≤ 6 := hw.nodes.len
 have h16 := hw.plen
 have hroom : ∀ q ∈ w.pods, PodRoom q := fun q hq => (hw.pmay q hq).room
 have hnam := hw.pnam
 have hso := hw.nodes.so
 have hlm : (w.nodes.map nodeR).length = w.nodes.length := List.length_map _
 ((conv => whnf); repeat ((first | refine zz ?_) <;> (conv => whnf)))
 refine SLoopZ.by (fun q fr st => ∃ (i : Nat), i ≤ w.nodes.length ∧ q = w.nodes.length - i ∧
  fr = [(31, .i .i64 i), (30, .i .i64 (w.nodes.map nodeR).length), (8, .sl (some (.l 2)) 1 ((node :: (w.nodes.take i).map (·.name)).map strR)), (4, .p (.l 1) 0), (3, .p (.l 0) 0)] ∧
  st = ⟨noG, ⟨3, [(2, .spare), (1, .cs (podR p)), (0, .cs [.sl none 6 (w.nodes.map nodeR), .sl none 16 (w.pods.map podR)])]⟩⟩)
  w.nodes.length ⟨_, _, ?_, 0, Nat.zero_le _, rfl, rfl, rfl⟩ ?_
 · exact tL [0, 1, 2]
 rintro q fr st ⟨i, hi, rfl, rfl, rfl⟩ R hR
 (conv => whnf)
 refine SIf.ds (fun hlt => ?_) (fun hge => ?_)
 · have hi' : i < w.nodes.length := by omega
   have he := gE hi'
   generalize w.nodes[i] = e at he
   have hnx : (node :: (w.nodes.take i).map (·.name)).map strR ++ [[.s e.name]] = (node :: (w.nodes.take (i + 1)).map (·.name)).map strR := by rw [List.take_add_one, he]; simp [strR]
   have hrm : roomOk (((node :: (w.nodes.take i).map (·.name)).map strR).length + 1) 16 = true := by
    have : ((node :: (w.nodes.take i).map (·.name)).map strR).length ≤ 7 := by simp; omega
    exact decide_eq_true (by omega)
   ((conv => whnf); repeat ((first | refine SChk.mk hrm ?_ | refine ye (congrArg some hnx) ?_ | refine ye (map_get' (by omega) he) ?_ | refine zz ?_) <;> (conv => whnf)))
   refine hR (w.nodes.length - (i + 1)) _ _ (by omega) ⟨_, _, ?_, i + 1, by omega, rfl, rfl, rfl⟩
   exact tL [0, 1, 4]
 clear hR
 obtain ⟨N, hN⟩ : ∃ N, N = node :: (w.nodes.take i).map (·.name) := ⟨_, rfl⟩
 rw [← hN]
 have hNl : N.length ≤ 7 := by rw [hN]; simp; omega
 have hNm : (N.map strR).length = N.length := List.length_map _
 ((conv => whnf); repeat ((first | refine zz ?_) <;> (conv => whnf)))
 refine SLoopZ.by (fun q fr st => ∃ (i : Nat), i ≤ N.length ∧ q = N.length - i ∧
  fr = [(46, .i .i64 i), (45, .i .i64 (N.map strR).length), (44, .sl none 1 (N.map strR)), (4, .p (.l 1) 0), (3, .p (.l 0) 0)] ∧
  st = ⟨noG, ⟨2, [(1, .cs (podR p)), (0, .cs [.sl none 6 (w.nodes.map nodeR), .sl none 16 (w.pods.map podR)])]⟩⟩)
  N.length ⟨_, _, ?_, 0, Nat.zero_le _, rfl, rfl, rfl⟩ ?_
 · exact tL [0, 1]
 rintro q fr st ⟨i, hi, rfl, rfl, rfl⟩ R hR
 (conv => whnf)
 refine SIf.ds (fun hlt => ?_) (fun hge => ?_)
 · have hi' : i < N.length := by omega
   have he := gE hi'
   generalize N[i] = e at he
   have k1 := vict_ok hG hcmp hS w p e hwo hp.1 hsm (by omega) (by omega) hroom
   have k2 := rvict_ok hG hL w p e hwo hp.1.toOk hnam (by omega)
   cases hvd : victD w p e with
   | none =>
     rw [hvd] at k1 k2
     ((conv => whnf); repeat ((first | refine cA (Pure.go k1 rfl) ?_ | refine cA (Pure.go k2 rfl) ?_ | refine ye (map_get' (by omega) he) ?_ | refine zz ?_ | refine SLoopZ.un rfl ?_) <;> (conv => whnf)))
     refine hR (N.length - (i + 1)) _ _ (by omega) ⟨_, _, ?_, i + 1, by omega, rfl, rfl, rfl⟩
     exact tL [0, 1]
   | some l =>
     rw [hvd] at k1 k2
     have hll := vict_len hvd
     have hlml : (l.map strR).length = l.length := List.length_map _
     ((conv => whnf); repeat ((first | refine cA (Pure.go k1 rfl) ?_ | refine cA (Pure.go k2 rfl) ?_ | refine SIf.nf rfl ?_ | refine ye (map_get' (by omega) he) ?_ | refine zz ?_) <;> (conv => whnf)))
     refine SLoopZ.by (fun q fr st => ∃ (j : Nat), j ≤ l.length ∧ q = l.length - j ∧
      fr = [(76, .i .i64 j), (75, .i .i64 (l.map strR).length), (46, .i .i64 i), (45, .i .i64 (N.map strR).length), (44, .sl none 1 (N.map strR)), (14, .sl none 1 (l.map strR)), (12, .sl none 1 (l.map strR)), (4, .p (.l 1) 0), (3, .p (.l 0) 0)] ∧
      st = ⟨noG, ⟨2, [(1, .cs (podR p)), (0, .cs [.sl none 6 (w.nodes.map nodeR), .sl none 16 (w.pods.map podR)])]⟩⟩)
      l.length ⟨_, _, ?_, 0, Nat.zero_le _, rfl, rfl, rfl⟩ ?_
     · exact tL [0, 1]
     rintro q fr st ⟨j, hj, rfl, rfl, rfl⟩ R2 hR2
     (conv => whnf)
     refine SIf.ds (fun hlt2 => ?_) (fun hge2 => ?_)
     · have hj' : j < l.length := by omega
       have hx := gE hj'
       generalize l[j] = x at hx
       have e4 : (!(x == x)) = false := by simp
       ((conv => whnf); repeat ((first | refine SIf.ff e4 ?_ | refine ye (map_get' (by omega) hx) ?_ | refine zz ?_) <;> (conv => whnf)))
       refine hR2 (l.length - (j + 1)) _ _ (by omega) ⟨_, _, ?_, j + 1, by omega, rfl, rfl, rfl⟩
       exact tL [0, 1]
     · ((conv => whnf); repeat ((first | refine zz ?_) <;> (conv => whnf)))
       refine hR (N.length - (i + 1)) _ _ (by omega) ⟨_, _, ?_, i + 1, by omega, rfl, rfl, rfl⟩
       exact tL [0, 1]
 · clear hR
   have k1 := evbest_ok hG hcmp hS w p hwo hp.1 hsm h6 (by omega) hroom hso
   have k2 := revict_ok hG hL w p hwo hp.1.toOk hnam h6 (by omega) hso
   cases hev : evictD w p with
   | none =>
     rw [hev] at k1 k2
     have k3 := eqDo_ok hG [] [] [] (Nat.zero_le _)
     ((conv => whnf); repeat ((first | refine cA (Pure.go k1 rfl) ?_ | refine cA (Pure.go k2 rfl) ?_ | refine cA (Pure.go k3 rfl) ?_ | refine zz ?_) <;> (conv => whnf)))
   | some d =>
     obtain ⟨d1, d2, dc⟩ := d
     rw [hev] at k1 k2
     have k3 := eqDo_ok hG p.name d1 d2 (by have : d2.length ≤ w.pods.length := vict_len (evict_vict hev); omega)
     ((conv => whnf); repeat ((first | refine cA (Pure.go k1 rfl) ?_ | refine cA (Pure.go k2 rfl) ?_ | refine cA (Pure.go k3 rfl) ?_ | refine zz ?_) <;> (conv => whnf)))
end
end Go.Eng
