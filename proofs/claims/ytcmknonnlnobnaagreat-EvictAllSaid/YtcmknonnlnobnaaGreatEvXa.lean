/-
A map of names.
-/
import Derived.Test.YtcmknonnlnobnaaGreatFitA
import Derived.Test.YtcmknonnlnobnaaGreatEngD
import Derived.Test.YtcmknonnlnobnaaGreatFitD
import Derived.Test.YtcmknonnlnobnaaGreatEngE
import Derived.Test.YtcmknonnlnobnaaGreatEngB
import Derived.Test.YtcmknonnlnobnaaGreatSync
import Derived.Test.YtcmknonnlnobnaaGreatAfR
import Derived.Test.YtcmknonnlnobnaaGreatWiS
import Derived.Sort.KeysCollected
import Derived.Sort.Walk0
import Derived.Test.YtcmknonnlnobnaaGreatWiA
import Derived.Test.YtcmknonnlnobnaaGreatEvQ
set_option linter.unusedVariables false
set_option linter.unusedSimpArgs false
set_option maxHeartbeats 8000000
set_option maxRecDepth 10000
namespace Go.Eng
open Go
theorem keyEq_ss (x y : Str) : keyEq (.s x) (.s y) = decide (x = y) := by
 show (x == y) = _
 by_cases h : x = y
 · simp [h]
 · rw [beq_false_of_ne h, decide_eq_false h]
def seenK (S : List Str) : List (V × V) := S.map fun x => (V.s x, V.b true)
theorem mputK_new : ∀ {S : List Str} {x : Str}, x ∉ S → mput (seenK S) (.s x) (.b true) = seenK (S ++ [x])
 | [], x, _ => rfl
 | y :: r, x, h => by
   simp only [seenK, List.map_cons, mput, List.cons_append, keyEq_ss]
   have h1 : x ≠ y := by rintro rfl; exact h (.head _)
   rw [if_neg (by simpa using h1)]
   have := mputK_new (S := r) (x := x) fun hx => h (.tail _ hx)
   simp only [seenK] at this
   rw [this]
end Go.Eng
/-
Arguments told less of, pointers left as they are.
-/
namespace Go.Eng
open Go
def LeL : List V → List V → Prop
 | [], [] => True
 | u :: r, v :: q => (u = v ∨ Ce1 ren0 ⟨0, 0⟩ noFz u v) ∧ LeL r q
 | _, _ => False
theorem LeL.spec : ∀ {l r : List V}, LeL l r → l.length = r.length ∧ ∀ (j : Nat) (v : V), r[j]? = some v → ∃ u, l[j]? = some u ∧ (u = v ∨ Ce1 ren0 ⟨0, 0⟩ noFz u v)
 | [], [], _ => ⟨rfl, fun j v h => by simp at h⟩
 | [], _ :: _, h => h.elim
 | _ :: _, [], h => h.elim
 | u :: r, v :: q, h => by
   obtain ⟨h1, h2⟩ := h
   obtain ⟨c1, c2⟩ := LeL.spec h2
   refine ⟨by simp [c1], fun j x hj => ?_⟩
   cases j with
   | zero => simp at hj; subst hj; exact ⟨u, rfl, h1⟩
   | succ j => simp at hj; obtain ⟨y, hy, hc⟩ := c2 j x hj; exact ⟨y, by simpa using hy, hc⟩
theorem ACall.leq {P : Program} {f : Nat} {args args' : List V} {h : Heap} {K : V → Heap → Prop} (hr : LeL args args') (h0 : ACall P f args' h K) : ACall P f args h K := by
 refine ⟨h0.1, fun E w vs hnl hs hv => h0.2 E w vs hnl hs ?_⟩
 obtain ⟨c1, c2⟩ := hr.spec
 refine ⟨by have := hv.1; omega, fun j v x hj hx => ?_⟩
 obtain ⟨u, hu, hc | hc⟩ := c2 j v hj
 · subst hc; exact hv.2 j u x hu hx
 · exact ce1_nw hc (hv.2 j u x hu hx)
theorem ACall.tell {P : Program} {f : Nat} {args : List V} {h : Heap} {K K2 : V → Heap → Prop} (hA : ACall P f args h K) (hm : ∀ v h', K v h' → ∃ v', (∀ (E : Env) (x : Value), Rel E v x → Rel E v' x) ∧ K2 v' h') : ACall P f args h K2 :=
 ⟨hA.1, fun E w vs hn hs hv => (hA.2 E w vs hn hs hv).mono fun _ _ ⟨v, x, h', E', h1, h2, h3, h4, h5, h6⟩ => by
  obtain ⟨v', q1, q2⟩ := hm v h' h1
  exact ⟨v', x, h', E', q2, h2, h3, h4, h5, q1 E' x h6⟩⟩
theorem ce_same (k : Nat) (rows : List (List V)) : Ce ren0 ⟨0, 0⟩ noFz (.sl none k rows) (.sl none k rows) := .ren (ren0_id _).symm trivial
theorem rel_ce {u v : V} (hc : Ce ren0 ⟨0, 0⟩ noFz u v) (E : Env) (x : Value) (h : Rel E u x) : Rel E v x := ce1_nw (.inl hc) h
theorem rel_agg {cs ds : List V} (hc : CeL ren0 ⟨0, 0⟩ noFz cs ds) (E : Env) (x : Value) (h : Rel E (.agg cs) x) : Rel E (.agg ds) x := ce1_nw (.inr (.inl ⟨_, _, rfl, rfl, hc⟩)) h
end Go.Eng
/-
How names are compared: an order.
-/
namespace Go.Eng
open Go
theorem cmpB_refl : ∀ a : Str, cmpB a a = 0
 | [] => rfl
 | a :: r => by
   unfold cmpB
   have h1 : Nat.blt a.toNat a.toNat = false := by rw [Bool.eq_false_iff]; exact fun hc => by have := (Nat.blt_eq ▸ hc : a.toNat < a.toNat); omega
   rw [h1]
   exact cmpB_refl r
theorem cmpB_neg : ∀ a b : Str, cmpB b a = - cmpB a b
 | [], [] => rfl
 | [], _ :: _ => rfl
 | _ :: _, [] => rfl
 | a :: r, b :: q => by
   unfold cmpB
   cases h1 : Nat.blt a.toNat b.toNat <;> cases h2 : Nat.blt b.toNat a.toNat
   · exact cmpB_neg r q
   · rfl
   · rfl
   · exfalso
     have e1 := (Nat.blt_eq ▸ h1 : a.toNat < b.toNat)
     have e2 := (Nat.blt_eq ▸ h2 : b.toNat < a.toNat)
     omega
theorem cmpB_lt {a b : Str} : decide (cmpB a b < 0) = Op.bytesLess a b := by
 cases h : Op.bytesLess a b with
 | true =>
   have := cmpB_of_less h
   rw [cmpB_neg a b] at this
   exact decide_eq_true (by omega)
 | false =>
   refine decide_eq_false fun hc => ?_
   by_cases e : a = b
   · rw [e, cmpB_refl] at hc; omega
   · have := cmpB_of_less (less_tri h e)
     omega
theorem Sim.spares {E : Env} {st : St} {w w' : World} (h : Sim E st w) {os : Array Go.Obj} (hh : w'.heap = w.heap ++ os) (h1 : w'.os = w.os) (h2 : w'.output = w.output) (h3 : w'.tape = w.tape) : Sim E st w' ∧ Ext E st w E st w' := by
 have hold : ∀ b, b < w.heap.size → w'.heap[b]? = w.heap[b]? := fun b hb => by rw [hh, Array.getElem?_append_left hb]
 have hImm : ∀ b j x, E.I b j = some x → b < w.heap.size := by
  intro b j x hx
  have := h.imm b j x hx
  simp only [cellIn] at this
  rcases Nat.lt_or_ge b w.heap.size with hl | hl
  · exact hl
  · simp [Array.getElem?_eq_none hl] at this
 refine ⟨⟨h.ng, h.nl, h.dom, fun b j x hx => ?_, fun k o hk => (h.obj k o hk).keep (Env.at_mono (.refl E) k) (hold _ (h.lt ⟨o, hk⟩)), h.sep, h.own⟩,
  ⟨.refl E, by rw [hh]; simp, fun _ _ _ h => .inl h, fun _ h _ => h, fun k h _ => .inr ⟨k, h, rfl⟩, fun b hb _ => hold b hb, h1, h2, h3⟩⟩
 have := h.imm b j x hx
 simp only [cellIn, hold b (hImm b j x hx)] at *
 exact this
theorem flat_str : ∀ (l : List Str) (j : Nat), (l.map strR).flatten[j]? = (l[j]?).map V.s
 | [], j => rfl
 | x :: r, 0 => rfl
 | x :: r, j + 1 => by
   show (strR x ++ (r.map strR).flatten)[j + 1]? = _
   rw [List.getElem?_append_right (by simp [strR])]
   simp only [strR, List.length_cons, List.length_nil, Nat.zero_add, Nat.add_sub_cancel, List.getElem?_cons_succ]
   exact flat_str r j
theorem rel_string {E : Env} {s : Str} {x : Value} (h : Rel E (.s s) x) : x = .string (str s) := by
 cases h with
 | deep hd => cases hd; rfl
theorem rel_msS {E : Env} {k : Key} {sz s len : Nat} {x : Value} (h : Rel E (.ms k sz s len) x) (hl : 0 < len) :
 ∃ cap, x = .slice (some ⟨(E.μ k).blk, (E.μ k).base + s * sz, none⟩) len cap ∧ E.has k ∧ len ≤ cap ∧ (E.μ k).base + (s + cap) * sz = (E.μ k).fin := by
 cases h with
 | deep hd => cases hd
 | ms _ _ _ _ a cap hk hc hf hb ha =>
   rcases ha with ha | ha
   · omega
   · subst ha
     exact ⟨cap, rfl, hk, hc, hf⟩
end Go.Eng
/-
The document's list of a map's names: they rise.
-/
namespace Go.Eng
open Go
theorem sortE_le : (fun x y : Str => !decide (cmpB y x < 0)) = Go.leB := by
 funext x y
 rw [cmpB_lt, Go.Proofs.bytesLess_eq]
 simp only [Go.leB]
 by_cases h : y < x
 · rw [decide_eq_true h, decide_eq_false (List.not_le.2 h)]; rfl
 · rw [decide_eq_false h, decide_eq_true (List.not_lt.1 h)]; rfl
theorem sortE_of {l S : List Str} (hp : S.Perm l) (hl : l.Pairwise lessS) : sortE S = l := by
 unfold sortE
 rw [sortE_le, Go.mergeSort_of_perm hp]
 refine List.mergeSort_of_pairwise (hl.imp fun {a b} h => ?_)
 unfold lessS at h
 rw [Go.Proofs.bytesLess_eq, decide_eq_true_eq] at h
 simp only [Go.leB, decide_eq_true_eq]
 exact List.le_of_lt h
theorem ins_rise {l : List Str} {n : Str} {k : Nat} (hl : l.Pairwise lessS) (h1 : ∀ x ∈ l.take k, lessS x n) (h2 : ∀ x ∈ l.drop k, lessS n x) : (l.take k ++ [n] ++ l.drop k).Pairwise lessS := by
 have hp : (l.take k ++ l.drop k).Pairwise lessS := by rw [List.take_append_drop]; exact hl
 rw [List.pairwise_append] at hp
 rw [List.append_assoc, List.pairwise_append]
 refine ⟨hp.1, List.pairwise_cons.2 ⟨h2, hp.2.1⟩, fun a ha b hb => ?_⟩
 cases hb with
 | head => exact h1 a ha
 | tail _ hb => exact hp.2.2 a ha b hb
theorem drop_less {l : List Str} {n y : Str} {k : Nat} (hl : l.Pairwise lessS) (hy : l[k]? = some y) (h : lessS n y) : ∀ x ∈ l.drop k, lessS n x := by
 intro x hx
 obtain ⟨j, hj⟩ := List.mem_iff_getElem?.1 hx
 rw [List.getElem?_drop] at hj
 cases j with
 | zero => rw [Nat.add_zero, hy] at hj; cases hj; exact h
 | succ j => exact less_trans h (pair_get hl (by omega) hy hj)
theorem ins_perm {l T1 T2 S : List Str} {e : Str} {k : Nat} (h : (l ++ (T1 ++ e :: T2)).Perm S) : (l.take k ++ [e] ++ l.drop k ++ (T1 ++ T2)).Perm S := by
 refine List.Perm.trans ?_ h
 have h1 : (l ++ (T1 ++ e :: T2)).Perm (e :: (l ++ (T1 ++ T2))) := by
  rw [← List.append_assoc, ← List.append_assoc]
  exact List.perm_middle
 have h2 : (l.take k ++ [e] ++ l.drop k ++ (T1 ++ T2)).Perm (e :: (l ++ (T1 ++ T2))) := by
  have : l.take k ++ [e] ++ l.drop k ++ (T1 ++ T2) = l.take k ++ e :: (l.drop k ++ (T1 ++ T2)) := by simp
  rw [this]
  refine List.perm_middle.trans ?_
  rw [← List.append_assoc, List.take_append_drop]
 exact h2.trans h1.symm
theorem seenK_split {T : List Str} {L1 L2 : List (V × V)} {x : V × V} (h : seenK T = L1 ++ x :: L2) : ∃ T1 e T2, T = T1 ++ e :: T2 ∧ L1 = seenK T1 ∧ x = (.s e, .b true) ∧ L2 = seenK T2 := by
 unfold seenK at h
 obtain ⟨T1, r, rfl, h1, h2⟩ := List.map_eq_append_iff.1 h
 obtain ⟨e, T2, rfl, h3, h4⟩ := List.map_eq_cons_iff.1 h2
 exact ⟨T1, e, T2, rfl, h1.symm, h3.symm, h4.symm⟩
def StrP (ev : V) (es : List Str) : Prop := (es = [] ∧ ev = .nils) ∨ (0 < es.length ∧ ∃ t, ev = .sl (some (.l t)) 1 (es.map strR))
section
variable {P : Program} (hL : okRFn P 56 AF.rlist = true)
include hL
theorem rlist0_at {h : Heap} {mk : Nat} (S : List Str) (hS : S.Nodup) (hl : S.length ≤ 1000) (hm : h.get mk = some (.mp none (seenK S))) {K : V → Heap → Prop} (hK : ∀ ev, (sortE S = [] ∧ ev = .nils) ∨ ev = .sl none 1 ((sortE S).map strR) → K ev h) :
 ACall P 56 [.m (.g mk)] h K := by
 refine fn_rv hL rfl ?_
 ((conv => whnf); repeat ((first | refine ye (hm) ?_ | refine zz ?_) <;> (conv => whnf)))
 refine SRng.by (fun left fr st => ∃ (l : List Str) (lo : Heap) (ev : V) (T : List Str), left = seenK T ∧ (l ++ T).Perm S ∧ l.Pairwise lessS ∧ StrP ev l ∧
  Fr.le [(7, .p (.l 0) 0), (3, ev)] fr ∧ st = ⟨h.remove mk, lo⟩) ⟨[], _, .nils, S, rfl, .refl _, .nil, .inl ⟨rfl, rfl⟩, fle, rfl⟩ ?_
 rintro left fr st ⟨l, lo, ev, T, rfl, hp, hr, hev, hle0, rfl⟩
 refine ⟨_, hle0, fun R hR => ⟨rfl, fun hnil => ?_, fun L1 x L2 hx => ?_⟩⟩
 · have hT : T = [] := List.map_eq_nil_iff.1 hnil
   subst hT
   rw [List.append_nil] at hp
   have hso := sortE_of hp.symm hr
   refine ⟨⟨h, lo⟩, St.same_back hm, ?_⟩
   rw [hso] at hK
   rcases hev with ⟨rfl, rfl⟩ | ⟨hA, t, rfl⟩
   · ((conv => whnf); repeat ((first | refine zz ?_) <;> (conv => whnf)))
     exact hK _ (.inl ⟨rfl, rfl⟩)
   · ((conv => whnf); repeat ((first | refine zz ?_) <;> (conv => whnf)))
     exact hK _ (.inr rfl)
 · obtain ⟨T1, e, T2, rfl, rfl, rfl, rfl⟩ := seenK_split hx
   have hnd := (hp.nodup_iff).2 hS
   have hne : e ∉ l := fun hc => (List.nodup_append.1 hnd).2.2 e hc e (by simp) rfl
   have hll : l.length ≤ 1000 := by have := hp.length_eq; rw [List.length_append] at this; omega
   have done : ∀ (k : Nat) (lo' : Heap) (fr' : Fr) (t : Nat), (∀ x ∈ l.take k, lessS x e) → (∀ x ∈ l.drop k, lessS e x) → Fr.le [(7, .p (.l 0) 0), (3, .sl (some (.l t)) 1 ((l.take k ++ [e] ++ l.drop k).map strR))] fr' → R (seenK T1 ++ seenK T2) fr' ⟨h.remove mk, lo'⟩ := fun k lo' fr' t h1 h2 hf =>
    hR _ _ _ (by simp [seenK]) ⟨l.take k ++ [e] ++ l.drop k, lo', _, T1 ++ T2, by simp [seenK], ins_perm hp, ins_rise hr h1 h2, .inr ⟨by simp; omega, t, rfl⟩, hf, rfl⟩
   rcases hev with ⟨rfl, rfl⟩ | ⟨hA, t, rfl⟩
   · ((conv => whnf); repeat ((first | refine SLoopV.un rfl ?_ | refine zz ?_) <;> (conv => whnf)))
     exact done 0 _ _ _ (fun x hx => by cases hx) (fun x hx => by cases hx) fle
   · have hlm : (l.map strR).length = l.length := List.length_map _
     ((conv => whnf); repeat ((first | refine zz ?_) <;> (conv => whnf)))
     refine SLoopV.by (fun q fr st => ∃ k : Nat, k ≤ l.length ∧ q = l.length - k ∧ (∀ x ∈ l.take k, lessS x e) ∧
      Fr.le [(7, .p (.l 0) 0), (5, .i .i64 k), (4, .s e), (3, .sl (some (.l t)) 1 (l.map strR))] fr ∧ st = ⟨h.remove mk, lo⟩)
      l.length ⟨0, Nat.zero_le _, rfl, (fun x hx => by cases hx), fle, rfl⟩ ?_
     rintro q fr st ⟨k, hk, rfl, hless, hle1, rfl⟩
     refine ⟨_, hle1, fun R2 hR2 => ?_⟩
     obtain ⟨A, hA'⟩ : ∃ A, A = l.take k := ⟨_, rfl⟩
     obtain ⟨B, hB⟩ : ∃ B, B = l.drop k := ⟨_, rfl⟩
     have hT : ((l.map strR).take ((k : Nat) : Int).toNat).drop (Int.toNat 0) = A.map strR := by rw [Int.toNat_natCast, ← List.map_take, hA']; rfl
     have hD : (l.map strR).drop ((k : Nat) : Int).toNat = B.map strR := by rw [Int.toNat_natCast, ← List.map_drop, hB]
     have hAl : A.length ≤ 1000 := by rw [hA']; exact Nat.le_trans (List.length_take_le _ _) (by omega)
     have hBl : B.length ≤ 1000 := by rw [hB, List.length_drop]; omega
     have done2 := fun lo' fr' t => done k lo' fr' t hless
     rw [← hA', ← hB] at done2
     by_cases hlt : k < l.length
     · have hf := gE hlt
       generalize l[k] = f at hf
       ((conv => whnf); repeat ((first | refine SIf.dt (show (k : Int) < (l.map strR).length by omega) ?_ | refine SChk.ix (by omega) (by omega) ?_ | refine ye (map_get' (f := strR) (by omega) hf) ?_ | refine zz ?_) <;> (conv => whnf)))
       cases hc : Op.bytesLess f e
       · have hd2 := fun lo' fr' t => done2 lo' fr' t (by rw [hB]; exact drop_less hr hf (less_tri hc fun h => hne (h ▸ List.mem_of_getElem? hf)))
         cases A <;> cases B
         all_goals ((conv => whnf); repeat ((first | refine ye (congrArg some hT) ?_ | refine ye (congrArg some hD) ?_ | refine SSame.mk (congrArg (V.sl (some (Key.l t)) 1) hD.symm) ?_ | refine ye (deep_map (R := strR) (fun _ => rfl) _) ?_ | refine ye (congrArg some (List.map_append (f := strR) (l₂ := [e])).symm) ?_ | refine ye (congrArg some (List.map_append (f := strR)).symm) ?_ | refine SChk.mk (by simp only [roomOk, List.length_map, List.length_append, List.length_cons, List.length_nil, decide_eq_true_eq] at *; omega) ?_ | refine ye (Heap.get_push_self _ _) ?_ | refine zz ?_) <;> (conv => whnf)))
         all_goals (try rw [List.append_nil] at hd2)
         all_goals exact hd2 _ _ _ fle
       · ((conv => whnf); repeat ((first | refine SWrap.w64 (by omega) (by omega) ?_ | refine zz ?_) <;> (conv => whnf)))
         exact hR2 (l.length - (k + 1)) _ _ (by omega) ⟨k + 1, by omega, rfl, (fun x hx => by
           rw [List.take_add_one, hf] at hx
           rcases List.mem_append.1 hx with h1 | h1
           · exact hless x h1
           · rw [List.mem_singleton.1 h1]; exact hc), fle, rfl⟩
     · obtain rfl : k = l.length := by omega
       rw [List.drop_eq_nil_of_le (Nat.le_refl _)] at hB
       subst hB
       have hd2 := fun lo' fr' t => done2 lo' fr' t (fun x hx => by cases hx)
       cases A
       all_goals ((conv => whnf); repeat ((first | refine SIf.df (show ¬ ((l.length : Nat) : Int) < (l.map strR).length by omega) ?_ | refine ye (congrArg some hT) ?_ | refine ye (congrArg some hD) ?_ | refine SSame.mk (congrArg (V.sl (some (Key.l t)) 1) hD.symm) ?_ | refine ye (deep_map (R := strR) (fun _ => rfl) _) ?_ | refine ye (congrArg some (List.map_append (f := strR) (l₂ := [e])).symm) ?_ | refine ye (congrArg some (List.map_append (f := strR)).symm) ?_ | refine SChk.mk (by simp only [roomOk, List.length_map, List.length_append, List.length_cons, List.length_nil, decide_eq_true_eq] at *; omega) ?_ | refine ye (Heap.get_push_self _ _) ?_ | refine zz ?_) <;> (conv => whnf)))
       all_goals (try rw [List.append_nil] at hd2)
       all_goals exact hd2 _ _ _ fle
theorem rlist_at {h : Heap} {mk : Nat} (S : List Str) (hS : S.Nodup) (hl : S.length ≤ 1000) (hm : h.get mk = some (.mp none (seenK S))) {K : V → Heap → Prop} (hK : K (.sl none 1 ((sortE S).map strR)) h) : ACall P 56 [.m (.g mk)] h K := by
 refine ACall.tell (rlist0_at hL S hS hl hm (K := fun v h' => h' = h ∧ ((sortE S = [] ∧ v = .nils) ∨ v = .sl none 1 ((sortE S).map strR))) fun ev hev => ⟨rfl, hev⟩) ?_
 rintro v h' ⟨rfl, hv⟩
 refine ⟨.sl none 1 ((sortE S).map strR), fun E x hx => ?_, hK⟩
 rcases hv with ⟨h1, rfl⟩ | rfl
 · rw [h1]
   exact rel_ce .nil E x hx
 · exact hx
end
end Go.Eng
/-
A state without some pods, by the document.
-/
namespace Go.Eng
open Go
def OutP (lo : Heap) (ev : V) (es : List PodD) : Prop := (es = [] ∧ ev = .nils) ∨ (0 < es.length ∧ ∃ t, ev = .sl (some (.l t)) 16 (es.map podR) ∧ 2 < t ∧ t < lo.next ∧ lo.get t = some .spare)
theorem keepD_take {l : List PodD} {i : Nat} {e : PodD} (h : l[i]? = some e) (gs : List Str) : (l.take (i + 1)).filter (fun q => !(gs.any fun g => q.name == g)) = (l.take i).filter (fun q => !(gs.any fun g => q.name == g)) ++ (if (gs.any fun g => e.name == g) = true then [] else [e]) := by
 rw [List.take_add_one, h, List.filter_append]
 cases c : gs.any fun g => e.name == g <;> simp [c]
theorem any_str {l : List Str} {j : Nat} {x : Str} (h : l[j]? = some x) (y : Str) : ((l.take (j + 1)).any fun g => y == g) = (((l.take j).any fun g => y == g) || x == y) := by
 rw [List.take_add_one, h, List.any_append]
 have : (y == x) = (x == y) := by
  by_cases c : y = x
  · rw [c]
  · rw [beq_false_of_ne c, beq_false_of_ne (Ne.symm c)]
 simp [this]
theorem res_goL {fr : Fr} {st : St} {rs : List RV} {v : V} {K : V → Heap → Prop} (h : resOf fr st rs = some v) (hK : K v st.g) : retK rs K .ret fr st := by
 show (match resOf fr st rs with | some v => K v st.g | none => False)
 rw [h]; exact hK
theorem resOf_c1 {fr : Fr} {st : St} {k n : Nat} {j : Key} {c : List V} {v u : V} (h1 : fr.get k = .p j 0) (h2 : st.get j = some (.cs c)) (h3 : ldCells c 0 (some n) = some v) (h5 : v.pass = some u) : resOf fr st [.cell k (some n)] = some u := by
 have e1 : resVal fr st (.cell k (some n)) = some u := by
  unfold resVal
  simp only [h1, h2, h3, h5]
 unfold resOf
 simp only [resVals, e1]
section
variable {P : Program} (hG : FnsOk P AF.fns.get)
include hG
theorem rwoL0_at {h : Heap} (s : StD) (hs : s.ok) (l : List Str) (hl : l.length ≤ 1000) {K : V → Heap → Prop} (hK : ∀ ev, (withoutD s l).pods = [] ∧ ev = .nils ∨ ev = .sl none 16 ((withoutD s l).pods.map podR) → K (.agg [.sl none 6 (s.nodes.map nodeR), ev]) h) :
 ACall P 55 [stV s, .sl none 1 (l.map strR)] h K := by
 have hlm : (s.pods.map podR).length = s.pods.length := List.length_map _
 have hll : (l.map strR).length = l.length := List.length_map _
 have hlp := hs.pods
 have hsm := hs.some
 unfold LenOk at hlp
 refine fn_sv (hG _ AF.f55 rfl) rfl ?_
 ((conv => whnf); repeat ((first | refine zz ?_) <;> (conv => whnf)))
 refine SLoopV.by (fun q fr st => ∃ (i : Nat) (lo : Heap) (ev : V), i ≤ s.pods.length ∧ q = s.pods.length - i ∧ 2 < lo.next ∧ lo.get 0 = some (.cs [.sl none 6 (s.nodes.map nodeR), .sl none 16 (s.pods.map podR)]) ∧ lo.get 1 = some (.cs [.nils, .nils]) ∧ lo.get 2 = some (.cs [.sl none 6 (s.nodes.map nodeR), ev]) ∧
  OutP lo ev ((s.pods.take i).filter fun q => !(l.any fun g => q.name == g)) ∧
  Fr.le [(16, .i .i64 i), (15, .i .i64 (s.pods.map podR).length), (5, .p (.l 2) 0), (4, .p (.l 1) 0), (2, .p (.l 0) 0), (1, .sl none 1 (l.map strR))] fr ∧ st = ⟨h, lo⟩)
  s.pods.length ⟨0, _, .nils, Nat.zero_le _, rfl, Nat.lt_succ_self _, rfl, rfl, rfl, .inl ⟨rfl, rfl⟩, fle, rfl⟩ ?_
 rintro q fr st ⟨i, lo, ev, hi, rfl, h2, g0, g1, g2, hev, hle0, rfl⟩
 refine ⟨_, hle0, fun R hR => ?_⟩
 by_cases hin : i < s.pods.length
 · have he := gE hin
   generalize s.pods[i] = e at he
   have hst := keepD_take he l
   have hfl : ((s.pods.take i).filter fun q => !(l.any fun g => q.name == g)).length ≤ i := Nat.le_trans (List.length_filter_le _ _) (by rw [List.length_take]; omega)
   generalize (s.pods.take i).filter (fun q => !(l.any fun g => q.name == g)) = A at hev hst hfl
   ((conv => whnf); repeat ((first | refine SIf.dt (show (i : Int) < (s.pods.map podR).length by omega) ?_ | refine zz ?_) <;> (conv => whnf)))
   refine SLoopV.by (fun q fr st => ∃ (j : Nat) (b : Bool), j ≤ l.length ∧ q = l.length - j ∧ b = ((l.take j).any fun g => e.name == g) ∧
    Fr.le [(21, .i .i64 j), (20, .i .i64 (l.map strR).length), (19, .sl none 1 (l.map strR)), (16, .i .i64 i), (15, .i .i64 (s.pods.map podR).length), (7, .b b), (6, .i .i64 i), (5, .p (.l 2) 0), (4, .p (.l 1) 0), (2, .p (.l 0) 0), (1, .sl none 1 (l.map strR))] fr ∧ st = ⟨h, lo⟩)
    l.length ⟨0, false, Nat.zero_le _, rfl, rfl, fle, rfl⟩ ?_
   rintro q fr st ⟨j, b, hj, rfl, hb, hle1, rfl⟩
   refine ⟨_, hle1, fun R2 hR2 => ?_⟩
   by_cases hjn : j < l.length
   · have hx := gE hjn
     generalize l[j] = x at hx
     have hs2 := any_str hx e.name
     cases b
     · ((conv => whnf); repeat ((first | refine SIf.dt (show (j : Int) < (l.map strR).length by omega) ?_ | refine SChk.ix (by omega) (by omega) ?_ | refine SWrap.w64 (by omega) (by omega) ?_ | refine ye (map_get' (f := strR) (by omega) hx) ?_ | refine ye (g0) ?_ | refine ye (map_get' (f := podR) (by omega) he) ?_ | refine zz ?_) <;> (conv => whnf)))
       exact hR2 (l.length - (j + 1)) _ _ (by omega) ⟨j + 1, _, by omega, rfl, by first | (rw [hs2, ← hb]; done) | (rw [hs2, ← hb]; rfl), fle, rfl⟩
     · ((conv => whnf); repeat ((first | refine SIf.dt (show (j : Int) < (l.map strR).length by omega) ?_ | refine SChk.ix (by omega) (by omega) ?_ | refine SWrap.w64 (by omega) (by omega) ?_ | refine ye (map_get' (f := strR) (by omega) hx) ?_ | refine ye (g0) ?_ | refine ye (map_get' (f := podR) (by omega) he) ?_ | refine zz ?_) <;> (conv => whnf)))
       exact hR2 (l.length - (j + 1)) _ _ (by omega) ⟨j + 1, true, by omega, rfl, by first | (rw [hs2, ← hb]; done) | (rw [hs2, ← hb]; rfl), fle, rfl⟩
   obtain rfl : j = l.length := by omega
   rw [List.take_length] at hb
   rw [← hb] at hst
   cases b
   · simp only [Bool.false_eq_true, if_false] at hst
     have f2 : (lo.push .spare).get 2 = some (.cs [.sl none 6 (s.nodes.map nodeR), ev]) := Heap.gp (by omega) g2
     rcases hev with ⟨rfl, rfl⟩ | ⟨hA, t, rfl, ht1, ht2, ht3⟩
     · have f3 : ((lo.push .spare).push .spare).get 2 = some (.cs [.sl none 6 (s.nodes.map nodeR), .nils]) := Heap.gp (by show 2 ≠ lo.next + 1; omega) f2
       ((conv => whnf); repeat ((first | refine SIf.df (show ¬ ((l.length : Nat) : Int) < (l.map strR).length by omega) ?_ | refine SChk.ix (by omega) (by omega) ?_ | refine SWrap.w64 (by omega) (by omega) ?_ | refine ye (g2) ?_ | refine ye (g0) ?_ | refine ye (f2) ?_ | refine ye (f3) ?_ | refine ye (map_get' (f := podR) (by omega) he) ?_ | refine zz ?_) <;> (conv => whnf)))
       refine hR (s.pods.length - (i + 1)) _ _ (by omega) ⟨i + 1, _, .sl (some (.l (lo.next + 1))) 16 [podR e], by omega, rfl, ?_, ?_, ?_, Heap.get_set_self f3, ?_, fle, rfl⟩
       · show 2 < lo.next + 1 + 1; omega
       · exact Heap.gs (by omega) (Heap.gp (by show 0 ≠ lo.next + 1; omega) (Heap.gp (by omega) g0))
       · exact Heap.gs (by omega) (Heap.gp (by show 1 ≠ lo.next + 1; omega) (Heap.gp (by omega) g1))
       · rw [hst]; exact .inr ⟨by simp, lo.next + 1, rfl, by omega, Nat.lt_succ_self _, Heap.gs (by omega) (Heap.get_push_self _ _)⟩
     · have p0 : (lo.push .spare).get t = some .spare := Heap.gp (by omega) ht3
       have f3 : (((lo.push .spare).remove t).push .spare).get 2 = some (.cs [.sl none 6 (s.nodes.map nodeR), .sl (some (.l t)) 16 (A.map podR)]) := Heap.gp (by show 2 ≠ lo.next + 1; omega) (Heap.gr (by omega) f2)
       ((conv => whnf); repeat ((first | refine SIf.df (show ¬ ((l.length : Nat) : Int) < (l.map strR).length by omega) ?_ | refine SChk.ix (by omega) (by omega) ?_ | refine SWrap.w64 (by omega) (by omega) ?_ | refine SChk.mk (by simp [roomOk]; omega) ?_ | refine ye (g2) ?_ | refine ye (g0) ?_ | refine ye (f2) ?_ | refine ye (f3) ?_ | refine ye (p0) ?_ | refine ye (map_get' (f := podR) (by omega) he) ?_ | refine zz ?_) <;> (conv => whnf)))
       refine hR (s.pods.length - (i + 1)) _ _ (by omega) ⟨i + 1, _, .sl (some (.l (lo.next + 1))) 16 (A.map podR ++ [podR e]), by omega, rfl, ?_, ?_, ?_, Heap.get_set_self f3, ?_, fle, rfl⟩
       · show 2 < lo.next + 1 + 1; omega
       · exact Heap.gs (by omega) (Heap.gp (by show 0 ≠ lo.next + 1; omega) (Heap.gr (by omega) (Heap.gp (by omega) g0)))
       · exact Heap.gs (by omega) (Heap.gp (by show 1 ≠ lo.next + 1; omega) (Heap.gr (by omega) (Heap.gp (by omega) g1)))
       · rw [hst]; exact .inr ⟨by simp, lo.next + 1, by simp, by omega, Nat.lt_succ_self _, Heap.gs (by omega) (Heap.get_push_self _ _)⟩
   · simp only [if_true, List.append_nil] at hst
     ((conv => whnf); repeat ((first | refine SIf.df (show ¬ ((l.length : Nat) : Int) < (l.map strR).length by omega) ?_ | refine SWrap.w64 (by omega) (by omega) ?_ | refine zz ?_) <;> (conv => whnf)))
     exact hR (s.pods.length - (i + 1)) _ _ (by omega) ⟨i + 1, lo, ev, by omega, rfl, h2, g0, g1, g2, by rw [hst]; exact hev, fle, rfl⟩
 · obtain rfl : i = s.pods.length := by omega
   rw [List.take_length] at hev
   rcases hev with ⟨hA, rfl⟩ | ⟨hA, t, rfl, ht1, ht2, ht3⟩
   · ((conv => whnf); repeat ((first | refine SIf.df (show ¬ ((s.pods.length : Nat) : Int) < (s.pods.map podR).length by omega) ?_ | refine ye (g2) ?_ | refine ye (g1) ?_ | refine ye (Heap.get_set_self g1) ?_ | refine zz ?_) <;> (conv => whnf)))
     exact res_goL (rs := AF.f55.results) (resOf_c1 rfl (Heap.get_set_self g1) rfl rfl) (hK _ (.inl ⟨hA, rfl⟩))
   · ((conv => whnf); repeat ((first | refine SIf.df (show ¬ ((s.pods.length : Nat) : Int) < (s.pods.map podR).length by omega) ?_ | refine ye (g2) ?_ | refine ye (g1) ?_ | refine ye (Heap.get_set_self g1) ?_ | refine zz ?_) <;> (conv => whnf)))
     exact res_goL (rs := AF.f55.results) (resOf_c1 rfl (Heap.get_set_self g1) rfl rfl) (hK _ (.inr rfl))
theorem rwoL_at {h : Heap} (s : StD) (hs : s.ok) (l : List Str) (hl : l.length ≤ 1000) {K : V → Heap → Prop} (hK : K (stV (withoutD s l)) h) : ACall P 55 [stV s, .sl none 1 (l.map strR)] h K := by
 refine ACall.tell (rwoL0_at hG s hs l hl (K := fun v h' => h' = h ∧ ∃ ev, ((withoutD s l).pods = [] ∧ ev = .nils ∨ ev = .sl none 16 ((withoutD s l).pods.map podR)) ∧ v = .agg [.sl none 6 (s.nodes.map nodeR), ev]) fun ev hev => ⟨rfl, ev, hev, rfl⟩) ?_
 rintro v h' ⟨rfl, ev, hev, rfl⟩
 refine ⟨stV (withoutD s l), fun E x hx => rel_agg (cs := [.sl none 6 (s.nodes.map nodeR), ev]) (ds := [.sl none 6 (s.nodes.map nodeR), .sl none 16 ((withoutD s l).pods.map podR)]) ⟨ce_same _ _, ?_, trivial⟩ E x hx, hK⟩
 rcases hev with ⟨h1, rfl⟩ | rfl
 · rw [h1]; exact .nil
 · exact ce_same _ _
end
end Go.Eng
/-
Who may have to go, by the document: put in from the front, as the program's sort has it.
-/
namespace Go.Eng
open Go
def ltV (a b : PodD) : Bool := decide (cmpV a b < 0)
def aheadV (x q : PodD) : Bool := decide (x.prio > q.prio) || (decide (x.prio = q.prio) && Op.bytesLess x.name q.name)
theorem insD_at {pre : List PodD} {q : PodD} {k : Nat} (hk : k ≤ pre.length) (h1 : ∀ (t : Nat) (y : PodD), k ≤ t → pre[t]? = some y → ltV q y = true) (h2 : ∀ y, 0 < k → pre[k - 1]? = some y → ltV q y = false) : insD ltV pre q = pre.take k ++ q :: pre.drop k := by
 unfold insD
 rw [insIx_eq hk h1 h2]
 unfold rowsAt
 simp
theorem cmpB_iff {a b : Str} : cmpB a b < 0 ↔ Op.bytesLess a b = true := by rw [← cmpB_lt, decide_eq_true_eq]
theorem ltV_iff {a b : PodD} : ltV a b = aheadV a b := by
 unfold ltV aheadV cmpV cmpI
 by_cases h1 : b.prio < a.prio
 · rw [if_pos h1, if_neg (by decide), decide_eq_true (show a.prio > b.prio from h1)]; rfl
 · rw [if_neg h1, decide_eq_false (show ¬ a.prio > b.prio from h1)]
   by_cases h2 : a.prio < b.prio
   · rw [if_pos h2, if_neg (by decide), decide_eq_false (show ¬ a.prio = b.prio by omega)]; rfl
   · rw [if_neg h2, if_pos rfl, decide_eq_true (show a.prio = b.prio by omega), Bool.false_or, Bool.true_and]
     cases hc : Op.bytesLess a.name b.name with
     | true => exact decide_eq_true (cmpB_iff.2 hc)
     | false => exact decide_eq_false fun h => by rw [cmpB_iff.1 h] at hc; cases hc
theorem ahead_trans {a b c : PodD} (h1 : aheadV a b = true) (h2 : aheadV b c = true) : aheadV a c = true := by
 unfold aheadV at h1 h2 ⊢
 simp only [Bool.or_eq_true, Bool.and_eq_true, decide_eq_true_eq] at h1 h2 ⊢
 rcases h1 with h1 | ⟨h1, h1'⟩ <;> rcases h2 with h2 | ⟨h2, h2'⟩
 · exact .inl (by omega)
 · exact .inl (by omega)
 · exact .inl (by omega)
 · exact .inr ⟨by omega, less_trans h1' h2'⟩
theorem ahead_tri {a b : PodD} (hn : a.name ≠ b.name) (h : aheadV a b = false) : aheadV b a = true := by
 unfold aheadV at h ⊢
 simp only [Bool.or_eq_false_iff, Bool.and_eq_false_iff, decide_eq_false_iff_not, Bool.or_eq_true, Bool.and_eq_true, decide_eq_true_eq] at h ⊢
 obtain ⟨h1, h2⟩ := h
 by_cases e : a.prio = b.prio
 · rcases h2 with h2 | h2
   · exact absurd e h2
   · exact .inr ⟨e.symm, less_tri h2 hn⟩
 · exact .inl (by omega)
end Go.Eng
