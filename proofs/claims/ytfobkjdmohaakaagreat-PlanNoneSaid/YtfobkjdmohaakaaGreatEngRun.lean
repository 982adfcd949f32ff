/-
Regions in the text's order: what the abstract run promises.
-/
import Derived.Test.YtfobkjdmohaakaaGreatEngChk
namespace Go.Eng
open Go

theorem memNat_iff {n : Nat} : ∀ {l : List Nat}, memNat n l = true ↔ n ∈ l
  | [] => by simp [memNat]
  | k :: r => by
    simp only [memNat, List.mem_cons]
    cases h : Nat.beq n k with
    | true => have := Nat.eq_of_beq_eq_true h; simp [this]
    | false =>
      have : n ≠ k := Nat.ne_of_beq_eq_false h
      simp [this, memNat_iff]
theorem V.force_eq {α : Type} (v : V) (k : V → α) : v.force k = k v := by cases v <;> rfl

def Fr.cutL (fr : Fr) (ks : List Nat) : Fr := fr.filter fun q => !memNat q.1 ks
theorem Fr.cut_eq {α : Type} (ks : List Nat) : ∀ (fr : Fr) (k : Fr → α), fr.cut ks k = k (fr.cutL ks)
  | [], k => rfl
  | (n, v) :: r, k => by
    simp only [Fr.cut]
    cases h : memNat n ks with
    | true => simp only; rw [Fr.cut_eq ks r]; simp [Fr.cutL, h]
    | false => simp only; rw [Fr.cut_eq ks r]; simp [Fr.cutL, h]
theorem Fr.get_cutL (ks : List Nat) (t : Nat) : ∀ fr : Fr, (fr.cutL ks).get t = if memNat t ks then .junk else fr.get t
  | [] => by simp [Fr.cutL, Fr.get]
  | (n, v) :: r => by
    have ih := Fr.get_cutL ks t r
    simp only [Fr.cutL] at ih ⊢
    by_cases hn : n = t
    · subst hn
      cases h : memNat n ks with
      | true => rw [List.filter_cons_of_neg (by simp [h])]; rw [ih, h]; rfl
      | false => rw [List.filter_cons_of_pos (by simp [h])]; simp [Fr.get]
    · by_cases h : memNat n ks = true
      · rw [List.filter_cons_of_neg (by simp [h]), ih]
        simp [Fr.get, hn]
      · rw [List.filter_cons_of_pos (by simp [h])]
        simp only [Fr.get, if_neg hn]
        exact ih

def Fr.next (fr : Fr) (dst : Option Nat) (v : V) (kill : List Nat) : Fr :=
  match dst with
  | some d => match kill with
    | [] => (d, v) :: fr
    | x :: ks => if memNat d (x :: ks) then fr.cutL (d :: x :: ks) else (d, v) :: fr.cutL (d :: x :: ks)
  | none => match kill with
    | [] => fr
    | x :: ks => fr.cutL (x :: ks)
theorem Fr.after_eq {α : Type} (fr : Fr) (dst : Option Nat) (v : V) (kill : List Nat) (k : Fr → α) : fr.after dst v kill k = k (fr.next dst v kill) := by
  unfold Fr.after Fr.next
  cases dst with
  | none =>
    cases kill with
    | nil => rfl
    | cons x ks => simp only; rw [Fr.cut_eq]
  | some d =>
    cases kill with
    | nil => simp only; rw [V.force_eq]
    | cons x ks =>
      simp only
      cases h : memNat d (x :: ks) with
      | true => simp only; rw [Fr.cut_eq]; simp
      | false => simp only; rw [Fr.cut_eq, V.force_eq]; simp
theorem Fr.get_next (fr : Fr) (dst : Option Nat) (v : V) (kill : List Nat) (t : Nat) : (fr.next dst v kill).get t = if memNat t kill then .junk else if dst = some t then v else fr.get t := by
  cases dst with
  | none =>
    cases kill with
    | nil => simp [Fr.next, memNat]
    | cons x ks => simp [Fr.next, Fr.get_cutL]
  | some d =>
    cases kill with
    | nil =>
      simp only [Fr.next, Fr.get, memNat, Bool.false_eq_true, if_false, Option.some.injEq]
    | cons x ks =>
      simp only [Fr.next, Option.some.injEq]
      by_cases hm : memNat d (x :: ks) = true
      · rw [if_pos hm, Fr.get_cutL]
        by_cases ht : memNat t (x :: ks) = true
        · rw [if_pos ht, if_pos (by rw [memNat_iff] at ht ⊢; exact .tail _ ht)]
        · have hne : ¬ d = t := fun e => ht (e ▸ hm)
          rw [if_neg ht, if_neg hne, if_neg]
          rw [memNat_iff] at ht ⊢
          intro hmm
          rcases List.mem_cons.1 hmm with rfl | hmm
          · exact hne rfl
          · exact ht hmm
      · rw [if_neg hm]
        simp only [Fr.get]
        by_cases hd : d = t
        · subst hd; rw [if_pos rfl, if_neg hm, if_pos rfl]
        · rw [if_neg hd, if_neg hd, Fr.get_cutL]
          by_cases ht : memNat t (x :: ks) = true
          · rw [if_pos ht, if_pos (by rw [memNat_iff] at ht ⊢; exact .tail _ ht)]
          · rw [if_neg ht, if_neg]
            rw [memNat_iff] at ht ⊢
            intro hmm
            rcases List.mem_cons.1 hmm with rfl | hmm
            · exact hd rfl
            · exact ht hmm

theorem FrRel.next {E : Env} {N : Nat} {fr : Fr} {a : Act} (h : FrRel E N fr a) {dst : Option Nat} (hd : ∀ d, dst = some d → d < N) {v : V} {x : Value} (hr : Rel E v x) (kill : List Nat) : FrRel E N (fr.next dst v kill) (a.put dst x) := by
  refine ⟨by cases dst <;> simp [Act.put, h.size], fun t => ?_⟩
  rw [Fr.get_next]
  split
  · exact .junk _
  · split
    · rename_i ht
      subst ht
      have hlt : t < a.tmps.size := by rw [h.size]; exact hd t rfl
      simp only [Act.put, Array.getD_eq_getD_getElem?]
      simp [hlt]
      exact hr
    · rename_i ht
      cases dst with
      | none => exact h.rel t
      | some d =>
        have hne : d ≠ t := fun e => ht (by rw [e])
        have : (a.put (some d) x).tmps.getD t undef = a.tmps.getD t undef := by
          simp only [Act.put, Array.getD_eq_getD_getElem?]
          rw [Array.getElem?_setIfInBounds_ne hne]
        rw [this]
        exact h.rel t
theorem put_defers (a : Act) (dst : Option Nat) (x : Value) : (a.put dst x).defers = a.defers := by cases dst <;> rfl

def guardOk (ops : Array Oper) : Option (Nat × Bool) → Option (Nat × Bool) → Bool
  | none, none => true
  | some (j, w), some (t, w') => decide (w = w') && (match ops[j]? with
    | some o => decide (o.dst = some t)
    | none => false)
  | _, _ => false
def dstOk (N : Nat) : Option Nat → Bool
  | some d => decide (d < N)
  | none => true
def okReg (P : Program) (N : Nat) (ops : Array Oper) : List Oper → List AOper → Bool
  | [], [] => true
  | o :: l, A :: as => okOp P o.op A.op && decide (A.dst = o.dst) && dstOk N o.dst && guardOk ops o.guard A.guard && okReg P N ops l as
  | _, _ => false

theorem FrRel.same {E : Env} {N : Nat} {fr : Fr} {a : Act} (h : FrRel E N fr a) {t : Nat} {v : V} (hv : fr.get t = v) : FrRel E N ((t, v) :: fr.cutL [t]) a := by
  refine ⟨h.size, fun t' => ?_⟩
  simp only [Fr.get]
  by_cases ht : t = t'
  · subst ht; rw [if_pos rfl, ← hv]; exact h.rel t
  · rw [if_neg ht, Fr.get_cutL]
    split
    · exact .junk _
    · exact h.rel t'

section
variable {P : Program} {N : Nat} {ops : Array Oper} {Q : Exit → Act → World → Prop} {K : Fr × St → Prop}

theorem yielded_b {E : Env} {fr : Fr} {a : Act} (hf : FrRel E N fr a) {j t : Nat} {o : Oper} (ho : ops[j]? = some o) (hd : o.dst = some t) {b : Bool} (hv : fr.get t = .b b) : yielded ops a.tmps j = some b := by
  have h := hf.rel t
  rw [hv] at h
  have h := h.bool
  simp only [yielded, ho, Option.bind_some, hd]
  simp only [Array.getD_eq_getD_getElem?] at h
  cases hq : a.tmps[t]? with
  | none => rw [hq] at h; simp [undef] at h
  | some x => rw [hq] at h; simp at h; rw [h]
theorem yielded_t {E : Env} {fr : Fr} {a : Act} (hf : FrRel E N fr a) {j t : Nat} {o : Oper} (ho : ops[j]? = some o) (hd : o.dst = some t) {cs : List V} (hv : fr.get t = .tup cs) : yielded ops a.tmps j = none := by
  have h := hf.rel t
  rw [hv] at h
  simp only [yielded, ho, Option.bind_some, hd]
  simp only [Array.getD_eq_getD_getElem?] at h
  cases hq : a.tmps[t]? with
  | none => rfl
  | some x =>
    rw [hq] at h
    simp only [Option.getD_some] at h
    cases h with
    | deep hd => cases hd
    | tup => rfl

/-- (REG) A region in the text's order. -/
theorem ops_ok : ∀ (as : List AOper) (l : List Oper) (i : Nat), okReg P N ops l as = true → (∀ k o, l[k]? = some o → ops[i + k]? = some o) →
    ∀ {E : Env} {st : St} {w : World} {fr : Fr} {a : Act}, Sim E st w → FrRel E N fr a → (runOps as fr st).wp (ACall P) K →
      (∀ fr' st' E' a' w', K (fr', st') → Sim E' st' w' → Ext E st w E' st' w' → FrRel E' N fr' a' → a'.defers = a.defers → Q .normal a' w') →
      wpOps P ops Q (List.range' i l.length) a w
  | [], [], i, _, _, E, st, w, fr, a, hs, hf, hw, hQ => hQ fr st E a w hw hs (.refl E st w) hf rfl
  | [], _ :: _, i, hk, _, E, st, w, fr, a, hs, hf, hw, hQ => by simp [okReg] at hk
  | _ :: _, [], i, hk, _, E, st, w, fr, a, hs, hf, hw, hQ => by simp [okReg] at hk
  | A :: as, o :: l, i, hk, hops, E, st, w, fr, a, hs, hf, hw, hQ => by
    simp only [okReg, Bool.and_eq_true, decide_eq_true_eq] at hk
    obtain ⟨⟨⟨⟨k1, k2⟩, k3⟩, k4⟩, k5⟩ := hk
    have ho : ops[i]? = some o := hops 0 o rfl
    have hdn : ∀ d, o.dst = some d → d < N := fun d hd => by rw [hd] at k3; simpa [dstOk] using k3
    have hops' : ∀ k o', l[k]? = some o' → ops[i + 1 + k]? = some o' := fun k o' h => by
      have := hops (k + 1) o' (by simpa using h)
      rwa [show i + 1 + k = i + (k + 1) by omega]
    -- the rest, from whatever state the operation leaves
    have rest : ∀ {E' : Env} {st' : St} {w' : World} {fr' : Fr} {a' : Act}, Sim E' st' w' → Ext E st w E' st' w' → FrRel E' N fr' a' → a'.defers = a.defers → (runOps as fr' st').wp (ACall P) K → wpOps P ops Q (List.range' (i + 1) l.length) a' w' := by
      intro E' st' w' fr' a' s1 s2 s3 s4 hw'
      exact ops_ok as l (i + 1) k5 hops' s1 s3 hw' (fun f2 st2 E2 a2 w2 h1 h2 h3 h4 h5 => hQ f2 st2 E2 a2 w2 h1 h2 (s2.trans h3) h4 (h5.trans s4))
    -- the operation is carried out
    have doit : ∀ {fr0 : Fr}, FrRel E N fr0 a → ((step A.op fr0 st).bind fun x => match x with
        | (v, st) => fr0.after A.dst v A.kill fun fr => runOps as fr st).wp (ACall P) K → o.wp P a w (wpOps P ops Q (List.range' (i + 1) l.length)) Q := by
      intro fr0 hf0 hw0
      rw [T.wp_bind] at hw0
      refine step_ok k1 hs hf0 hw0 ?_
      intro v st' E' w' x hkk s1 s2 hr
      dsimp only at hkk
      rw [Fr.after_eq] at hkk
      refine rest s1 s2 (FrRel.next (hf0.mono s2.le) hdn hr A.kill) (put_defers _ _ _) ?_
      rw [← k2]; exact hkk
    have skip : ∀ {fr0 : Fr}, FrRel E N fr0 a → (fr0.after A.dst (.tup []) A.kill fun fr => runOps as fr st).wp (ACall P) K → wpOps P ops Q (List.range' (i + 1) l.length) (a.put o.dst undef) w := by
      intro fr0 hf0 hw0
      rw [Fr.after_eq] at hw0
      refine rest hs (.refl E st w) (FrRel.next hf0 hdn undef_rel A.kill) (put_defers _ _ _) ?_
      rw [← k2]; exact hw0
    rw [List.length_cons, List.range'_succ]
    simp only [wpOps, ho]
    simp only [runOps] at hw
    split at hw
    · rename_i hgA
      have hg : o.guard = none := by
        rw [hgA] at k4
        cases hg : o.guard with
        | none => rfl
        | some q => rw [hg] at k4; cases q; simp [guardOk] at k4
      rw [if_pos (by simp [Region.wanted, hg])]
      exact .inl (doit hf hw)
    · rename_i t want hgA
      rw [hgA] at k4
      cases hg : o.guard with
      | none => rw [hg] at k4; simp [guardOk] at k4
      | some q =>
      obtain ⟨j, want'⟩ := q
      rw [hg] at k4
      simp only [guardOk, Bool.and_eq_true, decide_eq_true_eq] at k4
      obtain ⟨rfl, k4⟩ := k4
      split at k4
      case h_2 => cases k4
      rename_i oj hoj
      simp only [decide_eq_true_eq] at k4
      split at hw
      · rename_i x hx
        have hy := yielded_b hf hoj k4 hx
        have hf0 := hf.same hx
        split at hw
        · cases x with
          | true =>
            have hw := hw.1 rfl
            rw [Fr.cut_eq] at hw
            rw [if_pos (by simp [Region.wanted, hg, hy])]
            exact .inl (doit hf0 hw)
          | false =>
            have hw := hw.2 rfl
            rw [Fr.cut_eq] at hw
            rw [if_neg (by simp [Region.wanted, hg, hy])]
            exact skip hf0 hw
        · cases x with
          | true =>
            have hw := hw.1 rfl
            rw [Fr.cut_eq] at hw
            rw [if_neg (by simp [Region.wanted, hg, hy])]
            exact skip hf0 hw
          | false =>
            have hw := hw.2 rfl
            rw [Fr.cut_eq] at hw
            rw [if_pos (by simp [Region.wanted, hg, hy])]
            exact .inl (doit hf0 hw)
      · rename_i cs hx
        have hy := yielded_t hf hoj k4 hx
        rw [if_neg (by simp [Region.wanted, hg, hy])]
        exact skip hf hw
      · exact hw.elim
end
end Go.Eng
