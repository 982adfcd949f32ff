/-
What one knows: the program's map and the document's row by rising keys, in plain lists.
-/
import Derived.Test.YtcckglahpbmakaaGreatNOa
import Derived.Test.YtcckglahpbmakaaGreatFitD
import Derived.Sort.KeysCollected
import Derived.Sort.Walk0
set_option linter.unusedVariables false
set_option linter.unusedSimpArgs false
namespace Go.Eng
open Go
theorem strR_flat : ∀ l : List Str, (l.map strR).flatten = l.map V.s
  | [] => rfl
  | x :: r => by rw [List.map_cons, List.flatten_cons, strR_flat r]; rfl
def sortS (ks : List Str) : List Str := ks.mergeSort Go.leB
structure EnD where
  key : Str
  rev : Int
  val : List Int
def enR (e : EnD) : List V := [.s e.key, .i .i64 e.rev, .sl none 1 (e.val.map byR)]
def enP (e : EnD) : V × V := (.s e.key, .agg (enR e))
def getE : List EnD → Str → Option EnD
  | [], _ => none
  | x :: r, k => if k = x.key then some x else getE r k
def putE : List EnD → EnD → List EnD
  | [], e => [e]
  | x :: r, e => if e.key = x.key then e :: r else x :: putE r e
def delE : List EnD → Str → List EnD
  | [], _ => []
  | x :: r, k => if k = x.key then r else x :: delE r k
theorem keyEq_s (x y : Str) : keyEq (.s x) (.s y) = decide (x = y) := by
  show (x == y) = _
  by_cases h : x = y
  · subst h; simp
  · rw [decide_eq_false h]; simp [h]
theorem mfind_en (k : Str) : ∀ D : List EnD, mfind (D.map enP) (.s k) = (getE D k).map fun e => .agg (enR e)
  | [] => rfl
  | x :: r => by
    simp only [List.map_cons, enP, mfind, getE, keyEq_s]
    by_cases h : k = x.key
    · simp [h]
    · simp only [h, decide_false, Bool.false_eq_true, if_false]; exact mfind_en k r
theorem mput_en (e : EnD) : ∀ D : List EnD, mput (D.map enP) (.s e.key) (.agg (enR e)) = (putE D e).map enP
  | [] => rfl
  | x :: r => by
    simp only [List.map_cons, enP, mput, putE, keyEq_s]
    by_cases h : e.key = x.key
    · simp [h, enP]
    · simp only [h, decide_false, Bool.false_eq_true, if_false, List.map_cons, enP]
      exact congrArg _ (mput_en e r)
theorem mdel_en (k : Str) : ∀ D : List EnD, mdel (D.map enP) (.s k) = (delE D k).map enP
  | [] => rfl
  | x :: r => by
    simp only [List.map_cons, enP, mdel, delE, keyEq_s]
    by_cases h : k = x.key
    · simp [h]
    · simp only [h, decide_false, Bool.false_eq_true, if_false, List.map_cons, enP]
      exact congrArg _ (mdel_en k r)
theorem getE_mem {k : Str} {e : EnD} : ∀ {D : List EnD}, getE D k = some e → e ∈ D
  | x :: r, h => by
    unfold getE at h
    split at h
    · cases h; exact .head _
    · exact .tail _ (getE_mem h)
theorem getE_none {k : Str} : ∀ {D : List EnD}, getE D k = none ↔ k ∉ D.map (·.key)
  | [] => by simp [getE]
  | x :: r => by
    unfold getE
    by_cases h : k = x.key
    · simp [h]
    · simp only [h, if_false, List.map_cons, List.mem_cons, false_or]
      exact getE_none
theorem getE_append (k : Str) : ∀ (A B : List EnD), getE (A ++ B) k = (getE A k).or (getE B k)
  | [], B => by simp [getE]
  | x :: r, B => by
    simp only [List.cons_append, getE]
    split
    · rfl
    · exact getE_append k r B
theorem getE_filter (k : Str) (q : Str → Bool) : ∀ D : List EnD, getE (D.filter fun x => q x.key) k = if q k then getE D k else none
  | [] => by simp [getE]
  | x :: r => by
    have ih := getE_filter k q r
    by_cases h : q x.key = true
    · rw [List.filter_cons_of_pos (by exact h)]
      simp only [getE, ih]
      by_cases hk : k = x.key
      · subst hk; simp [h]
      · simp [hk]
    · rw [List.filter_cons_of_neg (by exact h), ih]
      simp only [getE]
      by_cases hk : k = x.key
      · subst hk; simp [h]
      · simp [hk]
theorem getE_put (e : EnD) (k : Str) : ∀ D : List EnD, getE (putE D e) k = if k = e.key then some e else getE D k
  | [] => by simp [putE, getE]
  | x :: r => by
    unfold putE
    by_cases h : e.key = x.key
    · simp only [h, if_true, getE]
      split <;> rfl
    · simp only [h, if_false, getE, getE_put e k r]
      by_cases hk : k = x.key
      · subst hk; simp [Ne.symm h]
      · simp [hk]
theorem getE_del (k0 k : Str) : ∀ {D : List EnD}, (D.map (·.key)).Nodup → getE (delE D k0) k = if k = k0 then none else getE D k
  | [], _ => by simp [delE, getE]
  | x :: r, hn => by
    rw [List.map_cons, List.nodup_cons] at hn
    unfold delE
    by_cases h : k0 = x.key
    · simp only [h, if_true, getE]
      by_cases hk : k = x.key
      · subst hk; simp only [if_true]; exact getE_none.2 hn.1
      · simp [hk]
    · simp only [h, if_false, getE, getE_del k0 k hn.2]
      by_cases hk : k = x.key
      · subst hk; simp [Ne.symm h]
      · simp [hk]
theorem putE_keys (e : EnD) : ∀ (D : List EnD) (k : Str), k ∈ (putE D e).map (·.key) ↔ k = e.key ∨ k ∈ D.map (·.key)
  | D, k => by
    have h := getE_put e k D
    by_cases hk : k = e.key
    · rw [if_pos hk] at h
      refine ⟨fun _ => .inl hk, fun _ => ?_⟩
      refine Classical.byContradiction fun hc => ?_
      rw [getE_none.2 hc] at h; cases h
    · rw [if_neg hk] at h
      constructor
      · intro h1
        refine .inr (Classical.byContradiction fun hc => ?_)
        rw [getE_none.2 hc] at h
        exact getE_none.1 h h1
      · rintro (h1 | h1)
        · exact absurd h1 hk
        · refine Classical.byContradiction fun hc => ?_
          rw [getE_none.2 hc] at h
          exact getE_none.1 h.symm h1
theorem putE_nodup (e : EnD) : ∀ {D : List EnD}, (D.map (·.key)).Nodup → ((putE D e).map (·.key)).Nodup
  | [], _ => by simp [putE]
  | x :: r, hn => by
    rw [List.map_cons, List.nodup_cons] at hn
    unfold putE
    by_cases h : e.key = x.key
    · rw [if_pos h, List.map_cons, List.nodup_cons, h]; exact hn
    · rw [if_neg h, List.map_cons, List.nodup_cons]
      refine ⟨fun hc => ?_, putE_nodup e hn.2⟩
      rcases (putE_keys e r x.key).1 hc with h1 | h1
      · exact h h1.symm
      · exact hn.1 h1
theorem delE_sub (k : Str) : ∀ D : List EnD, (delE D k).Sublist D
  | [] => .slnil
  | x :: r => by
    unfold delE
    split
    · exact .cons _ (.refl _)
    · exact .cons_cons _ (delE_sub k r)
theorem putE_new {e : EnD} : ∀ {D : List EnD}, getE D e.key = none → putE D e = D ++ [e]
  | [], _ => rfl
  | x :: r, h => by
    unfold getE at h
    split at h
    · cases h
    · rename_i hk
      unfold putE
      rw [if_neg hk, putE_new h]; rfl

/-! The document's row. -/
def layD (e : EnD) : Bool → List EnD → List EnD
  | done, [] => if done then [] else [e]
  | done, x :: r => if x.key = e.key then layD e done r else if (!done && Op.bytesLess e.key x.key) = true then e :: x :: layD e true r else x :: layD e done r
def Rise (L : List EnD) : Prop := L.Pairwise fun a b => lessS a.key b.key
theorem layD_done (e : EnD) : ∀ L : List EnD, layD e true L = L.filter fun x => x.key != e.key
  | [] => rfl
  | x :: r => by
    unfold layD
    by_cases h : x.key = e.key
    · rw [if_pos h, layD_done e r, List.filter_cons_of_neg (by simp [h])]
    · rw [if_neg h, if_neg (by simp), layD_done e r, List.filter_cons_of_pos (by simpa using h)]
theorem layD_ins (e : EnD) : ∀ {L : List EnD}, Rise L → layD e false L = (L.filter fun x => Op.bytesLess x.key e.key) ++ e :: L.filter fun x => Op.bytesLess e.key x.key
  | [], _ => rfl
  | x :: r, hs => by
    unfold Rise at hs
    rw [List.pairwise_cons] at hs
    unfold layD
    by_cases h : x.key = e.key
    · rw [if_pos h, layD_ins e hs.2, List.filter_cons_of_neg (by rw [h, less_irr]; simp), List.filter_cons_of_neg (by rw [h, less_irr]; simp)]
    · rw [if_neg h]
      by_cases hl : Op.bytesLess e.key x.key = true
      · rw [if_pos (by simpa using hl), layD_done]
        have h1 : ∀ y ∈ r, Op.bytesLess e.key y.key = true := fun y hy => less_trans hl (hs.1 y hy)
        have h2 : ∀ y ∈ r, Op.bytesLess y.key e.key = false := fun y hy => less_asymm (h1 y hy)
        have e1 : (r.filter fun x => x.key != e.key) = r := List.filter_eq_self.2 fun y hy => by
          simp only [bne_iff_ne, ne_eq]
          intro hc
          have := h1 y hy
          rw [hc, less_irr] at this
          cases this
        have e2 : (r.filter fun x => Op.bytesLess x.key e.key) = [] := List.filter_eq_nil_iff.2 fun y hy => by rw [h2 y hy]; simp
        have e3 : (r.filter fun x => Op.bytesLess e.key x.key) = r := List.filter_eq_self.2 h1
        rw [List.filter_cons_of_neg (by rw [less_asymm hl]; simp), List.filter_cons_of_pos (by exact hl), e1, e2, e3]
        rfl
      · rw [if_neg (by simpa using hl), layD_ins e hs.2]
        have hf : Op.bytesLess e.key x.key = false := by simpa using hl
        have h3 := less_tri hf (Ne.symm h)
        rw [List.filter_cons_of_pos (by exact h3), List.filter_cons_of_neg (by rw [hf]; simp)]
        rfl
theorem layD_rise {e : EnD} {done : Bool} {L : List EnD} (h : Rise L) : Rise (layD e done L) := by
  cases done
  · rw [layD_ins e h]
    unfold Rise
    refine List.pairwise_append.2 ⟨List.Pairwise.sublist List.filter_sublist h, List.pairwise_cons.2 ⟨fun y hy => ?_, List.Pairwise.sublist List.filter_sublist h⟩, fun x hx y hy => ?_⟩
    · exact (List.mem_filter.1 hy).2
    · have h1 : lessS x.key e.key := (List.mem_filter.1 hx).2
      rcases List.mem_cons.1 hy with rfl | hy
      · exact h1
      · exact less_trans h1 (List.mem_filter.1 hy).2
  · rw [layD_done]
    exact List.Pairwise.sublist List.filter_sublist h
theorem layD_get {e : EnD} {L : List EnD} (h : Rise L) (k : Str) : getE (layD e false L) k = if k = e.key then some e else getE L k := by
  rw [layD_ins e h, getE_append, getE_filter k (fun z => Op.bytesLess z e.key)]
  simp only [getE]
  rw [getE_filter k (fun z => Op.bytesLess e.key z)]
  by_cases hk : k = e.key
  · subst hk
    rw [less_irr]; simp
  · simp only [hk, if_false]
    cases h1 : Op.bytesLess k e.key with
    | true =>
      rw [less_asymm h1]
      simp only [if_true, Bool.false_eq_true, if_false]
      cases getE L k <;> rfl
    | false =>
      rw [less_tri h1 hk]
      simp
theorem layD_gone {e : EnD} {L : List EnD} (k : Str) : getE (layD e true L) k = if k = e.key then none else getE L k := by
  rw [layD_done, getE_filter k (fun z => z != e.key)]
  by_cases hk : k = e.key
  · simp [hk]
  · simp [hk]
theorem layD_mem {e x : EnD} : ∀ {done : Bool} {L : List EnD}, x ∈ layD e done L → x = e ∨ x ∈ L
  | done, [], h => by
    unfold layD at h
    split at h
    · cases h
    · exact .inl (List.mem_singleton.1 h)
  | done, y :: r, h => by
    unfold layD at h
    split at h
    · rcases layD_mem h with h1 | h1
      · exact .inl h1
      · exact .inr (.tail _ h1)
    · split at h
      · rcases List.mem_cons.1 h with h1 | h1
        · exact .inl h1
        · rcases List.mem_cons.1 h1 with h2 | h2
          · exact .inr (h2 ▸ .head _)
          · rcases layD_mem h2 with h3 | h3
            · exact .inl h3
            · exact .inr (.tail _ h3)
      · rcases List.mem_cons.1 h with h2 | h2
        · exact .inr (h2 ▸ .head _)
        · rcases layD_mem h2 with h3 | h3
          · exact .inl h3
          · exact .inr (.tail _ h3)
theorem layD_len (e : EnD) : ∀ (done : Bool) (L : List EnD), (layD e done L).length ≤ L.length + 1
  | done, [] => by unfold layD; split <;> simp
  | done, y :: r => by
    unfold layD
    have h1 := layD_len e done r
    split
    · simp only [List.length_cons]; omega
    · split
      · have h2 : (layD e true r).length ≤ r.length := by rw [layD_done]; exact List.length_filter_le _ _
        simp only [List.length_cons]; omega
      · simp only [List.length_cons]; omega

structure CaRel (D L : List EnD) : Prop where
  fnd : ∀ k, getE D k = getE L k
  nd : (D.map (·.key)).Nodup
  rise : Rise L
theorem CaRel.nil : CaRel [] [] := ⟨fun _ => rfl, .nil, .nil⟩
theorem CaRel.put {D L : List EnD} (h : CaRel D L) (e : EnD) : CaRel (putE D e) (layD e false L) :=
  ⟨fun k => by rw [getE_put, layD_get h.rise, h.fnd], putE_nodup e h.nd, layD_rise h.rise⟩
theorem CaRel.del {D L : List EnD} (h : CaRel D L) (e : EnD) : CaRel (delE D e.key) (layD e true L) :=
  ⟨fun k => by rw [getE_del _ _ h.nd, layD_gone, h.fnd], h.nd.sublist ((delE_sub _ _).map _), layD_rise h.rise⟩
theorem Rise.nodup {L : List EnD} (h : Rise L) : (L.map (·.key)).Nodup :=
  List.Pairwise.map _ (fun a b hab e => by
    have : lessS a.key b.key := hab
    rw [e] at this
    unfold lessS at this
    rw [less_irr] at this
    cases this) h
theorem Rise.get : ∀ {L : List EnD}, Rise L → ∀ e ∈ L, getE L e.key = some e
  | x :: r, h, e, he => by
    unfold Rise at h
    rw [List.pairwise_cons] at h
    unfold getE
    rcases List.mem_cons.1 he with rfl | he
    · simp
    · rw [if_neg, Rise.get h.2 e he]
      intro hc
      have : lessS x.key e.key := h.1 e he
      rw [hc] at this
      unfold lessS at this
      rw [less_irr] at this
      cases this
theorem CaRel.get {D L : List EnD} (h : CaRel D L) {e : EnD} (he : e ∈ L) : getE D e.key = some e := by rw [h.fnd]; exact h.rise.get e he
theorem CaRel.keys {D L : List EnD} (h : CaRel D L) : sortS (D.map (·.key)) = L.map (·.key) := by
  have hp : (D.map (·.key)).Perm (L.map (·.key)) := (List.perm_ext_iff_of_nodup h.nd h.rise.nodup).2 fun k => by
    have h1 := getE_none (k := k) (D := D)
    have h2 := getE_none (k := k) (D := L)
    rw [h.fnd k] at h1
    have h3 := h1.symm.trans h2
    exact Decidable.not_iff_not.1 h3
  rw [sortS, Go.mergeSort_of_perm hp]
  refine List.mergeSort_of_pairwise (List.Pairwise.map _ (fun a b hab => ?_) h.rise)
  have h1 : lessS a.key b.key := hab
  unfold lessS at h1
  rw [Go.Proofs.bytesLess_eq, decide_eq_true_eq] at h1
  simp only [Go.leB, decide_eq_true_eq]
  exact List.le_of_lt h1
theorem CaRel.len {D L : List EnD} (h : CaRel D L) : D.length = L.length := by
  have hp := congrArg List.length h.keys
  simpa [sortS] using hp
end Go.Eng
