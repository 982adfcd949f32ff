/-
Functions that are lent one row of rows: what they promise from a heap of that row alone holds in every heap that has it.
-/
import Derived.Test.YtllgfkpmblhbmaaGreatEngD
set_option linter.unusedVariables false
set_option linter.unusedSimpArgs false
namespace Go.Eng
open Go
theorem made1_back {E F : Env} {n : Nat} (hI : ImmLe F.I E.I) (hn : E.has (.g 0)) (hμ : E.μ (.g 0) = F.μ (.g n)) {v : V} {x : Value} (hv : v.made1 = true) (hr : Rel F (v.up1 n) x) : Rel E v x := by
  unfold V.made1 at hv
  split at hv
  · simp only [V.up1] at hr
    cases hr with
    | deep hd => cases hd
    | ms _ _ _ _ a cap hk hc hf hb ha =>
      exact .ms _ _ _ _ _ _ hn hc (by rw [hμ]; exact hf) (by rw [hμ]; exact hb) (by rw [hμ]; exact ha)
  · rename_i h
    have : v.up1 n = v := by
      unfold V.up1
      split
      · exact absurd rfl (h _ _ _)
      · rfl
    rw [this] at hr
    exact flat_rel hI hv hr
theorem madeV_back {E F : Env} {n : Nat} (hI : ImmLe F.I E.I) (hn : E.has (.g 0)) (hμ : E.μ (.g 0) = F.μ (.g n)) {v : V} {x : Value} (hv : v.made = true) (hr : Rel F (v.up n) x) : Rel E v x := by
  unfold V.made at hv
  split at hv
  · rename_i cs
    simp only [List.all_eq_true] at hv
    simp only [V.up] at hr
    cases hr with
    | deep hd => cases hd
    | agg _ a ha h1 hra =>
      refine .agg _ _ (by simpa using ha) h1 fun j v x hj hx => ?_
      exact made1_back hI hn hμ (hv v (List.mem_of_getElem? hj)) (hra j (v.up1 n) x (by rw [List.getElem?_map, hj]; rfl) hx)
  · rename_i h
    have : v.up n = v.up1 n := by
      unfold V.up
      split
      · exact absurd rfl (h _)
      · rfl
    rw [this] at hr
    exact made1_back hI hn hμ hv hr
theorem holds_flat {E F : Env} (hI : ImmLe E.I F.I) {w : World} {L : Loc} {sz : Nat} {es : List (List V)} (hf : ∀ e ∈ es, e.all V.flat = true) (h : Holds E w L (.arr sz es)) : Holds F w L (.arr sz es) := by
  obtain ⟨hl, cells, t, fz, r1, r2, r3, r4, r5⟩ := h
  refine ⟨hl, cells, t, fz, r1, r2, r3, r4, fun j v hj => ?_⟩
  obtain ⟨x, hx, hrx, h1⟩ := r5 j v hj
  refine ⟨x, hx, flat_rel hI ?_ hrx, h1⟩
  have hm := List.mem_of_getElem? hj
  obtain ⟨l, hl1, hl2⟩ := List.mem_flatten.1 hm
  exact List.all_eq_true.1 (hf l hl1) v hl2
theorem oneG_get {sz : Nat} {es : List (List V)} {k : Key} {o : Obj} (h : (gst (oneG sz es)).get k = some o) : k = .g 0 ∧ o = .arr sz es := by
  cases k with
  | g n =>
    by_cases hn : n = 0
    · subst hn; cases h; exact ⟨rfl, rfl⟩
    · exfalso
      have : (oneG sz es).get n = some o := h
      simp [oneG, Heap.get, Heap.find, Ne.symm hn] at this
  | l n => simp [St.get, noL, Heap.get, Heap.find] at h
/-- From a heap of one row: the row may be another one; the value names it at most. -/
def LentAt (sz : Nat) (Q : V → List (List V) → Prop) (v : V) (h' : Heap) : Prop :=
  ∃ u es, TelN 1 [(0, v)] (gst h') [(0, u)] (gst (oneG sz es)) ∧ u.made = true ∧ (∀ e ∈ es, e.all V.flat = true) ∧ Q u es
theorem LentAt.of {Q : V → List (List V) → Prop} {v u : V} {sz : Nat} {es : List (List V)} {h' : Heap} (ht : TelN 1 [(0, v)] (gst h') [(0, u)] ⟨⟨1, [(0, .arr sz es)]⟩, ⟨0, []⟩⟩) (hu : u.made = true) (hf : ∀ e ∈ es, e.all V.flat = true) (hq : Q u es) : LentAt sz Q v h' := ⟨u, es, ht, hu, hf, hq⟩
/-- (LENT) -/
theorem ACall.lent {P : Program} {f : Nat} {args : List V} {sz : Nat} {es0 : List (List V)} {Q : V → List (List V) → Prop} (h0 : ACall P f args (oneG sz es0) (LentAt sz Q)) (ha : args.all V.made = true) (hf0 : ∀ e ∈ es0, e.all V.flat = true)
    {h : Heap} {k : Nat} (hk : h.get k = some (.arr sz es0)) {K : V → Heap → Prop} (hK : ∀ u es, Q u es → K (u.up k) (h.set k (.arr sz es))) : ACall P f (args.map (V.up k)) h K := by
  refine ⟨h0.1, fun E w vs hnl hs hv => ?_⟩
  simp only [List.all_eq_true] at ha
  have hob : (gst h).get (.g k) = some (.arr sz es0) := hk
  have hlk : (gst h).live (.g k) := ⟨_, hob⟩
  let E0 : Env := { I := E.I, μ := fun _ => E.μ (.g k), ng := 1, nl := 0 }
  have hl0 : ∀ k0, (gst (oneG sz es0)).live k0 → k0 = .g 0 := fun k0 ⟨o, ho⟩ => (oneG_get ho).1
  have hs0 : Sim E0 (gst (oneG sz es0)) w := by
    refine ⟨rfl, rfl, fun k0 h1 => ?_, hs.imm, fun k0 o ho => ?_, fun k0 k1 h1 h2 hne => ?_, fun k0 h1 j h2 h3 => ?_⟩
    · rw [hl0 k0 h1]; exact Nat.zero_lt_one
    · obtain ⟨rfl, rfl⟩ := oneG_get ho
      exact holds_flat (E := E.at (.g k)) (F := E0.at (.g 0)) (fun b o x h => h) hf0 (hs.obj _ _ hob)
    · exact absurd ((hl0 k0 h1).trans (hl0 k1 h2).symm) hne
    · exact hs.own _ hlk j h2 h3
  have hv0 : RelL E0 args vs := by
    refine ⟨by simpa using hv.1, fun j v x hj hx => ?_⟩
    exact madeV_back (E := E0) (F := E) (n := k) (fun b o x h => h) Nat.zero_lt_one rfl (ha v (List.mem_of_getElem? hj)) (hv.2 j (v.up k) x (by rw [List.getElem?_map, hj]; rfl) hx)
  refine (h0.2 E0 w vs rfl hs0 hv0).mono ?_
  rintro e w' ⟨v, x, h', E1, ⟨u, es, ht, hmade, hflat, hq⟩, rfl, hn, hs1, he1, hr1⟩
  obtain ⟨E', hs', he, hr'⟩ := ht.ok rfl rfl hs1 he1
  have hr : Rel E' u x := hr' 0 x hr1
  have himm : ImmLe E.I E'.I := he.le.imm
  have hloc : E'.μ (.g 0) = E.μ (.g k) := he.le.loc (.g 0) Nat.zero_lt_one
  have hoth : ∀ k', (gst h).live k' → k' ≠ .g k → ∀ k0, (gst (oneG sz es0)).live k0 → (E0.μ k0).blk ≠ (E.μ k').blk := fun k' h1 h2 k0 h3 => hs.sep _ _ hlk h1 (Ne.symm h2)
  have hsame : ∀ k', (gst h).live k' → k' ≠ .g k → w'.heap[(E.μ k').blk]? = w.heap[(E.μ k').blk]? := fun k' h1 h2 => he.same _ (hs.lt h1) (hoth k' h1 h2)
  let G : Env := { I := E'.I, μ := E.μ, ng := E.ng, nl := E.nl }
  have hle : E.Le G := ⟨himm, Nat.le_refl _, Nat.le_refl _, fun _ _ => rfl⟩
  have hget : ∀ k', (gst (h.set k (.arr sz es))).get k' = if k' = .g k then some (.arr sz es) else (gst h).get k' := by
    intro k'
    cases k' with
    | g n =>
      show (h.set k (.arr sz es)).get n = _
      rw [Heap.get_set]
      by_cases e : n = k
      · subst e; simp [hk]
      · rw [if_neg e, if_neg (fun e' => e (by cases e'; rfl))]; rfl
    | l n => simp [St.get]
  have hlive : ∀ k', (gst (h.set k (.arr sz es))).live k' → (gst h).live k' := by
    rintro k' ⟨o, ho⟩
    rw [hget] at ho
    split at ho
    · rename_i e; rw [e]; exact hlk
    · exact ⟨o, ho⟩
  have hob' : (gst (oneG sz es)).get (.g 0) = some (.arr sz es) := rfl
  refine ⟨u.up k, x, h.set k (.arr sz es), G, hK u es hq, rfl, hnl, ⟨hs.ng, hs.nl, fun k' h1 => hs.dom k' (hlive k' h1), hs'.imm, fun k' o h1 => ?_, fun k' k2 h1 h2 hne => hs.sep k' k2 (hlive k' h1) (hlive k2 h2) hne, fun k' h1 j h2 h3 => ?_⟩,
    ⟨hle, he.size, fun b o x hx => ?_, fun k' h1 _ => hlive k' h1, fun k' h1 hn => absurd (hs.dom k' (hlive k' h1)) hn, fun b hb hno => he.same b hb fun k0 h1 => hno (.g k) hlk, he.os, he.out, he.tape⟩,
    madeV_rel (E := E') (F := G) (n := k) (fun b o x h => h) (hs.dom _ hlk) hloc.symm hmade hr⟩
  · rw [hget] at h1
    split at h1
    · rename_i e
      subst e
      cases h1
      have h2 := hs'.obj _ _ hob'
      rw [hloc] at h2
      exact holds_flat (E := E'.at (.g 0)) (F := G.at (.g k)) (fun b o x h => h) hflat h2
    · rename_i hne
      have hlv : (gst h).live k' := ⟨o, h1⟩
      exact (hs.obj k' o h1).keep (Env.at_mono hle k') (hsame k' hlv hne)
  · have h1' := hlive k' h1
    by_cases hkk : k' = .g k
    · subst hkk
      have := hs'.own (.g 0) ⟨_, hob'⟩ j
      rw [hloc] at this
      exact this h2 h3
    · show E'.I (E.μ k').blk j = none
      cases hx : E'.I (E.μ k').blk j with
      | none => rfl
      | some y =>
        rcases he.immNew _ _ _ hx with h4 | h4 | ⟨k0, h4, h5⟩
        · have := hs.own k' h1' j h2 h3
          rw [show E0.I = E.I from rfl, this] at h4
          cases h4
        · have := hs.lt h1'
          omega
        · exact absurd h5 (hoth k' h1' hkk k0 h4)
  · rcases he.immNew b o x hx with h1 | h1 | ⟨k0, h1, h2⟩
    · exact .inl h1
    · exact .inr (.inl h1)
    · exact .inr (.inr ⟨.g k, hlk, h2⟩)
theorem set_get {h : Heap} {r : Nat} {o o' : Obj} (hr : h.get r = some o) (k' : Key) : (gst (h.set r o')).get k' = if k' = .g r then some o' else (gst h).get k' := by
  cases k' with
  | g n =>
    show (h.set r o').get n = _
    rw [Heap.get_set]
    by_cases e : n = r
    · subst e; simp [hr]
    · rw [if_neg e, if_neg (fun e' => e (by cases e'; rfl))]; rfl
  | l n => simp [St.get]
/-- (SHRINK) Behind a call a row's last ones may be forgotten. -/
theorem ACall.shrink {P : Program} {f : Nat} {args : List V} {h : Heap} {r sz : Nat} {K : V → Heap → Prop} (h0 : ACall P f args h (fun v h' => ∃ es m, h'.get r = some (.arr sz es) ∧ K v (h'.set r (.arr sz (es.take m))))) : ACall P f args h K := by
  refine ⟨h0.1, fun E w vs hnl hs hv => (h0.2 E w vs hnl hs hv).mono ?_⟩
  rintro e w' ⟨v, x, h', E', ⟨es, m, hr, hk⟩, rfl, hn, hs', he, hrel⟩
  have hob : (gst h').get (.g r) = some (.arr sz es) := hr
  have hget := set_get (o' := .arr sz (es.take m)) hr
  have hlive : ∀ k', (gst (h'.set r (.arr sz (es.take m)))).live k' → (gst h').live k' := by
    rintro k' ⟨o, ho⟩
    rw [hget] at ho
    split at ho
    · rename_i e; rw [e]; exact ⟨_, hob⟩
    · exact ⟨o, ho⟩
  refine ⟨v, x, h'.set r (.arr sz (es.take m)), E', hk, rfl, hn, ⟨hs'.ng, hs'.nl, fun k' h1 => hs'.dom k' (hlive k' h1), hs'.imm, fun k' o h1 => ?_, fun k' k2 h1 h2 hne => hs'.sep k' k2 (hlive k' h1) (hlive k2 h2) hne, fun k' h1 => hs'.own k' (hlive k' h1)⟩,
    ⟨he.le, he.size, he.immNew, fun k' h1 h2 => he.keyOld k' (hlive k' h1) h2, fun k' h1 h2 => he.keyNew k' (hlive k' h1) h2, he.same, he.os, he.out, he.tape⟩, hrel⟩
  rw [hget] at h1
  split at h1
  · rename_i e
    subst e
    cases h1
    obtain ⟨hl, cells, t, fz, r1, r2, r3, r4, r5⟩ := hs'.obj _ _ hob
    have hfl : es.flatten = (es.take m).flatten ++ (es.drop m).flatten := by rw [← List.flatten_append, List.take_append_drop]
    refine ⟨fun e he => hl e (List.mem_of_mem_take he), cells, t, fz, r1, r2, ?_, r4, fun j v hj => r5 j v ?_⟩
    · rw [hfl, List.length_append] at r3
      omega
    · rw [hfl, List.getElem?_append_left (List.getElem?_eq_some_iff.1 hj).1]
      exact hj
  · exact hs'.obj k' o h1
end Go.Eng
