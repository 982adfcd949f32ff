/-
Each operation of the model does what the abstract step says (part six: slices).
-/
import Derived.Test.YtfobkjdmohaakaaGreatEngOps5
namespace Go.Eng
open Go

theorem deep_rel {E : Env} {v d : V} {x : Value} (h : v.deep = some d) (hr : Rel E v x) : RelD E.I d x := by
  unfold V.deep at h
  split at h <;> simp only [Option.some.injEq, reduceCtorEq] at h <;> subst h
  all_goals (cases hr)
  all_goals (first | assumption | skip)
  all_goals (rename_i hd; first | exact hd | (cases hd <;> first | exact .slNil _ | exact .slE _ _ ‹_› | exact .sl _ _ _ _ _ _ ‹_› ‹_› ‹_› ‹_›))
theorem deeps_append : ∀ {l r l' r' : List V}, deeps l = some l' → deeps r = some r' → deeps (l ++ r) = some (l' ++ r')
  | [], r, l', r', h, g => by simp only [deeps, Option.some.injEq] at h; subst h; exact g
  | v :: l, r, l', r', h, g => by
    simp only [deeps] at h
    split at h
    · rename_i x y hx hy
      simp only [Option.some.injEq] at h
      subst h
      simp only [List.cons_append, deeps, hx, deeps_append hy g]
    · cases h
theorem deeps_spec : ∀ {l l' : List V}, deeps l = some l' → l'.length = l.length ∧ ∀ (j : Nat) (d : V), l'[j]? = some d → ∃ v, l[j]? = some v ∧ v.deep = some d
  | [], l', h => by simp only [deeps, Option.some.injEq] at h; subst h; exact ⟨rfl, fun j d hd => by simp at hd⟩
  | v :: l, l', h => by
    simp only [deeps] at h
    split at h
    · rename_i x y hx hy
      simp only [Option.some.injEq] at h
      subst h
      obtain ⟨h1, h2⟩ := deeps_spec hy
      refine ⟨by simp [h1], fun j d hd => ?_⟩
      cases j with
      | zero => simp at hd; subst hd; exact ⟨v, rfl, hx⟩
      | succ j => exact h2 j d (by simpa using hd)
    · cases h
theorem deepElems_spec : ∀ {es ds : List (List V)}, deepElems es = some ds → deeps es.flatten = some ds.flatten ∧ ds.length = es.length ∧ ∀ {sz : Nat}, (∀ e ∈ es, e.length = sz) → ∀ e ∈ ds, e.length = sz
  | [], ds, h => by simp only [deepElems, Option.some.injEq] at h; subst h; exact ⟨rfl, rfl, fun _ e he => by cases he⟩
  | e :: es, ds, h => by
    simp only [deepElems] at h
    split at h
    · rename_i x y hx hy
      simp only [Option.some.injEq] at h
      subst h
      obtain ⟨h1, h2, h3⟩ := deepElems_spec hy
      refine ⟨deeps_append hx h1, by simp [h2], fun hl d hd => ?_⟩
      cases hd with
      | head => rw [(deeps_spec hx).1]; exact hl e (.head _)
      | tail _ hd => exact h3 (fun d hd => hl d (.tail _ hd)) d hd
    · cases h
theorem passes_append : ∀ {l r l' r' : List V}, passes l = some l' → passes r = some r' → passes (l ++ r) = some (l' ++ r')
  | [], r, l', r', h, g => by simp only [passes, Option.some.injEq] at h; subst h; exact g
  | v :: l, r, l', r', h, g => by
    simp only [passes] at h
    split at h
    · rename_i x y hx hy
      simp only [Option.some.injEq] at h
      subst h
      simp only [List.cons_append, passes, hx, passes_append hy g]
    · cases h
theorem passes_len : ∀ {l l' : List V}, passes l = some l' → l'.length = l.length
  | [], l', h => by simp only [passes, Option.some.injEq] at h; subst h; rfl
  | v :: l, l', h => by
    simp only [passes] at h
    split at h
    · rename_i x y hx hy
      simp only [Option.some.injEq] at h
      subst h
      simp [passes_len hy]
    · cases h
theorem ownG_len {g : Bool} {l l' : List V} (h : ownG g l = some l') : l'.length = l.length := by
  cases g with
  | true => exact passes_len h
  | false => simp only [ownG, Option.some.injEq] at h; rw [h]
theorem ownElems_spec {g : Bool} : ∀ {es ds : List (List V)}, ownElems g es = some ds → ownG g es.flatten = some ds.flatten ∧ ds.length = es.length ∧ ∀ {sz : Nat}, (∀ e ∈ es, e.length = sz) → ∀ e ∈ ds, e.length = sz
  | [], ds, h => by simp only [ownElems, Option.some.injEq] at h; subst h; cases g <;> exact ⟨rfl, rfl, fun _ e he => by cases he⟩
  | e :: es, ds, h => by
    simp only [ownElems] at h
    split at h
    · rename_i x y hx hy
      simp only [Option.some.injEq] at h
      subst h
      obtain ⟨h1, h2, h3⟩ := ownElems_spec hy
      refine ⟨?_, by simp [h2], fun hl d hd => ?_⟩
      · cases g with
        | true => exact passes_append hx h1
        | false => simp only [ownG, Option.some.injEq] at hx h1 ⊢; simp [hx, h1]
      · cases hd with
        | head => rw [ownG_len hx]; exact hl e (.head _)
        | tail _ hd => exact h3 (fun d hd => hl d (.tail _ hd)) d hd
    · cases h

/-- Elements that lie in a row of values, from some place on. -/
def InRow (E : Env) (cs : List V) (xs : List Value) : Prop := ∀ (j : Nat) (v : V), cs[j]? = some v → ∃ x, xs[j]? = some x ∧ Rel E v x ∧ x.oneCell' = true
def InRowD (I : Imm) (cs : List V) (xs : List Value) : Prop := ∀ (j : Nat) (v : V), cs[j]? = some v → ∃ x, xs[j]? = some x ∧ RelD I v x
theorem InRowD.mono {I J : Imm} (h : ∀ b o x, I b o = some x → J b o = some x) {cs : List V} {xs : List Value} (hr : InRowD I cs xs) : InRowD J cs xs :=
  fun j v hj => let ⟨x, a, c⟩ := hr j v hj; ⟨x, a, c.mono h⟩

section
variable {P : Program} {o : Oper} {a : Act} {E : Env} {N : Nat} {st : St} {w w' : World} {fr : Fr} {next : Act → World → Prop} {Q : Exit → Act → World → Prop} {K : R → Prop}

/-- A fresh slice of immutable elements. -/
theorem fresh_im (hs : Sim E st w) (gone : Option Key) (g : Bool) {cells : Array Value} {t : TypeId} {fz : Nat × Nat} (hfz : FzOk fz cells.size) (hh : w'.heap = w.heap.push (.cells cells t fz)) (ho : SameOut w w')
    {sz cap : Nat} {ds : List (List V)} (hl : ∀ e ∈ ds, e.length = sz) (hcap : cells.size = cap * sz) (hc : ds.length ≤ cap) (hr : InRowD E.I ds.flatten cells.toList) :
    ∃ E', Sim E' ((match gone with | some k => st.remove k | none => st).push g .spare) w' ∧ Ext E st w E' ((match gone with | some k => st.remove k | none => st).push g .spare) w' ∧
      Rel E' (.sl (some (st.newKey g)) sz ds) (.slice (some ⟨w.heap.size, 0, none⟩) ds.length cap) := by
  have hfl := flat_len hl
  have hle : ds.length * sz ≤ cells.size := by rw [hcap]; exact Nat.mul_le_mul_right _ hc
  obtain ⟨E', s1, s2, s3, s4, s5⟩ := hs.newImm gone g hfz hh ho (ds.length * sz) hle
  refine ⟨E', s1, s2, ?_⟩
  have hr' := hr.mono s2.le.imm
  refine .tsl _ _ _ _ _ s3 (.sl sz ds w.heap.size 0 cap (fun j => cells.toList.getD j default) hc hl (fun j d hj => ?_) (fun j d hj => ?_)) (by rw [s4]; exact ⟨rfl, rfl⟩) (.inr ?_)
  · have hlt : j < ds.length * sz := by rw [← hfl]; exact (List.getElem?_eq_some_iff.1 hj).1
    rw [Nat.zero_add, s5 j hlt]
    have : j < cells.size := by omega
    simp [this]
  · obtain ⟨x, hx, hrx⟩ := hr' j d hj
    simp only [List.getD_eq_getElem?_getD, hx]
    exact hrx
  · rw [s4]; simp [hcap]

/-- A fresh slice that nobody appends to. -/
theorem fresh_fz (hs : Sim E st w) {cells : Array Value} {t : TypeId} {fz : Nat × Nat} (hfz : FzOk fz cells.size) (hh : w'.heap = w.heap.push (.cells cells t fz)) (ho : SameOut w w')
    {sz cap : Nat} {ds : List (List V)} (hl : ∀ e ∈ ds, e.length = sz) (hcap : cells.size = cap * sz) (hc : ds.length ≤ cap) (hr : InRowD E.I ds.flatten cells.toList) :
    ∃ E', Sim E' st w' ∧ Ext E st w E' st w' ∧ Rel E' (.sl none sz ds) (.slice (some ⟨w.heap.size, 0, none⟩) ds.length cap) := by
  obtain ⟨E', s1, s2, s3⟩ := fresh_im hs none false hfz hh ho hl hcap hc hr
  dsimp only at s1 s2
  have hlp : ∀ k, st.live k → (st.push false .spare).live k := by
    rintro k ⟨o, hk⟩
    refine ⟨o, ?_⟩
    rw [St.get_push, if_neg, hk]
    intro e
    have := hs.dom k ⟨o, hk⟩
    rw [e, hs.newKey] at this
    exact Env.not_has_newKey E false this
  have hle : E.Le { E' with nl := E.nl } := ⟨s2.le.imm, s2.le.ng, Nat.le_refl _, s2.le.loc⟩
  have hsame : ∀ k, st.live k → w'.heap[(E.μ k).blk]? = w.heap[(E.μ k).blk]? := fun k hk => by
    rw [hh, Array.getElem?_push, if_neg (Nat.ne_of_lt (hs.lt hk))]
  refine ⟨{ E' with nl := E.nl }, ⟨?_, hs.nl, fun k hk => hle.has (hs.dom k hk), s1.imm, fun k o hk => ?_, fun k k' hk hk' hne => ?_, fun k hk => s1.own k (hlp k hk)⟩,
    ⟨hle, s2.size, s2.immNew, fun k hk _ => hk, fun k hk hn => absurd (hs.dom k hk) hn, s2.same, s2.os, s2.out, s2.tape⟩, ?_⟩
  · have := s1.ng
    simpa [St.push] using this
  · have := (hs.obj k o hk).keep (Env.at_mono hle k) (hsame k ⟨o, hk⟩)
    rw [show ({ E' with nl := E.nl } : Env).μ k = E.μ k from hle.loc k (hs.dom k ⟨o, hk⟩)]
    exact this
  · rw [hle.loc k (hs.dom k hk), hle.loc k' (hs.dom k' hk')]
    exact hs.sep k k' hk hk' hne
  · cases s3 with
    | deep hd => cases hd
    | tsl _ _ _ _ _ hk hd => exact .deep hd

/-- A fresh slice of elements that may be written. -/
theorem fresh_mu (hs : Sim E st w) (gone : Option Key) (g : Bool) {cells : Array Value} {t : TypeId} {fz : Nat × Nat} (hfz : FzOk fz cells.size) (hh : w'.heap = w.heap.push (.cells cells t fz)) (ho : SameOut w w')
    {sz cap : Nat} {ds : List (List V)} (hl : ∀ e ∈ ds, e.length = sz) (hcap : cells.size = cap * sz) (hc : ds.length ≤ cap) (hr : InRow (E.ofG g) ds.flatten cells.toList) :
    ∃ E', Sim E' ((match gone with | some k => st.remove k | none => st).push g (.arr sz ds)) w' ∧ Ext E st w E' ((match gone with | some k => st.remove k | none => st).push g (.arr sz ds)) w' ∧
      Rel E' (.ms (st.newKey g) sz 0 ds.length) (.slice (some ⟨w.heap.size, 0, none⟩) ds.length cap) := by
  have hfl := flat_len hl
  have hle : ds.length * sz ≤ cells.size := by rw [hcap]; exact Nat.mul_le_mul_right _ hc
  obtain ⟨E', s1, s2, s3, s4⟩ := hs.newRow gone g hfz hh ho (.arr sz ds) ds.flatten (fun F L _ h => ⟨hl, h⟩) (by omega) (fun j v hj => let ⟨x, hx, h⟩ := hr j v hj; ⟨x, by simpa using hx, h⟩)
  refine ⟨E', s1, s2, .ms _ _ _ _ _ _ s3 hc ?_ (by rw [s4]) (.inr ?_)⟩
  · rw [s4]; simp [hcap]
  · rw [s4]; simp

/-- By its mode. -/
theorem newSlice_ok {m : SMode} {sz : Nat} {es : List (List V)} {A : CallP} (hw : (newSlice m sz es st).wp A K) (hs : Sim E st w) {cells : Array Value} {t : TypeId} {fz : Nat × Nat} (hfz : FzOk fz cells.size)
    (hh : w'.heap = w.heap.push (.cells cells t fz)) (ho : SameOut w w') {cap : Nat} (hl : ∀ e ∈ es, e.length = sz) (hcap : cells.size = cap * sz) (hc : es.length ≤ cap) (hr : InRow E es.flatten cells.toList) :
    ∃ v st' E', K (v, st') ∧ Sim E' st' w' ∧ Ext E st w E' st' w' ∧ Rel E' v (.slice (some ⟨w.heap.size, 0, none⟩) es.length cap) := by
  cases m with
  | im g =>
    obtain ⟨ds, hd, hk⟩ := hw
    obtain ⟨h1, h2, h3⟩ := deepElems_spec hd
    have hrd : InRowD E.I ds.flatten cells.toList := by
      intro j d hj
      obtain ⟨v, hv, hvd⟩ := (deeps_spec h1).2 j d hj
      obtain ⟨x, hx, hrx, _⟩ := hr j v hv
      exact ⟨x, hx, deep_rel hvd hrx⟩
    obtain ⟨E', s1, s2, s3⟩ := fresh_im hs none g hfz hh ho (h3 hl) hcap (by omega) hrd
    exact ⟨_, _, E', hk, s1, s2, by rw [h2] at s3; exact s3⟩
  | fz =>
    obtain ⟨ds, hd, hk⟩ := hw
    obtain ⟨h1, h2, h3⟩ := deepElems_spec hd
    have hrd : InRowD E.I ds.flatten cells.toList := by
      intro j d hj
      obtain ⟨v, hv, hvd⟩ := (deeps_spec h1).2 j d hj
      obtain ⟨x, hx, hrx, _⟩ := hr j v hv
      exact ⟨x, hx, deep_rel hvd hrx⟩
    obtain ⟨E', s1, s2, s3⟩ := fresh_fz hs hfz hh ho (h3 hl) hcap (by omega) hrd
    exact ⟨_, _, E', hk, s1, s2, by rw [h2] at s3; exact s3⟩
  | mu g =>
    obtain ⟨ds, hd, hk⟩ := hw
    obtain ⟨h1, h2, h3⟩ := ownElems_spec hd
    have hrd : InRow (E.ofG g) ds.flatten cells.toList := by
      intro j d hj
      have hlen := ownG_len h1
      have hlt : j < es.flatten.length := by rw [← hlen]; exact (List.getElem?_eq_some_iff.1 hj).1
      obtain ⟨x, hx, hrx, h1x⟩ := hr j _ (List.getElem?_eq_getElem hlt)
      have hrl : RelL E es.flatten (cells.extract 0 es.flatten.length) := by
        have hsz : es.flatten.length ≤ cells.size := by rw [flat_len hl, hcap]; exact Nat.mul_le_mul_right _ hc
        refine ⟨by rw [Array.size_extract]; omega, fun j v y hj hy => ?_⟩
        obtain ⟨z, hz, hrz, _⟩ := hr j v hj
        rw [Array.getElem?_extract] at hy
        split at hy
        · rw [Nat.zero_add] at hy
          rw [Array.getElem?_toList, hy] at hz
          cases hz; exact hrz
        · cases hy
      have := ownG_rel h1 hrl
      refine ⟨x, hx, this.2 j d x hj ?_, h1x⟩
      have hc' : j < cells.size := by
        have := (List.getElem?_eq_some_iff.1 hx).1
        simpa using this
      rw [Array.getElem?_extract, if_pos (by omega), Nat.zero_add]
      simpa using hx
    obtain ⟨E', s1, s2, s3⟩ := fresh_mu hs none g hfz hh ho (h3 hl) hcap (by omega) hrd
    exact ⟨_, _, E', hk, s1, s2, by rw [h2] at s3 ⊢; exact s3⟩
end
end Go.Eng
