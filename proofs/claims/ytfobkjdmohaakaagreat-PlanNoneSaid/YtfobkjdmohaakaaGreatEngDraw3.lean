/-
Regions whose order is drawn: the check comes to what the law asks, and the law of the whole region.
-/
import Derived.Test.YtfobkjdmohaakaaGreatEngDraw2
namespace Go.Eng
open Go

section
variable {P : Program} {ops : Array Oper} {N : Nat} {K : Fr × St → Prop} {Q : Exit → Act → World → Prop}

theorem okOne_spec {d : DOper} (h : okOne P N ops d = true) : ∃ o, OneOk P N ops d o := by
  unfold okOne at h
  split at h
  case h_2 => cases h
  rename_i o ho
  simp only [Bool.and_eq_true, decide_eq_true_eq, Bool.or_eq_true] at h
  obtain ⟨⟨⟨⟨⟨h1, h2⟩, h3⟩, h4⟩, h5⟩, h6⟩ := h
  refine ⟨o, ho, h1, h2, fun n hn => ?_, h4, fun hl => ?_, fun n hn hm => ?_⟩
  · rw [hn] at h3; simpa [dstOk] using h3
  · rcases h5 with h5 | h5
    · rw [hl] at h5; cases h5
    · exact h5
  · rw [hn] at h6
    simp only [Bool.not_eq_true'] at h6
    rw [memNat_iff.2 hm] at h6; cases h6

theorem len_of_nodup : ∀ (n : Nat) {l : List Nat}, l.Nodup → (∀ i ∈ l, i < n) → l.length ≤ n
  | 0, l, _, hb => by
    cases l with
    | nil => simp
    | cons x r => have := hb x (.head _); omega
  | n + 1, l, hn, hb => by
    by_cases hm : n ∈ l
    · have hlen := List.length_erase_of_mem hm
      have := len_of_nodup n (l := l.erase n) (hn.erase n) (fun j hj => by
        have h1 := (hn.mem_erase_iff.1 hj)
        have h2 := hb j h1.2
        omega)
      omega
    · have := len_of_nodup n (l := l) hn (fun j hj => by
        have h1 := hb j hj
        have h2 : j ≠ n := fun e => hm (e ▸ hj)
        omega)
      omega
/-- So many different numbers below n: all of them. -/
theorem full_of_nodup : ∀ (n : Nat) {l : List Nat}, l.Nodup → (∀ i ∈ l, i < n) → l.length = n → ∀ i, i < n → i ∈ l
  | 0, l, _, _, _, i, hi => by omega
  | n + 1, l, hn, hb, hl, i, hi => by
    have hmem : n ∈ l := by
      refine Classical.byContradiction fun hno => ?_
      have : l.length ≤ n := by
        refine len_of_nodup n hn fun j hj => ?_
        have h1 := hb j hj
        have h2 : j ≠ n := fun e => hno (e ▸ hj)
        omega
      omega
    by_cases hin : i = n
    · subst hin; exact hmem
    have hlen := List.length_erase_of_mem hmem
    have := full_of_nodup n (l := l.erase n) (hn.erase n) (fun j hj => by
      have h1 := (hn.mem_erase_iff.1 hj)
      have h2 := hb j h1.2
      omega) (by omega) i (by omega)
    exact List.mem_of_mem_erase this

theorem okDraw_spec {ds : List DOper} (h : okDraw P N ops ds = true) : DrawOk P N ops ds := by
  unfold okDraw at h
  simp only [Bool.and_eq_true, decide_eq_true_eq, List.all_eq_true] at h
  obtain ⟨⟨⟨⟨h1, h2⟩, h3⟩, h4⟩, h5⟩ := h
  obtain ⟨e1, e2, _⟩ := okEdges_spec h5
  refine ⟨h1, fun d hd => okOne_spec (h3 d hd), okPairs_spec (allAncs_ok ops _) h4, fun pre d suf hds o ho e he hb => ?_, e2, fun i hi => ?_⟩
  · rcases e1 pre d suf hds o ho e he hb with hm | h
    · cases hm
    · exact h
  · have := full_of_nodup ops.size (l := ds.map (·.ix)) e2 (fun j hj => by
      obtain ⟨d, hd, rfl⟩ := List.mem_map.1 hj
      obtain ⟨o, ho⟩ := okOne_spec (h3 d hd)
      exact (Array.getElem?_eq_some_iff.1 ho.at_).1) (by simpa using h2) i hi
    obtain ⟨d, hd, hdi⟩ := List.mem_map.1 this
    exact ⟨d, hd, hdi⟩

theorem unCount_le (listed : Array Bool) : ∀ l : List DOper, unCount listed l ≤ l.length
  | [] => Nat.le_refl _
  | d :: r => by
    have := unCount_le listed r
    simp only [unCount, List.length_cons]
    split <;> omega

/-- (DRAW) A region whose order is drawn. -/
theorem draw_ok {ds : List DOper} (hk : okDraw P N ops ds = true) {id : Nat} {E : Env} {st : St} {w : World} {fr : Fr} {a : Act} (hs : Sim E st w) (hf : FrRel E N fr a)
    (hw : (runD [] ds fr st).wp (ACall P) K)
    (hQ : ∀ fr' st' E' a' w', K (fr', st') → Sim E' st' w' → Ext E st w E' st' w' → FrRel E' N fr' a' → a'.defers = a.defers → Q .normal a' w') :
    (Code.region id ops true).wp P Q a w := by
  have hd := okDraw_spec hk
  refine wp_region_any hd.md ?_
  have hlen : ds.length = ops.size := by
    unfold okDraw at hk
    simp only [Bool.and_eq_true, decide_eq_true_eq] at hk
    exact hk.1.1.1.2
  have hun : ∀ d ∈ ds, Un (Array.replicate ops.size false) d := fun d hdm => by
    obtain ⟨o, ho⟩ := hd.one d hdm
    have hlt := (Array.getElem?_eq_some_iff.1 ho.at_).1
    simp [Un, Array.getD_eq_getD_getElem?, hlt]
  have hsize : (Array.replicate ops.size false).size = ops.size := by simp
  refine draw_any (K := K) hd (E0 := E) (st0 := st) (w0 := w) (a0 := a) (fun fr' st' E' a' w' h1 h2 h3 h4 h5 => hQ fr' st' E' a' w' h1 h2 h3 h4 h5)
    ops.size (pre := []) (suf := ds) (E := E) (st := st) (fr := fr) (by simp) ?_ (Ext.drawn (w.drawn + 1)) rfl hsize ?_ ?_
  · refine ⟨hs.of_heap (w := w) (w' := { w with drawn := w.drawn + 1 }) rfl, hf.size, fun t _ => hf.rel t, hun, fun d hd => (by cases hd), [], fun x h => h, fun x h => h, hw⟩
  · intro i o hi ho
    have hlt := (Array.getElem?_eq_some_iff.1 ho).1
    simp [Array.getD_eq_getD_getElem?, hlt] at hi
  · rw [← hlen]; exact unCount_le _ _
end
end Go.Eng
