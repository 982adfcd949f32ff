/-
What a store was at each revision, in plain lists.
-/
import Derived.Test.YtcckglahpbmakaaGreatSgC
set_option linter.unusedVariables false
set_option linter.unusedSimpArgs false
namespace Go.Eng
open Go
def atR (all : List EvD) (r : Int) : List EnD := (all.filter fun x => decide (x.e.rev ≤ r)).foldl stepL []
structure AllOk (all : List EvD) (R : Int) : Prop where
  r0 : 0 ≤ R
  sorted : all.Pairwise fun a b => a.e.rev ≤ b.e.rev
  each : ∀ x ∈ all, (1 ≤ x.e.rev ∧ x.e.rev ≤ R) ∧ (1 ≤ x.e.key.length ∧ x.e.key.length ≤ 20) ∧ x.e.val.length ≤ 4000
theorem CaRel.self {L : List EnD} (h : Rise L) : CaRel L L := ⟨fun _ => rfl, h.nodup, h⟩
theorem AllOk.split {all : List EvD} {R : Int} (h : AllOk all R) (r : Int) : (all.filter fun x => decide (x.e.rev ≤ r)) ++ (all.filter fun x => decide (r < x.e.rev)) = all := by
  have := h.sorted
  clear h
  induction all with
  | nil => rfl
  | cons a q ih =>
    rw [List.pairwise_cons] at this
    have ih := ih this.2
    by_cases c : a.e.rev ≤ r
    · rw [List.filter_cons_of_pos (by simpa using c), List.filter_cons_of_neg (by simpa using c), List.cons_append, ih]
    · have h1 : (q.filter fun x => decide (x.e.rev ≤ r)) = [] := List.filter_eq_nil_iff.2 fun x hx => by have := this.1 x hx; simp; omega
      have h2 : (q.filter fun x => decide (r < x.e.rev)) = q := List.filter_eq_self.2 fun x hx => by have := this.1 x hx; simp; omega
      rw [List.filter_cons_of_neg (by simpa using c), List.filter_cons_of_pos (by simp; omega), h1, h2]; rfl
theorem AllOk.last {all : List EvD} {R : Int} (h : AllOk all R) : atR all R = all.foldl stepL [] := by
  unfold atR
  rw [List.filter_eq_self.2 fun x hx => decide_eq_true (h.each x hx).1.2]
theorem AllOk.jump {all : List EvD} {R r : Int} (h : AllOk all R) : (all.filter fun x => decide (r < x.e.rev)).foldl stepL (atR all r) = atR all R := by
  rw [h.last]
  unfold atR
  rw [← List.foldl_append, h.split]
theorem AllOk.nil : AllOk [] 0 := ⟨by decide, .nil, fun _ h => by cases h⟩
theorem AllOk.txn {all : List EvD} {R : Int} (h : AllOk all R) {ws : List WrD} (hw : ∀ w ∈ ws, WrMay w) : AllOk (all ++ evW (R + 1) ws) (R + 1) := by
  have h0 := h.r0
  refine ⟨by omega, ?_, fun x hx => ?_⟩
  · rw [List.pairwise_append]
    refine ⟨h.sorted, ?_, fun a ha b hb => ?_⟩
    · unfold evW
      rw [List.pairwise_map]
      exact List.pairwise_of_forall fun _ _ => Int.le_refl _
    · obtain ⟨w, _, rfl⟩ := List.mem_map.1 hb
      have := (h.each a ha).1.2
      show a.e.rev ≤ R + 1
      omega
  · rcases List.mem_append.1 hx with hx | hx
    · have := h.each x hx
      exact ⟨⟨this.1.1, by omega⟩, this.2⟩
    · obtain ⟨w, hm, rfl⟩ := List.mem_map.1 hx
      have := hw w hm
      exact ⟨⟨by show 1 ≤ R + 1; omega, Int.le_refl _⟩, this.key, this.val⟩
theorem atR_txn {all : List EvD} {R r : Int} (hr : r ≤ R) (ws : List WrD) : atR (all ++ evW (R + 1) ws) r = atR all r := by
  unfold atR
  have h1 : (evW (R + 1) ws).filter (fun x => decide (x.e.rev ≤ r)) = [] := List.filter_eq_nil_iff.2 fun x hx => by
    obtain ⟨w, _, rfl⟩ := List.mem_map.1 hx
    simp; omega
  rw [List.filter_append, h1, List.append_nil]
theorem stepL_mem {L : List EnD} {x : EvD} {e : EnD} (h : e ∈ stepL L x) : e = x.e ∨ e ∈ L := layD_mem h
theorem foldl_mem : ∀ {xs : List EvD} {L : List EnD} {e : EnD}, e ∈ xs.foldl stepL L → e ∈ L ∨ ∃ x ∈ xs, e = x.e
  | [], _, _, h => .inl h
  | x :: r, L, e, h => by
    rcases foldl_mem (xs := r) h with h | ⟨y, hy, h⟩
    · rcases stepL_mem h with h | h
      · exact .inr ⟨x, .head _, h⟩
      · exact .inl h
    · exact .inr ⟨y, .tail _ hy, h⟩
theorem foldl_rise : ∀ {xs : List EvD} {L : List EnD}, Rise L → Rise (xs.foldl stepL L)
  | [], _, h => h
  | x :: r, L, h => foldl_rise (xs := r) (L := stepL L x) (layD_rise h)
theorem foldl_len : ∀ (xs : List EvD) (L : List EnD), (xs.foldl stepL L).length ≤ L.length + xs.length
  | [], L => by simp
  | x :: r, L => by
    have h1 := foldl_len r (stepL L x)
    have h2 := layD_len x.e x.gone L
    show (r.foldl stepL (stepL L x)).length ≤ _
    unfold stepL at h1 ⊢
    simp only [List.length_cons]
    omega
theorem atR_rise (all : List EvD) (r : Int) : Rise (atR all r) := foldl_rise .nil
theorem atR_len (all : List EvD) (r : Int) : (atR all r).length ≤ all.length := by
  have h1 := foldl_len (all.filter fun x => decide (x.e.rev ≤ r)) []
  have h2 := List.length_filter_le (fun x : EvD => decide (x.e.rev ≤ r)) all
  unfold atR
  simp only [List.length_nil] at h1
  omega
structure EntMay (e : EnD) (R : Int) : Prop where
  rev : 1 ≤ e.rev ∧ e.rev ≤ R
  key : 1 ≤ e.key.length ∧ e.key.length ≤ 20
  val : e.val.length ≤ 4000
theorem EntMay.ok {e : EnD} {R : Int} (h : EntMay e R) : EnOk e := ⟨by have := h.val; omega, by have := h.key; omega⟩
theorem AllOk.ent {all : List EvD} {R r : Int} (h : AllOk all R) {e : EnD} (he : e ∈ atR all r) : EntMay e R ∧ e.rev ≤ r := by
  rcases foldl_mem he with he | ⟨x, hx, rfl⟩
  · cases he
  · obtain ⟨h1, h2⟩ := List.mem_filter.1 hx
    have := h.each x h1
    exact ⟨⟨this.1, this.2.1, this.2.2⟩, by simpa using h2⟩
theorem okE_rise : ∀ (S L : List EnD) {R : Int}, (∀ e ∈ L, EntMay e R) → ((S ++ L).map (·.key)).Nodup → okE R S L = true
  | S, [], _, _, _ => rfl
  | S, e :: r, R, h, hn => by
    have h1 : getE S e.key = none := by
      rw [getE_none]
      intro hc
      rw [List.map_append, List.nodup_append] at hn
      exact hn.2.2 _ hc _ (by simp) rfl
    have he := h e (.head _)
    have hk : e.key ≠ [] := by intro hc; have := he.key.1; rw [hc] at this; simp at this
    unfold okE
    rw [h1, okE_rise (S ++ [e]) r (fun x hx => h x (.tail _ hx)) (by simpa using hn), decide_eq_false hk, decide_eq_true he.rev.1, decide_eq_true he.rev.2]
    rfl
theorem AllOk.okE {all : List EvD} {R : Int} (h : AllOk all R) : okE R [] (atR all R) = true :=
  okE_rise [] _ (fun _ he => (h.ent he).1) (by simpa using (atR_rise all R).nodup)
theorem okV_sorted (r R : Int) : ∀ {xs : List EvD} {last : Int}, xs.Pairwise (fun a b => a.e.rev ≤ b.e.rev) → (∀ x ∈ xs, r < x.e.rev ∧ x.e.rev ≤ R) → (∀ x ∈ xs, last ≤ x.e.rev) → okV r R last xs = true
  | [], _, _, _, _ => rfl
  | x :: q, last, hs, hb, hl => by
    rw [List.pairwise_cons] at hs
    have hx := hb x (.head _)
    unfold okV
    rw [okV_sorted r R hs.2 (fun y hy => hb y (.tail _ hy)) hs.1, decide_eq_true (hl x (.head _)), decide_eq_true hx.1, decide_eq_true hx.2]
    rfl
theorem AllOk.okAp {all : List EvD} {R r : Int} (h : AllOk all R) (h0 : 0 ≤ r) (hr : r ≤ R) : okAp r r R (all.filter fun x => decide (r < x.e.rev)) = true := by
  unfold Go.Eng.okAp
  rw [decide_eq_true h0, decide_eq_true rfl, decide_eq_true hr, okV_sorted r R (h.sorted.filter _) (fun x hx => by
    obtain ⟨h1, h2⟩ := List.mem_filter.1 hx
    exact ⟨by simpa using h2, (h.each x h1).1.2⟩) (fun x hx => by
    obtain ⟨_, h2⟩ := List.mem_filter.1 hx
    simp at h2; omega)]
  rfl
end Go.Eng
