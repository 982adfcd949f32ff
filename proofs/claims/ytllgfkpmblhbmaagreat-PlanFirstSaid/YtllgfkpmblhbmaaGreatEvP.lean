/-
Who has to go, in plain lists.
-/
import Derived.Test.YtllgfkpmblhbmaaGreatFitW3
import Derived.Test.YtllgfkpmblhbmaaGreatWiP
set_option linter.unusedVariables false
set_option linter.unusedSimpArgs false
namespace Go.Eng
open Go
theorem least_spec {o : StD} {p : PodD} : ∀ {N : List NodeD} {here : Int}, leastD o p here N ≤ here ∧ (∀ n ∈ N, (getD n.labels p.topo).2 = true → leastD o p here N ≤ countD o p.topo (getD n.labels p.topo).1 p.even) ∧
    (leastD o p here N = here ∨ ∃ n ∈ N, (getD n.labels p.topo).2 = true ∧ leastD o p here N = countD o p.topo (getD n.labels p.topo).1 p.even)
  | [], here => ⟨Int.le_refl _, fun n h => (by cases h), .inl rfl⟩
  | n :: r, here => by
    rw [leastD]
    cases hl : (getD n.labels p.topo).2 with
    | false =>
      rw [if_neg (by decide)]
      obtain ⟨h1, h2, h3⟩ := least_spec (o := o) (p := p) (N := r) (here := here)
      refine ⟨h1, fun m hm hml => ?_, h3.imp id fun ⟨m, a, b⟩ => ⟨m, .tail _ a, b⟩⟩
      cases hm with
      | head => rw [hl] at hml; cases hml
      | tail _ hm => exact h2 m hm hml
    | true =>
      rw [if_pos rfl]
      obtain ⟨c, hc⟩ : ∃ c : Int, c = countD o p.topo (getD n.labels p.topo).1 p.even := ⟨_, rfl⟩
      rw [← hc]
      obtain ⟨h1, h2, h3⟩ := least_spec (o := o) (p := p) (N := r) (here := minI here c)
      have hm1 : minI here c ≤ here ∧ minI here c ≤ c ∧ (minI here c = here ∨ minI here c = c) := by
        unfold minI; split <;> omega
      refine ⟨by omega, fun m hm hml => ?_, ?_⟩
      · cases hm with
        | head => omega
        | tail _ hm => exact h2 m hm hml
      · rcases h3 with h3 | ⟨m, a, b⟩
        · rcases hm1.2.2 with h4 | h4
          · exact .inl (h3.trans h4)
          · exact .inr ⟨n, .head _, hl, by omega⟩
        · exact .inr ⟨m, .tail _ a, b⟩
theorem gone_count {s : StD} {p : PodD} {gs : List Str} {key v : Str} {ts : List TermD} : countD (othersD (withoutD s gs) p) key v ts ≤ countD (othersD s p) key v ts := by
  show (List.filter (inDom s key v ts) (List.filter _ (List.filter _ s.pods))).length ≤ (List.filter (inDom s key v ts) (List.filter _ s.pods)).length
  exact ((List.filter_sublist.filter _).filter _).length_le
theorem gone_same {s : StD} {p : PodD} {gs : List Str} {key v : Str} {ts : List TermD} (h : ∀ q ∈ s.pods, inDom s key v ts q = true → (gs.any fun g => q.name == g) = false) : countD (othersD (withoutD s gs) p) key v ts = countD (othersD s p) key v ts := by
  show (List.filter (inDom s key v ts) (List.filter (fun q => !(q.name == p.name)) (List.filter (fun q => !(gs.any fun g => q.name == g)) s.pods))).length = (List.filter (inDom s key v ts) (List.filter (fun q => !(q.name == p.name)) s.pods)).length
  rw [List.filter_filter, List.filter_filter, List.filter_filter]
  congr 1
  refine List.filter_congr fun q hq => ?_
  cases hd : inDom s key v ts q with
  | false => simp
  | true => simp [h q hq hd]
theorem even_gone {s : StD} {p : PodD} {gs : List Str} {node : Str} (hon : ∀ q ∈ s.pods, (gs.any fun g => q.name == g) = true → q.node = node) (h : evenD s p node = true) : evenD (withoutD s gs) p node = true := by
  unfold evenD at h ⊢
  have hd : domainD (withoutD s gs) p.topo node = domainD s p.topo node := rfl
  rw [hd]
  by_cases hsk : p.skew ≤ 0
  · rw [if_pos hsk]
  rw [if_neg hsk] at h ⊢
  cases hx : (domainD s p.topo node).2 with
  | false => rw [hx] at h; cases h
  | true =>
  rw [hx, if_pos rfl, decide_eq_true_eq] at h
  rw [if_pos rfl, decide_eq_true_eq]
  have hnodes : (withoutD s gs).nodes = s.nodes := rfl
  rw [hnodes]
  obtain ⟨x, hxx⟩ : ∃ x, x = (domainD s p.topo node).1 := ⟨_, rfl⟩
  rw [← hxx] at h ⊢
  have hoth : ∀ v, v ≠ x → countD (othersD (withoutD s gs) p) p.topo v p.even = countD (othersD s p) p.topo v p.even := fun v hv => gone_same fun q hq hd => by
    cases hg : (gs.any fun g => q.name == g) with
    | false => rfl
    | true =>
      exfalso
      have hqn := hon q hq hg
      simp only [inDom, hqn, Bool.and_eq_true, beq_iff_eq] at hd
      exact hv (hd.2.2.symm.trans hxx.symm)
  have hle := gone_count (s := s) (p := p) (gs := gs) (key := p.topo) (v := x) (ts := p.even)
  obtain ⟨a1, a2, _⟩ := least_spec (o := othersD s p) (p := p) (N := s.nodes) (here := countD (othersD s p) p.topo x p.even)
  obtain ⟨_, _, b3⟩ := least_spec (o := othersD (withoutD s gs) p) (p := p) (N := s.nodes) (here := countD (othersD (withoutD s gs) p) p.topo x p.even)
  rcases b3 with b3 | ⟨n, hn, hl, b3⟩
  · rw [b3]; split <;> split at h <;> omega
  · rw [b3]
    have := a2 n hn hl
    by_cases hv : (getD n.labels p.topo).1 = x
    · rw [hv]; split <;> split at h <;> omega
    · rw [hoth _ hv]; split <;> split at h <;> omega
theorem feas_gone {s : StD} {p : PodD} {gs : List Str} {node : Str} (hon : ∀ q ∈ s.pods, (gs.any fun g => q.name == g) = true → q.node = node) (h : feasD s p node = true) : feasD (withoutD s gs) p node = true := by
  have h0 : feasD s { p with skew := 0 } node = true := by
    unfold feasD at h ⊢
    cases hf : s.nodes.find? (fun n => n.name == node) with
    | none => rw [hf] at h; cases h
    | some n =>
      rw [hf] at h
      dsimp only at h ⊢
      simp only [eachD, Bool.and_eq_true] at h ⊢
      obtain ⟨g0, g1, g2, g3, g4, g5, _⟩ := h
      exact ⟨g0, g1, g2, g3, g4, g5, rfl⟩
  have h1 := without_feas (gs := gs) h0 (Int.le_refl 0)
  have h2 : evenD s p node = true := by
    unfold feasD at h
    cases hf : s.nodes.find? (fun n => n.name == node) with
    | none => rw [hf] at h; cases h
    | some n =>
      rw [hf] at h
      dsimp only at h
      simp only [eachD, Bool.and_eq_true] at h
      exact h.2.2.2.2.2.2
  have h3 := even_gone hon h2
  unfold feasD at h1 ⊢
  have hnodes : (withoutD s gs).nodes = s.nodes := rfl
  rw [hnodes] at h1 ⊢
  cases hf : s.nodes.find? (fun n => n.name == node) with
  | none => rw [hf] at h1; cases h1
  | some n =>
    rw [hf] at h1
    dsimp only at h1 ⊢
    simp only [eachD, Bool.and_eq_true] at h1 ⊢
    obtain ⟨g0, g1, g2, g3, g4, g5, _⟩ := h1
    exact ⟨g0, g1, g2, g3, g4, g5, h3⟩
theorem without_congr {s : StD} {l q : List Str} (h : ∀ x, x ∈ l ↔ x ∈ q) : withoutD s l = withoutD s q := by
  unfold withoutD
  congr 1
  refine List.filter_congr fun a _ => ?_
  congr 1
  rw [Bool.eq_iff_iff, List.any_eq_true, List.any_eq_true]
  exact ⟨fun ⟨x, h1, h2⟩ => ⟨x, (h x).1 h1, h2⟩, fun ⟨x, h1, h2⟩ => ⟨x, (h x).2 h1, h2⟩⟩
theorem without_nil (s : StD) : withoutD s [] = s := by
  have : s.pods.filter (fun q => !(([] : List Str).any fun g => q.name == g)) = s.pods := List.filter_eq_self.2 fun q _ => rfl
  unfold withoutD
  rw [this]
/-- How those who may have to go are compared. -/
def cmpV (a b : PodD) : Int := if cmpI b.prio a.prio = 0 then cmpB a.name b.name else cmpI b.prio a.prio
def lowerD (s : StD) (p : PodD) (node : Str) : List PodD := isortD (fun a b => decide (cmpV a b < 0)) ((onD s node).filter fun q => !decide (p.prio ≤ q.prio))
def lessG (gone : List Str) (q : PodD) : List Str := gone.filter fun n => !(n == q.name)
def keepGo (s : StD) (p : PodD) (node : Str) : List PodD → List Str → List Str
  | [], gone => gone
  | q :: r, gone => keepGo s p node r (if feasD (withoutD s (lessG gone q)) p node then lessG gone q else gone)
def sortS (l : List Str) : List Str := l.mergeSort fun x y => !decide (cmpB y x < 0)
def victD (s : StD) (p : PodD) (node : Str) : Option (List Str) :=
  if feasD (withoutD s ((lowerD s p node).map (·.name))) p node then some (sortS (keepGo s p node (lowerD s p node) ((lowerD s p node).map (·.name)))) else none
theorem mem_sortS {l : List Str} {x : Str} : x ∈ sortS l ↔ x ∈ l := (List.mergeSort_perm l _).mem_iff
theorem mem_lower {s : StD} {p q : PodD} {node : Str} : q ∈ lowerD s p node ↔ (q ∈ s.pods ∧ q.node = node ∧ node ≠ [] ∧ q.prio < p.prio) := by
  unfold lowerD
  rw [(isortD_perm _).mem_iff, List.mem_filter, onD, List.mem_filter]
  simp only [Bool.and_eq_true, beq_iff_eq, Bool.not_eq_true', decide_eq_false_iff_not, Int.not_le, beq_eq_false_iff_ne]
  exact ⟨fun ⟨⟨a, b, c⟩, d⟩ => ⟨a, b, c, d⟩, fun ⟨a, b, c, d⟩ => ⟨⟨a, b, c⟩, d⟩⟩
theorem keep_feas {s : StD} {p : PodD} {node : Str} : ∀ {lo : List PodD} {gone : List Str}, feasD (withoutD s gone) p node = true → feasD (withoutD s (keepGo s p node lo gone)) p node = true
  | [], _, h => h
  | q :: r, gone, h => by
    rw [keepGo]
    refine keep_feas ?_
    split
    · rename_i h1; exact h1
    · exact h
theorem keep_sub {s : StD} {p : PodD} {node : Str} : ∀ {lo : List PodD} {gone : List Str} {x : Str}, x ∈ keepGo s p node lo gone → x ∈ gone
  | [], _, _, h => h
  | q :: r, gone, x, h => by
    rw [keepGo] at h
    have := keep_sub h
    split at this
    · exact (List.mem_filter.1 this).1
    · exact this
theorem keep_free {s : StD} {p : PodD} {node : Str} : ∀ {lo : List PodD} {gone : List Str}, (∀ gs : List Str, (∀ x ∈ gs, x ∈ gone) → feasD (withoutD s gs) p node = true) → ∀ x ∈ keepGo s p node lo gone, ∀ q ∈ lo, x ≠ q.name
  | [], _, _, _, _, q, hq => by cases hq
  | q :: r, gone, h, x, hx, q', hq => by
    rw [keepGo, if_pos (h (lessG gone q) fun y hy => (List.mem_filter.1 hy).1)] at hx
    cases hq with
    | head =>
      have := keep_sub hx
      have := (List.mem_filter.1 this).2
      simpa using this
    | tail _ hq => exact keep_free (fun gs hgs => h gs fun y hy => (List.mem_filter.1 (hgs y hy)).1) x hx q' hq
theorem vict_some {s : StD} {p : PodD} {node : Str} {l : List Str} (h : victD s p node = some l) : feasD (withoutD s l) p node = true ∧ ∀ x ∈ l, ∃ q ∈ s.pods, q.name = x ∧ q.node = node ∧ q.prio < p.prio := by
  unfold victD at h
  split at h
  · rename_i hf
    cases h
    refine ⟨?_, fun x hx => ?_⟩
    · rw [without_congr (fun x => mem_sortS)]
      exact keep_feas hf
    · have := keep_sub (mem_sortS.1 hx)
      obtain ⟨q, hq, rfl⟩ := List.mem_map.1 this
      obtain ⟨a, b, _, d⟩ := mem_lower.1 hq
      exact ⟨q, a, rfl, b, d⟩
  · cases h
theorem vict_feas {s : StD} {p : PodD} {node : Str} (hn : ∀ a ∈ s.pods, ∀ b ∈ s.pods, a.name = b.name → a = b) (h : feasD s p node = true) : victD s p node = some [] := by
  have hon : ∀ gs : List Str, (∀ x ∈ gs, x ∈ (lowerD s p node).map (·.name)) → feasD (withoutD s gs) p node = true := fun gs hgs => feas_gone (fun q hq hg => by
    obtain ⟨g, h1, h2⟩ := List.any_eq_true.1 hg
    obtain ⟨q', hq', e⟩ := List.mem_map.1 (hgs g h1)
    obtain ⟨a, b, _⟩ := mem_lower.1 hq'
    have : q = q' := hn q hq q' a ((by simpa using h2 : q.name = g).trans e.symm)
    rw [this]; exact b) h
  unfold victD
  rw [if_pos (hon _ fun x hx => hx)]
  have he : keepGo s p node (lowerD s p node) ((lowerD s p node).map (·.name)) = [] := by
    rw [List.eq_nil_iff_forall_not_mem]
    intro x hx
    obtain ⟨q, hq, e⟩ := List.mem_map.1 (keep_sub hx)
    exact keep_free hon x hx q hq e.symm
  rw [he]
  simp [sortS]
theorem vict_nil {s : StD} {p : PodD} {node : Str} (h : victD s p node = some []) : feasD s p node = true := by
  have := (vict_some h).1
  rwa [without_nil] at this
end Go.Eng
