/-
Of replicas whose clocks drift by no more than the margin no two lead at once: the plain law.
-/
import Derived.Test.YtomcdckppplieaaGreatEngD
set_option linter.unusedVariables false
set_option linter.unusedSimpArgs false
namespace Go.Eng
open Go
structure ElD where
  me : Int
  seen : Bool
  there : Bool
  rev : Int
  holder : Int
  dur : Int
  since : Int
  out : Bool
  sent : Int
  term : Int
  frm : Int
def leadsE (e : ElD) (now : Int) : Bool := decide (0 < e.term) && decide (now < e.frm + 900)
def seeE (e : ElD) (now rev holder dur : Int) (there : Bool) : ElD :=
  let rev := if there then rev else 0
  let holder := if there then holder else 0
  let dur := if there then dur else 0
  if e.seen && decide (rev < e.rev) then e else
  let since := if !e.seen || !decide (rev = e.rev) then now else e.since
  let term := if decide (0 < e.term) && decide (e.term < rev) && (!there || !decide (holder = e.me)) then 0 else e.term
  { e with since := since, seen := true, there := there, rev := rev, holder := holder, dur := dur, term := term }
def wantsE (e : ElD) (now : Int) : Bool :=
  if !e.seen then false else
  if leadsE e now then decide (now - e.frm ≥ 300) else
  !e.there || decide (e.holder = e.me) || (decide (1 ≤ e.dur) && decide (e.dur ≤ now - e.since))
def toldOk (e : ElD) (now rev : Int) : ElD := { e with out := false, term := rev, frm := e.sent, seen := true, there := true, rev := rev, since := now, holder := e.me, dur := 1000 }
def updE {α : Type} (f : Nat → α) (k : Nat) (x : α) : Nat → α := fun j => if j = k then x else f j
theorem updE_self {α : Type} (f : Nat → α) (k : Nat) (x : α) : updE f k x k = x := if_pos rfl
theorem updE_ne {α : Type} {f : Nat → α} {k j : Nat} {x : α} (h : j ≠ k) : updE f k x j = f j := if_neg h
/-- A txn of `k`, guarded by revision `g`, that was rightly sent. -/
def SentOk (n : Nat) (E : Nat → ElD) (R : Int) (hold : Int → Nat) (T : Int) (t : Nat → Int) (k : Nat) (g : Int) : Prop :=
  k < n ∧ 0 ≤ g ∧ g ≤ R ∧ (g = 0 ∨ hold g = k ∨ ∃ u, u + 900 ≤ T ∧ ∀ j, j < n → 0 < (E j).term → (E j).term ≤ g → t j ≤ u)
structure One (n : Nat) (E : Nat → ElD) (c : Nat → Int) (R : Int) (hold : Int → Nat) (T : Int) (t u : Nat → Int) : Prop where
  r0 : 0 ≤ R
  clk : ∀ j, j < n → T ≤ c j ∧ c j ≤ T + 100
  me : ∀ j, j < n → (E j).me = j
  known : ∀ j, j < n → (E j).seen = true → 0 ≤ (E j).rev ∧ (E j).rev ≤ R ∧ (E j).there = decide (0 < (E j).rev) ∧ (0 < (E j).rev → (E j).holder = hold (E j).rev ∧ (E j).dur = 1000 ∧ u j ≤ (E j).since ∧ u j ≤ T)
  term : ∀ j, j < n → 0 < (E j).term → (E j).seen = true ∧ (E j).term ≤ (E j).rev ∧ hold (E j).term = j ∧ hold (E j).rev = j ∧ (E j).frm ≤ t j + (c j - T) ∧ t j ≤ T
  cross : ∀ j k, j < n → k < n → 0 < (E j).term → (E k).seen = true → (E j).term ≤ (E k).rev → t j ≤ u k
  main : ∀ j, j < n → 0 < (E j).term → (∀ r, (E j).term ≤ r → r ≤ R → hold r = j) ∨ t j + 900 ≤ T
section
variable {n : Nat} {E : Nat → ElD} {c : Nat → Int} {R : Int} {hold : Int → Nat} {T : Int} {t u : Nat → Int}
theorem One.one (h : One n E c R hold T t u) {j k : Nat} (hj : j < n) (hk : k < n) (lj : leadsE (E j) (c j) = true) (lk : leadsE (E k) (c k) = true) : j = k := by
  simp only [leadsE, Bool.and_eq_true, decide_eq_true_eq] at lj lk
  obtain ⟨_, a2, a3, _, a5, _⟩ := h.term j hj lj.1
  obtain ⟨b1, b2, b3, _, b5, _⟩ := h.term k hk lk.1
  have a0 := h.known j hj (h.term j hj lj.1).1
  have b0 := h.known k hk b1
  have cj := h.clk j hj
  have ck := h.clk k hk
  rcases h.main j hj lj.1 with m1 | m1
  · rcases h.main k hk lk.1 with m2 | m2
    · by_cases hle : (E j).term ≤ (E k).term
      · exact (m1 (E k).term hle (by omega)).symm.trans b3
      · exact a3.symm.trans (m2 (E j).term (by omega) (by omega))
    · omega
  · omega
/-- Nothing that counts is another one. -/
structure AlikeE (a b : ElD) : Prop where
  me : a.me = b.me
  seen : a.seen = b.seen
  there : a.there = b.there
  rev : a.rev = b.rev
  holder : a.holder = b.holder
  dur : a.dur = b.dur
  since : a.since = b.since
  term : a.term = b.term
  frm : a.frm = b.frm
theorem One.alike (h : One n E c R hold T t u) {E' : Nat → ElD} (he : ∀ j, j < n → AlikeE (E' j) (E j)) : One n E' c R hold T t u := by
  refine ⟨h.r0, h.clk, fun j hj => ?_, fun j hj hs => ?_, fun j hj ht => ?_, fun j k hj hk ht hs hr => ?_, fun j hj ht => ?_⟩
  · rw [(he j hj).me]; exact h.me j hj
  · rw [(he j hj).seen] at hs
    have := h.known j hj hs
    rwa [(he j hj).rev, (he j hj).there, (he j hj).holder, (he j hj).dur, (he j hj).since]
  · rw [(he j hj).term] at ht
    have := h.term j hj ht
    rwa [(he j hj).seen, (he j hj).term, (he j hj).rev, (he j hj).frm]
  · rw [(he j hj).term] at ht hr
    rw [(he k hk).seen] at hs
    rw [(he k hk).rev] at hr
    exact h.cross j k hj hk ht hs hr
  · rw [(he j hj).term] at ht ⊢
    exact h.main j hj ht
theorem SentOk.alike {k : Nat} {g : Int} (h : SentOk n E R hold T t k g) {E' : Nat → ElD} (he : ∀ j, j < n → AlikeE (E' j) (E j)) : SentOk n E' R hold T t k g := by
  obtain ⟨h1, h2, h3, h4⟩ := h
  refine ⟨h1, h2, h3, ?_⟩
  rcases h4 with h4 | h4 | ⟨v, h5, h6⟩
  · exact .inl h4
  · exact .inr (.inl h4)
  · exact .inr (.inr ⟨v, h5, fun j hj ht hr => h6 j hj (by rw [← (he j hj).term]; exact ht) (by rw [← (he j hj).term]; exact hr)⟩)
theorem One.tick (h : One n E c R hold T t u) {d : Int} (hd : 0 ≤ d) {c' : Nat → Int} (hc : ∀ j, j < n → T + d ≤ c' j ∧ c' j ≤ T + d + 100 ∧ c j + d ≤ c' j) : One n E c' R hold (T + d) t u := by
  refine ⟨h.r0, fun j hj => ⟨(hc j hj).1, (hc j hj).2.1⟩, h.me, fun j hj hs => ?_, fun j hj ht => ?_, h.cross, fun j hj ht => ?_⟩
  · obtain ⟨h1, h2, h3, h4⟩ := h.known j hj hs
    exact ⟨h1, h2, h3, fun hr => by obtain ⟨h5, h6, h7, h8⟩ := h4 hr; exact ⟨h5, h6, h7, by omega⟩⟩
  · obtain ⟨h1, h2, h3, h4, h5, h6⟩ := h.term j hj ht
    have := hc j hj
    exact ⟨h1, h2, h3, h4, by omega, by omega⟩
  · rcases h.main j hj ht with h1 | h1
    · exact .inl h1
    · exact .inr (by omega)
theorem SentOk.tick {k : Nat} {g : Int} (h : SentOk n E R hold T t k g) {d : Int} (hd : 0 ≤ d) : SentOk n E R hold (T + d) t k g := by
  obtain ⟨h1, h2, h3, h4⟩ := h
  refine ⟨h1, h2, h3, ?_⟩
  rcases h4 with h4 | h4 | ⟨v, h5, h6⟩
  · exact .inl h4
  · exact .inr (.inl h4)
  · exact .inr (.inr ⟨v, by omega, h6⟩)
theorem One.quit (h : One n E c R hold T t u) {k : Nat} {e' : ElD} (ht : e'.term = 0) (h1 : e'.me = (E k).me) (h2 : e'.seen = (E k).seen) (h3 : e'.there = (E k).there) (h4 : e'.rev = (E k).rev) (h5 : e'.holder = (E k).holder) (h6 : e'.dur = (E k).dur) (h7 : e'.since = (E k).since) :
    One n (updE E k e') c R hold T t u := by
  refine ⟨h.r0, h.clk, fun j hj => ?_, fun j hj hs => ?_, fun j hj ht' => ?_, fun i j hi hj ht' hs hr => ?_, fun j hj ht' => ?_⟩
  · by_cases e : j = k
    · subst e; rw [updE_self, h1]; exact h.me j hj
    · rw [updE_ne e]; exact h.me j hj
  · by_cases e : j = k
    · subst e
      rw [updE_self] at hs ⊢
      rw [h2] at hs
      rw [h4, h3, h5, h6, h7]
      exact h.known j hj hs
    · rw [updE_ne e] at hs ⊢; exact h.known j hj hs
  · by_cases e : j = k
    · subst e; rw [updE_self, ht] at ht'; omega
    · rw [updE_ne e] at ht' ⊢; exact h.term j hj ht'
  · have ei : i ≠ k := by rintro rfl; rw [updE_self, ht] at ht'; omega
    rw [updE_ne ei] at ht' hr
    by_cases e : j = k
    · subst e
      rw [updE_self] at hs hr
      rw [h2] at hs
      rw [h4] at hr
      exact h.cross i j hi hj ht' hs hr
    · rw [updE_ne e] at hs hr; exact h.cross i j hi hj ht' hs hr
  · have ei : j ≠ k := by rintro rfl; rw [updE_self, ht] at ht'; omega
    rw [updE_ne ei] at ht' ⊢
    exact h.main j hj ht'
theorem SentOk.fewer {k i : Nat} {g : Int} {e' : ElD} (h : SentOk n E R hold T t k g) (ht : e'.term = 0 ∨ e'.term = (E i).term) : SentOk n (updE E i e') R hold T t k g := by
  obtain ⟨h1, h2, h3, h4⟩ := h
  refine ⟨h1, h2, h3, ?_⟩
  rcases h4 with h4 | h4 | ⟨v, h5, h6⟩
  · exact .inl h4
  · exact .inr (.inl h4)
  · refine .inr (.inr ⟨v, h5, fun j hj ht' hr => ?_⟩)
    by_cases e : j = i
    · subst e
      rw [updE_self] at ht' hr
      rcases ht with ht | ht
      · omega
      · rw [ht] at ht' hr; exact h6 j hj ht' hr
    · rw [updE_ne e] at ht' hr; exact h6 j hj ht' hr
/-- One changes: what it has seen is another one, its term is as it was, or none. -/
theorem One.upd (h : One n E c R hold T t u) {k : Nat} (hk : k < n) {e' : ElD} {u' : Int} (h1 : e'.me = (E k).me) (h3 : 0 ≤ e'.rev) (h4 : e'.rev ≤ R) (h5 : e'.there = decide (0 < e'.rev)) (h6 : 0 < e'.rev → e'.holder = hold e'.rev ∧ e'.dur = 1000 ∧ u' ≤ e'.since ∧ u' ≤ T)
    (h7 : 0 < e'.term → e'.seen = true ∧ e'.term = (E k).term ∧ e'.frm = (E k).frm ∧ (E k).term ≤ e'.rev ∧ hold e'.rev = k) (h8 : ∀ j, j < n → 0 < (E j).term → (E j).term ≤ e'.rev → t j ≤ u') : One n (updE E k e') c R hold T t (updE u k u') := by
  refine ⟨h.r0, h.clk, fun j hj => ?_, fun j hj hs => ?_, fun j hj ht => ?_, fun i j hi hj ht hs hr => ?_, fun j hj ht => ?_⟩
  · by_cases e : j = k
    · subst e; rw [updE_self, h1]; exact h.me j hj
    · rw [updE_ne e]; exact h.me j hj
  · by_cases e : j = k
    · subst e
      rw [updE_self, updE_self]
      exact ⟨h3, h4, h5, h6⟩
    · rw [updE_ne e] at hs
      rw [updE_ne e, updE_ne e]
      exact h.known j hj hs
  · by_cases e : j = k
    · subst e
      rw [updE_self] at ht
      rw [updE_self]
      obtain ⟨a0, a1, a2, a3, a4⟩ := h7 ht
      have h0 := h.term j hj (by omega)
      rw [a1, a2]
      exact ⟨a0, a3, h0.2.2.1, a4, h0.2.2.2.2⟩
    · rw [updE_ne e] at ht ⊢; exact h.term j hj ht
  · have hti : 0 < (E i).term ∧ (updE E k e' i).term = (E i).term := by
      by_cases e : i = k
      · subst e
        rw [updE_self] at ht ⊢
        obtain ⟨_, a1, _⟩ := h7 ht
        exact ⟨by omega, a1⟩
      · rw [updE_ne e] at ht ⊢
        exact ⟨ht, rfl⟩
    rw [hti.2] at hr
    by_cases e : j = k
    · subst e
      rw [updE_self] at hr ⊢
      exact h8 i hi hti.1 hr
    · rw [updE_ne e] at hs hr ⊢
      exact h.cross i j hi hj hti.1 hs hr
  · have hti : 0 < (E j).term ∧ (updE E k e' j).term = (E j).term := by
      by_cases e : j = k
      · subst e
        rw [updE_self] at ht ⊢
        obtain ⟨_, a1, _⟩ := h7 ht
        exact ⟨by omega, a1⟩
      · rw [updE_ne e] at ht ⊢
        exact ⟨ht, rfl⟩
    rw [hti.2]
    exact h.main j hj hti.1
theorem see_term (e : ElD) (now rev holder dur : Int) (there : Bool) : (seeE e now rev holder dur there).term = 0 ∨ (seeE e now rev holder dur there).term = e.term := by
  unfold seeE
  dsimp only
  by_cases c1 : (e.seen && decide ((if there = true then rev else 0) < e.rev)) = true
  · rw [if_pos c1]
    exact .inr rfl
  · rw [if_neg c1]
    dsimp only
    cases there
    · by_cases c2 : (decide (0 < e.term) && decide (e.term < (if false = true then rev else 0)) && (!false || !decide ((if false = true then holder else 0) = e.me))) = true
      · rw [if_pos c2]; exact .inl rfl
      · rw [if_neg c2]; exact .inr rfl
    · by_cases c2 : (decide (0 < e.term) && decide (e.term < (if true = true then rev else 0)) && (!true || !decide ((if true = true then holder else 0) = e.me))) = true
      · rw [if_pos c2]; exact .inl rfl
      · rw [if_neg c2]; exact .inr rfl
theorem One.see (h : One n E c R hold T t u) {k : Nat} (hk : k < n) {hl du : Int} (hR : 0 < R → hl = hold R ∧ du = 1000) : ∃ u', One n (updE E k (seeE (E k) (c k) R hl du (decide (0 < R)))) c R hold T t u' := by
  have hclk := h.clk k hk
  have hr0 := h.r0
  by_cases hR0 : 0 < R
  · obtain ⟨rfl, rfl⟩ := hR hR0
    have hme := h.me k hk
    unfold seeE
    rw [decide_eq_true hR0]
    by_cases hs : (E k).seen = true
    · obtain ⟨a1, a2, a3, a4⟩ := h.known k hk hs
      by_cases hrv : R = (E k).rev
      · refine ⟨_, h.upd hk (u' := u k) ?_ ?_ ?_ ?_ ?_ ?_ ?_⟩
        all_goals simp only [hs, if_true, Bool.true_and, Bool.not_true, Bool.false_or, decide_eq_true hrv, decide_eq_false (show ¬ R < (E k).rev by omega), Bool.false_eq_true, if_false]
        · exact hr0
        · exact Int.le_refl _
        · exact (decide_eq_true hR0).symm
        · intro _
          obtain ⟨b1, b2, b3, b4⟩ := a4 (by omega)
          exact ⟨trivial, trivial, b3, b4⟩
        · intro ht
          by_cases htt : 0 < (E k).term
          · obtain ⟨b1, b2, b3, b4, b5, b6⟩ := h.term k hk htt
            rw [← hrv] at b4
            have e0 : (decide (0 < (E k).term) && decide ((E k).term < R) && !decide ((hold R : Int) = (E k).me)) = false := by
              rw [hme, b4, decide_eq_true rfl]; simp
            rw [e0] at ht ⊢
            exact ⟨trivial, rfl, trivial, by omega, b4⟩
          · have e0 : (decide (0 < (E k).term) && decide ((E k).term < R) && !decide ((hold R : Int) = (E k).me)) = false := by rw [decide_eq_false htt]; rfl
            rw [e0] at ht
            simp only [Bool.false_eq_true, if_false] at ht
            omega
        · intro j hj htj hr
          exact h.cross j k hj hk htj hs (by omega)
      · refine ⟨_, h.upd hk (u' := T) ?_ ?_ ?_ ?_ ?_ ?_ ?_⟩
        all_goals simp only [hs, if_true, Bool.true_and, Bool.not_true, Bool.false_or, decide_eq_false hrv, Bool.not_false, decide_eq_false (show ¬ R < (E k).rev by omega), Bool.false_eq_true, if_false]
        · exact hr0
        · exact Int.le_refl _
        · exact (decide_eq_true hR0).symm
        · intro _
          exact ⟨trivial, trivial, hclk.1, Int.le_refl _⟩
        · intro ht
          by_cases htt : 0 < (E k).term
          · obtain ⟨b1, b2, b3, b4, b5, b6⟩ := h.term k hk htt
            by_cases hh : (hold R : Int) = (E k).me
            · rw [decide_eq_true hh] at ht ⊢
              simp only [Bool.not_true, Bool.and_false, Bool.false_eq_true, if_false]
              exact ⟨trivial, trivial, trivial, by omega, by omega⟩
            · rw [decide_eq_true htt, decide_eq_true (show (E k).term < R by omega), decide_eq_false hh] at ht
              simp at ht
          · have e0 : (decide (0 < (E k).term) && decide ((E k).term < R) && !decide ((hold R : Int) = (E k).me)) = false := by rw [decide_eq_false htt]; rfl
            rw [e0] at ht
            simp only [Bool.false_eq_true, if_false] at ht
            omega
        · intro j hj htj _
          exact (h.term j hj htj).2.2.2.2.2
    · have hs' : (E k).seen = false := by simpa using hs
      have htt : ¬ 0 < (E k).term := fun htt => hs (h.term k hk htt).1
      refine ⟨_, h.upd hk (u' := T) ?_ ?_ ?_ ?_ ?_ ?_ ?_⟩
      all_goals simp only [hs', if_true, Bool.false_and, Bool.not_false, Bool.true_or, Bool.false_eq_true, if_false]
      · exact hr0
      · exact Int.le_refl _
      · exact (decide_eq_true hR0).symm
      · intro _
        exact ⟨trivial, trivial, hclk.1, Int.le_refl _⟩
      · intro ht
        rw [decide_eq_false htt] at ht
        simp only [Bool.false_and, Bool.false_eq_true, if_false] at ht
        omega
      · intro j hj htj _
        exact (h.term j hj htj).2.2.2.2.2
  · have hRz : R = 0 := by omega
    unfold seeE
    rw [decide_eq_false hR0]
    have hrev : ¬ ((E k).seen && decide ((0 : Int) < (E k).rev)) = true := by
      intro hc
      simp only [Bool.and_eq_true, decide_eq_true_eq] at hc
      have := (h.known k hk hc.1).2.1
      omega
    have htt : ¬ 0 < (E k).term := fun htt => by
      obtain ⟨b1, b2, _⟩ := h.term k hk htt
      have := (h.known k hk b1).2.1
      omega
    refine ⟨_, h.upd hk (u' := T) ?_ ?_ ?_ ?_ ?_ ?_ ?_⟩
    all_goals simp only [Bool.false_eq_true, if_false, hrev, decide_eq_false htt, Bool.false_and]
    · exact Int.le_refl _
    · exact hr0
    · rfl
    · intro hc; omega
    · intro ht; omega
    · intro j hj htj hr; omega
theorem One.wants (h : One n E c R hold T t u) {k : Nat} (hk : k < n) (hw : wantsE (E k) (c k) = true) : SentOk n E R hold T t k (E k).rev := by
  unfold wantsE at hw
  have hclk := h.clk k hk
  cases hs : (E k).seen with
  | false => rw [hs] at hw; cases hw
  | true =>
    obtain ⟨a1, a2, a3, a4⟩ := h.known k hk hs
    rw [hs] at hw
    refine ⟨hk, a1, a2, ?_⟩
    cases hL : leadsE (E k) (c k) with
    | true =>
      simp only [leadsE, Bool.and_eq_true, decide_eq_true_eq] at hL
      exact .inr (.inl (h.term k hk hL.1).2.2.2.1)
    | false =>
      rw [hL] at hw
      simp only [Bool.not_true, Bool.false_eq_true, if_false, Bool.or_eq_true, Bool.not_eq_true', decide_eq_true_eq, Bool.and_eq_true] at hw
      by_cases hr : 0 < (E k).rev
      · obtain ⟨b1, b2, b3, b4⟩ := a4 hr
        rcases hw with (hw | hw) | hw
        · rw [a3, decide_eq_true hr] at hw; cases hw
        · exact .inr (.inl (by have := h.me k hk; omega))
        · refine .inr (.inr ⟨u k, by omega, fun j hj ht hle => h.cross j k hj hk ht hs hle⟩)
      · exact .inl (by omega)
/-- The store takes what was rightly sent. -/
theorem One.accept (h : One n E c R hold T t u) {k : Nat} (hs : SentOk n E R hold T t k R) : One n E c (R + 1) (fun r => if r = R + 1 then k else hold r) T t u := by
  obtain ⟨hk, s1, s2, s3⟩ := hs
  have hr0 := h.r0
  refine ⟨by omega, h.clk, h.me, fun j hj hsn => ?_, fun j hj ht => ?_, h.cross, fun j hj ht => ?_⟩
  · obtain ⟨a1, a2, a3, a4⟩ := h.known j hj hsn
    refine ⟨a1, by omega, a3, fun hr => ?_⟩
    obtain ⟨b1, b2⟩ := a4 hr
    exact ⟨by rw [if_neg (by omega)]; exact b1, b2⟩
  · obtain ⟨a1, a2, a3, a4, a5⟩ := h.term j hj ht
    have := (h.known j hj a1).2.1
    exact ⟨a1, a2, by rw [if_neg (by omega)]; exact a3, by rw [if_neg (by omega)]; exact a4, a5⟩
  · obtain ⟨a1, a2, a3, a4, a5⟩ := h.term j hj ht
    have hjr := (h.known j hj a1).2.1
    rcases h.main j hj ht with m1 | m1
    · by_cases e : j = k
      · refine .inl fun r h1 h2 => ?_
        by_cases hr : r = R + 1
        · rw [if_pos hr, e]
        · rw [if_neg hr]; exact m1 r h1 (by omega)
      · right
        rcases s3 with s3 | s3 | ⟨v, s4, s5⟩
        · omega
        · have := m1 R (by omega) (Int.le_refl _)
          exact absurd (this.symm.trans s3) e
        · have := s5 j hj ht (by omega)
          omega
    · exact .inr m1
theorem SentOk.more {k k' : Nat} {g : Int} (h : SentOk n E R hold T t k g) : SentOk n E (R + 1) (fun r => if r = R + 1 then k' else hold r) T t k g := by
  obtain ⟨h1, h2, h3, h4⟩ := h
  refine ⟨h1, h2, by omega, ?_⟩
  rcases h4 with h4 | h4 | h4
  · exact .inl h4
  · exact .inr (.inl (by show (if g = R + 1 then k' else hold g) = k; rw [if_neg (by omega)]; exact h4))
  · exact .inr (.inr h4)
/-- .. and it is told so. -/
theorem One.told (h : One n E c R hold T t u) {k : Nat} (hs : SentOk n E R hold T t k R) {e' : ElD} (h1 : e'.me = (E k).me) (h2 : e'.seen = true) (h3 : e'.there = true) (h4 : e'.rev = R + 1) (h5 : e'.holder = (E k).me) (h6 : e'.dur = 1000) (h7 : e'.since = c k) (h8 : e'.term = R + 1) (h9 : e'.frm = c k) :
    One n (updE E k e') c (R + 1) (fun r => if r = R + 1 then k else hold r) T (updE t k T) (updE u k T) := by
  have ha := h.accept hs
  have hk := hs.1
  have hr0 := h.r0
  have hclk := h.clk k hk
  have hme := h.me k hk
  refine ⟨ha.r0, ha.clk, fun j hj => ?_, fun j hj hsn => ?_, fun j hj ht => ?_, fun i j hi hj ht hsn hr => ?_, fun j hj ht => ?_⟩
  · by_cases e : j = k
    · subst e; rw [updE_self, h1]; exact h.me j hj
    · rw [updE_ne e]; exact h.me j hj
  · by_cases e : j = k
    · subst e
      rw [updE_self, updE_self, h4, h3, h5, h6, h7]
      exact ⟨by omega, Int.le_refl _, (decide_eq_true (by omega)).symm, fun _ => ⟨by rw [if_pos rfl]; exact hme, rfl, hclk.1, Int.le_refl _⟩⟩
    · rw [updE_ne e] at hsn
      rw [updE_ne e, updE_ne e]
      exact ha.known j hj hsn
  · by_cases e : j = k
    · subst e
      rw [updE_self, updE_self, h2, h8, h4, h9]
      exact ⟨rfl, Int.le_refl _, if_pos rfl, if_pos rfl, by omega, Int.le_refl _⟩
    · rw [updE_ne e] at ht
      rw [updE_ne e, updE_ne e]
      exact ha.term j hj ht
  · by_cases ei : i = k
    · subst ei
      rw [updE_self] at ht hr ⊢
      by_cases e : j = i
      · subst e; rw [updE_self]; exact Int.le_refl _
      · rw [updE_ne e] at hsn hr ⊢
        have := (h.known j hj hsn).2.1
        omega
    · rw [updE_ne ei] at ht hr ⊢
      by_cases e : j = k
      · subst e
        rw [updE_self]
        exact (h.term i hi ht).2.2.2.2.2
      · rw [updE_ne e] at hsn hr ⊢
        exact h.cross i j hi hj ht hsn hr
  · by_cases e : j = k
    · subst e
      rw [updE_self, updE_self, h8]
      refine .inl fun r a1 a2 => ?_
      have : r = R + 1 := by omega
      rw [if_pos this]
    · rw [updE_ne e] at ht
      rw [updE_ne e, updE_ne e]
      exact ha.main j hj ht
theorem SentOk.told {k k' : Nat} {g : Int} {e' : ElD} (h : SentOk n E R hold T t k g) (h8 : e'.term = R + 1) : SentOk n (updE E k' e') (R + 1) (fun r => if r = R + 1 then k' else hold r) T (updE t k' T) k g := by
  obtain ⟨h1, h2, h3, h4⟩ := h.more (k' := k')
  have hg := h.2.2.1
  refine ⟨h1, h2, h3, ?_⟩
  rcases h4 with h4 | h4 | ⟨v, h5, h6⟩
  · exact .inl h4
  · exact .inr (.inl h4)
  · refine .inr (.inr ⟨v, h5, fun j hj ht hr => ?_⟩)
    by_cases e : j = k'
    · subst e
      rw [updE_self, h8] at hr
      omega
    · rw [updE_ne e] at ht hr ⊢
      exact h6 j hj ht hr
end
end Go.Eng
