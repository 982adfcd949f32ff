/-
Of replicas whose clocks drift by no more than the margin no two lead at once: the plain law.
-/
import Derived.Test.YtomcdckppplieaaGreatEngD
set_option linter.unusedVariables false
set_option linter.unusedSimpArgs false
namespace Go.Eng
open Go
structure ElD where
  me : Int
  seen : Bool
  there : Bool
  rev : Int
  holder : Int
  dur : Int
  since : Int
  out : Bool
  sent : Int
  term : Int
  frm : Int
def leadsE (e : ElD) (now : Int) : Bool := decide (0 < e.term) && decide (now < e.frm + 900)
def seeE (e : ElD) (now rev holder dur : Int) (there : Bool) : ElD :=
  let rev := if there then rev else 0
  let holder := if there then holder else 0
  let dur := if there then dur else 0
  if e.seen && decide (rev < e.rev) then e else
  let since := if !e.seen || !decide (rev = e.rev) then now else e.since
  let term := if decide (0 < e.term) && decide (e.term < rev) && (!there || !decide (holder = e.me)) then 0 else e.term
  { e with since := since, seen := true, there := there, rev := rev, holder := holder, dur := dur, term := term }
def wantsE (e : ElD) (now : Int) : Bool :=
  if !e.seen then false else
  if leadsE e now then decide (now - e.frm ≥ 300) else
  !e.there || decide (e.holder = e.me) || (decide (1 ≤ e.dur) && decide (e.dur ≤ now - e.since))
def toldOk (e : ElD) (now rev : Int) : ElD := { e with out := false, term := rev, frm := e.sent, seen := true, there := true, rev := rev, since := now, holder := e.me, dur := 1000 }
def updE {α : Type} (f : Nat → α) (k : Nat) (x : α) : Nat → α := fun j => if j = k then x else f j
theorem updE_self {α : Type} (f : Nat → α) (k : Nat) (x : α) : updE f k x k = x := if_pos rfl
theorem updE_ne {α : Type} {f : Nat → α} {k j : Nat} {x : α} (h : j ≠ k) : updE f k x j = f j := if_neg h
/-- A txn of `k`, guarded by revision `g`, that was rightly sent. -/
def SentOk (n : Nat) (E : Nat → ElD) (R : Int) (hold : Int → Nat) (T : Int) (t : Nat → Int) (k : Nat) (g : Int) : Prop :=
  k < n ∧ 0 ≤ g ∧ g ≤ R ∧ (g = 0 ∨ hold g = k ∨ ∃ u, u + 900 ≤ T ∧ ∀ j, j < n → 0 < (E j).term → (E j).term ≤ g → t j ≤ u)
structure One (n : Nat) (E : Nat → ElD) (c : Nat → Int) (R : Int) (hold : Int → Nat) (T : Int) (t u : Nat → Int) : Prop where
  r0 : 0 ≤ R
  clk : ∀ j, j < n → T ≤ c j ∧ c j ≤ T + 100
  me : ∀ j, j < n → (E j).me = j
  known : ∀ j, j < n → (E j).seen = true → 0 ≤ (E j).rev ∧ (E j).rev ≤ R ∧ (E j).there = decide (0 < (E j).rev) ∧ (0 < (E j).rev → (E j).holder = hold (E j).rev ∧ (E j).dur = 1000 ∧ u j ≤ (E j).since ∧ u j ≤ T)
  term : ∀ j, j < n → 0 < (E j).term → (E j).seen = true ∧ (E j).term ≤ (E j).rev ∧ hold (E j).term = j ∧ hold (E j).rev = j ∧ (E j).frm ≤ t j + (c j - T) ∧ t j ≤ T
  cross : ∀ j k, j < n → k < n → 0 < (E j).term → (E k).seen = true → (E j).term ≤ (E k).rev → t j ≤ u k
  main : ∀ j, j < n → 0 < (E j).term → (∀ r, (E j).term ≤ r → r ≤ R → hold r = j) ∨ t j + 900 ≤ T
section
variable {n : Nat} {E : Nat → ElD} {c : Nat → Int} {R : Int} {hold : Int → Nat} {T : Int} {t u : Nat → Int}
theorem One.one (h : One n E c R hold T t u) {j k : Nat} (hj : j < n) (hk : k < n) (lj : leadsE (E j) (c j) = true) (lk : leadsE (E k) (c k) = true) : j = k := by
  simp only [leadsE, Bool.and_eq_true, decide_eq_true_eq] at lj lk
  obtain ⟨_, a2, a3, _, a5, _⟩ := h.term j hj lj.1
  obtain ⟨b1, b2, b3, _, b5, _⟩ := h.term k hk lk.1
  have a0 := h.known j hj (h.term j hj lj.1).1
  have b0 := h.known k hk b1
  have cj := h.clk j hj
  have ck := h.clk k hk
  rcases h.main j hj lj.1 with m1 | m1
  · rcases h.main k hk lk.1 with m2 | m2
    · by_cases hle : (E j).term ≤ (E k).term
      · exact (m1 (E k).term hle (by omega)).symm.trans b3
      · exact a3.symm.trans (m2 (E j).term (by omega) (by omega))
    · omega
  · omega
/-- Nothing that counts is another one. -/
structure AlikeE (a b : ElD) : Prop where
  me : a.me = b.me
  seen : a.seen = b.seen
  there : a.there = b.there
  rev : a.rev = b.rev
  holder : a.holder = b.holder
  dur : a.dur = b.dur
  since : a.since = b.since
  term : a.term = b.term
  frm : a.frm = b.frm
theorem One.alike (h : One n E c R hold T t u) {E' : Nat → ElD} (he : ∀ j, j < n → AlikeE (E' j) (E j)) : One n E' c R hold T t u := by
  refine ⟨h.r0, h.clk, fun j hj => ?_, fun j hj hs => ?_, fun j hj ht => ?_, fun j k hj hk ht hs hr => ?_, fun j hj ht => ?_⟩
  · rw [(he j hj).me]; exact h.me j hj
  · rw [(he j hj).seen] at hs
    have := h.known j hj hs
    rwa [(he j hj).rev, (he j hj).there, (he j hj).holder, (he j hj).dur, (he j hj).since]
  · rw [(he j hj).term] at ht
    have := h.term j hj ht
    rwa [(he j hj).seen, (he j hj).term, (he j hj).rev, (he j hj).frm]
  · rw [(he j hj).term] at ht hr
    rw [(he k hk).seen] at hs
    rw [(he k hk).rev] at hr
    exact h.cross j k hj hk ht hs hr
  · rw [(he j hj).term] at ht ⊢
    exact h.main j hj ht
theorem SentOk.alike {k : Nat} {g : Int} (h : SentOk n E R hold T t k g) {E' : Nat → ElD} (he : ∀ j, j < n → AlikeE (E' j) (E j)) : SentOk n E' R hold T t k g := by
  obtain ⟨h1, h2, h3, h4⟩ := h
  refine ⟨h1, h2, h3, ?_⟩
  rcases h4 with h4 | h4 | ⟨v, h5, h6⟩
  · exact .inl h4
  · exact .inr (.inl h4)
  · exact .inr (.inr ⟨v, h5, fun j hj ht hr => h6 j hj (by rw [← (he j hj).term]; exact ht) (by rw [← (he j hj).term]; exact hr)⟩)
theorem One.tick (h : One n E c R hold T t u) {d : Int} (hd : 0 ≤ d) {c' : Nat → Int} (hc : ∀ j, j < n → T + d ≤ c' j ∧ c' j ≤ T + d + 100 ∧ c j + d ≤ c' j) : One n E c' R hold (T + d) t u := by
  refine ⟨h.r0, fun j hj => ⟨(hc j hj).1, (hc j hj).2.1⟩, h.me, fun j hj hs => ?_, fun j hj ht => ?_, h.cross, fun j hj ht => ?_⟩
  · obtain ⟨h1, h2, h3, h4⟩ := h.known j hj hs
    exact ⟨h1, h2, h3, fun hr => by obtain ⟨h5, h6, h7, h8⟩ := h4 hr; exact ⟨h5, h6, h7, by omega⟩⟩
  · obtain ⟨h1, h2, h3, h4, h5, h6⟩ := h.term j hj ht
    have := hc j hj
    exact ⟨h1, h2, h3, h4, by omega, by omega⟩
  · rcases h.main j hj ht with h1 | h1
    · exact .inl h1
    · exact .inr (by omega)
theorem SentOk.tick {k : Nat} {g : Int} (h : SentOk n E R hold T t k g) {d : Int} (hd : 0 ≤ d) : SentOk n E R hold (T + d) t k g := by
  obtain ⟨h1, h2, h3, h4⟩ := h
  refine ⟨h1, h2, h3, ?_⟩
  rcases h4 with h4 | h4 | ⟨v, h5, h6⟩
  · exact .inl h4
  · exact .inr (.inl h4)
  · exact .inr (.inr ⟨v, by omega, h6⟩)
theorem One.quit (h : One n E c R hold T t u) {k : Nat} {e' : ElD} (ht : e'.term = 0) (h1 : e'.me = (E k).me) (h2 : e'.seen = (E k).seen) (h3 : e'.there = (E k).there) (h4 : e'.rev = (E k).rev) (h5 : e'.holder = (E k).holder) (h6 : e'.dur = (E k).dur) (h7 : e'.since = (E k).since) :
    One n (updE E k e') c R hold T t u := by
  refine ⟨h.r0, h.clk, fun j hj => ?_, fun j hj hs => ?_, fun j hj ht' => ?_, fun i j hi hj ht' hs hr => ?_, fun j hj ht' => ?_⟩
  · by_cases e : j = k
    · subst e; rw [updE_self, h1]; exact h.me j hj
    · rw [updE_ne e]; exact h.me j hj
  · by_cases e : j = k
    · subst e
      rw [updE_self] at hs ⊢
      rw [h2] at hs
      rw [h4, h3, h5, h6, h7]
      exact h.known j hj hs
    · rw [updE_ne e] at hs ⊢; exact h.known j hj hs
  · by_cases e : j = k
    · subst e; rw [updE_self, ht] at ht'; omega
    · rw [updE_ne e] at ht' ⊢; exact h.term j hj ht'
  · have ei : i ≠ k := by rintro rfl; rw [updE_self, ht] at ht'; omega
    rw [updE_ne ei] at ht' hr
    by_cases e : j = k
    · subst e
      rw [updE_self] at hs hr
      rw [h2] at hs
      rw [h4] at hr
      exact h.cross i j hi hj ht' hs hr
    · rw [updE_ne e] at hs hr; exact h.cross i j hi hj ht' hs hr
  · have ei : j ≠ k := by rintro rfl; rw [updE_self, ht] at ht'; omega
    rw [updE_ne ei] at ht' ⊢
    exact h.main j hj ht'
theorem SentOk.fewer {k i : Nat} {g : Int} {e' : ElD} (h : SentOk n E R hold T t k g) (ht : e'.term = 0 ∨ e'.term = (E i).term) : SentOk n (updE E i e') R hold T t k g := by
  obtain ⟨h1, h2, h3, h4⟩ := h
  refine ⟨h1, h2, h3, ?_⟩
  rcases h4 with h4 | h4 | ⟨v, h5, h6⟩
  · exact .inl h4
  · exact .inr (.inl h4)
  · refine .inr (.inr ⟨v, h5, fun j hj ht' hr => ?_⟩)
    by_cases e : j = i
    · subst e
      rw [updE_self] at ht' hr
      rcases ht with ht | ht
      · omega
      · rw [ht] at ht' hr; exact h6 j hj ht' hr
    · rw [updE_ne e] at ht' hr; exact h6 j hj ht' hr
end
end Go.Eng
