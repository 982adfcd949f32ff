/-
All mail: each piece with memory of its own, which may be written to.
-/
import Derived.Test.YtomcdckppplieaaGreatNet3
import Derived.Test.YtomcdckppplieaaGreatAfN1
import Derived.Test.YtomcdckppplieaaGreatAfN2
namespace Go.Eng
open Go
def amV (m : MailD) : Option Nat → V
  | none => .nils
  | some c => .ms (.g c) 1 0 m.b.length
def amR (q : MailD × Option Nat) : List V := [.b q.1.rep, .i .i64 q.1.who, amV q.1 q.2]
/-- A piece's bytes are where they are said to be, from `lo` on. -/
def BAt (h : Heap) (lo : Nat) (b : List Int) : Option Nat → Prop
  | none => b = []
  | some c => lo ≤ c ∧ c < h.next ∧ h.get c = some (.arr 1 (b.map byR))
theorem BAt.keep {h h' : Heap} {lo lo' : Nat} {b : List Int} {o : Option Nat} (hb : BAt h lo b o) (hk : Heap.Keeps (fun _ => False) h h') (hl : lo' ≤ lo) : BAt h' lo' b o := by
  cases o with
  | none => exact hb
  | some c =>
    obtain ⟨h1, h2, h3⟩ := hb
    exact ⟨by omega, Nat.lt_of_lt_of_le h2 hk.1, by rw [hk.2 c h2 (fun x => x)]; exact h3⟩
structure AllAt (h : Heap) (lo : Nat) (lv : V) (Q : List (MailD × Option Nat)) : Prop where
  row : (Q = [] ∧ lv = .nils) ∨ ∃ c, lv = .ms (.g c) 3 0 Q.length ∧ lo ≤ c ∧ c < h.next ∧ (∀ q ∈ Q, q.2 ≠ some c) ∧ h.get c = some (.arr 3 (Q.map amR))
  its : ∀ q ∈ Q, BAt h lo q.1.b q.2
  inj : Q.Pairwise fun x y => x.2 = none ∨ x.2 ≠ y.2
theorem AllAt.add {hh h' h'' : Heap} {lo c2 : Nat} {lv : V} {Q : List (MailD × Option Nat)} {m : MailD} {o : Option Nat} (hA : AllAt hh lo lv Q) (hlo : lo ≤ hh.next) (hk1 : Heap.Keeps (fun _ => False) hh h') (hb : BAt h' hh.next m.b o)
    (hk2 : Heap.Keeps (fun j => lv = .ms (.g j) 3 0 Q.length) h' h'') (hc1 : h'.next ≤ c2) (hc2 : c2 < h''.next) (hg : h''.get c2 = some (.arr 3 ((Q ++ [(m, o)]).map amR))) : AllAt h'' lo (.ms (.g c2) 3 0 (Q.length + 1)) (Q ++ [(m, o)]) := by
  have hn1 := hk1.1
  have hn2 := hk2.1
  have old : ∀ q ∈ Q, ∀ k, q.2 = some k → lo ≤ k ∧ k < hh.next ∧ h''.get k = some (.arr 1 (q.1.b.map byR)) := by
    intro q hq k hk
    have h1 := hA.its q hq
    rw [hk] at h1
    obtain ⟨h2, h3, h4⟩ := h1
    refine ⟨h2, h3, ?_⟩
    rw [hk2.2 k (by omega) (fun e => ?_), hk1.2 k h3 (fun x => x)]
    · exact h4
    · rcases hA.row with ⟨rfl, _⟩ | ⟨c, hc, _, _, hne, _⟩
      · cases hq
      · rw [hc] at e
        cases e
        exact hne q hq hk
  have new : ∀ k, o = some k → hh.next ≤ k ∧ k < h'.next ∧ h''.get k = some (.arr 1 (m.b.map byR)) := by
    intro k hk
    subst hk
    obtain ⟨h2, h3, h4⟩ := hb
    refine ⟨h2, h3, ?_⟩
    rw [hk2.2 k h3 (fun e => ?_)]
    · exact h4
    · rcases hA.row with ⟨_, h5⟩ | ⟨c, hc, _, hcn, hne, _⟩
      · rw [h5] at e; cases e
      · rw [hc] at e
        cases e
        omega
  have all : ∀ q ∈ Q ++ [(m, o)], BAt h'' lo q.1.b q.2 := by
    intro q hq
    rcases List.mem_append.1 hq with h1 | h1
    · have h2 := hA.its q h1
      cases hk : q.2 with
      | none => rw [hk] at h2; exact h2
      | some k => obtain ⟨a, b, c⟩ := old q h1 k hk; exact ⟨a, by omega, c⟩
    · rw [List.mem_singleton.1 h1]
      cases hk : o with
      | none => rw [hk] at hb; exact hb
      | some k => obtain ⟨a, b, c⟩ := new k hk; exact ⟨by omega, by omega, c⟩
  refine ⟨.inr ⟨c2, by simp, by omega, hc2, fun q hq e => ?_, hg⟩, all, List.pairwise_append.2 ⟨hA.inj, List.pairwise_singleton _ _, fun x hx y hy => ?_⟩⟩
  · rcases List.mem_append.1 hq with h1 | h1
    · have := old q h1 c2 e; omega
    · rw [List.mem_singleton.1 h1] at e
      have := new c2 e; omega
  · rw [List.mem_singleton.1 hy]
    cases hk : x.2 with
    | none => exact .inl rfl
    | some k =>
      have h1 := old x hx k hk
      refine .inr fun e => ?_
      have := new k e.symm
      omega
section
variable {P : Program} (hG : FnsOk P AF.fns.get)
include hG
omit hG in
set_option maxHeartbeats 1000000 in
theorem clm_at (hcl : okFn P 89 AF.clm = true) {h : Heap} (b : List Int) (hl : b.length ≤ 1000) {K : V → Heap → Prop}
    (hK : ∀ o h', Heap.Keeps (fun _ => False) h h' → BAt h' h.next b o → K (amV ⟨0, b, false⟩ o) h') : ACall P 89 [.sl none 1 (b.map byR)] h K := by
  refine fn_sp hcl rfl ?_
  cases b with
  | nil =>
    ((conv => whnf); repeat ((first | refine yf rfl ?_ | refine yt rfl ?_ | refine yo rfl ?_ | refine yc rfl ?_ | refine ys rfl ?_ | refine ye rfl ?_ | refine yn rfl ?_ | refine zw ?_ | refine zdt ?_ | refine zdf ?_ | refine znt ?_ | refine znf ?_ | refine zcd ?_ | refine zci ?_ | refine zc3 ?_) <;> (conv => whnf)))
    refine SAny.mk fun b => ?_
    cases b
    · ((conv => whnf); repeat ((first | refine SEx.of (Heap.get_push_self _ _) ?_ | refine SEx.of (Heap.get_push_self _ _) ?_ | refine yf rfl ?_ | refine yt rfl ?_ | refine yo rfl ?_ | refine yc rfl ?_ | refine ys rfl ?_ | refine ye rfl ?_ | refine yn rfl ?_ | refine zw ?_ | refine zdt ?_ | refine zdf ?_ | refine znt ?_ | refine znf ?_ | refine zcd ?_ | refine zci ?_ | refine zc3 ?_) <;> (conv => whnf)))
      exact hK (some h.next) _ (.push (.refl _ _) _) ⟨Nat.le_refl _, Nat.lt_succ_self _, Heap.get_push_self _ _⟩
    · ((conv => whnf); repeat ((first | refine yf rfl ?_ | refine yt rfl ?_ | refine yo rfl ?_ | refine yc rfl ?_ | refine ys rfl ?_ | refine ye rfl ?_ | refine yn rfl ?_ | refine zw ?_ | refine zdt ?_ | refine zdf ?_ | refine znt ?_ | refine znf ?_ | refine zcd ?_ | refine zci ?_ | refine zc3 ?_) <;> (conv => whnf)))
      exact hK none _ (.refl _ _) rfl
  | cons x r =>
    have hlm : ((x :: r).map byR).length = r.length + 1 := List.length_map _
    ((conv => whnf); repeat ((first | refine SEx.of (own_mp (fun _ => rfl) (x :: r)) ?_ | refine SChk.mk (by simp [roomOk] at *; omega) ?_ | refine SEx.of (Heap.get_push_self _ _) ?_ | refine SEx.of (Heap.get_push_self _ _) ?_ | refine yf rfl ?_ | refine yt rfl ?_ | refine yo rfl ?_ | refine yc rfl ?_ | refine ys rfl ?_ | refine ye rfl ?_ | refine yn rfl ?_ | refine zw ?_ | refine zdt ?_ | refine zdf ?_ | refine znt ?_ | refine znf ?_ | refine zcd ?_ | refine zci ?_ | refine zc3 ?_) <;> (conv => whnf)))
    exact K_to (hK (some (h.next + 1)) (((h.push (.arr 1 [])).remove h.next).push (.arr 1 ((x :: r).map byR))) (.push (.remove (.push (.refl _ _) _) (.inr (Nat.le_refl _))) _) ⟨Nat.le_succ _, Nat.lt_succ_self _, Heap.get_push_self _ _⟩) (by simp [amV]) rfl
theorem copm_at (hcl : okFn P 89 AF.clm = true) {h : Heap} (m : MailD) (hl : m.b.length ≤ 1000) {K : V → Heap → Prop}
    (hK : ∀ o h', Heap.Keeps (fun _ => False) h h' → BAt h' h.next m.b o → K (.agg (amR (m, o))) h') : ACall P 60 [.agg (mailR m)] h K := by
  have hc := fun K => clm_at hcl (h := h) m.b hl (K := K)
  refine fn_sp (hG _ AF.f60 rfl) rfl ?_
  ((conv => whnf); repeat ((first | refine SCall.app (hc _) ?_ | refine yf rfl ?_ | refine yt rfl ?_ | refine yo rfl ?_ | refine yc rfl ?_ | refine ys rfl ?_ | refine ye rfl ?_ | refine yn rfl ?_ | refine zw ?_ | refine zdt ?_ | refine zdf ?_ | refine znt ?_ | refine znf ?_ | refine zcd ?_ | refine zci ?_ | refine zc3 ?_) <;> (conv => whnf)))
  intro o h' hk hb
  have hv : amV ⟨0, m.b, false⟩ o = amV m o := by cases o <;> rfl
  rw [hv]
  cases o
  · ((conv => whnf); repeat ((first | refine yf rfl ?_ | refine yt rfl ?_ | refine yo rfl ?_ | refine yc rfl ?_ | refine ys rfl ?_ | refine ye rfl ?_ | refine yn rfl ?_ | refine zw ?_ | refine zdt ?_ | refine zdf ?_ | refine znt ?_ | refine znf ?_ | refine zcd ?_ | refine zci ?_ | refine zc3 ?_) <;> (conv => whnf)))
    exact hK none h' hk hb
  · ((conv => whnf); repeat ((first | refine yf rfl ?_ | refine yt rfl ?_ | refine yo rfl ?_ | refine yc rfl ?_ | refine ys rfl ?_ | refine ye rfl ?_ | refine yn rfl ?_ | refine zw ?_ | refine zdt ?_ | refine zdf ?_ | refine znt ?_ | refine znf ?_ | refine zcd ?_ | refine zci ?_ | refine zc3 ?_) <;> (conv => whnf)))
    exact hK (some _) h' hk hb
set_option maxHeartbeats 4000000 in
theorem all_at (hcl : okFn P 89 AF.clm = true) (hal : okFn P 28 AF.am = true) {h : Heap} {a : Nat} {most : Int} {L : List MailD} (ha : NetAt h a most L) (hl : L.length ≤ 1000) (hm : ∀ m ∈ L, m.b.length ≤ 1000) {K : V → Heap → Prop}
    (hK : ∀ lv Q h', Q.map Prod.fst = L → AllAt h' h.next lv Q → Heap.Keeps (fun _ => False) h h' → K lv h') : ACall P 28 [.p (.g a) 0] h K := by
  have hle := fun K => len_at (K := K) hG ha
  obtain ⟨han, ⟨rfl, h1⟩ | ⟨c, d, hca, hcn, h1, h2⟩⟩ := ha
  · refine fn_sp hal rfl ?_
    ((conv => whnf); repeat ((first | refine SCall.app (hle _) ?_ | refine SLoop.un ?_ | refine SEx.of (h1) ?_ | refine yf rfl ?_ | refine yt rfl ?_ | refine yo rfl ?_ | refine yc rfl ?_ | refine ys rfl ?_ | refine ye rfl ?_ | refine yn rfl ?_ | refine zw ?_ | refine zdt ?_ | refine zdf ?_ | refine znt ?_ | refine znf ?_ | refine zcd ?_ | refine zci ?_ | refine zc3 ?_) <;> (conv => whnf)))
    exact hK .nils [] h rfl ⟨.inl ⟨rfl, rfl⟩, (fun q hq => by cases hq), .nil⟩ (.refl _ _)
  · have hrl := mails_len L d
    refine fn_sp hal rfl ?_
    ((conv => whnf); repeat ((first | refine SCall.app (hle _) ?_ | refine SEx.of (h1) ?_ | refine yf rfl ?_ | refine yt rfl ?_ | refine yo rfl ?_ | refine yc rfl ?_ | refine ys rfl ?_ | refine ye rfl ?_ | refine yn rfl ?_ | refine zw ?_ | refine zdt ?_ | refine zdf ?_ | refine znt ?_ | refine znf ?_ | refine zcd ?_ | refine zci ?_ | refine zc3 ?_) <;> (conv => whnf)))
    refine SLoop.by (fun q fr st => ∃ (i : Nat) (hh : Heap) (lv : V) (Q : List (MailD × Option Nat)) (l : Heap), i ≤ L.length ∧ q = L.length - i ∧ Q.map Prod.fst = L.take i ∧ AllAt hh h.next lv Q ∧ Heap.Keeps (fun _ => False) h hh ∧
        Fr.le [(7, .i .i64 i), (6, .i .i64 L.length), (3, lv), (0, .p (.g a) 0)] fr ∧ st = ⟨hh, l⟩)
      L.length ⟨0, h, .nils, [], _, Nat.zero_le _, rfl, rfl, ⟨.inl ⟨rfl, rfl⟩, (fun q hq => by cases hq), .nil⟩, .refl _ _, (by repeat (first | exact Fr.le_nil | refine Fr.le_cons rfl ?_)), rfl⟩ ?_
    rintro q fr st ⟨i, hh, lv, Q, l, hi, rfl, hQ, hA, hk, hle0, rfl⟩
    refine ⟨_, hle0, fun R hR => ?_⟩
    have g1 : hh.get a = some (.cs [.ms (.g c) 3 0 L.length, .i .i64 most]) := by rw [hk.2 a han (fun x => x)]; exact h1
    have g2 : hh.get c = some (.arr 3 (L.map mailR ++ List.replicate d mail0)) := by rw [hk.2 c hcn (fun x => x)]; exact h2
    by_cases hin : i < L.length
    · have he := List.getElem?_eq_getElem hin
      have hem := List.getElem_mem hin
      generalize L[i] = m at he hem
      have hget : (L.map mailR ++ List.replicate d mail0)[0 + ((i : Nat) : Int).toNat]? = some (mailR m) := by
        rw [List.getElem?_append_left (by simp; omega), List.getElem?_map, Nat.zero_add, Int.toNat_natCast, he]; rfl
      have hQl : Q.length = i := by
        have := congrArg List.length hQ
        simp at this; omega
      have hQ' : ∀ o, (Q ++ [(m, o)]).map Prod.fst = L.take (i + 1) := by
        intro o
        rw [List.map_append, hQ, List.take_add_one, he]; rfl
      have hcop := fun K => copm_at hG hcl (h := hh) m (hm m hem) (K := K)
      have hlo : h.next ≤ hh.next := hk.1
      have fin : ∀ (h' h'' : Heap) (c2 : Nat) (l2 : Heap) (o : Option Nat) (fr2 : Fr), Heap.Keeps (fun _ => False) hh h' → BAt h' hh.next m.b o → Heap.Keeps (fun j => lv = .ms (.g j) 3 0 Q.length) h' h'' → h'.next ≤ c2 → c2 < h''.next → h''.get c2 = some (.arr 3 ((Q ++ [(m, o)]).map amR)) →
          Fr.le [(7, .i .i64 ((i + 1 : Nat) : Int)), (6, .i .i64 L.length), (3, .ms (.g c2) 3 0 (Q.length + 1)), (0, .p (.g a) 0)] fr2 → R fr2 ⟨h'', l2⟩ := by
        intro h' h'' c2 l2 o fr2 q1 q2 q3 q4 q5 q6 q7
        refine hR (L.length - (i + 1)) _ _ (by omega) ⟨i + 1, h'', _, Q ++ [(m, o)], l2, by omega, rfl, hQ' o, hA.add hlo q1 q2 q3 q4 q5 q6, ?_, q7, rfl⟩
        refine Heap.Keeps.mono (.trans (.mono hk fun n _ x => x.elim) (.trans (.mono q1 fun n _ x => x.elim) q3)) fun n hn e => ?_
        rcases hA.row with ⟨_, h5⟩ | ⟨c0, hc0, hc1, _⟩
        · rw [h5] at e; cases e
        · rw [hc0] at e
          cases e
          omega
      rcases hA.row with ⟨h3, h4⟩ | ⟨c0, hc0, hc1, hc2, _, hg⟩
      · subst h3 h4
        ((conv => whnf); repeat ((first | refine SIf.dt (by omega) ?_ | refine SChk.ix (by omega) (by omega) ?_ | refine SCall.app (hcop _) ?_ | refine SEx.of (g1) ?_ | refine SEx.of (g2) ?_ | refine SEx.of (hget) ?_ | refine yf rfl ?_ | refine yt rfl ?_ | refine yo rfl ?_ | refine yc rfl ?_ | refine ys rfl ?_ | refine ye rfl ?_ | refine yn rfl ?_ | refine zw ?_ | refine zdt ?_ | refine zdf ?_ | refine znt ?_ | refine znf ?_ | refine zcd ?_ | refine zci ?_ | refine zc3 ?_) <;> (conv => whnf)))
        intro o h' q1 q2
        cases o
        all_goals
          ((conv => whnf); repeat ((first | refine SWrap.w64 (by omega) (by omega) ?_ | refine SEx.of (Heap.get_push_self _ _) ?_ | refine SEx.of (Heap.get_push_self _ _) ?_ | refine yf rfl ?_ | refine yt rfl ?_ | refine yo rfl ?_ | refine yc rfl ?_ | refine ys rfl ?_ | refine ye rfl ?_ | refine yn rfl ?_ | refine zw ?_ | refine zdt ?_ | refine zdf ?_ | refine znt ?_ | refine znf ?_ | refine zcd ?_ | refine zci ?_ | refine zc3 ?_) <;> (conv => whnf)))
        · exact fin h' _ (h'.next + 1) _ none _ q1 q2 (.push (.push (.refl _ _) _) _) (Nat.le_succ _) (Nat.lt_succ_self _) (Heap.get_push_self _ _) (by repeat (first | exact Fr.le_nil | refine Fr.le_cons rfl ?_))
        · exact fin h' _ (h'.next + 1) _ (some _) _ q1 q2 (.push (.push (.refl _ _) _) _) (Nat.le_succ _) (Nat.lt_succ_self _) (Heap.get_push_self _ _) (by repeat (first | exact Fr.le_nil | refine Fr.le_cons rfl ?_))
      · subst hc0
        ((conv => whnf); repeat ((first | refine SIf.dt (by omega) ?_ | refine SChk.ix (by omega) (by omega) ?_ | refine SCall.app (hcop _) ?_ | refine SEx.of (g1) ?_ | refine SEx.of (g2) ?_ | refine SEx.of (hget) ?_ | refine yf rfl ?_ | refine yt rfl ?_ | refine yo rfl ?_ | refine yc rfl ?_ | refine ys rfl ?_ | refine ye rfl ?_ | refine yn rfl ?_ | refine zw ?_ | refine zdt ?_ | refine zdf ?_ | refine znt ?_ | refine znf ?_ | refine zcd ?_ | refine zci ?_ | refine zc3 ?_) <;> (conv => whnf)))
        intro o h' q1 q2
        have g3 : h'.get c0 = some (.arr 3 (Q.map amR)) := by rw [q1.2 c0 hc2 (fun x => x)]; exact hg
        have hne : c0 ≠ h'.next := by have := q1.1; omega
        have g4 : ∀ x, (h'.push x).get c0 = some (.arr 3 (Q.map amR)) := fun x => Heap.gp hne g3
        have hk3 : ∀ (x y : Obj), Heap.Keeps (fun j => V.ms (.g c0) 3 0 Q.length = .ms (.g j) 3 0 Q.length) h' (((h'.push x).remove c0).push y) := fun x y =>
          @Heap.Keeps.push _ _ _ (@Heap.Keeps.remove _ _ _ (@Heap.Keeps.push _ _ _ (Heap.Keeps.refl (fun j => V.ms (.g c0) 3 0 Q.length = .ms (.g j) 3 0 Q.length) h') x) c0 (.inl rfl)) y
        have hrow : ∀ o : Option Nat, some (Obj.arr 3 (List.drop 0 (List.take (0 + Q.length) (Q.map amR)) ++ [amR (m, o)])) = some (.arr 3 ((Q ++ [(m, o)]).map amR)) := fun o => by
          rw [List.take_of_length_le (by simp), List.drop_zero, List.map_append]; rfl
        have hQm : (Q.map amR).length = Q.length := List.length_map _
        cases o
        all_goals
          ((conv => whnf); repeat ((first | refine SChk.mk (by simp [roomOk]; omega) ?_ | refine SChk.mk (decide_eq_true (by rw [hQm]; omega)) ?_ | refine SIf.df (by rw [hQm]; show ¬ 0 + Q.length + 1 ≤ Q.length; omega) ?_ | refine SWrap.w64 (by omega) (by omega) ?_ | refine SEx.of (Heap.get_push_self _ _) ?_ | refine SEx.of (g4 _) ?_ | refine SEx.of (g4 _) ?_ | refine yf rfl ?_ | refine yt rfl ?_ | refine yo rfl ?_ | refine yc rfl ?_ | refine ys rfl ?_ | refine ye rfl ?_ | refine yn rfl ?_ | refine zw ?_ | refine zdt ?_ | refine zdf ?_ | refine znt ?_ | refine znf ?_ | refine zcd ?_ | refine zci ?_ | refine zc3 ?_) <;> (conv => whnf)))
        · refine fin h' _ (h'.next + 1) _ none _ q1 q2 (hk3 _ _) (Nat.le_succ _) (Nat.lt_succ_self _) ((Heap.get_push_self _ _).trans (hrow _)) (by repeat (first | exact Fr.le_nil | refine Fr.le_cons rfl ?_))
        · refine fin h' _ (h'.next + 1) _ (some _) _ q1 q2 (hk3 _ _) (Nat.le_succ _) (Nat.lt_succ_self _) ((Heap.get_push_self _ _).trans (hrow _)) (by repeat (first | exact Fr.le_nil | refine Fr.le_cons rfl ?_))
    · have : i = L.length := by omega
      subst this
      rw [List.take_length] at hQ
      rcases hA.row with ⟨_, h4⟩ | ⟨c0, h4, _⟩
      all_goals
        subst h4
        ((conv => whnf); repeat ((first | refine SIf.df (by omega) ?_ | refine yf rfl ?_ | refine yt rfl ?_ | refine yo rfl ?_ | refine yc rfl ?_ | refine ys rfl ?_ | refine ye rfl ?_ | refine yn rfl ?_ | refine zw ?_ | refine zdt ?_ | refine zdf ?_ | refine znt ?_ | refine znf ?_ | refine zcd ?_ | refine zci ?_ | refine zc3 ?_) <;> (conv => whnf)))
        exact hK _ Q hh hQ hA hk
end
end Go.Eng
