/-
What may be: letters, names, amounts, ports: what the program answers, just so.
-/
import Derived.Test.YtcckglahpbmakaaGreatRdA
import Derived.Test.YtcckglahpbmakaaGreatFitA
set_option linter.unusedVariables false
set_option linter.unusedSimpArgs false
namespace Go.Eng
open Go
def letterB (c : Nat) : Bool := decide (0 < digitB c)
def nameB (s : Str) : Bool := decide (1 ≤ s.length) && decide (s.length ≤ 12) && s.all fun c => letterB c.toNat
theorem nameB_ok {s : Str} (h : nameB s = true) : NameOk s := by
  unfold nameB at h
  simp only [Bool.and_eq_true, decide_eq_true_eq, List.all_eq_true] at h
  exact ⟨h.1.2, fun c hc => by simpa [letterB] using h.2 c hc⟩
theorem letterB_eq (c : Nat) : letterB c = ((decide (97 ≤ c) && decide (c ≤ 122)) || (decide (48 ≤ c) && decide (c ≤ 57)) || decide (c = 45)) := by
  unfold letterB digitB
  by_cases h1 : 97 ≤ c ∧ c < 123
  · rw [if_pos h1, decide_eq_true (show 0 < c - 96 by omega), decide_eq_true h1.1, decide_eq_true (show c ≤ 122 by omega)]; rfl
  · rw [if_neg h1]
    have e1 : (decide (97 ≤ c) && decide (c ≤ 122)) = false := by
      rw [← Bool.decide_and]; exact decide_eq_false (by omega)
    rw [e1]
    by_cases h2 : 48 ≤ c ∧ c < 58
    · rw [if_pos h2, decide_eq_true (show 0 < c - 21 by omega), decide_eq_true h2.1, decide_eq_true (show c ≤ 57 by omega)]; rfl
    · rw [if_neg h2]
      have e2 : (decide (48 ≤ c) && decide (c ≤ 57)) = false := by
        rw [← Bool.decide_and]; exact decide_eq_false (by omega)
      rw [e2]
      by_cases h3 : c = 45
      · rw [if_pos h3, decide_eq_true h3]; rfl
      · rw [if_neg h3, decide_eq_false h3]; rfl
def amountB (x : Int) : Bool := decide (0 ≤ x) && decide (x ≤ 1000000000)
def resB (r : ResD) : Bool := amountB r.a && amountB r.b && amountB r.c
def portsB : Option Int → List Int → Bool
  | _, [] => true
  | o, x :: r => decide (1 ≤ x) && decide (x ≤ 65535) && (match o with
    | none => true
    | some y => decide (y < x)) && portsB (some x) r
section
variable {P : Program} (hG : FnsOk P AF.fns.get)
include hG
theorem letter_at {h : Heap} (c : Nat) {K : V → Heap → Prop} (hK : K (.b (letterB c)) h) : ACall P 154 [.i .u8 (c : Nat)] h K := by
  rw [letterB_eq] at hK
  by_cases c1 : 97 ≤ c <;> by_cases c2 : c ≤ 122 <;> by_cases c3 : 48 ≤ c <;> by_cases c4 : c ≤ 57 <;> by_cases c5 : c = 45
  all_goals
    simp only [c1, c2, c3, c4, c5, decide_true, decide_false, Bool.and_true, Bool.and_false, Bool.or_true, Bool.or_false, Bool.true_or, Bool.false_or, Bool.false_and, Bool.true_and] at hK
  all_goals
    first
    | (exfalso; omega)
    | (refine fn_sp (hG _ AF.f154 rfl) rfl ?_
       ((conv => whnf); repeat ((first | refine yf rfl ?_ | refine yt rfl ?_ | refine yo rfl ?_ | refine yc rfl ?_ | refine ys rfl ?_ | refine ye rfl ?_ | refine yn rfl ?_ | refine zw ?_ | refine zdt ?_ | refine zdf ?_ | refine znt ?_ | refine znf ?_ | refine zcd ?_ | refine zci ?_ | refine zc3 ?_) <;> (conv => whnf)))
       first | exact hK | (rw [decide_eq_true (show (c : Int) = 45 by omega)]; exact hK) | (rw [decide_eq_false (show ¬ (c : Int) = 45 by omega)]; exact hK))
set_option maxHeartbeats 2000000 in
theorem name_at {h : Heap} (s : Str) (hl : s.length ≤ 9223372036854775807) {K : V → Heap → Prop} (hK : K (.b (nameB s)) h) : ACall P 109 [.s s] h K := by
  unfold nameB at hK
  by_cases c1 : s.length < 1
  · rw [decide_eq_false (by omega)] at hK
    refine fn_sp (hG _ AF.f109 rfl) rfl ?_
    ((conv => whnf); repeat ((first | refine yf rfl ?_ | refine yt rfl ?_ | refine yo rfl ?_ | refine yc rfl ?_ | refine ys rfl ?_ | refine ye rfl ?_ | refine yn rfl ?_ | refine zw ?_ | refine zdt ?_ | refine zdf ?_ | refine znt ?_ | refine znf ?_ | refine zcd ?_ | refine zci ?_ | refine zc3 ?_) <;> (conv => whnf)))
    exact hK
  rw [decide_eq_true (by omega), Bool.true_and] at hK
  by_cases c2 : s.length > 12
  · rw [decide_eq_false (by omega)] at hK
    refine fn_sp (hG _ AF.f109 rfl) rfl ?_
    ((conv => whnf); repeat ((first | refine yf rfl ?_ | refine yt rfl ?_ | refine yo rfl ?_ | refine yc rfl ?_ | refine ys rfl ?_ | refine ye rfl ?_ | refine yn rfl ?_ | refine zw ?_ | refine zdt ?_ | refine zdf ?_ | refine znt ?_ | refine znf ?_ | refine zcd ?_ | refine zci ?_ | refine zc3 ?_) <;> (conv => whnf)))
    exact hK
  rw [decide_eq_true (by omega), Bool.true_and] at hK
  refine fn_sp (hG _ AF.f109 rfl) rfl ?_
  ((conv => whnf); repeat ((first | refine yf rfl ?_ | refine yt rfl ?_ | refine yo rfl ?_ | refine yc rfl ?_ | refine ys rfl ?_ | refine ye rfl ?_ | refine yn rfl ?_ | refine zw ?_ | refine zdt ?_ | refine zdf ?_ | refine znt ?_ | refine znf ?_ | refine zcd ?_ | refine zci ?_ | refine zc3 ?_) <;> (conv => whnf)))
  refine SLoop.by (fun q fr st => ∃ (i : Nat) (l : Heap), i ≤ s.length ∧ q = s.length - i ∧ (s.take i).all (fun c => letterB c.toNat) = true ∧
      Fr.le [(14, .i .i64 i), (13, .i .i64 s.length), (0, .s s)] fr ∧ st = ⟨h, l⟩)
    s.length ⟨0, _, Nat.zero_le _, rfl, rfl, (by repeat (first | exact Fr.le_nil | refine Fr.le_cons rfl ?_)), rfl⟩ ?_
  rintro q fr st ⟨i, l, hi, rfl, hall, hle0, rfl⟩
  refine ⟨_, hle0, fun R hR => ?_⟩
  by_cases hin : i < s.length
  · have hc := List.getElem?_eq_getElem hin
    have hcm := List.getElem_mem hin
    generalize s[i] = c at hc hcm
    have hget : s[((i : Nat) : Int).toNat]? = some c := by rw [Int.toNat_natCast]; exact hc
    have hlt := fun K hK => letter_at (K := K) hG (h := h) c.toNat hK
    ((conv => whnf); repeat ((first | refine SIf.dt (show (i : Int) < (s.length : Nat) by omega) ?_ | refine SChk.mk (decide_eq_true (show (0 : Int) ≤ (i : Int) by omega)) ?_ | refine SCall.app (hlt _) ?_ | refine SEx.of (hget) ?_ | refine yf rfl ?_ | refine yt rfl ?_ | refine yo rfl ?_ | refine yc rfl ?_ | refine ys rfl ?_ | refine ye rfl ?_ | refine yn rfl ?_ | refine zw ?_ | refine zdt ?_ | refine zdf ?_ | refine znt ?_ | refine znf ?_ | refine zcd ?_ | refine zci ?_ | refine zc3 ?_) <;> (conv => whnf)))
    cases hb : letterB c.toNat
    · ((conv => whnf); repeat ((first | refine yf rfl ?_ | refine yt rfl ?_ | refine yo rfl ?_ | refine yc rfl ?_ | refine ys rfl ?_ | refine ye rfl ?_ | refine yn rfl ?_ | refine zw ?_ | refine zdt ?_ | refine zdf ?_ | refine znt ?_ | refine znf ?_ | refine zcd ?_ | refine zci ?_ | refine zc3 ?_) <;> (conv => whnf)))
      have : (s.all fun c => letterB c.toNat) = false := by
        rw [List.all_eq_false]; exact ⟨c, hcm, by rw [hb]; decide⟩
      rw [this] at hK
      exact hK
    · ((conv => whnf); repeat ((first | refine SWrap.w64 (by omega) (by omega) ?_ | refine yf rfl ?_ | refine yt rfl ?_ | refine yo rfl ?_ | refine yc rfl ?_ | refine ys rfl ?_ | refine ye rfl ?_ | refine yn rfl ?_ | refine zw ?_ | refine zdt ?_ | refine zdf ?_ | refine znt ?_ | refine znf ?_ | refine zcd ?_ | refine zci ?_ | refine zc3 ?_) <;> (conv => whnf)))
      exact hR (s.length - (i + 1)) _ _ (by omega) ⟨i + 1, _, by omega, rfl, (by rw [List.take_add_one, hc]; simp [hall, hb]), (by repeat (first | exact Fr.le_nil | refine Fr.le_cons rfl ?_)), rfl⟩
  · obtain rfl : i = s.length := by omega
    rw [List.take_length] at hall
    rw [hall] at hK
    ((conv => whnf); repeat ((first | refine yf rfl ?_ | refine yt rfl ?_ | refine yo rfl ?_ | refine yc rfl ?_ | refine ys rfl ?_ | refine ye rfl ?_ | refine yn rfl ?_ | refine zw ?_ | refine zdt ?_ | refine zdf ?_ | refine znt ?_ | refine znf ?_ | refine zcd ?_ | refine zci ?_ | refine zc3 ?_) <;> (conv => whnf)))
    exact hK
theorem qmay_at {h : Heap} (r : ResD) {K : V → Heap → Prop} (hK : K (.b (resB r)) h) : ACall P 110 [.agg (resR r)] h K := by
  unfold resB amountB at hK
  by_cases c1 : 0 ≤ r.a ∧ r.a ≤ 1000000000
  case neg =>
    rw [← Bool.decide_and, decide_eq_false c1] at hK
    by_cases d : r.a < 0
    all_goals
      refine fn_sp (hG _ AF.f110 rfl) rfl ?_
      ((conv => whnf); repeat ((first | refine SLoop.un ?_ | refine yf rfl ?_ | refine yt rfl ?_ | refine yo rfl ?_ | refine yc rfl ?_ | refine ys rfl ?_ | refine ye rfl ?_ | refine yn rfl ?_ | refine zw ?_ | refine zdt ?_ | refine zdf ?_ | refine znt ?_ | refine znf ?_ | refine zcd ?_ | refine zci ?_ | refine zc3 ?_) <;> (conv => whnf)))
      exact hK
  rw [← Bool.decide_and, decide_eq_true c1, Bool.true_and] at hK
  by_cases c2 : 0 ≤ r.b ∧ r.b ≤ 1000000000
  case neg =>
    rw [← Bool.decide_and, decide_eq_false c2] at hK
    by_cases d : r.b < 0
    all_goals
      refine fn_sp (hG _ AF.f110 rfl) rfl ?_
      ((conv => whnf); repeat ((first | refine SLoop.un ?_ | refine yf rfl ?_ | refine yt rfl ?_ | refine yo rfl ?_ | refine yc rfl ?_ | refine ys rfl ?_ | refine ye rfl ?_ | refine yn rfl ?_ | refine zw ?_ | refine zdt ?_ | refine zdf ?_ | refine znt ?_ | refine znf ?_ | refine zcd ?_ | refine zci ?_ | refine zc3 ?_) <;> (conv => whnf)))
      exact hK
  rw [← Bool.decide_and, decide_eq_true c2, Bool.true_and] at hK
  by_cases c3 : 0 ≤ r.c ∧ r.c ≤ 1000000000
  case neg =>
    rw [← Bool.decide_and, decide_eq_false c3] at hK
    by_cases d : r.c < 0
    all_goals
      refine fn_sp (hG _ AF.f110 rfl) rfl ?_
      ((conv => whnf); repeat ((first | refine SLoop.un ?_ | refine yf rfl ?_ | refine yt rfl ?_ | refine yo rfl ?_ | refine yc rfl ?_ | refine ys rfl ?_ | refine ye rfl ?_ | refine yn rfl ?_ | refine zw ?_ | refine zdt ?_ | refine zdf ?_ | refine znt ?_ | refine znf ?_ | refine zcd ?_ | refine zci ?_ | refine zc3 ?_) <;> (conv => whnf)))
      exact hK
  rw [← Bool.decide_and, decide_eq_true c3] at hK
  refine fn_sp (hG _ AF.f110 rfl) rfl ?_
  ((conv => whnf); repeat ((first | refine SLoop.un ?_ | refine yf rfl ?_ | refine yt rfl ?_ | refine yo rfl ?_ | refine yc rfl ?_ | refine ys rfl ?_ | refine ye rfl ?_ | refine yn rfl ?_ | refine zw ?_ | refine zdt ?_ | refine zdf ?_ | refine znt ?_ | refine znf ?_ | refine zcd ?_ | refine zci ?_ | refine zc3 ?_) <;> (conv => whnf)))
  exact hK
end
end Go.Eng
/-
What may be: ports, pairs, terms, what is borne.
-/
namespace Go.Eng
open Go
theorem portsB_cons (o : Option Int) (x : Int) (r : List Int) : portsB o (x :: r) = (decide (1 ≤ x) && decide (x ≤ 65535) && (match o with
    | none => true
    | some y => decide (y < x)) && portsB (some x) r) := by
  cases o <;> rfl
def pairsB : Option Str → List PairD → Bool
  | _, [] => true
  | o, x :: r => nameB x.key && nameB x.val && (match o with
    | none => true
    | some y => Op.bytesLess y x.key) && pairsB (some x.key) r
theorem pairsB_cons (o : Option Str) (x : PairD) (r : List PairD) : pairsB o (x :: r) = (nameB x.key && nameB x.val && (match o with
    | none => true
    | some y => Op.bytesLess y x.key) && pairsB (some x.key) r) := by
  cases o <;> rfl
def termB (t : TermD) : Bool := (if t.kind = 1 ∨ t.kind = 2 then decide (1 ≤ t.vals.length) && decide (t.vals.length ≤ 6) else decide (t.kind = 3 ∨ t.kind = 4) && decide (t.vals.length = 0)) && nameB t.key && t.vals.all nameB
def tolB (t : TolD) : Bool := (decide (t.key = []) || nameB t.key) && (if t.any then decide (t.val = []) else nameB t.val)
section
variable {P : Program} (hG : FnsOk P AF.fns.get)
include hG
set_option maxHeartbeats 4000000 in
theorem oports_at {h : Heap} (l : List Int) (hl : l.length ≤ 9223372036854775807) {K : V → Heap → Prop} (hK : K (.b (portsB none l && decide (l.length ≤ 6))) h) : ACall P 111 [.sl none 1 (l.map intR)] h K := by
  have hlm : (l.map intR).length = l.length := List.length_map _
  refine fn_sp (hG _ AF.f111 rfl) rfl ?_
  ((conv => whnf); repeat ((first | refine yf rfl ?_ | refine yt rfl ?_ | refine yo rfl ?_ | refine yc rfl ?_ | refine ys rfl ?_ | refine ye rfl ?_ | refine yn rfl ?_ | refine zw ?_ | refine zdt ?_ | refine zdf ?_ | refine znt ?_ | refine znf ?_ | refine zcd ?_ | refine zci ?_ | refine zc3 ?_) <;> (conv => whnf)))
  refine SLoop.by (fun q fr st => ∃ (i : Nat) (lc : Heap) (o : Option Int), i ≤ l.length ∧ q = l.length - i ∧ portsB none l = portsB o (l.drop i) ∧ ((i = 0 ∧ o = none) ∨ (0 < i ∧ ∃ y, l[i - 1]? = some y ∧ o = some y)) ∧
      Fr.le [(7, .i .i64 i), (6, .i .i64 (l.map intR).length), (5, .sl none 1 (l.map intR)), (0, .sl none 1 (l.map intR))] fr ∧ st = ⟨h, lc⟩)
    l.length ⟨0, _, none, Nat.zero_le _, rfl, rfl, .inl ⟨rfl, rfl⟩, (by repeat (first | exact Fr.le_nil | refine Fr.le_cons rfl ?_)), rfl⟩ ?_
  rintro q fr st ⟨i, lc, o, hi, rfl, heq, ho, hle0, rfl⟩
  refine ⟨_, hle0, fun R hR => ?_⟩
  have hno : portsB none l = false → K (.b false) h := fun hf => by rw [hf] at hK; exact hK
  by_cases hin : i < l.length
  · have he := List.getElem?_eq_getElem hin
    have hdr := List.drop_eq_getElem_cons hin
    generalize l[i] = x at he hdr
    rw [hdr, portsB_cons] at heq
    by_cases c1 : x < 1
    · rw [decide_eq_false (by omega)] at heq
      ((conv => whnf); repeat ((first | refine SIf.dt (show (i : Int) < (l.map intR).length by omega) ?_ | refine SIf.dt c1 ?_ | refine SEx.of (map_get' (by omega) he) ?_ | refine yf rfl ?_ | refine yt rfl ?_ | refine yo rfl ?_ | refine yc rfl ?_ | refine ys rfl ?_ | refine ye rfl ?_ | refine yn rfl ?_ | refine zw ?_ | refine zdt ?_ | refine zdf ?_ | refine znt ?_ | refine znf ?_ | refine zcd ?_ | refine zci ?_ | refine zc3 ?_) <;> (conv => whnf)))
      exact hno (by rw [heq]; rfl)
    rw [decide_eq_true (show 1 ≤ x by omega)] at heq
    by_cases c2 : x > 65535
    · rw [decide_eq_false (show ¬ x ≤ 65535 by omega)] at heq
      ((conv => whnf); repeat ((first | refine SIf.dt (show (i : Int) < (l.map intR).length by omega) ?_ | refine SIf.df c1 ?_ | refine SIf.dt c2 ?_ | refine SEx.of (map_get' (by omega) he) ?_ | refine yf rfl ?_ | refine yt rfl ?_ | refine yo rfl ?_ | refine yc rfl ?_ | refine ys rfl ?_ | refine ye rfl ?_ | refine yn rfl ?_ | refine zw ?_ | refine zdt ?_ | refine zdf ?_ | refine znt ?_ | refine znf ?_ | refine zcd ?_ | refine zci ?_ | refine zc3 ?_) <;> (conv => whnf)))
      exact hno (by rw [heq]; rfl)
    rw [decide_eq_true (show x ≤ 65535 by omega)] at heq
    rcases ho with ⟨rfl, rfl⟩ | ⟨hi0, y, hy, rfl⟩
    · ((conv => whnf); repeat ((first | refine SIf.dt (show ((0 : Nat) : Int) < (l.map intR).length by omega) ?_ | refine SIf.df c1 ?_ | refine SIf.df c2 ?_ | refine SIf.df (show ¬ ((0 : Nat) : Int) > 0 by omega) ?_ | refine SWrap.w64 (by omega) (by omega) ?_ | refine SEx.of (map_get' (by omega) he) ?_ | refine yf rfl ?_ | refine yt rfl ?_ | refine yo rfl ?_ | refine yc rfl ?_ | refine ys rfl ?_ | refine ye rfl ?_ | refine yn rfl ?_ | refine zw ?_ | refine zdt ?_ | refine zdf ?_ | refine znt ?_ | refine znf ?_ | refine zcd ?_ | refine zci ?_ | refine zc3 ?_) <;> (conv => whnf)))
      exact hR (l.length - (0 + 1)) _ _ (by omega) ⟨0 + 1, _, some x, by omega, rfl, heq, .inr ⟨by omega, x, he, rfl⟩, (by repeat (first | exact Fr.le_nil | refine Fr.le_cons rfl ?_)), rfl⟩
    · by_cases c3 : y ≥ x
      · simp only [decide_eq_false (show ¬ y < x by omega)] at heq
        ((conv => whnf); repeat ((first | refine SIf.dt (show (i : Int) < (l.map intR).length by omega) ?_ | refine SIf.df c1 ?_ | refine SIf.df c2 ?_ | refine SIf.dt (show (i : Int) > 0 by omega) ?_ | refine SWrap.w64 (by omega) (by omega) ?_ | refine SChk.ix (by omega) (by omega) ?_ | refine SIf.dt c3 ?_ | refine SEx.of (map_get' (by omega) he) ?_ | refine SEx.of (map_get' (by omega) hy) ?_ | refine yf rfl ?_ | refine yt rfl ?_ | refine yo rfl ?_ | refine yc rfl ?_ | refine ys rfl ?_ | refine ye rfl ?_ | refine yn rfl ?_ | refine zw ?_ | refine zdt ?_ | refine zdf ?_ | refine znt ?_ | refine znf ?_ | refine zcd ?_ | refine zci ?_ | refine zc3 ?_) <;> (conv => whnf)))
        exact hno (by rw [heq]; rfl)
      · simp only [decide_eq_true (show y < x by omega)] at heq
        ((conv => whnf); repeat ((first | refine SIf.dt (show (i : Int) < (l.map intR).length by omega) ?_ | refine SIf.df c1 ?_ | refine SIf.df c2 ?_ | refine SIf.dt (show (i : Int) > 0 by omega) ?_ | refine SWrap.w64 (by omega) (by omega) ?_ | refine SChk.ix (by omega) (by omega) ?_ | refine SIf.df c3 ?_ | refine SEx.of (map_get' (by omega) he) ?_ | refine SEx.of (map_get' (by omega) hy) ?_ | refine yf rfl ?_ | refine yt rfl ?_ | refine yo rfl ?_ | refine yc rfl ?_ | refine ys rfl ?_ | refine ye rfl ?_ | refine yn rfl ?_ | refine zw ?_ | refine zdt ?_ | refine zdf ?_ | refine znt ?_ | refine znf ?_ | refine zcd ?_ | refine zci ?_ | refine zc3 ?_) <;> (conv => whnf)))
        exact hR (l.length - (i + 1)) _ _ (by omega) ⟨i + 1, _, some x, by omega, rfl, heq, .inr ⟨by omega, x, he, rfl⟩, (by repeat (first | exact Fr.le_nil | refine Fr.le_cons rfl ?_)), rfl⟩
  · obtain rfl : i = l.length := by omega
    rw [List.drop_length] at heq
    have heq : portsB none l = true := heq
    rw [heq, Bool.true_and] at hK
    have e : decide (((l.map intR).length : Int) ≤ 6) = decide (l.length ≤ 6) := by
      by_cases c : l.length ≤ 6
      · rw [decide_eq_true c, decide_eq_true (by omega)]
      · rw [decide_eq_false c, decide_eq_false (by omega)]
    ((conv => whnf); repeat ((first | refine SIf.df (show ¬ ((l.length : Nat) : Int) < (l.map intR).length by omega) ?_ | refine yf rfl ?_ | refine yt rfl ?_ | refine yo rfl ?_ | refine yc rfl ?_ | refine ys rfl ?_ | refine ye rfl ?_ | refine yn rfl ?_ | refine zw ?_ | refine zdt ?_ | refine zdf ?_ | refine znt ?_ | refine znf ?_ | refine zcd ?_ | refine zci ?_ | refine zc3 ?_) <;> (conv => whnf)))
    rw [e]
    exact hK
set_option maxHeartbeats 8000000 in
theorem lmay_at {h : Heap} (l : List PairD) (hl : l.length ≤ 9223372036854775807) (hs : ∀ q ∈ l, q.key.length ≤ 9223372036854775807 ∧ q.val.length ≤ 9223372036854775807) {K : V → Heap → Prop} (hK : K (.b (pairsB none l && decide (l.length ≤ 6))) h) : ACall P 112 [.sl none 2 (l.map pairR)] h K := by
  have hlm : (l.map pairR).length = l.length := List.length_map _
  refine fn_sp (hG _ AF.f112 rfl) rfl ?_
  ((conv => whnf); repeat ((first | refine yf rfl ?_ | refine yt rfl ?_ | refine yo rfl ?_ | refine yc rfl ?_ | refine ys rfl ?_ | refine ye rfl ?_ | refine yn rfl ?_ | refine zw ?_ | refine zdt ?_ | refine zdf ?_ | refine znt ?_ | refine znf ?_ | refine zcd ?_ | refine zci ?_ | refine zc3 ?_) <;> (conv => whnf)))
  refine SLoop.by (fun q fr st => ∃ (i : Nat) (lc : Heap) (o : Option Str), i ≤ l.length ∧ q = l.length - i ∧ pairsB none l = pairsB o (l.drop i) ∧ ((i = 0 ∧ o = none) ∨ (0 < i ∧ ∃ y, l[i - 1]? = some y ∧ o = some y.key)) ∧
      Fr.le [(7, .i .i64 i), (6, .i .i64 (l.map pairR).length), (5, .sl none 2 (l.map pairR)), (0, .sl none 2 (l.map pairR))] fr ∧ st = ⟨h, lc⟩)
    l.length ⟨0, _, none, Nat.zero_le _, rfl, rfl, .inl ⟨rfl, rfl⟩, (by repeat (first | exact Fr.le_nil | refine Fr.le_cons rfl ?_)), rfl⟩ ?_
  rintro q fr st ⟨i, lc, o, hi, rfl, heq, ho, hle0, rfl⟩
  refine ⟨_, hle0, fun R hR => ?_⟩
  have hno : pairsB none l = false → K (.b false) h := fun hf => by rw [hf] at hK; exact hK
  have a1 : ∀ o, (lc.push o).get lc.next = some o := fun o => Heap.get_push_self _ _
  have a2 : ∀ o o2, ((lc.push o).set lc.next o2).get lc.next = some o2 := fun o o2 => Heap.get_set_self (a1 o)
  by_cases hin : i < l.length
  · have he := List.getElem?_eq_getElem hin
    have hxs := hs _ (List.getElem_mem hin)
    have hdr := List.drop_eq_getElem_cons hin
    generalize l[i] = x at he hdr hxs
    rw [hdr, pairsB_cons] at heq
    have hk := fun K hK => name_at (K := K) hG (h := h) x.key hxs.1 hK
    have hv := fun K hK => name_at (K := K) hG (h := h) x.val hxs.2 hK
    cases c1 : nameB x.key
    · rw [c1] at heq hk
      ((conv => whnf); repeat ((first | refine SIf.dt (show (i : Int) < (l.map pairR).length by omega) ?_ | refine SCall.app (hk _) ?_ | refine SEx.of (map_get' (by omega) he) ?_ | refine SEx.of (a1 _) ?_ | refine SEx.of (a2 _ _) ?_ | refine yf rfl ?_ | refine yt rfl ?_ | refine yo rfl ?_ | refine yc rfl ?_ | refine ys rfl ?_ | refine ye rfl ?_ | refine yn rfl ?_ | refine zw ?_ | refine zdt ?_ | refine zdf ?_ | refine znt ?_ | refine znf ?_ | refine zcd ?_ | refine zci ?_ | refine zc3 ?_) <;> (conv => whnf)))
      exact hno (by rw [heq]; rfl)
    cases c2 : nameB x.val
    · rw [c1, c2] at heq
      rw [c1] at hk
      rw [c2] at hv
      ((conv => whnf); repeat ((first | refine SIf.dt (show (i : Int) < (l.map pairR).length by omega) ?_ | refine SCall.app (hk _) ?_ | refine SCall.app (hv _) ?_ | refine SEx.of (map_get' (by omega) he) ?_ | refine SEx.of (a1 _) ?_ | refine SEx.of (a2 _ _) ?_ | refine yf rfl ?_ | refine yt rfl ?_ | refine yo rfl ?_ | refine yc rfl ?_ | refine ys rfl ?_ | refine ye rfl ?_ | refine yn rfl ?_ | refine zw ?_ | refine zdt ?_ | refine zdf ?_ | refine znt ?_ | refine znf ?_ | refine zcd ?_ | refine zci ?_ | refine zc3 ?_) <;> (conv => whnf)))
      exact hno (by rw [heq]; rfl)
    rw [c1, c2] at heq
    rw [c1] at hk
    rw [c2] at hv
    rcases ho with ⟨rfl, rfl⟩ | ⟨hi0, y, hy, rfl⟩
    · ((conv => whnf); repeat ((first | refine SIf.dt (show ((0 : Nat) : Int) < (l.map pairR).length by omega) ?_ | refine SCall.app (hk _) ?_ | refine SCall.app (hv _) ?_ | refine SIf.df (show ¬ ((0 : Nat) : Int) > 0 by omega) ?_ | refine SWrap.w64 (by omega) (by omega) ?_ | refine SEx.of (map_get' (by omega) he) ?_ | refine SEx.of (a1 _) ?_ | refine SEx.of (a2 _ _) ?_ | refine yf rfl ?_ | refine yt rfl ?_ | refine yo rfl ?_ | refine yc rfl ?_ | refine ys rfl ?_ | refine ye rfl ?_ | refine yn rfl ?_ | refine zw ?_ | refine zdt ?_ | refine zdf ?_ | refine znt ?_ | refine znf ?_ | refine zcd ?_ | refine zci ?_ | refine zc3 ?_) <;> (conv => whnf)))
      exact hR (l.length - (0 + 1)) _ _ (by omega) ⟨0 + 1, _, some x.key, by omega, rfl, heq, .inr ⟨by omega, x, he, rfl⟩, (by repeat (first | exact Fr.le_nil | refine Fr.le_cons rfl ?_)), rfl⟩
    · cases c3 : Op.bytesLess y.key x.key
      · simp only [c3] at heq
        ((conv => whnf); repeat ((first | refine SIf.dt (show (i : Int) < (l.map pairR).length by omega) ?_ | refine SCall.app (hk _) ?_ | refine SCall.app (hv _) ?_ | refine SIf.dt (show (i : Int) > 0 by omega) ?_ | refine SWrap.w64 (by omega) (by omega) ?_ | refine SChk.ix (by omega) (by omega) ?_ | refine SIf.tt (show (!Op.bytesLess y.key x.key) = true by rw [c3]; rfl) ?_ | refine SEx.of (map_get' (by omega) he) ?_ | refine SEx.of (map_get' (by omega) hy) ?_ | refine SEx.of (a1 _) ?_ | refine SEx.of (a2 _ _) ?_ | refine yf rfl ?_ | refine yt rfl ?_ | refine yo rfl ?_ | refine yc rfl ?_ | refine ys rfl ?_ | refine ye rfl ?_ | refine yn rfl ?_ | refine zw ?_ | refine zdt ?_ | refine zdf ?_ | refine znt ?_ | refine znf ?_ | refine zcd ?_ | refine zci ?_ | refine zc3 ?_) <;> (conv => whnf)))
        exact hno (by rw [heq]; rfl)
      · simp only [c3] at heq
        ((conv => whnf); repeat ((first | refine SIf.dt (show (i : Int) < (l.map pairR).length by omega) ?_ | refine SCall.app (hk _) ?_ | refine SCall.app (hv _) ?_ | refine SIf.dt (show (i : Int) > 0 by omega) ?_ | refine SWrap.w64 (by omega) (by omega) ?_ | refine SChk.ix (by omega) (by omega) ?_ | refine SIf.ff (show (!Op.bytesLess y.key x.key) = false by rw [c3]; rfl) ?_ | refine SEx.of (map_get' (by omega) he) ?_ | refine SEx.of (map_get' (by omega) hy) ?_ | refine SEx.of (a1 _) ?_ | refine SEx.of (a2 _ _) ?_ | refine yf rfl ?_ | refine yt rfl ?_ | refine yo rfl ?_ | refine yc rfl ?_ | refine ys rfl ?_ | refine ye rfl ?_ | refine yn rfl ?_ | refine zw ?_ | refine zdt ?_ | refine zdf ?_ | refine znt ?_ | refine znf ?_ | refine zcd ?_ | refine zci ?_ | refine zc3 ?_) <;> (conv => whnf)))
        exact hR (l.length - (i + 1)) _ _ (by omega) ⟨i + 1, _, some x.key, by omega, rfl, heq, .inr ⟨by omega, x, he, rfl⟩, (by repeat (first | exact Fr.le_nil | refine Fr.le_cons rfl ?_)), rfl⟩
  · obtain rfl : i = l.length := by omega
    rw [List.drop_length] at heq
    have heq : pairsB none l = true := heq
    rw [heq, Bool.true_and] at hK
    have e : decide (((l.map pairR).length : Int) ≤ 6) = decide (l.length ≤ 6) := by
      by_cases c : l.length ≤ 6
      · rw [decide_eq_true c, decide_eq_true (by omega)]
      · rw [decide_eq_false c, decide_eq_false (by omega)]
    ((conv => whnf); repeat ((first | refine SIf.df (show ¬ ((l.length : Nat) : Int) < (l.map pairR).length by omega) ?_ | refine yf rfl ?_ | refine yt rfl ?_ | refine yo rfl ?_ | refine yc rfl ?_ | refine ys rfl ?_ | refine ye rfl ?_ | refine yn rfl ?_ | refine zw ?_ | refine zdt ?_ | refine zdf ?_ | refine znt ?_ | refine znf ?_ | refine zcd ?_ | refine zci ?_ | refine zc3 ?_) <;> (conv => whnf)))
    rw [e]
    exact hK
end
end Go.Eng
/-
What may be: terms, what is borne, a pod.
-/
namespace Go.Eng
open Go
set_option maxHeartbeats 1000000 in
theorem ixf_strK {P : Program} {f : Nat} (hk : okFn P f (ixfText 1 none) = true) {l : List Str} {g : Nat} {k : Nat} {h : Heap} {p : Str → Bool} (hl : l.length ≤ 9223372036854775807)
    (hg : ∀ e ∈ l, ∀ K : V → Heap → Prop, K (.b (p e)) h → ACall P g (.s e :: []) h K) {K : V → Heap → Prop} (hK : K (.i .i64 (ixRes p l)) h) : ACall P f [.sl none 1 (l.map strR), .fn g [] []] h K := by
  have hlm : (l.map strR).length = l.length := List.length_map _
  refine fn_sp hk rfl ?_
  ((conv => whnf); repeat ((first | refine SIf.ff rfl ?_ | refine SIf.tt rfl ?_ | refine SOpt.of rfl ?_ | refine SChk.mk rfl ?_ | refine SSame.mk rfl ?_ | refine SEx.of rfl ?_) <;> (conv => whnf)))
  refine SLoop.by (fun q fr st => ∃ i : Nat, i ≤ l.length ∧ q = l.length - i ∧ (∀ (j : Nat) (e : Str), j < i → l[j]? = some e → p e = false) ∧ Fr.le [(8, .i .i64 i), (7, .i .i64 (l.map strR).length), (1, .fn g [] []), (0, .sl none 1 (l.map strR))] fr ∧ st = gst h)
    l.length ⟨0, Nat.zero_le _, rfl, fun j e hj => absurd hj (Nat.not_lt_zero _), (by repeat (first | exact Fr.le_nil | refine Fr.le_cons rfl ?_)), rfl⟩ ?_
  rintro q fr st ⟨i, hi, rfl, hok, hle, rfl⟩
  refine ⟨_, hle, fun R hR => ?_⟩
  ((conv => whnf); repeat ((first | refine SIf.ff rfl ?_ | refine SIf.tt rfl ?_ | refine SOpt.of rfl ?_ | refine SChk.mk rfl ?_ | refine SSame.mk rfl ?_ | refine SEx.of rfl ?_) <;> (conv => whnf)))
  refine SIf.ds (fun hlt => ?_) (fun hge => ?_)
  · have hi' : i < l.length := by omega
    have he := List.getElem?_eq_getElem hi'
    have hm := List.getElem_mem hi'
    generalize l[i] = e at he hm
    ((conv => whnf); repeat ((first | refine SChk.ix (by omega) (by omega) ?_ | refine SIf.ff rfl ?_ | refine SIf.tt rfl ?_ | refine SOpt.of rfl ?_ | refine SChk.mk rfl ?_ | refine SSame.mk rfl ?_ | refine SEx.of (map_get' (by simp) he) ?_ | refine SEx.of rfl ?_) <;> (conv => whnf)))
    refine SCall.mk (hg e hm _ ?_)
    ((conv => whnf); repeat ((first | refine SIf.ff rfl ?_ | refine SIf.tt rfl ?_ | refine SOpt.of rfl ?_ | refine SChk.mk rfl ?_ | refine SSame.mk rfl ?_ | refine SEx.of rfl ?_) <;> (conv => whnf)))
    refine SIf.mk (fun hp => ?_) (fun hp => ?_)
    · ((conv => whnf); repeat ((first | refine SIf.ff rfl ?_ | refine SIf.tt rfl ?_ | refine SOpt.of rfl ?_ | refine SChk.mk rfl ?_ | refine SSame.mk rfl ?_ | refine SEx.of rfl ?_) <;> (conv => whnf)))
      rw [findIdx_some he hp hok] at hK
      exact hK
    · ((conv => whnf); repeat ((first | refine SWrap.w64 (by omega) (by omega) ?_ | refine SIf.ff rfl ?_ | refine SIf.tt rfl ?_ | refine SOpt.of rfl ?_ | refine SChk.mk rfl ?_ | refine SSame.mk rfl ?_ | refine SEx.of rfl ?_) <;> (conv => whnf)))
      refine hR (l.length - (i + 1)) _ _ (by omega) ⟨i + 1, by omega, rfl, fun j x hj hx => ?_, (by repeat (first | exact Fr.le_nil | refine Fr.le_cons rfl ?_)), rfl⟩
      by_cases hji : j < i
      · exact hok j x hji hx
      · obtain rfl : j = i := by omega
        rw [he] at hx; cases hx; exact hp
  · ((conv => whnf); repeat ((first | refine SIf.ff rfl ?_ | refine SIf.tt rfl ?_ | refine SOpt.of rfl ?_ | refine SChk.mk rfl ?_ | refine SSame.mk rfl ?_ | refine SEx.of rfl ?_) <;> (conv => whnf)))
    rw [findIdx_none fun j x hx => hok j x (by have := (List.getElem?_eq_some_iff.1 hx).1; omega) hx] at hK
    exact hK
set_option maxHeartbeats 1000000 in
theorem ixf_termK {P : Program} {f : Nat} (hk : okFn P f (ixfText 3 (some 3)) = true) {l : List TermD} {g : Nat} {k : Nat} {h : Heap} {p : TermD → Bool} (hl : l.length ≤ 9223372036854775807)
    (hg : ∀ e ∈ l, ∀ K : V → Heap → Prop, K (.b (p e)) h → ACall P g (.agg (termR e) :: []) h K) {K : V → Heap → Prop} (hK : K (.i .i64 (ixRes p l)) h) : ACall P f [.sl none 3 (l.map termR), .fn g [] []] h K := by
  have hlm : (l.map termR).length = l.length := List.length_map _
  refine fn_sp hk rfl ?_
  ((conv => whnf); repeat ((first | refine SIf.ff rfl ?_ | refine SIf.tt rfl ?_ | refine SOpt.of rfl ?_ | refine SChk.mk rfl ?_ | refine SSame.mk rfl ?_ | refine SEx.of rfl ?_) <;> (conv => whnf)))
  refine SLoop.by (fun q fr st => ∃ i : Nat, i ≤ l.length ∧ q = l.length - i ∧ (∀ (j : Nat) (e : TermD), j < i → l[j]? = some e → p e = false) ∧ Fr.le [(8, .i .i64 i), (7, .i .i64 (l.map termR).length), (1, .fn g [] []), (0, .sl none 3 (l.map termR))] fr ∧ st = gst h)
    l.length ⟨0, Nat.zero_le _, rfl, fun j e hj => absurd hj (Nat.not_lt_zero _), (by repeat (first | exact Fr.le_nil | refine Fr.le_cons rfl ?_)), rfl⟩ ?_
  rintro q fr st ⟨i, hi, rfl, hok, hle, rfl⟩
  refine ⟨_, hle, fun R hR => ?_⟩
  ((conv => whnf); repeat ((first | refine SIf.ff rfl ?_ | refine SIf.tt rfl ?_ | refine SOpt.of rfl ?_ | refine SChk.mk rfl ?_ | refine SSame.mk rfl ?_ | refine SEx.of rfl ?_) <;> (conv => whnf)))
  refine SIf.ds (fun hlt => ?_) (fun hge => ?_)
  · have hi' : i < l.length := by omega
    have he := List.getElem?_eq_getElem hi'
    have hm := List.getElem_mem hi'
    generalize l[i] = e at he hm
    ((conv => whnf); repeat ((first | refine SChk.ix (by omega) (by omega) ?_ | refine SIf.ff rfl ?_ | refine SIf.tt rfl ?_ | refine SOpt.of rfl ?_ | refine SChk.mk rfl ?_ | refine SSame.mk rfl ?_ | refine SEx.of (map_get' (by simp) he) ?_ | refine SEx.of rfl ?_) <;> (conv => whnf)))
    refine SCall.mk (hg e hm _ ?_)
    ((conv => whnf); repeat ((first | refine SIf.ff rfl ?_ | refine SIf.tt rfl ?_ | refine SOpt.of rfl ?_ | refine SChk.mk rfl ?_ | refine SSame.mk rfl ?_ | refine SEx.of rfl ?_) <;> (conv => whnf)))
    refine SIf.mk (fun hp => ?_) (fun hp => ?_)
    · ((conv => whnf); repeat ((first | refine SIf.ff rfl ?_ | refine SIf.tt rfl ?_ | refine SOpt.of rfl ?_ | refine SChk.mk rfl ?_ | refine SSame.mk rfl ?_ | refine SEx.of rfl ?_) <;> (conv => whnf)))
      rw [findIdx_some he hp hok] at hK
      exact hK
    · ((conv => whnf); repeat ((first | refine SWrap.w64 (by omega) (by omega) ?_ | refine SIf.ff rfl ?_ | refine SIf.tt rfl ?_ | refine SOpt.of rfl ?_ | refine SChk.mk rfl ?_ | refine SSame.mk rfl ?_ | refine SEx.of rfl ?_) <;> (conv => whnf)))
      refine hR (l.length - (i + 1)) _ _ (by omega) ⟨i + 1, by omega, rfl, fun j x hj hx => ?_, (by repeat (first | exact Fr.le_nil | refine Fr.le_cons rfl ?_)), rfl⟩
      by_cases hji : j < i
      · exact hok j x hji hx
      · obtain rfl : j = i := by omega
        rw [he] at hx; cases hx; exact hp
  · ((conv => whnf); repeat ((first | refine SIf.ff rfl ?_ | refine SIf.tt rfl ?_ | refine SOpt.of rfl ?_ | refine SChk.mk rfl ?_ | refine SSame.mk rfl ?_ | refine SEx.of rfl ?_) <;> (conv => whnf)))
    rw [findIdx_none fun j x hx => hok j x (by have := (List.getElem?_eq_some_iff.1 hx).1; omega) hx] at hK
    exact hK
set_option maxHeartbeats 1000000 in
theorem ixf_tolK {P : Program} {f : Nat} (hk : okFn P f (ixfText 3 (some 3)) = true) {l : List TolD} {g : Nat} {k : Nat} {h : Heap} {p : TolD → Bool} (hl : l.length ≤ 9223372036854775807)
    (hg : ∀ e ∈ l, ∀ K : V → Heap → Prop, K (.b (p e)) h → ACall P g (.agg (tolR e) :: []) h K) {K : V → Heap → Prop} (hK : K (.i .i64 (ixRes p l)) h) : ACall P f [.sl none 3 (l.map tolR), .fn g [] []] h K := by
  have hlm : (l.map tolR).length = l.length := List.length_map _
  refine fn_sp hk rfl ?_
  ((conv => whnf); repeat ((first | refine SIf.ff rfl ?_ | refine SIf.tt rfl ?_ | refine SOpt.of rfl ?_ | refine SChk.mk rfl ?_ | refine SSame.mk rfl ?_ | refine SEx.of rfl ?_) <;> (conv => whnf)))
  refine SLoop.by (fun q fr st => ∃ i : Nat, i ≤ l.length ∧ q = l.length - i ∧ (∀ (j : Nat) (e : TolD), j < i → l[j]? = some e → p e = false) ∧ Fr.le [(8, .i .i64 i), (7, .i .i64 (l.map tolR).length), (1, .fn g [] []), (0, .sl none 3 (l.map tolR))] fr ∧ st = gst h)
    l.length ⟨0, Nat.zero_le _, rfl, fun j e hj => absurd hj (Nat.not_lt_zero _), (by repeat (first | exact Fr.le_nil | refine Fr.le_cons rfl ?_)), rfl⟩ ?_
  rintro q fr st ⟨i, hi, rfl, hok, hle, rfl⟩
  refine ⟨_, hle, fun R hR => ?_⟩
  ((conv => whnf); repeat ((first | refine SIf.ff rfl ?_ | refine SIf.tt rfl ?_ | refine SOpt.of rfl ?_ | refine SChk.mk rfl ?_ | refine SSame.mk rfl ?_ | refine SEx.of rfl ?_) <;> (conv => whnf)))
  refine SIf.ds (fun hlt => ?_) (fun hge => ?_)
  · have hi' : i < l.length := by omega
    have he := List.getElem?_eq_getElem hi'
    have hm := List.getElem_mem hi'
    generalize l[i] = e at he hm
    ((conv => whnf); repeat ((first | refine SChk.ix (by omega) (by omega) ?_ | refine SIf.ff rfl ?_ | refine SIf.tt rfl ?_ | refine SOpt.of rfl ?_ | refine SChk.mk rfl ?_ | refine SSame.mk rfl ?_ | refine SEx.of (map_get' (by simp) he) ?_ | refine SEx.of rfl ?_) <;> (conv => whnf)))
    refine SCall.mk (hg e hm _ ?_)
    ((conv => whnf); repeat ((first | refine SIf.ff rfl ?_ | refine SIf.tt rfl ?_ | refine SOpt.of rfl ?_ | refine SChk.mk rfl ?_ | refine SSame.mk rfl ?_ | refine SEx.of rfl ?_) <;> (conv => whnf)))
    refine SIf.mk (fun hp => ?_) (fun hp => ?_)
    · ((conv => whnf); repeat ((first | refine SIf.ff rfl ?_ | refine SIf.tt rfl ?_ | refine SOpt.of rfl ?_ | refine SChk.mk rfl ?_ | refine SSame.mk rfl ?_ | refine SEx.of rfl ?_) <;> (conv => whnf)))
      rw [findIdx_some he hp hok] at hK
      exact hK
    · ((conv => whnf); repeat ((first | refine SWrap.w64 (by omega) (by omega) ?_ | refine SIf.ff rfl ?_ | refine SIf.tt rfl ?_ | refine SOpt.of rfl ?_ | refine SChk.mk rfl ?_ | refine SSame.mk rfl ?_ | refine SEx.of rfl ?_) <;> (conv => whnf)))
      refine hR (l.length - (i + 1)) _ _ (by omega) ⟨i + 1, by omega, rfl, fun j x hj hx => ?_, (by repeat (first | exact Fr.le_nil | refine Fr.le_cons rfl ?_)), rfl⟩
      by_cases hji : j < i
      · exact hok j x hji hx
      · obtain rfl : j = i := by omega
        rw [he] at hx; cases hx; exact hp
  · ((conv => whnf); repeat ((first | refine SIf.ff rfl ?_ | refine SIf.tt rfl ?_ | refine SOpt.of rfl ?_ | refine SChk.mk rfl ?_ | refine SSame.mk rfl ?_ | refine SEx.of rfl ?_) <;> (conv => whnf)))
    rw [findIdx_none fun j x hx => hok j x (by have := (List.getElem?_eq_some_iff.1 hx).1; omega) hx] at hK
    exact hK
theorem any_not {α : Type} (f : α → Bool) : ∀ l : List α, (l.any fun x => !f x) = !l.all f
  | [] => rfl
  | x :: r => by rw [List.any_cons, List.all_cons, any_not f r, Bool.not_and]
structure TermLen (t : TermD) : Prop where
  key : t.key.length ≤ 9223372036854775807
  len : t.vals.length ≤ 9223372036854775807
  vals : ∀ v ∈ t.vals, v.length ≤ 9223372036854775807
def termsB (l : List TermD) : Bool := decide (l.length ≤ 6) && l.all termB
def tolsB (l : List TolD) : Bool := decide (l.length ≤ 6) && l.all tolB
section
variable {P : Program} (hG : FnsOk P AF.fns.get)
include hG
theorem ctf_strK {l : List Str} {g : Nat} {k : Nat} {h : Heap} {p : Str → Bool} (hl : l.length ≤ 9223372036854775807)
    (hg : ∀ e ∈ l, ∀ K : V → Heap → Prop, K (.b (p e)) h → ACall P g (.s e :: []) h K) {K : V → Heap → Prop} (hK : K (.b (l.any p)) h) : ACall P 210 [.sl none 1 (l.map strR), .fn g [] []] h K := by
  refine fn_sp (hG _ AF.f210 rfl) rfl ?_
  ((conv => whnf); repeat ((first | refine SIf.ff rfl ?_ | refine SIf.tt rfl ?_ | refine SOpt.of rfl ?_ | refine SChk.mk rfl ?_ | refine SSame.mk rfl ?_ | refine SEx.of rfl ?_) <;> (conv => whnf)))
  refine SCall.mk (ixf_strK (k := k) (show okFn P 243 (ixfText 1 none) = true from hG _ AF.f243 rfl) hl hg ?_)
  ((conv => whnf); repeat ((first | refine SIf.ff rfl ?_ | refine SIf.tt rfl ?_ | refine SOpt.of rfl ?_ | refine SChk.mk rfl ?_ | refine SSame.mk rfl ?_ | refine SEx.of rfl ?_) <;> (conv => whnf)))
  rw [← ixRes_any] at hK
  exact hK
theorem ctf_termK {l : List TermD} {g : Nat} {k : Nat} {h : Heap} {p : TermD → Bool} (hl : l.length ≤ 9223372036854775807)
    (hg : ∀ e ∈ l, ∀ K : V → Heap → Prop, K (.b (p e)) h → ACall P g (.agg (termR e) :: []) h K) {K : V → Heap → Prop} (hK : K (.b (l.any p)) h) : ACall P 155 [.sl none 3 (l.map termR), .fn g [] []] h K := by
  refine fn_sp (hG _ AF.f155 rfl) rfl ?_
  ((conv => whnf); repeat ((first | refine SIf.ff rfl ?_ | refine SIf.tt rfl ?_ | refine SOpt.of rfl ?_ | refine SChk.mk rfl ?_ | refine SSame.mk rfl ?_ | refine SEx.of rfl ?_) <;> (conv => whnf)))
  refine SCall.mk (ixf_termK (k := k) (show okFn P 209 (ixfText 3 (some 3)) = true from hG _ AF.f209 rfl) hl hg ?_)
  ((conv => whnf); repeat ((first | refine SIf.ff rfl ?_ | refine SIf.tt rfl ?_ | refine SOpt.of rfl ?_ | refine SChk.mk rfl ?_ | refine SSame.mk rfl ?_ | refine SEx.of rfl ?_) <;> (conv => whnf)))
  rw [← ixRes_any] at hK
  exact hK
theorem ctf_tolK {l : List TolD} {g : Nat} {k : Nat} {h : Heap} {p : TolD → Bool} (hl : l.length ≤ 9223372036854775807)
    (hg : ∀ e ∈ l, ∀ K : V → Heap → Prop, K (.b (p e)) h → ACall P g (.agg (tolR e) :: []) h K) {K : V → Heap → Prop} (hK : K (.b (l.any p)) h) : ACall P 158 [.sl none 3 (l.map tolR), .fn g [] []] h K := by
  refine fn_sp (hG _ AF.f158 rfl) rfl ?_
  ((conv => whnf); repeat ((first | refine SIf.ff rfl ?_ | refine SIf.tt rfl ?_ | refine SOpt.of rfl ?_ | refine SChk.mk rfl ?_ | refine SSame.mk rfl ?_ | refine SEx.of rfl ?_) <;> (conv => whnf)))
  refine SCall.mk (ixf_tolK (k := k) (show okFn P 212 (ixfText 3 (some 3)) = true from hG _ AF.f212 rfl) hl hg ?_)
  ((conv => whnf); repeat ((first | refine SIf.ff rfl ?_ | refine SIf.tt rfl ?_ | refine SOpt.of rfl ?_ | refine SChk.mk rfl ?_ | refine SSame.mk rfl ?_ | refine SEx.of rfl ?_) <;> (conv => whnf)))
  rw [← ixRes_any] at hK
  exact hK
theorem mterm1_at {h : Heap} (v : Str) (hs : v.length ≤ 9223372036854775807) {K : V → Heap → Prop} (hK : K (.b (!nameB v)) h) : ACall P 211 [.s v] h K := by
  have hk := fun K hK => name_at (K := K) hG (h := h) v hs hK
  refine fn_sp (hG _ AF.f211 rfl) rfl ?_
  ((conv => whnf); repeat ((first | refine SCall.app (hk _) ?_ | refine yf rfl ?_ | refine yt rfl ?_ | refine yo rfl ?_ | refine yc rfl ?_ | refine ys rfl ?_ | refine ye rfl ?_ | refine yn rfl ?_ | refine zw ?_ | refine zdt ?_ | refine zdf ?_ | refine znt ?_ | refine znf ?_ | refine zcd ?_ | refine zci ?_ | refine zc3 ?_) <;> (conv => whnf)))
  exact hK
set_option maxHeartbeats 8000000 in
theorem mterm_at {h : Heap} (t : TermD) (hs : TermLen t) {K : V → Heap → Prop} (hK : K (.b (termB t)) h) : ACall P 157 [.agg (termR t)] h K := by
  have hlm : (t.vals.map strR).length = t.vals.length := List.length_map _
  have hk := fun K hK => name_at (K := K) hG (h := h) t.key hs.key hK
  have hc := fun (K : V → Heap → Prop) (hK : K (.b (!t.vals.all nameB)) h) => ctf_strK (K := K) hG (k := 0) (g := 211) (p := fun v => !nameB v) hs.len (fun v hv K hK => mterm1_at hG v (hs.vals v hv) hK) (by rw [any_not]; exact hK)
  have hB : ∀ L M : Nat, (∀ b, termB t = b → b = (nameB t.key && decide (L ≤ t.vals.length) && decide (t.vals.length ≤ M) && t.vals.all nameB)) → K (.b (nameB t.key && decide (L ≤ t.vals.length) && decide (t.vals.length ≤ M) && t.vals.all nameB)) h := fun L M hb => by rw [← hb _ rfl]; exact hK
  by_cases k : t.kind = 1 ∨ t.kind = 2
  · have hK := hB 1 6 fun b hb => by
      rw [← hb]; unfold termB; rw [if_pos k]
      cases nameB t.key <;> cases decide (1 ≤ t.vals.length) <;> cases decide (t.vals.length ≤ 6) <;> rfl
    cases c0 : nameB t.key
    · rw [c0] at hK hk
      rcases k with k | k
      all_goals
        refine fn_sp (hG _ AF.f157 rfl) rfl ?_
        ((conv => whnf); repeat ((first | refine SCall.app (hk _) ?_ | refine yf rfl ?_ | refine yt rfl ?_ | refine yo rfl ?_ | refine yc rfl ?_ | refine ys rfl ?_ | refine ye rfl ?_ | refine yn rfl ?_ | refine zw ?_ | refine zdt ?_ | refine zdf ?_ | refine znt ?_ | refine znf ?_ | refine zcd ?_ | refine zci ?_ | refine zc3 ?_) <;> (conv => whnf)))
        exact hK
    rw [c0] at hK hk
    by_cases c1 : 1 ≤ t.vals.length
    case neg =>
      rw [decide_eq_false c1] at hK
      rcases k with k | k
      all_goals
        refine fn_sp (hG _ AF.f157 rfl) rfl ?_
        ((conv => whnf); repeat ((first | refine SCall.app (hk _) ?_ | refine yf rfl ?_ | refine yt rfl ?_ | refine yo rfl ?_ | refine yc rfl ?_ | refine ys rfl ?_ | refine ye rfl ?_ | refine yn rfl ?_ | refine zw ?_ | refine zdt ?_ | refine zdf ?_ | refine znt ?_ | refine znf ?_ | refine zcd ?_ | refine zci ?_ | refine zc3 ?_) <;> (conv => whnf)))
        exact hK
    rw [decide_eq_true c1] at hK
    by_cases c2 : t.vals.length ≤ 6
    case neg =>
      rw [decide_eq_false c2] at hK
      rcases k with k | k
      all_goals
        refine fn_sp (hG _ AF.f157 rfl) rfl ?_
        ((conv => whnf); repeat ((first | refine SCall.app (hk _) ?_ | refine yf rfl ?_ | refine yt rfl ?_ | refine yo rfl ?_ | refine yc rfl ?_ | refine ys rfl ?_ | refine ye rfl ?_ | refine yn rfl ?_ | refine zw ?_ | refine zdt ?_ | refine zdf ?_ | refine znt ?_ | refine znf ?_ | refine zcd ?_ | refine zci ?_ | refine zc3 ?_) <;> (conv => whnf)))
        exact hK
    rw [decide_eq_true c2] at hK
    rcases k with k | k
    all_goals
      refine fn_sp (hG _ AF.f157 rfl) rfl ?_
      ((conv => whnf); repeat ((first | refine SCall.app (hk _) ?_ | refine SCall.app (hc _) ?_ | refine yf rfl ?_ | refine yt rfl ?_ | refine yo rfl ?_ | refine yc rfl ?_ | refine ys rfl ?_ | refine ye rfl ?_ | refine yn rfl ?_ | refine zw ?_ | refine zdt ?_ | refine zdf ?_ | refine znt ?_ | refine znf ?_ | refine zcd ?_ | refine zci ?_ | refine zc3 ?_) <;> (conv => whnf)))
      rw [Bool.not_not]
      exact hK
  by_cases k2 : t.kind = 3 ∨ t.kind = 4
  · have hK := hB 0 0 fun b hb => by
      rw [← hb]; unfold termB; rw [if_neg k, decide_eq_true k2]
      by_cases c : t.vals.length = 0
      · rw [decide_eq_true c, decide_eq_true (show 0 ≤ t.vals.length by omega), decide_eq_true (show t.vals.length ≤ 0 by omega)]; cases nameB t.key <;> rfl
      · rw [decide_eq_false c, decide_eq_false (show ¬ t.vals.length ≤ 0 by omega)]; cases nameB t.key <;> cases decide (0 ≤ t.vals.length) <;> rfl
    rw [decide_eq_true (Nat.zero_le _), Bool.and_true] at hK
    cases c0 : nameB t.key
    · rw [c0] at hK hk
      rcases k2 with k2 | k2
      all_goals
        refine fn_sp (hG _ AF.f157 rfl) rfl ?_
        ((conv => whnf); repeat ((first | refine SCall.app (hk _) ?_ | refine yf rfl ?_ | refine yt rfl ?_ | refine yo rfl ?_ | refine yc rfl ?_ | refine ys rfl ?_ | refine ye rfl ?_ | refine yn rfl ?_ | refine zw ?_ | refine zdt ?_ | refine zdf ?_ | refine znt ?_ | refine znf ?_ | refine zcd ?_ | refine zci ?_ | refine zc3 ?_) <;> (conv => whnf)))
        exact hK
    rw [c0] at hK hk
    by_cases c2 : t.vals.length ≤ 0
    case neg =>
      rw [decide_eq_false c2] at hK
      rcases k2 with k2 | k2
      all_goals
        refine fn_sp (hG _ AF.f157 rfl) rfl ?_
        ((conv => whnf); repeat ((first | refine SCall.app (hk _) ?_ | refine yf rfl ?_ | refine yt rfl ?_ | refine yo rfl ?_ | refine yc rfl ?_ | refine ys rfl ?_ | refine ye rfl ?_ | refine yn rfl ?_ | refine zw ?_ | refine zdt ?_ | refine zdf ?_ | refine znt ?_ | refine znf ?_ | refine zcd ?_ | refine zci ?_ | refine zc3 ?_) <;> (conv => whnf)))
        exact hK
    rw [decide_eq_true c2] at hK
    rcases k2 with k2 | k2
    all_goals
      refine fn_sp (hG _ AF.f157 rfl) rfl ?_
      ((conv => whnf); repeat ((first | refine SCall.app (hk _) ?_ | refine SCall.app (hc _) ?_ | refine yf rfl ?_ | refine yt rfl ?_ | refine yo rfl ?_ | refine yc rfl ?_ | refine ys rfl ?_ | refine ye rfl ?_ | refine yn rfl ?_ | refine zw ?_ | refine zdt ?_ | refine zdf ?_ | refine znt ?_ | refine znf ?_ | refine zcd ?_ | refine zci ?_ | refine zc3 ?_) <;> (conv => whnf)))
      rw [Bool.not_not]
      exact hK
  · have hT : termB t = false := by
      unfold termB; rw [if_neg k, decide_eq_false k2]; rfl
    rw [hT] at hK
    have k1 : ¬ t.kind = 1 := fun e => k (.inl e)
    have k1' : ¬ t.kind = 2 := fun e => k (.inr e)
    have k3 : ¬ t.kind = 3 := fun e => k2 (.inl e)
    have k4 : ¬ t.kind = 4 := fun e => k2 (.inr e)
    refine fn_sp (hG _ AF.f157 rfl) rfl ?_
    ((conv => whnf); repeat ((first | refine yf rfl ?_ | refine yt rfl ?_ | refine yo rfl ?_ | refine yc rfl ?_ | refine ys rfl ?_ | refine ye rfl ?_ | refine yn rfl ?_ | refine zw ?_ | refine zdt ?_ | refine zdf ?_ | refine znt ?_ | refine znf ?_ | refine zcd ?_ | refine zci ?_ | refine zc3 ?_) <;> (conv => whnf)))
    exact hK
end
end Go.Eng
/-
What may be: lists of terms, a pod.
-/
namespace Go.Eng
open Go
def topoB (p : PodD) : Bool := decide (0 ≤ p.skew) && (decide (p.skew ≤ 10) && (termsB p.anti && (termsB p.even && (nameB p.topo || (decide (p.topo = []) && (decide (p.anti.length = 0) && decide (p.skew = 0)))))))
def nodeB (p : PodD) : Bool := (nameB p.node && decide (0 < p.term)) || (decide (p.node = []) && decide (p.term = 0))
def podB (p : PodD) : Bool := nameB p.name && (decide (1 ≤ p.uid) && (decide (p.uid ≤ 1099511627776) && (decide (0 ≤ p.prio) && (decide (p.prio ≤ 1000) && (resB p.req && ((portsB none p.ports && decide (p.ports.length ≤ 6)) && ((pairsB none p.labels && decide (p.labels.length ≤ 6)) && (termsB p.sel && (tolsB p.tols && (topoB p && nodeB p))))))))))
structure TermsLen (l : List TermD) : Prop where
  len : l.length ≤ 9223372036854775807
  each : ∀ t ∈ l, TermLen t
structure PodLen (p : PodD) : Prop where
  name : p.name.length ≤ 9223372036854775807
  ports : p.ports.length ≤ 9223372036854775807
  labels : p.labels.length ≤ 9223372036854775807
  labelS : ∀ q ∈ p.labels, q.key.length ≤ 9223372036854775807 ∧ q.val.length ≤ 9223372036854775807
  sel : TermsLen p.sel
  tols : p.tols.length ≤ 9223372036854775807
  tolS : ∀ t ∈ p.tols, t.key.length ≤ 9223372036854775807 ∧ t.val.length ≤ 9223372036854775807
  topo : p.topo.length ≤ 9223372036854775807
  anti : TermsLen p.anti
  even : TermsLen p.even
  node : p.node.length ≤ 9223372036854775807
section
variable {P : Program} (hG : FnsOk P AF.fns.get)
include hG
theorem mterms1_at {h : Heap} (t : TermD) (hs : TermLen t) {K : V → Heap → Prop} (hK : K (.b (!termB t)) h) : ACall P 156 [.agg (termR t)] h K := by
  have hk := fun K hK => mterm_at (K := K) hG (h := h) t hs hK
  refine fn_sp (hG _ AF.f156 rfl) rfl ?_
  ((conv => whnf); repeat ((first | refine SCall.app (hk _) ?_ | refine yf rfl ?_ | refine yt rfl ?_ | refine yo rfl ?_ | refine yc rfl ?_ | refine ys rfl ?_ | refine ye rfl ?_ | refine yn rfl ?_ | refine zw ?_ | refine zdt ?_ | refine zdf ?_ | refine znt ?_ | refine znf ?_ | refine zcd ?_ | refine zci ?_ | refine zc3 ?_) <;> (conv => whnf)))
  exact hK
theorem mterms_at {h : Heap} (l : List TermD) (hs : TermsLen l) {K : V → Heap → Prop} (hK : K (.b (termsB l)) h) : ACall P 113 [.sl none 3 (l.map termR)] h K := by
  have hlm : (l.map termR).length = l.length := List.length_map _
  have hc := fun (K : V → Heap → Prop) (hK : K (.b (!l.all termB)) h) => ctf_termK (K := K) hG (k := 0) (g := 156) (p := fun v => !termB v) hs.len (fun v hv K hK => mterms1_at hG v (hs.each v hv) hK) (by rw [any_not]; exact hK)
  unfold termsB at hK
  by_cases c : l.length ≤ 6
  · rw [decide_eq_true c, Bool.true_and] at hK
    refine fn_sp (hG _ AF.f113 rfl) rfl ?_
    ((conv => whnf); repeat ((first | refine SCall.app (hc _) ?_ | refine yf rfl ?_ | refine yt rfl ?_ | refine yo rfl ?_ | refine yc rfl ?_ | refine ys rfl ?_ | refine ye rfl ?_ | refine yn rfl ?_ | refine zw ?_ | refine zdt ?_ | refine zdf ?_ | refine znt ?_ | refine znf ?_ | refine zcd ?_ | refine zci ?_ | refine zc3 ?_) <;> (conv => whnf)))
    rw [Bool.not_not]
    exact hK
  · rw [decide_eq_false c] at hK
    refine fn_sp (hG _ AF.f113 rfl) rfl ?_
    ((conv => whnf); repeat ((first | refine yf rfl ?_ | refine yt rfl ?_ | refine yo rfl ?_ | refine yc rfl ?_ | refine ys rfl ?_ | refine ye rfl ?_ | refine yn rfl ?_ | refine zw ?_ | refine zdt ?_ | refine zdf ?_ | refine znt ?_ | refine znf ?_ | refine zcd ?_ | refine zci ?_ | refine zc3 ?_) <;> (conv => whnf)))
    exact hK
theorem mtol_at {h : Heap} (t : TolD) (hs : t.key.length ≤ 9223372036854775807 ∧ t.val.length ≤ 9223372036854775807) {K : V → Heap → Prop} (hK : K (.b (tolB t)) h) : ACall P 160 [.agg (tolR t)] h K := by
  have hk := fun K hK => name_at (K := K) hG (h := h) t.key hs.1 hK
  have hv := fun K hK => name_at (K := K) hG (h := h) t.val hs.2 hK
  unfold tolB at hK
  have hvb : (t.val == []) = decide (t.val = []) := by
    by_cases c : t.val = []
    · rw [c]; rfl
    · rw [decide_eq_false c]; simpa using c
  by_cases c1 : t.key = []
  · have e1 : (!(t.key == [])) = false := by rw [c1]; rfl
    rw [decide_eq_true c1, Bool.true_or, Bool.true_and] at hK
    cases c2 : t.any
    · have hrow : tolR t = [.s t.key, .s t.val, .b false] := by unfold tolR; rw [c2]
      rw [c2] at hK
      rw [hrow]
      refine fn_sp (hG _ AF.f160 rfl) rfl ?_
      ((conv => whnf); repeat ((first | refine SIf.ff e1 ?_ | refine SCall.app (hv _) ?_ | refine yf rfl ?_ | refine yt rfl ?_ | refine yo rfl ?_ | refine yc rfl ?_ | refine ys rfl ?_ | refine ye rfl ?_ | refine yn rfl ?_ | refine zw ?_ | refine zdt ?_ | refine zdf ?_ | refine znt ?_ | refine znf ?_ | refine zcd ?_ | refine zci ?_ | refine zc3 ?_) <;> (conv => whnf)))
      exact hK
    · have hrow : tolR t = [.s t.key, .s t.val, .b true] := by unfold tolR; rw [c2]
      rw [c2] at hK
      rw [hrow]
      refine fn_sp (hG _ AF.f160 rfl) rfl ?_
      ((conv => whnf); repeat ((first | refine SIf.ff e1 ?_ | refine yf rfl ?_ | refine yt rfl ?_ | refine yo rfl ?_ | refine yc rfl ?_ | refine ys rfl ?_ | refine ye rfl ?_ | refine yn rfl ?_ | refine zw ?_ | refine zdt ?_ | refine zdf ?_ | refine znt ?_ | refine znf ?_ | refine zcd ?_ | refine zci ?_ | refine zc3 ?_) <;> (conv => whnf)))
      rw [hvb]
      exact hK
  · have e1 : (!(t.key == [])) = true := by simpa using c1
    rw [decide_eq_false c1, Bool.false_or] at hK
    cases c0 : nameB t.key
    · rw [c0] at hK hk
      refine fn_sp (hG _ AF.f160 rfl) rfl ?_
      ((conv => whnf); repeat ((first | refine SIf.tt e1 ?_ | refine SCall.app (hk _) ?_ | refine yf rfl ?_ | refine yt rfl ?_ | refine yo rfl ?_ | refine yc rfl ?_ | refine ys rfl ?_ | refine ye rfl ?_ | refine yn rfl ?_ | refine zw ?_ | refine zdt ?_ | refine zdf ?_ | refine znt ?_ | refine znf ?_ | refine zcd ?_ | refine zci ?_ | refine zc3 ?_) <;> (conv => whnf)))
      exact hK
    rw [c0, Bool.true_and] at hK
    rw [c0] at hk
    cases c2 : t.any
    · have hrow : tolR t = [.s t.key, .s t.val, .b false] := by unfold tolR; rw [c2]
      rw [c2] at hK
      rw [hrow]
      refine fn_sp (hG _ AF.f160 rfl) rfl ?_
      ((conv => whnf); repeat ((first | refine SIf.tt e1 ?_ | refine SCall.app (hk _) ?_ | refine SCall.app (hv _) ?_ | refine yf rfl ?_ | refine yt rfl ?_ | refine yo rfl ?_ | refine yc rfl ?_ | refine ys rfl ?_ | refine ye rfl ?_ | refine yn rfl ?_ | refine zw ?_ | refine zdt ?_ | refine zdf ?_ | refine znt ?_ | refine znf ?_ | refine zcd ?_ | refine zci ?_ | refine zc3 ?_) <;> (conv => whnf)))
      exact hK
    · have hrow : tolR t = [.s t.key, .s t.val, .b true] := by unfold tolR; rw [c2]
      rw [c2] at hK
      rw [hrow]
      refine fn_sp (hG _ AF.f160 rfl) rfl ?_
      ((conv => whnf); repeat ((first | refine SIf.tt e1 ?_ | refine SCall.app (hk _) ?_ | refine yf rfl ?_ | refine yt rfl ?_ | refine yo rfl ?_ | refine yc rfl ?_ | refine ys rfl ?_ | refine ye rfl ?_ | refine yn rfl ?_ | refine zw ?_ | refine zdt ?_ | refine zdf ?_ | refine znt ?_ | refine znf ?_ | refine zcd ?_ | refine zci ?_ | refine zc3 ?_) <;> (conv => whnf)))
      rw [hvb]
      exact hK
theorem mtols1_at {h : Heap} (t : TolD) (hs : t.key.length ≤ 9223372036854775807 ∧ t.val.length ≤ 9223372036854775807) {K : V → Heap → Prop} (hK : K (.b (!tolB t)) h) : ACall P 159 [.agg (tolR t)] h K := by
  have hk := fun K hK => mtol_at (K := K) hG (h := h) t hs hK
  refine fn_sp (hG _ AF.f159 rfl) rfl ?_
  ((conv => whnf); repeat ((first | refine SCall.app (hk _) ?_ | refine yf rfl ?_ | refine yt rfl ?_ | refine yo rfl ?_ | refine yc rfl ?_ | refine ys rfl ?_ | refine ye rfl ?_ | refine yn rfl ?_ | refine zw ?_ | refine zdt ?_ | refine zdf ?_ | refine znt ?_ | refine znf ?_ | refine zcd ?_ | refine zci ?_ | refine zc3 ?_) <;> (conv => whnf)))
  exact hK
theorem mtols_at {h : Heap} (l : List TolD) (hl : l.length ≤ 9223372036854775807) (hs : ∀ t ∈ l, t.key.length ≤ 9223372036854775807 ∧ t.val.length ≤ 9223372036854775807) {K : V → Heap → Prop} (hK : K (.b (tolsB l)) h) : ACall P 114 [.sl none 3 (l.map tolR)] h K := by
  have hlm : (l.map tolR).length = l.length := List.length_map _
  have hc := fun (K : V → Heap → Prop) (hK : K (.b (!l.all tolB)) h) => ctf_tolK (K := K) hG (k := 0) (g := 159) (p := fun v => !tolB v) hl (fun v hv K hK => mtols1_at hG v (hs v hv) hK) (by rw [any_not]; exact hK)
  unfold tolsB at hK
  by_cases c : l.length ≤ 6
  · rw [decide_eq_true c, Bool.true_and] at hK
    refine fn_sp (hG _ AF.f114 rfl) rfl ?_
    ((conv => whnf); repeat ((first | refine SCall.app (hc _) ?_ | refine yf rfl ?_ | refine yt rfl ?_ | refine yo rfl ?_ | refine yc rfl ?_ | refine ys rfl ?_ | refine ye rfl ?_ | refine yn rfl ?_ | refine zw ?_ | refine zdt ?_ | refine zdf ?_ | refine znt ?_ | refine znf ?_ | refine zcd ?_ | refine zci ?_ | refine zc3 ?_) <;> (conv => whnf)))
    rw [Bool.not_not]
    exact hK
  · rw [decide_eq_false c] at hK
    refine fn_sp (hG _ AF.f114 rfl) rfl ?_
    ((conv => whnf); repeat ((first | refine yf rfl ?_ | refine yt rfl ?_ | refine yo rfl ?_ | refine yc rfl ?_ | refine ys rfl ?_ | refine ye rfl ?_ | refine yn rfl ?_ | refine zw ?_ | refine zdt ?_ | refine zdf ?_ | refine znt ?_ | refine znf ?_ | refine zcd ?_ | refine zci ?_ | refine zc3 ?_) <;> (conv => whnf)))
    exact hK
set_option maxHeartbeats 8000000 in
theorem mtopo_at {h : Heap} (p : PodD) (hp : PodLen p) {K : V → Heap → Prop} (hK : K (.b (topoB p)) h) : ACall P 115 [.agg (podR p)] h K := by
  have ha := fun K hK => mterms_at (K := K) hG (h := h) p.anti hp.anti hK
  have he := fun K hK => mterms_at (K := K) hG (h := h) p.even hp.even hK
  have ht := fun K hK => name_at (K := K) hG (h := h) p.topo hp.topo hK
  have hal : (p.anti.map termR).length = p.anti.length := List.length_map _
  unfold topoB at hK
  by_cases c1 : 0 ≤ p.skew
  case neg =>
    rw [decide_eq_false c1] at hK
    refine fn_sp (hG _ AF.f115 rfl) rfl ?_
    ((conv => whnf); repeat ((first | refine yf rfl ?_ | refine yt rfl ?_ | refine yo rfl ?_ | refine yc rfl ?_ | refine ys rfl ?_ | refine ye rfl ?_ | refine yn rfl ?_ | refine zw ?_ | refine zdt ?_ | refine zdf ?_ | refine znt ?_ | refine znf ?_ | refine zcd ?_ | refine zci ?_ | refine zc3 ?_) <;> (conv => whnf)))
    exact hK
  rw [decide_eq_true c1, Bool.true_and] at hK
  by_cases c2 : p.skew ≤ 10
  case neg =>
    rw [decide_eq_false c2] at hK
    refine fn_sp (hG _ AF.f115 rfl) rfl ?_
    ((conv => whnf); repeat ((first | refine yf rfl ?_ | refine yt rfl ?_ | refine yo rfl ?_ | refine yc rfl ?_ | refine ys rfl ?_ | refine ye rfl ?_ | refine yn rfl ?_ | refine zw ?_ | refine zdt ?_ | refine zdf ?_ | refine znt ?_ | refine znf ?_ | refine zcd ?_ | refine zci ?_ | refine zc3 ?_) <;> (conv => whnf)))
    exact hK
  rw [decide_eq_true c2, Bool.true_and] at hK
  cases c3 : termsB p.anti
  · rw [c3] at hK ha
    refine fn_sp (hG _ AF.f115 rfl) rfl ?_
    ((conv => whnf); repeat ((first | refine SCall.app (ha _) ?_ | refine yf rfl ?_ | refine yt rfl ?_ | refine yo rfl ?_ | refine yc rfl ?_ | refine ys rfl ?_ | refine ye rfl ?_ | refine yn rfl ?_ | refine zw ?_ | refine zdt ?_ | refine zdf ?_ | refine znt ?_ | refine znf ?_ | refine zcd ?_ | refine zci ?_ | refine zc3 ?_) <;> (conv => whnf)))
    exact hK
  rw [c3, Bool.true_and] at hK
  rw [c3] at ha
  cases c4 : termsB p.even
  · rw [c4] at hK he
    refine fn_sp (hG _ AF.f115 rfl) rfl ?_
    ((conv => whnf); repeat ((first | refine SCall.app (ha _) ?_ | refine SCall.app (he _) ?_ | refine yf rfl ?_ | refine yt rfl ?_ | refine yo rfl ?_ | refine yc rfl ?_ | refine ys rfl ?_ | refine ye rfl ?_ | refine yn rfl ?_ | refine zw ?_ | refine zdt ?_ | refine zdf ?_ | refine znt ?_ | refine znf ?_ | refine zcd ?_ | refine zci ?_ | refine zc3 ?_) <;> (conv => whnf)))
    exact hK
  rw [c4, Bool.true_and] at hK
  rw [c4] at he
  cases c5 : nameB p.topo
  case true =>
    rw [c5] at hK ht
    refine fn_sp (hG _ AF.f115 rfl) rfl ?_
    ((conv => whnf); repeat ((first | refine SCall.app (ha _) ?_ | refine SCall.app (he _) ?_ | refine SCall.app (ht _) ?_ | refine yf rfl ?_ | refine yt rfl ?_ | refine yo rfl ?_ | refine yc rfl ?_ | refine ys rfl ?_ | refine ye rfl ?_ | refine yn rfl ?_ | refine zw ?_ | refine zdt ?_ | refine zdf ?_ | refine znt ?_ | refine znf ?_ | refine zcd ?_ | refine zci ?_ | refine zc3 ?_) <;> (conv => whnf)))
    exact hK
  rw [c5, Bool.false_or] at hK
  rw [c5] at ht
  by_cases c6 : p.topo = []
  case neg =>
    have e6 : (p.topo == []) = false := by simpa using c6
    rw [decide_eq_false c6] at hK
    refine fn_sp (hG _ AF.f115 rfl) rfl ?_
    ((conv => whnf); repeat ((first | refine SCall.app (ha _) ?_ | refine SCall.app (he _) ?_ | refine SCall.app (ht _) ?_ | refine SIf.ff e6 ?_ | refine yf rfl ?_ | refine yt rfl ?_ | refine yo rfl ?_ | refine yc rfl ?_ | refine ys rfl ?_ | refine ye rfl ?_ | refine yn rfl ?_ | refine zw ?_ | refine zdt ?_ | refine zdf ?_ | refine znt ?_ | refine znf ?_ | refine zcd ?_ | refine zci ?_ | refine zc3 ?_) <;> (conv => whnf)))
    exact hK
  have e6 : (p.topo == []) = true := by rw [c6]; rfl
  rw [decide_eq_true c6, Bool.true_and] at hK
  by_cases c7 : p.anti.length = 0
  case neg =>
    rw [decide_eq_false c7] at hK
    refine fn_sp (hG _ AF.f115 rfl) rfl ?_
    ((conv => whnf); repeat ((first | refine SCall.app (ha _) ?_ | refine SCall.app (he _) ?_ | refine SCall.app (ht _) ?_ | refine SIf.tt e6 ?_ | refine SIf.df (show ¬ ((p.anti.map termR).length : Int) = 0 by omega) ?_ | refine yf rfl ?_ | refine yt rfl ?_ | refine yo rfl ?_ | refine yc rfl ?_ | refine ys rfl ?_ | refine ye rfl ?_ | refine yn rfl ?_ | refine zw ?_ | refine zdt ?_ | refine zdf ?_ | refine znt ?_ | refine znf ?_ | refine zcd ?_ | refine zci ?_ | refine zc3 ?_) <;> (conv => whnf)))
    exact hK
  rw [decide_eq_true c7, Bool.true_and] at hK
  refine fn_sp (hG _ AF.f115 rfl) rfl ?_
  ((conv => whnf); repeat ((first | refine SCall.app (ha _) ?_ | refine SCall.app (he _) ?_ | refine SCall.app (ht _) ?_ | refine SIf.tt e6 ?_ | refine SIf.dt (show ((p.anti.map termR).length : Int) = 0 by omega) ?_ | refine yf rfl ?_ | refine yt rfl ?_ | refine yo rfl ?_ | refine yc rfl ?_ | refine ys rfl ?_ | refine ye rfl ?_ | refine yn rfl ?_ | refine zw ?_ | refine zdt ?_ | refine zdf ?_ | refine znt ?_ | refine znf ?_ | refine zcd ?_ | refine zci ?_ | refine zc3 ?_) <;> (conv => whnf)))
  exact hK
set_option maxHeartbeats 16000000 in
theorem mpod_at {h : Heap} (p : PodD) (hp : PodLen p) {K : V → Heap → Prop} (hK : K (.b (podB p)) h) : ACall P 66 [.agg (podR p)] h K := by
  have hn := fun K hK => name_at (K := K) hG (h := h) p.name hp.name hK
  have hr := fun K hK => qmay_at (K := K) hG (h := h) p.req hK
  have ho := fun K hK => oports_at (K := K) hG (h := h) p.ports hp.ports hK
  have hb := fun K hK => lmay_at (K := K) hG (h := h) p.labels hp.labels hp.labelS hK
  have hs := fun K hK => mterms_at (K := K) hG (h := h) p.sel hp.sel hK
  have ht := fun K hK => mtols_at (K := K) hG (h := h) p.tols hp.tols hp.tolS hK
  have hx := fun K hK => mtopo_at (K := K) hG (h := h) p hp hK
  have hd := fun K hK => name_at (K := K) hG (h := h) p.node hp.node hK
  unfold podB at hK
  cases c0 : nameB p.name
  · rw [c0] at hK hn
    refine fn_sp (hG _ AF.f66 rfl) rfl ?_
    ((conv => whnf); repeat ((first | refine SCall.app (hn _) ?_ | refine yf rfl ?_ | refine yt rfl ?_ | refine yo rfl ?_ | refine yc rfl ?_ | refine ys rfl ?_ | refine ye rfl ?_ | refine yn rfl ?_ | refine zw ?_ | refine zdt ?_ | refine zdf ?_ | refine znt ?_ | refine znf ?_ | refine zcd ?_ | refine zci ?_ | refine zc3 ?_) <;> (conv => whnf)))
    exact hK
  rw [c0, Bool.true_and] at hK
  rw [c0] at hn
  by_cases c1 : 1 ≤ p.uid
  case neg =>
    rw [decide_eq_false c1] at hK
    refine fn_sp (hG _ AF.f66 rfl) rfl ?_
    ((conv => whnf); repeat ((first | refine SCall.app (hn _) ?_ | refine yf rfl ?_ | refine yt rfl ?_ | refine yo rfl ?_ | refine yc rfl ?_ | refine ys rfl ?_ | refine ye rfl ?_ | refine yn rfl ?_ | refine zw ?_ | refine zdt ?_ | refine zdf ?_ | refine znt ?_ | refine znf ?_ | refine zcd ?_ | refine zci ?_ | refine zc3 ?_) <;> (conv => whnf)))
    exact hK
  rw [decide_eq_true c1, Bool.true_and] at hK
  by_cases c2 : p.uid ≤ 1099511627776
  case neg =>
    rw [decide_eq_false c2] at hK
    refine fn_sp (hG _ AF.f66 rfl) rfl ?_
    ((conv => whnf); repeat ((first | refine SCall.app (hn _) ?_ | refine yf rfl ?_ | refine yt rfl ?_ | refine yo rfl ?_ | refine yc rfl ?_ | refine ys rfl ?_ | refine ye rfl ?_ | refine yn rfl ?_ | refine zw ?_ | refine zdt ?_ | refine zdf ?_ | refine znt ?_ | refine znf ?_ | refine zcd ?_ | refine zci ?_ | refine zc3 ?_) <;> (conv => whnf)))
    exact hK
  rw [decide_eq_true c2, Bool.true_and] at hK
  by_cases c3 : 0 ≤ p.prio
  case neg =>
    rw [decide_eq_false c3] at hK
    refine fn_sp (hG _ AF.f66 rfl) rfl ?_
    ((conv => whnf); repeat ((first | refine SCall.app (hn _) ?_ | refine yf rfl ?_ | refine yt rfl ?_ | refine yo rfl ?_ | refine yc rfl ?_ | refine ys rfl ?_ | refine ye rfl ?_ | refine yn rfl ?_ | refine zw ?_ | refine zdt ?_ | refine zdf ?_ | refine znt ?_ | refine znf ?_ | refine zcd ?_ | refine zci ?_ | refine zc3 ?_) <;> (conv => whnf)))
    exact hK
  rw [decide_eq_true c3, Bool.true_and] at hK
  by_cases c4 : p.prio ≤ 1000
  case neg =>
    rw [decide_eq_false c4] at hK
    refine fn_sp (hG _ AF.f66 rfl) rfl ?_
    ((conv => whnf); repeat ((first | refine SCall.app (hn _) ?_ | refine yf rfl ?_ | refine yt rfl ?_ | refine yo rfl ?_ | refine yc rfl ?_ | refine ys rfl ?_ | refine ye rfl ?_ | refine yn rfl ?_ | refine zw ?_ | refine zdt ?_ | refine zdf ?_ | refine znt ?_ | refine znf ?_ | refine zcd ?_ | refine zci ?_ | refine zc3 ?_) <;> (conv => whnf)))
    exact hK
  rw [decide_eq_true c4, Bool.true_and] at hK
  cases c5 : resB p.req
  · rw [c5] at hK hr
    refine fn_sp (hG _ AF.f66 rfl) rfl ?_
    ((conv => whnf); repeat ((first | refine SCall.app (hn _) ?_ | refine SCall.app (hr _) ?_ | refine yf rfl ?_ | refine yt rfl ?_ | refine yo rfl ?_ | refine yc rfl ?_ | refine ys rfl ?_ | refine ye rfl ?_ | refine yn rfl ?_ | refine zw ?_ | refine zdt ?_ | refine zdf ?_ | refine znt ?_ | refine znf ?_ | refine zcd ?_ | refine zci ?_ | refine zc3 ?_) <;> (conv => whnf)))
    exact hK
  rw [c5, Bool.true_and] at hK
  rw [c5] at hr
  cases c6 : (portsB none p.ports && decide (p.ports.length ≤ 6))
  · rw [c6] at hK ho
    refine fn_sp (hG _ AF.f66 rfl) rfl ?_
    ((conv => whnf); repeat ((first | refine SCall.app (hn _) ?_ | refine SCall.app (hr _) ?_ | refine SCall.app (ho _) ?_ | refine yf rfl ?_ | refine yt rfl ?_ | refine yo rfl ?_ | refine yc rfl ?_ | refine ys rfl ?_ | refine ye rfl ?_ | refine yn rfl ?_ | refine zw ?_ | refine zdt ?_ | refine zdf ?_ | refine znt ?_ | refine znf ?_ | refine zcd ?_ | refine zci ?_ | refine zc3 ?_) <;> (conv => whnf)))
    exact hK
  rw [c6, Bool.true_and] at hK
  rw [c6] at ho
  cases c7 : (pairsB none p.labels && decide (p.labels.length ≤ 6))
  · rw [c7] at hK hb
    refine fn_sp (hG _ AF.f66 rfl) rfl ?_
    ((conv => whnf); repeat ((first | refine SCall.app (hn _) ?_ | refine SCall.app (hr _) ?_ | refine SCall.app (ho _) ?_ | refine SCall.app (hb _) ?_ | refine yf rfl ?_ | refine yt rfl ?_ | refine yo rfl ?_ | refine yc rfl ?_ | refine ys rfl ?_ | refine ye rfl ?_ | refine yn rfl ?_ | refine zw ?_ | refine zdt ?_ | refine zdf ?_ | refine znt ?_ | refine znf ?_ | refine zcd ?_ | refine zci ?_ | refine zc3 ?_) <;> (conv => whnf)))
    exact hK
  rw [c7, Bool.true_and] at hK
  rw [c7] at hb
  cases c8 : termsB p.sel
  · rw [c8] at hK hs
    refine fn_sp (hG _ AF.f66 rfl) rfl ?_
    ((conv => whnf); repeat ((first | refine SCall.app (hn _) ?_ | refine SCall.app (hr _) ?_ | refine SCall.app (ho _) ?_ | refine SCall.app (hb _) ?_ | refine SCall.app (hs _) ?_ | refine yf rfl ?_ | refine yt rfl ?_ | refine yo rfl ?_ | refine yc rfl ?_ | refine ys rfl ?_ | refine ye rfl ?_ | refine yn rfl ?_ | refine zw ?_ | refine zdt ?_ | refine zdf ?_ | refine znt ?_ | refine znf ?_ | refine zcd ?_ | refine zci ?_ | refine zc3 ?_) <;> (conv => whnf)))
    exact hK
  rw [c8, Bool.true_and] at hK
  rw [c8] at hs
  cases c9 : tolsB p.tols
  · rw [c9] at hK ht
    refine fn_sp (hG _ AF.f66 rfl) rfl ?_
    ((conv => whnf); repeat ((first | refine SCall.app (hn _) ?_ | refine SCall.app (hr _) ?_ | refine SCall.app (ho _) ?_ | refine SCall.app (hb _) ?_ | refine SCall.app (hs _) ?_ | refine SCall.app (ht _) ?_ | refine yf rfl ?_ | refine yt rfl ?_ | refine yo rfl ?_ | refine yc rfl ?_ | refine ys rfl ?_ | refine ye rfl ?_ | refine yn rfl ?_ | refine zw ?_ | refine zdt ?_ | refine zdf ?_ | refine znt ?_ | refine znf ?_ | refine zcd ?_ | refine zci ?_ | refine zc3 ?_) <;> (conv => whnf)))
    exact hK
  rw [c9, Bool.true_and] at hK
  rw [c9] at ht
  cases c10 : topoB p
  · rw [c10] at hK hx
    refine fn_sp (hG _ AF.f66 rfl) rfl ?_
    ((conv => whnf); repeat ((first | refine SCall.app (hn _) ?_ | refine SCall.app (hr _) ?_ | refine SCall.app (ho _) ?_ | refine SCall.app (hb _) ?_ | refine SCall.app (hs _) ?_ | refine SCall.app (ht _) ?_ | refine SCall.app (hx _) ?_ | refine yf rfl ?_ | refine yt rfl ?_ | refine yo rfl ?_ | refine yc rfl ?_ | refine ys rfl ?_ | refine ye rfl ?_ | refine yn rfl ?_ | refine zw ?_ | refine zdt ?_ | refine zdf ?_ | refine znt ?_ | refine znf ?_ | refine zcd ?_ | refine zci ?_ | refine zc3 ?_) <;> (conv => whnf)))
    exact hK
  rw [c10, Bool.true_and] at hK
  rw [c10] at hx
  unfold nodeB at hK
  cases c11 : nameB p.node
  · rw [c11] at hK hd
    by_cases d1 : 0 < p.term <;> by_cases d2 : p.node = [] <;> by_cases d3 : p.term = 0
    all_goals
      simp only [d1, d2, d3, decide_true, decide_false, Bool.and_true, Bool.and_false, Bool.or_true, Bool.or_false, Bool.true_or, Bool.false_or, Bool.false_and, Bool.true_and, Bool.and_self, Bool.or_self] at hK
    all_goals
      first
      | (exfalso; omega)
      | (have e2 : (p.node == []) = true := by rw [d2]; rfl
         refine fn_sp (hG _ AF.f66 rfl) rfl ?_
         ((conv => whnf); repeat ((first | refine SCall.app (hn _) ?_ | refine SCall.app (hr _) ?_ | refine SCall.app (ho _) ?_ | refine SCall.app (hb _) ?_ | refine SCall.app (hs _) ?_ | refine SCall.app (ht _) ?_ | refine SCall.app (hx _) ?_ | refine SCall.app (hd _) ?_ | refine SIf.tt e2 ?_ | refine yf rfl ?_ | refine yt rfl ?_ | refine yo rfl ?_ | refine yc rfl ?_ | refine ys rfl ?_ | refine ye rfl ?_ | refine yn rfl ?_ | refine zw ?_ | refine zdt ?_ | refine zdf ?_ | refine znt ?_ | refine znf ?_ | refine zcd ?_ | refine zci ?_ | refine zc3 ?_) <;> (conv => whnf)))
         first | exact hK | (rw [decide_eq_true d3]; exact hK) | (rw [decide_eq_false d3]; exact hK) | (rw [decide_eq_true d1]; exact hK) | (rw [decide_eq_false d1]; exact hK))
      | (have e2 : (p.node == []) = false := by (first | exact beq_false_of_ne d2 | fail)
         refine fn_sp (hG _ AF.f66 rfl) rfl ?_
         ((conv => whnf); repeat ((first | refine SCall.app (hn _) ?_ | refine SCall.app (hr _) ?_ | refine SCall.app (ho _) ?_ | refine SCall.app (hb _) ?_ | refine SCall.app (hs _) ?_ | refine SCall.app (ht _) ?_ | refine SCall.app (hx _) ?_ | refine SCall.app (hd _) ?_ | refine SIf.ff e2 ?_ | refine yf rfl ?_ | refine yt rfl ?_ | refine yo rfl ?_ | refine yc rfl ?_ | refine ys rfl ?_ | refine ye rfl ?_ | refine yn rfl ?_ | refine zw ?_ | refine zdt ?_ | refine zdf ?_ | refine znt ?_ | refine znf ?_ | refine zcd ?_ | refine zci ?_ | refine zc3 ?_) <;> (conv => whnf)))
         first | exact hK | (rw [decide_eq_true d3]; exact hK) | (rw [decide_eq_false d3]; exact hK) | (rw [decide_eq_true d1]; exact hK) | (rw [decide_eq_false d1]; exact hK))
  · rw [c11] at hK hd
    by_cases d1 : 0 < p.term <;> by_cases d2 : p.node = [] <;> by_cases d3 : p.term = 0
    all_goals
      simp only [d1, d2, d3, decide_true, decide_false, Bool.and_true, Bool.and_false, Bool.or_true, Bool.or_false, Bool.true_or, Bool.false_or, Bool.false_and, Bool.true_and, Bool.and_self, Bool.or_self] at hK
    all_goals
      first
      | (exfalso; omega)
      | (have e2 : (p.node == []) = true := by rw [d2]; rfl
         refine fn_sp (hG _ AF.f66 rfl) rfl ?_
         ((conv => whnf); repeat ((first | refine SCall.app (hn _) ?_ | refine SCall.app (hr _) ?_ | refine SCall.app (ho _) ?_ | refine SCall.app (hb _) ?_ | refine SCall.app (hs _) ?_ | refine SCall.app (ht _) ?_ | refine SCall.app (hx _) ?_ | refine SCall.app (hd _) ?_ | refine SIf.tt e2 ?_ | refine yf rfl ?_ | refine yt rfl ?_ | refine yo rfl ?_ | refine yc rfl ?_ | refine ys rfl ?_ | refine ye rfl ?_ | refine yn rfl ?_ | refine zw ?_ | refine zdt ?_ | refine zdf ?_ | refine znt ?_ | refine znf ?_ | refine zcd ?_ | refine zci ?_ | refine zc3 ?_) <;> (conv => whnf)))
         first | exact hK | (rw [decide_eq_true d3]; exact hK) | (rw [decide_eq_false d3]; exact hK) | (rw [decide_eq_true d1]; exact hK) | (rw [decide_eq_false d1]; exact hK))
      | (have e2 : (p.node == []) = false := by (first | exact beq_false_of_ne d2 | fail)
         refine fn_sp (hG _ AF.f66 rfl) rfl ?_
         ((conv => whnf); repeat ((first | refine SCall.app (hn _) ?_ | refine SCall.app (hr _) ?_ | refine SCall.app (ho _) ?_ | refine SCall.app (hb _) ?_ | refine SCall.app (hs _) ?_ | refine SCall.app (ht _) ?_ | refine SCall.app (hx _) ?_ | refine SCall.app (hd _) ?_ | refine SIf.ff e2 ?_ | refine yf rfl ?_ | refine yt rfl ?_ | refine yo rfl ?_ | refine yc rfl ?_ | refine ys rfl ?_ | refine ye rfl ?_ | refine yn rfl ?_ | refine zw ?_ | refine zdt ?_ | refine zdf ?_ | refine znt ?_ | refine znf ?_ | refine zcd ?_ | refine zci ?_ | refine zc3 ?_) <;> (conv => whnf)))
         first | exact hK | (rw [decide_eq_true d3]; exact hK) | (rw [decide_eq_false d3]; exact hK) | (rw [decide_eq_true d1]; exact hK) | (rw [decide_eq_false d1]; exact hK))
end
end Go.Eng
