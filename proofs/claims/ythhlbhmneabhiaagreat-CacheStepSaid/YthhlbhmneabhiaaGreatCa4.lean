/-
What the document's cache does: a list, events, an entry.
-/
import Derived.Test.YthhlbhmneabhiaaGreatCa3
set_option linter.unusedVariables false
set_option linter.unusedSimpArgs false
namespace Go.Eng
open Go
theorem getE_take_some {es : List EnD} {i j : Nat} {x e : EnD} (hj : j < i) (hx : es[j]? = some x) (hk : x.key = e.key) : (getE (es.take i) e.key).isNone = false := by
  cases h : getE (es.take i) e.key with
  | some _ => rfl
  | none =>
    have hm : x ∈ es.take i := by
      refine List.mem_of_getElem? (i := j) ?_
      rw [List.getElem?_take, if_pos hj]; exact hx
    exact absurd (List.mem_map_of_mem (f := (·.key)) hm) (by rw [hk]; exact getE_none.1 h)
theorem getE_take_none {es : List EnD} {i : Nat} {e : EnD} (h : ∀ (j : Nat) (x : EnD), j < i → es[j]? = some x → x.key ≠ e.key) : (getE (es.take i) e.key).isNone = true := by
  have : getE (es.take i) e.key = none := getE_none.2 fun hc => by
    obtain ⟨x, hx, hk⟩ := List.mem_map.1 hc
    obtain ⟨j, hj⟩ := List.getElem?_of_mem hx
    rw [List.getElem?_take] at hj
    split at hj
    · rename_i hji; exact h j x hji hj hk
    · cases hj
  rw [this]; rfl
def layL (L : List EnD) (e : EnD) : List EnD := layD e false L
theorem foldl_lay_len : ∀ (es : List EnD) (L : List EnD), (es.foldl layL L).length ≤ L.length + es.length
  | [], L => Nat.le_refl _
  | e :: r, L => by
    have h1 := foldl_lay_len r (layL L e)
    have h2 := layD_len e false L
    simp only [List.foldl_cons, List.length_cons]
    unfold layL at *
    omega
theorem foldl_step_len : ∀ (xs : List EvD) (L : List EnD), (xs.foldl stepL L).length ≤ L.length + xs.length
  | [], L => Nat.le_refl _
  | x :: r, L => by
    have h1 := foldl_step_len r (stepL L x)
    have h2 := layD_len x.e x.gone L
    simp only [List.foldl_cons, List.length_cons]
    unfold stepL at *
    omega
section
variable {P : Program} (hG : FnsOk P AF.fns.get)
include hG
set_option maxHeartbeats 4000000 in
theorem rget_at {h : Heap} {b : Nat} {rev : Int} {L : List EnD} (hc : RefAt h b rev L) (hn : L.length ≤ 100000) (k : Str) {K : V → Heap → Prop}
    (hno : getE L k = none → K (.tup [.agg zeroE, .b false]) h) (hK : ∀ e, getE L k = some e → K (.tup [.agg (enR e), .b true]) h) : ACall P 31 [.p (.g b) 0, .s k] h K := by
  obtain ⟨h1, lv, hlv, h3⟩ := hc
  by_cases hL : L = []
  · subst hL
    rcases hlv with ⟨rfl, _⟩ | rfl
    all_goals
      refine fn_sv (hG _ AF.f31 rfl) rfl ?_
      ((conv => whnf); repeat ((first | refine SLoopV.un rfl ?_ | refine SEx.of (h3) ?_ | refine yf rfl ?_ | refine yt rfl ?_ | refine yo rfl ?_ | refine yc rfl ?_ | refine ys rfl ?_ | refine ye rfl ?_ | refine yn rfl ?_ | refine zw ?_ | refine zdt ?_ | refine zdf ?_ | refine znt ?_ | refine znf ?_ | refine zcd ?_ | refine zci ?_ | refine zc3 ?_) <;> (conv => whnf)))
      exact hno rfl
  have e1 : lv = .sl none 3 (L.map enR) := by rcases hlv with ⟨_, h⟩ | h; exact absurd h hL; exact h
  subst e1
  have hlm : (L.map enR).length = L.length := List.length_map _
  refine fn_sv (hG _ AF.f31 rfl) rfl ?_
  ((conv => whnf); repeat ((first | refine SEx.of (h3) ?_ | refine yf rfl ?_ | refine yt rfl ?_ | refine yo rfl ?_ | refine yc rfl ?_ | refine ys rfl ?_ | refine ye rfl ?_ | refine yn rfl ?_ | refine zw ?_ | refine zdt ?_ | refine zdf ?_ | refine znt ?_ | refine znf ?_ | refine zcd ?_ | refine zci ?_ | refine zc3 ?_) <;> (conv => whnf)))
  refine SLoopV.by (fun q fr st => ∃ (i : Nat), i ≤ L.length ∧ q = L.length - i ∧ getE L k = getE (L.drop i) k ∧
      Fr.le [(12, .i .i64 i), (11, .i .i64 (L.map enR).length), (4, .p (.l 0) 0), (1, .s k), (0, .p (.g b) 0)] fr ∧ ∃ x l, st = ⟨h, ⟨x, (0, .cs zeroE) :: l⟩⟩)
    L.length ⟨0, Nat.zero_le _, rfl, rfl, (by repeat (first | exact Fr.le_nil | refine Fr.le_cons rfl ?_)), _, _, rfl⟩ ?_
  rintro q fr st ⟨i, hi, rfl, heq, hle0, x0, l0, rfl⟩
  refine ⟨_, hle0, fun R hR => ?_⟩
  by_cases hin : i < L.length
  · have he := List.getElem?_eq_getElem hin
    have hdr := List.drop_eq_getElem_cons hin
    generalize L[i] = x at he hdr
    rw [hdr] at heq
    simp only [getE] at heq
    by_cases c1 : k = x.key
    · have hc1 : (x.key == k) = true := by rw [c1]; simp
      rw [if_pos c1] at heq
      ((conv => whnf); repeat ((first | refine SIf.dt (show (i : Int) < (L.map enR).length by omega) ?_ | refine SChk.ix (by omega) (by omega) ?_ | refine SIf.tt hc1 ?_ | refine SEx.of (map_get' (by omega) he) ?_ | refine SEx.of (h3) ?_ | refine yf rfl ?_ | refine yt rfl ?_ | refine yo rfl ?_ | refine yc rfl ?_ | refine ys rfl ?_ | refine ye rfl ?_ | refine yn rfl ?_ | refine zw ?_ | refine zdt ?_ | refine zdf ?_ | refine znt ?_ | refine znf ?_ | refine zcd ?_ | refine zci ?_ | refine zc3 ?_) <;> (conv => whnf)))
      exact hK x heq
    · have hc1 : (x.key == k) = false := by simpa using fun h => c1 (Eq.symm h)
      rw [if_neg c1] at heq
      ((conv => whnf); repeat ((first | refine SIf.dt (show (i : Int) < (L.map enR).length by omega) ?_ | refine SChk.ix (by omega) (by omega) ?_ | refine SIf.ff hc1 ?_ | refine SWrap.w64 (by omega) (by omega) ?_ | refine SEx.of (map_get' (by omega) he) ?_ | refine SEx.of (h3) ?_ | refine yf rfl ?_ | refine yt rfl ?_ | refine yo rfl ?_ | refine yc rfl ?_ | refine ys rfl ?_ | refine ye rfl ?_ | refine yn rfl ?_ | refine zw ?_ | refine zdt ?_ | refine zdf ?_ | refine znt ?_ | refine znf ?_ | refine zcd ?_ | refine zci ?_ | refine zc3 ?_) <;> (conv => whnf)))
      exact hR (L.length - (i + 1)) _ _ (by omega) ⟨i + 1, by omega, rfl, heq, (by repeat (first | exact Fr.le_nil | refine Fr.le_cons rfl ?_)), _, _, rfl⟩
  · obtain rfl : i = L.length := by omega
    rw [List.drop_length] at heq
    ((conv => whnf); repeat ((first | refine SIf.df (by omega) ?_ | refine yf rfl ?_ | refine yt rfl ?_ | refine yo rfl ?_ | refine yc rfl ?_ | refine ys rfl ?_ | refine ye rfl ?_ | refine yn rfl ?_ | refine zw ?_ | refine zdt ?_ | refine zdf ?_ | refine znt ?_ | refine znf ?_ | refine zcd ?_ | refine zci ?_ | refine zc3 ?_) <;> (conv => whnf)))
    exact hno heq
set_option maxHeartbeats 4000000 in
theorem rlist_at {h : Heap} {b : Nat} {rev0 : Int} {L0 : List EnD} (hc : RefAt h b rev0 L0) (es : List EnD) (hl : es.length ≤ 1000) (rev : Int) {K : V → Heap → Prop}
    (hno : (decide (0 ≤ rev) && okE rev [] es) = false → K (.b false) h)
    (hK : (decide (0 ≤ rev) && okE rev [] es) = true → ∀ h', RefAt h' b rev (es.foldl layL []) → Heap.Keeps (fun n => n = b) h h' → K (.b true) h') : ACall P 27 [.p (.g b) 0, .i .i64 rev, .sl none 3 (es.map enR)] h K := by
  have hlm : (es.map enR).length = es.length := List.length_map _
  obtain ⟨h1, lv0, hlv0, h3⟩ := hc
  refine fn_sv (hG _ AF.f27 rfl) rfl ?_
  ((conv => whnf); repeat ((first | refine yf rfl ?_ | refine yt rfl ?_ | refine yo rfl ?_ | refine yc rfl ?_ | refine ys rfl ?_ | refine ye rfl ?_ | refine yn rfl ?_ | refine zw ?_ | refine zdt ?_ | refine zdf ?_ | refine znt ?_ | refine znf ?_ | refine zcd ?_ | refine zci ?_ | refine zc3 ?_) <;> (conv => whnf)))
  refine SLoopV.by (fun q fr st => ∃ (i : Nat) (lo : Heap) (lv : V), i ≤ es.length ∧ q = es.length - i ∧ okE rev [] es = okE rev (es.take i) (es.drop i) ∧ EnsV lv ((es.take i).foldl layL []) ∧
      Fr.le [(12, .i .i64 i), (11, .i .i64 (es.map enR).length), (7, lv), (2, .sl none 3 (es.map enR)), (1, .i .i64 rev), (0, .p (.g b) 0)] fr ∧ st = ⟨h, lo⟩)
    es.length ⟨0, _, .nils, Nat.zero_le _, rfl, rfl, .inl ⟨rfl, rfl⟩, (by repeat (first | exact Fr.le_nil | refine Fr.le_cons rfl ?_)), rfl⟩ ?_
  rintro q fr st ⟨i, lo, lv, hi, rfl, hok, hlv, hle0, rfl⟩
  refine ⟨_, hle0, fun R hR => ?_⟩
  have hlen := foldl_lay_len (es.take i) []
  have hnoE : okE rev [] es = false → K (.b false) h := fun hf => hno (by rw [hf, Bool.and_false])
  by_cases hin : i < es.length
  · have he := List.getElem?_eq_getElem hin
    have hdr := List.drop_eq_getElem_cons hin
    generalize es[i] = e at he hdr
    have htk : es.take (i + 1) = es.take i ++ [e] := by rw [List.take_add_one, he]; rfl
    rw [hdr] at hok
    simp only [okE] at hok
    have hlay := fun (K : V → Heap → Prop) (hK : ∀ lv', EnsV lv' ((es.take (i + 1)).foldl layL []) → K lv' h) => lay_at (K := K) hG (h := h) hlv (by simp at hlen; omega) e false (fun lv' hv => hK lv' (by rw [htk, List.foldl_append]; exact hv))
    by_cases hkey : e.key = []
    · have hkb : (e.key == []) = true := by rw [hkey]; rfl
      rw [decide_eq_true hkey] at hok
      rcases hlv with ⟨rfl, _⟩ | rfl
      all_goals
        ((conv => whnf); repeat ((first | refine SIf.dt (show (i : Int) < (es.map enR).length by omega) ?_ | refine SChk.ix (by omega) (by omega) ?_ | refine SIf.tt hkb ?_ | refine SEx.of (map_get' (by omega) he) ?_ | refine yf rfl ?_ | refine yt rfl ?_ | refine yo rfl ?_ | refine yc rfl ?_ | refine ys rfl ?_ | refine ye rfl ?_ | refine yn rfl ?_ | refine zw ?_ | refine zdt ?_ | refine zdf ?_ | refine znt ?_ | refine znf ?_ | refine zcd ?_ | refine zci ?_ | refine zc3 ?_) <;> (conv => whnf)))
        exact hnoE (by rw [hok]; simp)
    have hkb : (e.key == []) = false := by simpa using hkey
    rw [decide_eq_false hkey] at hok
    by_cases c1 : e.rev < 1
    · rw [decide_eq_false (show ¬ 1 ≤ e.rev by omega)] at hok
      rcases hlv with ⟨rfl, _⟩ | rfl
      all_goals
        ((conv => whnf); repeat ((first | refine SIf.dt (show (i : Int) < (es.map enR).length by omega) ?_ | refine SChk.ix (by omega) (by omega) ?_ | refine SIf.ff hkb ?_ | refine SIf.dt c1 ?_ | refine SEx.of (map_get' (by omega) he) ?_ | refine yf rfl ?_ | refine yt rfl ?_ | refine yo rfl ?_ | refine yc rfl ?_ | refine ys rfl ?_ | refine ye rfl ?_ | refine yn rfl ?_ | refine zw ?_ | refine zdt ?_ | refine zdf ?_ | refine znt ?_ | refine znf ?_ | refine zcd ?_ | refine zci ?_ | refine zc3 ?_) <;> (conv => whnf)))
        exact hnoE (by rw [hok]; simp)
    rw [decide_eq_true (show 1 ≤ e.rev by omega)] at hok
    by_cases c2 : e.rev > rev
    · rw [decide_eq_false (show ¬ e.rev ≤ rev by omega)] at hok
      rcases hlv with ⟨rfl, _⟩ | rfl
      all_goals
        ((conv => whnf); repeat ((first | refine SIf.dt (show (i : Int) < (es.map enR).length by omega) ?_ | refine SChk.ix (by omega) (by omega) ?_ | refine SIf.ff hkb ?_ | refine SIf.df c1 ?_ | refine SIf.dt c2 ?_ | refine SEx.of (map_get' (by omega) he) ?_ | refine yf rfl ?_ | refine yt rfl ?_ | refine yo rfl ?_ | refine yc rfl ?_ | refine ys rfl ?_ | refine ye rfl ?_ | refine yn rfl ?_ | refine zw ?_ | refine zdt ?_ | refine zdf ?_ | refine znt ?_ | refine znf ?_ | refine zcd ?_ | refine zci ?_ | refine zc3 ?_) <;> (conv => whnf)))
        exact hnoE (by rw [hok]; simp)
    rw [decide_eq_true (show e.rev ≤ rev by omega)] at hok
    rcases hlv with ⟨rfl, hlv0⟩ | rfl
    all_goals
      ((conv => whnf); repeat ((first | refine SIf.dt (show (i : Int) < (es.map enR).length by omega) ?_ | refine SChk.ix (by omega) (by omega) ?_ | refine SIf.ff hkb ?_ | refine SIf.df c1 ?_ | refine SIf.df c2 ?_ | refine SEx.of (map_get' (by omega) he) ?_ | refine yf rfl ?_ | refine yt rfl ?_ | refine yo rfl ?_ | refine yc rfl ?_ | refine ys rfl ?_ | refine ye rfl ?_ | refine yn rfl ?_ | refine zw ?_ | refine zdt ?_ | refine zdf ?_ | refine znt ?_ | refine znf ?_ | refine zcd ?_ | refine zci ?_ | refine zc3 ?_) <;> (conv => whnf)))
      refine SLoopV.by (fun q fr st => ∃ (j : Nat) (lo : Heap), j ≤ i ∧ q = i - j ∧ (∀ (j' : Nat) (x : EnD), j' < j → es[j']? = some x → x.key ≠ e.key) ∧
          Fr.le [(9, .i .i64 j), (8, .i .i64 i), (12, .i .i64 i), (11, .i .i64 (es.map enR).length), (7, _), (2, .sl none 3 (es.map enR)), (1, .i .i64 rev), (0, .p (.g b) 0)] fr ∧ st = ⟨h, lo⟩)
        i ⟨0, _, Nat.zero_le _, rfl, (fun j' x h => absurd h (Nat.not_lt_zero _)), (by repeat (first | exact Fr.le_nil | refine Fr.le_cons rfl ?_)), rfl⟩ ?_
      rintro q fr st ⟨j, lo, hj, rfl, hnone, hle1, rfl⟩
      refine ⟨_, hle1, fun R2 hR2 => ?_⟩
      by_cases hjn : j < i
      · have hx := List.getElem?_eq_getElem (show j < es.length by omega)
        generalize es[j] = x at hx
        by_cases c3 : x.key = e.key
        · have hc3 : (x.key == e.key) = true := by simpa using c3
          rw [getE_take_some hjn hx c3] at hok
          ((conv => whnf); repeat ((first | refine SIf.dt (show (j : Int) < (i : Nat) by omega) ?_ | refine SChk.ix (by omega) (by omega) ?_ | refine SIf.tt hc3 ?_ | refine SEx.of (map_get' (by omega) he) ?_ | refine SEx.of (map_get' (by omega) hx) ?_ | refine yf rfl ?_ | refine yt rfl ?_ | refine yo rfl ?_ | refine yc rfl ?_ | refine ys rfl ?_ | refine ye rfl ?_ | refine yn rfl ?_ | refine zw ?_ | refine zdt ?_ | refine zdf ?_ | refine znt ?_ | refine znf ?_ | refine zcd ?_ | refine zci ?_ | refine zc3 ?_) <;> (conv => whnf)))
          exact hnoE (by rw [hok]; simp)
        · have hc3 : (x.key == e.key) = false := by simpa using c3
          ((conv => whnf); repeat ((first | refine SIf.dt (show (j : Int) < (i : Nat) by omega) ?_ | refine SChk.ix (by omega) (by omega) ?_ | refine SIf.ff hc3 ?_ | refine SWrap.w64 (by omega) (by omega) ?_ | refine SEx.of (map_get' (by omega) he) ?_ | refine SEx.of (map_get' (by omega) hx) ?_ | refine yf rfl ?_ | refine yt rfl ?_ | refine yo rfl ?_ | refine yc rfl ?_ | refine ys rfl ?_ | refine ye rfl ?_ | refine yn rfl ?_ | refine zw ?_ | refine zdt ?_ | refine zdf ?_ | refine znt ?_ | refine znf ?_ | refine zcd ?_ | refine zci ?_ | refine zc3 ?_) <;> (conv => whnf)))
          exact hR2 (i - (j + 1)) _ _ (by omega) ⟨j + 1, lo, by omega, rfl, (fun j' y h1 h2 => by
            by_cases hjj : j' < j
            · exact hnone j' y hjj h2
            · obtain rfl : j' = j := by omega
              rw [hx] at h2; cases h2; exact c3), (by repeat (first | exact Fr.le_nil | refine Fr.le_cons rfl ?_)), rfl⟩
      · obtain rfl : j = i := by omega
        rw [getE_take_none hnone] at hok
        ((conv => whnf); repeat ((first | refine SIf.df (show ¬ (i : Int) < (i : Nat) by omega) ?_ | refine SChk.ix (by omega) (by omega) ?_ | refine SCall.app (hlay _) ?_ | refine SEx.of (map_get' (by omega) he) ?_ | refine yf rfl ?_ | refine yt rfl ?_ | refine yo rfl ?_ | refine yc rfl ?_ | refine ys rfl ?_ | refine ye rfl ?_ | refine yn rfl ?_ | refine zw ?_ | refine zdt ?_ | refine zdf ?_ | refine znt ?_ | refine znf ?_ | refine zcd ?_ | refine zci ?_ | refine zc3 ?_) <;> (conv => whnf)))
        intro lv' hv'
        rcases hv' with ⟨rfl, hv'⟩ | rfl
        · ((conv => whnf); repeat ((first | refine SWrap.w64 (by omega) (by omega) ?_ | refine yf rfl ?_ | refine yt rfl ?_ | refine yo rfl ?_ | refine yc rfl ?_ | refine ys rfl ?_ | refine ye rfl ?_ | refine yn rfl ?_ | refine zw ?_ | refine zdt ?_ | refine zdf ?_ | refine znt ?_ | refine znf ?_ | refine zcd ?_ | refine zci ?_ | refine zc3 ?_) <;> (conv => whnf)))
          exact hR (es.length - (j + 1)) _ _ (by omega) ⟨j + 1, _, _, by omega, rfl, (by rw [hok, htk]; rfl), .inl ⟨rfl, hv'⟩, (by repeat (first | exact Fr.le_nil | refine Fr.le_cons rfl ?_)), rfl⟩
        · ((conv => whnf); repeat ((first | refine SWrap.w64 (by omega) (by omega) ?_ | refine yf rfl ?_ | refine yt rfl ?_ | refine yo rfl ?_ | refine yc rfl ?_ | refine ys rfl ?_ | refine ye rfl ?_ | refine yn rfl ?_ | refine zw ?_ | refine zdt ?_ | refine zdf ?_ | refine znt ?_ | refine znf ?_ | refine zcd ?_ | refine zci ?_ | refine zc3 ?_) <;> (conv => whnf)))
          exact hR (es.length - (j + 1)) _ _ (by omega) ⟨j + 1, _, _, by omega, rfl, (by rw [hok, htk]; rfl), .inr rfl, (by repeat (first | exact Fr.le_nil | refine Fr.le_cons rfl ?_)), rfl⟩
  · obtain rfl : i = es.length := by omega
    rw [List.drop_length] at hok
    rw [List.take_length] at hlv
    have hok : okE rev [] es = true := hok
    by_cases hr : rev < 0
    · rcases hlv with ⟨rfl, _⟩ | rfl
      all_goals
        ((conv => whnf); repeat ((first | refine SIf.df (show ¬ ((es.length : Nat) : Int) < (es.map enR).length by omega) ?_ | refine SIf.dt hr ?_ | refine yf rfl ?_ | refine yt rfl ?_ | refine yo rfl ?_ | refine yc rfl ?_ | refine ys rfl ?_ | refine ye rfl ?_ | refine yn rfl ?_ | refine zw ?_ | refine zdt ?_ | refine zdf ?_ | refine znt ?_ | refine znf ?_ | refine zcd ?_ | refine zci ?_ | refine zc3 ?_) <;> (conv => whnf)))
        exact hno (by rw [decide_eq_false (by omega)]; rfl)
    · have hk2 := hK (by rw [hok, decide_eq_true (by omega)]; rfl)
      rcases hlv with ⟨rfl, hlv⟩ | rfl
      · rcases hlv0 with ⟨rfl, _⟩ | rfl
        all_goals
          ((conv => whnf); repeat ((first | refine SIf.df (show ¬ ((es.length : Nat) : Int) < (es.map enR).length by omega) ?_ | refine SIf.df hr ?_ | refine SEx.of (h3) ?_ | refine SEx.of (Heap.get_set_self h3) ?_ | refine yf rfl ?_ | refine yt rfl ?_ | refine yo rfl ?_ | refine yc rfl ?_ | refine ys rfl ?_ | refine ye rfl ?_ | refine yn rfl ?_ | refine zw ?_ | refine zdt ?_ | refine zdf ?_ | refine znt ?_ | refine znf ?_ | refine zcd ?_ | refine zci ?_ | refine zc3 ?_) <;> (conv => whnf)))
          exact hk2 _ ⟨h1, _, .inl ⟨rfl, hlv⟩, Heap.get_set_self (Heap.get_set_self h3)⟩ (Heap.Keeps.two (.refl _ _) _ _)
      · rcases hlv0 with ⟨rfl, _⟩ | rfl
        all_goals
          ((conv => whnf); repeat ((first | refine SIf.df (show ¬ ((es.length : Nat) : Int) < (es.map enR).length by omega) ?_ | refine SIf.df hr ?_ | refine SEx.of (h3) ?_ | refine SEx.of (Heap.get_set_self h3) ?_ | refine yf rfl ?_ | refine yt rfl ?_ | refine yo rfl ?_ | refine yc rfl ?_ | refine ys rfl ?_ | refine ye rfl ?_ | refine yn rfl ?_ | refine zw ?_ | refine zdt ?_ | refine zdf ?_ | refine znt ?_ | refine znf ?_ | refine zcd ?_ | refine zci ?_ | refine zc3 ?_) <;> (conv => whnf)))
          exact hk2 _ ⟨h1, _, .inr rfl, Heap.get_set_self (Heap.get_set_self h3)⟩ (Heap.Keeps.two (.refl _ _) _ _)
end
end Go.Eng
