/-
What the document's cache does: events.
-/
import Derived.Test.YthhlbhmneabhiaaGreatCa4
set_option linter.unusedVariables false
set_option linter.unusedSimpArgs false
namespace Go.Eng
open Go
section
variable {P : Program} (hG : FnsOk P AF.fns.get)
include hG
set_option maxHeartbeats 8000000 in
theorem rapply_at {h : Heap} {b : Nat} {rev : Int} {L : List EnD} (hc : RefAt h b rev L) (hn : L.length ≤ 10000) (xs : List EvD) (hl : xs.length ≤ 1000) (from_ upto : Int) {K : V → Heap → Prop}
    (hno : okAp rev from_ upto xs = false → K (.b false) h)
    (hK : okAp rev from_ upto xs = true → ∀ h', RefAt h' b upto (xs.foldl stepL L) → Heap.Keeps (fun n => n = b) h h' → K (.b true) h') : ACall P 28 [.p (.g b) 0, .i .i64 from_, .i .i64 upto, .sl none 4 (xs.map evR)] h K := by
  have hlm : (xs.map evR).length = xs.length := List.length_map _
  obtain ⟨h1, lv, hlv, h4⟩ := hc
  unfold okAp at hno hK
  refine fn_sv (hG _ AF.f28 rfl) rfl ?_
  by_cases hr : rev < 0
  · rcases hlv with ⟨rfl, _⟩ | rfl
    all_goals
      ((conv => whnf); repeat ((first | refine SIf.dt hr ?_ | refine SEx.of (h4) ?_ | refine yf rfl ?_ | refine yt rfl ?_ | refine yo rfl ?_ | refine yc rfl ?_ | refine ys rfl ?_ | refine ye rfl ?_ | refine yn rfl ?_ | refine zw ?_ | refine zdt ?_ | refine zdf ?_ | refine znt ?_ | refine znf ?_ | refine zcd ?_ | refine zci ?_ | refine zc3 ?_) <;> (conv => whnf)))
      exact hno (by rw [decide_eq_false (by omega)]; rfl)
  rw [decide_eq_true (show 0 ≤ rev by omega), Bool.true_and] at hno hK
  by_cases hf : rev = from_
  case neg =>
    rcases hlv with ⟨rfl, _⟩ | rfl
    all_goals
      ((conv => whnf); repeat ((first | refine SIf.df hr ?_ | refine SIf.nt hf ?_ | refine SEx.of (h4) ?_ | refine yf rfl ?_ | refine yt rfl ?_ | refine yo rfl ?_ | refine yc rfl ?_ | refine ys rfl ?_ | refine ye rfl ?_ | refine yn rfl ?_ | refine zw ?_ | refine zdt ?_ | refine zdf ?_ | refine znt ?_ | refine znf ?_ | refine zcd ?_ | refine zci ?_ | refine zc3 ?_) <;> (conv => whnf)))
      exact hno (by rw [decide_eq_false hf]; rfl)
  rw [decide_eq_true hf, Bool.true_and] at hno hK
  by_cases hu : upto < from_
  · rcases hlv with ⟨rfl, _⟩ | rfl
    all_goals
      ((conv => whnf); repeat ((first | refine SIf.df hr ?_ | refine SIf.nf hf ?_ | refine SIf.dt hu ?_ | refine SEx.of (h4) ?_ | refine yf rfl ?_ | refine yt rfl ?_ | refine yo rfl ?_ | refine yc rfl ?_ | refine ys rfl ?_ | refine ye rfl ?_ | refine yn rfl ?_ | refine zw ?_ | refine zdt ?_ | refine zdf ?_ | refine znt ?_ | refine znf ?_ | refine zcd ?_ | refine zci ?_ | refine zc3 ?_) <;> (conv => whnf)))
      exact hno (by rw [decide_eq_false (by omega)]; rfl)
  rw [decide_eq_true (by omega), Bool.true_and] at hno hK
  have hlv2 := hlv
  rcases hlv2 with ⟨hlv2, _⟩ | hlv2
  all_goals
    rw [hlv2] at h4
    ((conv => whnf); repeat ((first | refine SIf.df hr ?_ | refine SIf.nf hf ?_ | refine SIf.df hu ?_ | refine SEx.of (h4) ?_ | refine yf rfl ?_ | refine yt rfl ?_ | refine yo rfl ?_ | refine yc rfl ?_ | refine ys rfl ?_ | refine ye rfl ?_ | refine yn rfl ?_ | refine zw ?_ | refine zdt ?_ | refine zdf ?_ | refine znt ?_ | refine znf ?_ | refine zcd ?_ | refine zci ?_ | refine zc3 ?_) <;> (conv => whnf)))
    rw [← hlv2] at h4
    refine SLoopV.by (fun q fr st => ∃ (i : Nat) (lo : Heap) (last : Int), i ≤ xs.length ∧ q = xs.length - i ∧ okV from_ upto from_ xs = okV from_ upto last (xs.drop i) ∧ ((i = 0 ∧ last = from_) ∨ (0 < i ∧ ∃ y, xs[i - 1]? = some y ∧ last = y.e.rev)) ∧
        Fr.le [(31, .i .i64 i), (30, .i .i64 (xs.map evR).length), (3, .sl none 4 (xs.map evR)), (2, .i .i64 upto), (1, .i .i64 from_), (0, .p (.g b) 0)] fr ∧ st = ⟨h, lo⟩)
      xs.length ⟨0, _, from_, Nat.zero_le _, rfl, rfl, .inl ⟨rfl, rfl⟩, (by repeat (first | exact Fr.le_nil | refine Fr.le_cons rfl ?_)), rfl⟩ ?_
    rintro q fr st ⟨i, lo, last, hi, rfl, hok, hla, hle0, rfl⟩
    refine ⟨_, hle0, fun R hR => ?_⟩
    by_cases hin : i < xs.length
    · have he := List.getElem?_eq_getElem hin
      have hdr := List.drop_eq_getElem_cons hin
      generalize xs[i] = x at he hdr
      rw [hdr] at hok
      simp only [okV] at hok
      by_cases c2 : x.e.rev ≤ from_
      · rw [decide_eq_false (show ¬ from_ < x.e.rev by omega)] at hok
        ((conv => whnf); repeat ((first | refine SIf.dt (show (i : Int) < (xs.map evR).length by omega) ?_ | refine SChk.ix (by omega) (by omega) ?_ | refine SIf.dt c2 ?_ | refine SEx.of (map_get' (by omega) he) ?_ | refine yf rfl ?_ | refine yt rfl ?_ | refine yo rfl ?_ | refine yc rfl ?_ | refine ys rfl ?_ | refine ye rfl ?_ | refine yn rfl ?_ | refine zw ?_ | refine zdt ?_ | refine zdf ?_ | refine znt ?_ | refine znf ?_ | refine zcd ?_ | refine zci ?_ | refine zc3 ?_) <;> (conv => whnf)))
        exact hno (by rw [hok]; simp)
      rw [decide_eq_true (show from_ < x.e.rev by omega)] at hok
      by_cases c3 : x.e.rev > upto
      · rw [decide_eq_false (show ¬ x.e.rev ≤ upto by omega)] at hok
        ((conv => whnf); repeat ((first | refine SIf.dt (show (i : Int) < (xs.map evR).length by omega) ?_ | refine SChk.ix (by omega) (by omega) ?_ | refine SIf.df c2 ?_ | refine SIf.dt c3 ?_ | refine SEx.of (map_get' (by omega) he) ?_ | refine yf rfl ?_ | refine yt rfl ?_ | refine yo rfl ?_ | refine yc rfl ?_ | refine ys rfl ?_ | refine ye rfl ?_ | refine yn rfl ?_ | refine zw ?_ | refine zdt ?_ | refine zdf ?_ | refine znt ?_ | refine znf ?_ | refine zcd ?_ | refine zci ?_ | refine zc3 ?_) <;> (conv => whnf)))
        exact hno (by rw [hok]; simp)
      rw [decide_eq_true (show x.e.rev ≤ upto by omega)] at hok
      rcases hla with ⟨rfl, hla⟩ | ⟨hi0, y, hy, hla⟩
      · rw [decide_eq_true (show last ≤ x.e.rev by omega)] at hok
        ((conv => whnf); repeat ((first | refine SIf.dt (show ((0 : Nat) : Int) < (xs.map evR).length by omega) ?_ | refine SChk.ix (by omega) (by omega) ?_ | refine SIf.df c2 ?_ | refine SIf.df c3 ?_ | refine SIf.df (show ¬ ((0 : Nat) : Int) > 0 by omega) ?_ | refine SWrap.w64 (by omega) (by omega) ?_ | refine SEx.of (map_get' (by omega) he) ?_ | refine yf rfl ?_ | refine yt rfl ?_ | refine yo rfl ?_ | refine yc rfl ?_ | refine ys rfl ?_ | refine ye rfl ?_ | refine yn rfl ?_ | refine zw ?_ | refine zdt ?_ | refine zdf ?_ | refine znt ?_ | refine znf ?_ | refine zcd ?_ | refine zci ?_ | refine zc3 ?_) <;> (conv => whnf)))
        exact hR (xs.length - (0 + 1)) _ _ (by omega) ⟨0 + 1, _, x.e.rev, by omega, rfl, hok, .inr ⟨by omega, x, he, rfl⟩, (by repeat (first | exact Fr.le_nil | refine Fr.le_cons rfl ?_)), rfl⟩
      · subst hla
        by_cases c1 : x.e.rev < y.e.rev
        · rw [decide_eq_false (show ¬ y.e.rev ≤ x.e.rev by omega)] at hok
          ((conv => whnf); repeat ((first | refine SIf.dt (show (i : Int) < (xs.map evR).length by omega) ?_ | refine SChk.ix (by omega) (by omega) ?_ | refine SIf.df c2 ?_ | refine SIf.df c3 ?_ | refine SIf.dt (show (i : Int) > 0 by omega) ?_ | refine SIf.dt c1 ?_ | refine SWrap.w64 (by omega) (by omega) ?_ | refine SEx.of (map_get' (by omega) he) ?_ | refine SEx.of (map_get' (by omega) hy) ?_ | refine yf rfl ?_ | refine yt rfl ?_ | refine yo rfl ?_ | refine yc rfl ?_ | refine ys rfl ?_ | refine ye rfl ?_ | refine yn rfl ?_ | refine zw ?_ | refine zdt ?_ | refine zdf ?_ | refine znt ?_ | refine znf ?_ | refine zcd ?_ | refine zci ?_ | refine zc3 ?_) <;> (conv => whnf)))
          exact hno (by rw [hok]; simp)
        · rw [decide_eq_true (show y.e.rev ≤ x.e.rev by omega)] at hok
          ((conv => whnf); repeat ((first | refine SIf.dt (show (i : Int) < (xs.map evR).length by omega) ?_ | refine SChk.ix (by omega) (by omega) ?_ | refine SIf.df c2 ?_ | refine SIf.df c3 ?_ | refine SIf.dt (show (i : Int) > 0 by omega) ?_ | refine SIf.df c1 ?_ | refine SWrap.w64 (by omega) (by omega) ?_ | refine SEx.of (map_get' (by omega) he) ?_ | refine SEx.of (map_get' (by omega) hy) ?_ | refine yf rfl ?_ | refine yt rfl ?_ | refine yo rfl ?_ | refine yc rfl ?_ | refine ys rfl ?_ | refine ye rfl ?_ | refine yn rfl ?_ | refine zw ?_ | refine zdt ?_ | refine zdf ?_ | refine znt ?_ | refine znf ?_ | refine zcd ?_ | refine zci ?_ | refine zc3 ?_) <;> (conv => whnf)))
          exact hR (xs.length - (i + 1)) _ _ (by omega) ⟨i + 1, _, x.e.rev, by omega, rfl, hok, .inr ⟨by omega, x, he, rfl⟩, (by repeat (first | exact Fr.le_nil | refine Fr.le_cons rfl ?_)), rfl⟩
    · obtain rfl : i = xs.length := by omega
      rw [List.drop_length] at hok
      ((conv => whnf); repeat ((first | refine SIf.df (show ¬ ((xs.length : Nat) : Int) < (xs.map evR).length by omega) ?_ | refine yf rfl ?_ | refine yt rfl ?_ | refine yo rfl ?_ | refine yc rfl ?_ | refine ys rfl ?_ | refine ye rfl ?_ | refine yn rfl ?_ | refine zw ?_ | refine zdt ?_ | refine zdf ?_ | refine znt ?_ | refine znf ?_ | refine zcd ?_ | refine zci ?_ | refine zc3 ?_) <;> (conv => whnf)))
      refine SLoopV.by (fun q fr st => ∃ (i : Nat) (hh lo : Heap) (lv' : V), i ≤ xs.length ∧ q = xs.length - i ∧ Heap.Keeps (fun n => n = b) h hh ∧ EnsV lv' ((xs.take i).foldl stepL L) ∧ hh.get b = some (.cs [.i .i64 rev, lv']) ∧
          Fr.le [(71, .i .i64 i), (70, .i .i64 (xs.map evR).length), (3, .sl none 4 (xs.map evR)), (2, .i .i64 upto), (0, .p (.g b) 0)] fr ∧ st = ⟨hh, lo⟩)
        xs.length ⟨0, h, _, lv, Nat.zero_le _, rfl, .refl _ _, hlv, h4, (by repeat (first | exact Fr.le_nil | refine Fr.le_cons rfl ?_)), rfl⟩ ?_
      rintro q fr st ⟨i, hh, lo, lv', hi, rfl, hk, hlv', hg, hle0, rfl⟩
      refine ⟨_, hle0, fun R hR => ?_⟩
      have hlen := foldl_step_len (xs.take i) L
      have hkk : ∀ o, Heap.Keeps (fun n => n = b) h (hh.set b o) := fun o => Heap.Keeps.set (b := fun n => n = b) hk (.inl rfl) o
      by_cases hin : i < xs.length
      · have he := List.getElem?_eq_getElem hin
        generalize xs[i] = x at he
        have htk : xs.take (i + 1) = xs.take i ++ [x] := by rw [List.take_add_one, he]; rfl
        have hst : (xs.take (i + 1)).foldl stepL L = stepL ((xs.take i).foldl stepL L) x := by rw [htk, List.foldl_append]; rfl
        have hlay := fun (K : V → Heap → Prop) (hK : ∀ lv', EnsV lv' ((xs.take (i + 1)).foldl stepL L) → K lv' hh) => lay_at (K := K) hG (h := hh) hlv' (by simp at hlen; omega) x.e x.gone (fun lv' hv => hK lv' (by rw [hst]; exact hv))
        rcases hlv' with ⟨rfl, _⟩ | rfl
        all_goals
          ((conv => whnf); repeat ((first | refine SIf.dt (show (i : Int) < (xs.map evR).length by omega) ?_ | refine SChk.ix (by omega) (by omega) ?_ | refine SCall.app (hlay _) ?_ | refine SEx.of (map_get' (by omega) he) ?_ | refine SEx.of (hg) ?_ | refine yf rfl ?_ | refine yt rfl ?_ | refine yo rfl ?_ | refine yc rfl ?_ | refine ys rfl ?_ | refine ye rfl ?_ | refine yn rfl ?_ | refine zw ?_ | refine zdt ?_ | refine zdf ?_ | refine znt ?_ | refine znf ?_ | refine zcd ?_ | refine zci ?_ | refine zc3 ?_) <;> (conv => whnf)))
          intro lv2 hv2
          rcases hv2 with ⟨rfl, hv2⟩ | rfl
          · ((conv => whnf); repeat ((first | refine SWrap.w64 (by omega) (by omega) ?_ | refine SEx.of (hg) ?_ | refine yf rfl ?_ | refine yt rfl ?_ | refine yo rfl ?_ | refine yc rfl ?_ | refine ys rfl ?_ | refine ye rfl ?_ | refine yn rfl ?_ | refine zw ?_ | refine zdt ?_ | refine zdf ?_ | refine znt ?_ | refine znf ?_ | refine zcd ?_ | refine zci ?_ | refine zc3 ?_) <;> (conv => whnf)))
            exact hR (xs.length - (i + 1)) _ _ (by omega) ⟨i + 1, _, _, _, by omega, rfl, hkk _, .inl ⟨rfl, hv2⟩, Heap.get_set_self hg, (by repeat (first | exact Fr.le_nil | refine Fr.le_cons rfl ?_)), rfl⟩
          · ((conv => whnf); repeat ((first | refine SWrap.w64 (by omega) (by omega) ?_ | refine SEx.of (hg) ?_ | refine yf rfl ?_ | refine yt rfl ?_ | refine yo rfl ?_ | refine yc rfl ?_ | refine ys rfl ?_ | refine ye rfl ?_ | refine yn rfl ?_ | refine zw ?_ | refine zdt ?_ | refine zdf ?_ | refine znt ?_ | refine znf ?_ | refine zcd ?_ | refine zci ?_ | refine zc3 ?_) <;> (conv => whnf)))
            exact hR (xs.length - (i + 1)) _ _ (by omega) ⟨i + 1, _, _, _, by omega, rfl, hkk _, .inr rfl, Heap.get_set_self hg, (by repeat (first | exact Fr.le_nil | refine Fr.le_cons rfl ?_)), rfl⟩
      · obtain rfl : i = xs.length := by omega
        rw [List.take_length] at hlv'
        have hk2 := fun h' => hK hok h'
        rcases hlv' with ⟨rfl, hv⟩ | rfl
        · ((conv => whnf); repeat ((first | refine SIf.df (show ¬ ((xs.length : Nat) : Int) < (xs.map evR).length by omega) ?_ | refine SEx.of (hg) ?_ | refine yf rfl ?_ | refine yt rfl ?_ | refine yo rfl ?_ | refine yc rfl ?_ | refine ys rfl ?_ | refine ye rfl ?_ | refine yn rfl ?_ | refine zw ?_ | refine zdt ?_ | refine zdf ?_ | refine znt ?_ | refine znf ?_ | refine zcd ?_ | refine zci ?_ | refine zc3 ?_) <;> (conv => whnf)))
          exact hk2 _ ⟨Nat.lt_of_lt_of_le h1 hk.1, _, .inl ⟨rfl, hv⟩, Heap.get_set_self hg⟩ (hkk _)
        · ((conv => whnf); repeat ((first | refine SIf.df (show ¬ ((xs.length : Nat) : Int) < (xs.map evR).length by omega) ?_ | refine SEx.of (hg) ?_ | refine yf rfl ?_ | refine yt rfl ?_ | refine yo rfl ?_ | refine yc rfl ?_ | refine ys rfl ?_ | refine ye rfl ?_ | refine yn rfl ?_ | refine zw ?_ | refine zdt ?_ | refine zdf ?_ | refine znt ?_ | refine znf ?_ | refine zcd ?_ | refine zci ?_ | refine zc3 ?_) <;> (conv => whnf)))
          exact hk2 _ ⟨Nat.lt_of_lt_of_le h1 hk.1, _, .inr rfl, Heap.get_set_self hg⟩ (hkk _)
end
end Go.Eng
