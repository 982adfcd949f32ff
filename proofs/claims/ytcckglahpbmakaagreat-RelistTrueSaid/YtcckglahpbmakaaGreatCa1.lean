/-
What one knows: a list taken, events taken, an entry, all entries.
-/
import Derived.Test.YtcckglahpbmakaaGreatCaP
import Derived.Test.YtcckglahpbmakaaGreatEngSymV
set_option linter.unusedVariables false
set_option linter.unusedSimpArgs false
namespace Go.Eng
open Go
theorem Heap.Keeps.two {h hh : Heap} {a : Nat} (hk : Heap.Keeps (fun _ => False) h hh) (x y : Obj) : Heap.Keeps (fun n => n = a) h ((hh.set a x).set a y) :=
  Heap.Keeps.set (b := fun n => n = a) (Heap.Keeps.set (b := fun n => n = a) (hk.mono fun _ _ x => x.elim) (.inl rfl) x) (.inl rfl) y
theorem Heap.Keeps.new {h hh : Heap} {k : Nat} (hk : Heap.Keeps (fun _ => False) h hh) (hn : h.next ≤ k) (x : Obj) : Heap.Keeps (fun _ => False) h (hh.set k x) := Heap.Keeps.set (b := fun _ => False) hk (.inr hn) x
structure EvD where
  e : EnD
  gone : Bool
def evR (x : EvD) : List V := [.i .i64 x.e.rev, .s x.e.key, .sl none 1 (x.e.val.map byR), .b x.gone]
structure EnOk (e : EnD) : Prop where
  val : e.val.length * 1 ≤ 140737488355328
  key : e.key.length ≤ 9223372036854775807
def okE (rev : Int) : List EnD → List EnD → Bool
  | _, [] => true
  | S, e :: r => (getE S e.key).isNone && !decide (e.key = []) && decide (1 ≤ e.rev) && decide (e.rev ≤ rev) && okE rev (S ++ [e]) r
def okV (from_ upto : Int) : Int → List EvD → Bool
  | _, [] => true
  | last, x :: r => decide (last ≤ x.e.rev) && decide (from_ < x.e.rev) && decide (x.e.rev ≤ upto) && okV from_ upto x.e.rev r
def stepE (D : List EnD) (x : EvD) : List EnD := if x.gone then delE D x.e.key else putE D x.e
def stepL (L : List EnD) (x : EvD) : List EnD := layD x.e x.gone L
theorem CaRel.step {D L : List EnD} (h : CaRel D L) (x : EvD) : CaRel (stepE D x) (stepL L x) := by
  unfold stepE stepL
  cases x.gone
  · exact h.put x.e
  · exact h.del x.e
theorem CaRel.steps : ∀ (xs : List EvD) {D L : List EnD}, CaRel D L → CaRel (xs.foldl stepE D) (xs.foldl stepL L)
  | [], _, _, h => h
  | x :: r, _, _, h => CaRel.steps r (h.step x)
def CacheAt (h : Heap) (a : Nat) (m : Option Nat) (rev : Int) (D : List EnD) : Prop :=
  a < h.next ∧ ((m = none ∧ D = [] ∧ rev = -1 ∧ h.get a = some (.cs [.nilm, .i .i64 rev])) ∨ ∃ mk, m = some mk ∧ mk ≠ a ∧ mk < h.next ∧ h.get a = some (.cs [.m (.g mk), .i .i64 rev]) ∧ h.get mk = some (.mp none (D.map enP)))
theorem CacheAt.keep {h h' : Heap} {a : Nat} {m : Option Nat} {rev : Int} {D : List EnD} (hc : CacheAt h a m rev D) (hk : Heap.Keeps (fun _ => False) h h') : CacheAt h' a m rev D := by
  obtain ⟨h1, ⟨hm0, h2, h3, h4⟩ | ⟨mk, hm0, h2, h3, h4, h5⟩⟩ := hc
  · exact ⟨Nat.lt_of_lt_of_le h1 hk.1, .inl ⟨hm0, h2, h3, by rw [hk.2 a h1 (fun x => x)]; exact h4⟩⟩
  · exact ⟨Nat.lt_of_lt_of_le h1 hk.1, .inr ⟨mk, hm0, h2, Nat.lt_of_lt_of_le h3 hk.1, by rw [hk.2 a h1 (fun x => x)]; exact h4, by rw [hk.2 mk h3 (fun x => x)]; exact h5⟩⟩
section
variable {P : Program} (hG : FnsOk P AF.fns.get)
include hG
theorem ccopied_ok (e : EnD) (h : EnOk e) : Pure P 65 [.agg (enR e)] (· = .agg (enR e)) := by
  have hc := clone_byte hG e.val h.val
  refine pure_fn (hG _ AF.f65 rfl) rfl ?_
  ((conv => whnf); repeat ((first | refine SCall.app (Pure.go hc rfl) ?_ | refine yf rfl ?_ | refine yt rfl ?_ | refine yo rfl ?_ | refine yc rfl ?_ | refine ys rfl ?_ | refine ye rfl ?_ | refine yn rfl ?_ | refine zw ?_ | refine zdt ?_ | refine zdf ?_ | refine znt ?_ | refine znf ?_ | refine zcd ?_ | refine zci ?_ | refine zc3 ?_) <;> (conv => whnf)))
  exact pure_free rfl rfl
theorem crev_at {h : Heap} {a : Nat} {m : Option Nat} {rev : Int} {D : List EnD} (hc : CacheAt h a m rev D) {K : V → Heap → Prop} (hK : K (.i .i64 rev) h) : ACall P 17 [.p (.g a) 0] h K := by
  obtain ⟨h1, ⟨hm0, h2, h3, h4⟩ | ⟨mk, hm0, h2, h3, h4, h5⟩⟩ := hc
  all_goals
    refine fn_sp (hG _ AF.f17 rfl) rfl ?_
    ((conv => whnf); repeat ((first | refine SEx.of (h4) ?_ | refine yf rfl ?_ | refine yt rfl ?_ | refine yo rfl ?_ | refine yc rfl ?_ | refine ys rfl ?_ | refine ye rfl ?_ | refine yn rfl ?_ | refine zw ?_ | refine zdt ?_ | refine zdf ?_ | refine znt ?_ | refine znf ?_ | refine zcd ?_ | refine zci ?_ | refine zc3 ?_) <;> (conv => whnf)))
    exact hK
theorem cdrop_at {h : Heap} {a : Nat} {m : Option Nat} {rev : Int} {D : List EnD} (hc : CacheAt h a m rev D) {K : V → Heap → Prop} (hK : ∀ h', CacheAt h' a none (-1) [] → Heap.Keeps (fun n => n = a) h h' → K (.tup []) h') : ACall P 63 [.p (.g a) 0] h K := by
  have h1 := hc.1
  obtain ⟨h1, ⟨hm0, h2, h3, h4⟩ | ⟨mk, hm0, h2, h3, h4, h5⟩⟩ := hc
  all_goals
    refine fn_sp (hG _ AF.f63 rfl) rfl ?_
    ((conv => whnf); repeat ((first | refine SEx.of (h4) ?_ | refine SEx.of (Heap.get_set_self h4) ?_ | refine yf rfl ?_ | refine yt rfl ?_ | refine yo rfl ?_ | refine yc rfl ?_ | refine ys rfl ?_ | refine ye rfl ?_ | refine yn rfl ?_ | refine zw ?_ | refine zdt ?_ | refine zdf ?_ | refine znt ?_ | refine znf ?_ | refine zcd ?_ | refine zci ?_ | refine zc3 ?_) <;> (conv => whnf)))
    exact hK _ ⟨h1, .inl ⟨rfl, rfl, rfl, Heap.get_set_self (Heap.get_set_self h4)⟩⟩ (Heap.Keeps.two (.refl _ _) _ _)
set_option maxHeartbeats 4000000 in
theorem clist_at {h : Heap} {a : Nat} {m0 : Option Nat} {rev0 : Int} {D0 : List EnD} (hc : CacheAt h a m0 rev0 D0) (es : List EnD) (hes : ∀ e ∈ es, EnOk e) (hl : es.length ≤ 9223372036854775807) (rev : Int) {K : V → Heap → Prop}
    (hno : (decide (0 ≤ rev) && okE rev [] es) = false → ∀ h', CacheAt h' a m0 rev0 D0 → Heap.Keeps (fun _ => False) h h' → K (.b false) h')
    (hK : (decide (0 ≤ rev) && okE rev [] es) = true → ∀ h' k, h.next ≤ k → CacheAt h' a (some k) rev es → Heap.Keeps (fun n => n = a) h h' → K (.b true) h') : ACall P 26 [.p (.g a) 0, .i .i64 rev, .sl none 3 (es.map enR)] h K := by
  have hlm : (es.map enR).length = es.length := List.length_map _
  refine fn_sv (hG _ AF.f26 rfl) rfl ?_
  by_cases hr : rev < 0
  · ((conv => whnf); repeat ((first | refine SIf.dt hr ?_ | refine yf rfl ?_ | refine yt rfl ?_ | refine yo rfl ?_ | refine yc rfl ?_ | refine ys rfl ?_ | refine ye rfl ?_ | refine yn rfl ?_ | refine zw ?_ | refine zdt ?_ | refine zdf ?_ | refine znt ?_ | refine znf ?_ | refine zcd ?_ | refine zci ?_ | refine zc3 ?_) <;> (conv => whnf)))
    exact hno (by rw [decide_eq_false (by omega)]; rfl) h hc (.refl _ _)
  rw [decide_eq_true (by omega), Bool.true_and] at hno hK
  ((conv => whnf); repeat ((first | refine SIf.df hr ?_ | refine yf rfl ?_ | refine yt rfl ?_ | refine yo rfl ?_ | refine yc rfl ?_ | refine ys rfl ?_ | refine ye rfl ?_ | refine yn rfl ?_ | refine zw ?_ | refine zdt ?_ | refine zdf ?_ | refine znt ?_ | refine znf ?_ | refine zcd ?_ | refine zci ?_ | refine zc3 ?_) <;> (conv => whnf)))
  refine SLoopV.by (fun q fr st => ∃ (i : Nat) (hh lo : Heap), i ≤ es.length ∧ q = es.length - i ∧ Heap.Keeps (fun _ => False) h hh ∧ h.next < hh.next ∧ hh.get h.next = some (.mp none ((es.take i).map enP)) ∧ okE rev [] es = okE rev (es.take i) (es.drop i) ∧
      Fr.le [(21, .i .i64 i), (20, .i .i64 (es.map enR).length), (19, .sl none 3 (es.map enR)), (7, .m (.g h.next)), (1, .i .i64 rev), (0, .p (.g a) 0)] fr ∧ st = ⟨hh, lo⟩)
    es.length ⟨0, _, _, Nat.zero_le _, rfl, .push (.refl _ _) _, Nat.lt_succ_self _, Heap.get_push_self _ _, rfl, (by repeat (first | exact Fr.le_nil | refine Fr.le_cons rfl ?_)), rfl⟩ ?_
  rintro q fr st ⟨i, hh, lo, hi, rfl, hk, hnx, hm, hok, hle0, rfl⟩
  refine ⟨_, hle0, fun R hR => ?_⟩
  by_cases hin : i < es.length
  · have he := List.getElem?_eq_getElem hin
    have hem := hes _ (List.getElem_mem hin)
    have hdr := List.drop_eq_getElem_cons hin
    generalize es[i] = e at he hem hdr
    have htk : es.take (i + 1) = es.take i ++ [e] := by rw [List.take_add_one, he]; rfl
    have hcp := ccopied_ok hG e hem
    have hmf := mfind_en e.key (es.take i)
    have a2 : ∀ o o2, ((lo.push o).set lo.next o2).get lo.next = some o2 := fun o o2 => Heap.get_set_self (Heap.get_push_self _ _)
    have a4 : ∀ o o2 p q, ((((lo.push o).set lo.next o2).push p).set (lo.next + 1) q).get lo.next = some o2 := fun o o2 p q => Heap.gs (by omega) (Heap.gp (by show lo.next ≠ lo.next + 1; omega) (a2 _ _))
    rw [hdr] at hok
    simp only [okE] at hok
    have hfail : okE rev [] es = false → ∀ h', Heap.Keeps (fun _ => False) h h' → K (.b false) h' := fun hf h' hk' => hno hf h' (hc.keep hk') hk'
    cases hg : getE (es.take i) e.key with
    | some x =>
      rw [hg] at hmf hok
      ((conv => whnf); repeat ((first | refine SIf.dt (by omega) ?_ | refine SOpt.of hmf ?_ | refine SEx.of (map_get' (by omega) he) ?_ | refine SEx.of (hm) ?_ | refine SEx.of (Heap.get_push_self _ _) ?_ | refine SEx.of (a2 _ _) ?_ | refine SEx.of (a4 _ _ _ _) ?_ | refine SEx.of (Heap.get_set_self (Heap.get_push_self _ _)) ?_ | refine yf rfl ?_ | refine yt rfl ?_ | refine yo rfl ?_ | refine yc rfl ?_ | refine ys rfl ?_ | refine ye rfl ?_ | refine yn rfl ?_ | refine zw ?_ | refine zdt ?_ | refine zdf ?_ | refine znt ?_ | refine znf ?_ | refine zcd ?_ | refine zci ?_ | refine zc3 ?_) <;> (conv => whnf)))
      exact hfail hok _ hk
    | none =>
      rw [hg] at hmf hok
      by_cases hkey : e.key = []
      · have hkb : (e.key == []) = true := by rw [hkey]; rfl
        rw [decide_eq_true hkey] at hok
        ((conv => whnf); repeat ((first | refine SIf.dt (by omega) ?_ | refine SOpt.no hmf ?_ | refine SIf.tt hkb ?_ | refine SEx.of (map_get' (by omega) he) ?_ | refine SEx.of (hm) ?_ | refine SEx.of (Heap.get_push_self _ _) ?_ | refine SEx.of (a2 _ _) ?_ | refine SEx.of (a4 _ _ _ _) ?_ | refine SEx.of (Heap.get_set_self (Heap.get_push_self _ _)) ?_ | refine yf rfl ?_ | refine yt rfl ?_ | refine yo rfl ?_ | refine yc rfl ?_ | refine ys rfl ?_ | refine ye rfl ?_ | refine yn rfl ?_ | refine zw ?_ | refine zdt ?_ | refine zdf ?_ | refine znt ?_ | refine znf ?_ | refine zcd ?_ | refine zci ?_ | refine zc3 ?_) <;> (conv => whnf)))
        exact hfail hok _ hk
      · have hkb : (e.key == []) = false := by simpa using hkey
        rw [decide_eq_false hkey] at hok
        by_cases h1 : e.rev < 1
        · rw [decide_eq_false (show ¬ 1 ≤ e.rev by omega)] at hok
          ((conv => whnf); repeat ((first | refine SIf.dt (show (i : Int) < (es.length : Nat) by omega) ?_ | refine SOpt.no hmf ?_ | refine SIf.ff hkb ?_ | refine SIf.dt h1 ?_ | refine SEx.of (map_get' (by omega) he) ?_ | refine SEx.of (hm) ?_ | refine SEx.of (Heap.get_push_self _ _) ?_ | refine SEx.of (a2 _ _) ?_ | refine SEx.of (a4 _ _ _ _) ?_ | refine SEx.of (Heap.get_set_self (Heap.get_push_self _ _)) ?_ | refine yf rfl ?_ | refine yt rfl ?_ | refine yo rfl ?_ | refine yc rfl ?_ | refine ys rfl ?_ | refine ye rfl ?_ | refine yn rfl ?_ | refine zw ?_ | refine zdt ?_ | refine zdf ?_ | refine znt ?_ | refine znf ?_ | refine zcd ?_ | refine zci ?_ | refine zc3 ?_) <;> (conv => whnf)))
          exact hfail hok _ hk
        · rw [decide_eq_true (show 1 ≤ e.rev by omega)] at hok
          by_cases h2 : e.rev > rev
          · rw [decide_eq_false (show ¬ e.rev ≤ rev by omega)] at hok
            ((conv => whnf); repeat ((first | refine SIf.dt (show (i : Int) < (es.length : Nat) by omega) ?_ | refine SOpt.no hmf ?_ | refine SIf.ff hkb ?_ | refine SIf.df h1 ?_ | refine SIf.dt h2 ?_ | refine SEx.of (map_get' (by omega) he) ?_ | refine SEx.of (hm) ?_ | refine SEx.of (Heap.get_push_self _ _) ?_ | refine SEx.of (a2 _ _) ?_ | refine SEx.of (a4 _ _ _ _) ?_ | refine SEx.of (Heap.get_set_self (Heap.get_push_self _ _)) ?_ | refine yf rfl ?_ | refine yt rfl ?_ | refine yo rfl ?_ | refine yc rfl ?_ | refine ys rfl ?_ | refine ye rfl ?_ | refine yn rfl ?_ | refine zw ?_ | refine zdt ?_ | refine zdf ?_ | refine znt ?_ | refine znf ?_ | refine zcd ?_ | refine zci ?_ | refine zc3 ?_) <;> (conv => whnf)))
            exact hfail hok _ hk
          · rw [decide_eq_true (show e.rev ≤ rev by omega)] at hok
            ((conv => whnf); repeat ((first | refine SIf.dt (show (i : Int) < (es.length : Nat) by omega) ?_ | refine SOpt.no hmf ?_ | refine SIf.ff hkb ?_ | refine SIf.df h1 ?_ | refine SIf.df h2 ?_ | refine SCall.app (Pure.go hcp rfl) ?_ | refine SWrap.w64 (by omega) (by omega) ?_ | refine SEx.of (map_get' (by omega) he) ?_ | refine SEx.of (hm) ?_ | refine SEx.of (Heap.get_push_self _ _) ?_ | refine SEx.of (a2 _ _) ?_ | refine SEx.of (a4 _ _ _ _) ?_ | refine SEx.of (Heap.get_set_self (Heap.get_push_self _ _)) ?_ | refine yf rfl ?_ | refine yt rfl ?_ | refine yo rfl ?_ | refine yc rfl ?_ | refine ys rfl ?_ | refine ye rfl ?_ | refine yn rfl ?_ | refine zw ?_ | refine zdt ?_ | refine zdf ?_ | refine znt ?_ | refine znf ?_ | refine zcd ?_ | refine zci ?_ | refine zc3 ?_) <;> (conv => whnf)))
            have hput : mput ((es.take i).map enP) (.s e.key) (.agg (enR e)) = (es.take (i + 1)).map enP := by rw [mput_en, putE_new hg, htk]
            exact hR (es.length - (i + 1)) _ _ (by omega) ⟨i + 1, hh.set h.next (.mp none (mput ((es.take i).map enP) (.s e.key) (.agg (enR e)))), _, by omega, rfl, .new hk (Nat.le_refl _) _, hnx, (Heap.get_set_self hm).trans (by rw [hput]), (by rw [hok, htk]; rfl), (by repeat (first | exact Fr.le_nil | refine Fr.le_cons rfl ?_)), rfl⟩
  · obtain rfl : i = es.length := by omega
    rw [List.take_length] at hm
    rw [List.drop_length] at hok
    obtain ⟨h1, hcc⟩ := hc
    have hne : a ≠ h.next := by omega
    rcases hcc with ⟨_, _, _, h4⟩ | ⟨mk, _, _, _, h4, _⟩
    all_goals
      have hga' := (hk.2 a h1 (fun x => x)).trans h4
      ((conv => whnf); repeat ((first | refine SIf.df (by omega) ?_ | refine SEx.of (hga') ?_ | refine SEx.of (Heap.get_set_self hga') ?_ | refine yf rfl ?_ | refine yt rfl ?_ | refine yo rfl ?_ | refine yc rfl ?_ | refine ys rfl ?_ | refine ye rfl ?_ | refine yn rfl ?_ | refine zw ?_ | refine zdt ?_ | refine zdf ?_ | refine znt ?_ | refine znf ?_ | refine zcd ?_ | refine zci ?_ | refine zc3 ?_) <;> (conv => whnf)))
      exact hK hok _ h.next (Nat.le_refl _) ⟨Nat.lt_of_lt_of_le h1 hk.1, .inr ⟨h.next, rfl, by omega, hnx, Heap.get_set_self (Heap.get_set_self hga'), Heap.gs (by omega) (Heap.gs (by omega) hm)⟩⟩ (Heap.Keeps.two hk _ _)
end
end Go.Eng
