/-
ScoreTie, as the abstract run has it: the run.
-/
import Derived.Test.YteigjjkmabadfaaGreatSTo
import Derived.Test.YteigjjkmabadfaaGreatAfX
namespace Go.Eng
open Go
theorem rest_less {l : List NodeD} {k : Nat} {f : NodeD} {nm : Str} (h : l.Pairwise fun a b => lessS a.name b.name) (hf : l[k]? = some f) (hef : lessS nm f.name) : ∀ x ∈ l.drop k, lessS nm x.name := by
  intro x hx
  obtain ⟨j, hj⟩ := List.mem_iff_getElem?.1 hx
  rw [List.getElem?_drop] at hj
  cases j with
  | zero =>
    rw [Nat.add_zero, hf] at hj
    cases hj
    exact hef
  | succ j => exact less_trans hef (pair_get h (by omega) hf hj)
section
variable {P : Program} (hG : FnsOk P AF.fns.get)
theorem text_ok (h6 : okFn P 6 AF.f6 = true) (s : Str) : Pure P 6 [.s s, .i .i64 6] (fun u => ∃ t : Str, u = .s t ∧ t.length ≤ 6) := by
  refine pure_fn h6 rfl ?_
  ((conv => whnf); repeat ((first | refine yf rfl ?_ | refine yt rfl ?_ | refine yo rfl ?_ | refine yc rfl ?_ | refine ys rfl ?_ | refine ye rfl ?_ | refine yn rfl ?_ | refine zw ?_ | refine zdt ?_ | refine zdf ?_ | refine znt ?_ | refine znf ?_ | refine zcd ?_ | refine zci ?_ | refine zc3 ?_) <;> (conv => whnf)))
  exact pure_free rfl ⟨_, rfl, by
    refine Nat.le_trans (List.length_drop ▸ Nat.sub_le _ _) (Nat.le_trans (List.length_take_le _ _) ?_)
    split <;> omega⟩
theorem head_ins {cap : ResD} {A B : List NodeD} {nm : Str} (h : TieOf cap (A ++ B)) (hA : ∀ x ∈ A, lessS x.name nm) (hB : ∀ x ∈ B, lessS nm x.name) : headD (A ++ [⟨nm, cap, [], []⟩] ++ B) = if headD (A ++ B) = [] ∨ lessS nm (headD (A ++ B)) then nm else headD (A ++ B) := by
  cases A with
  | nil =>
    cases B with
    | nil => rfl
    | cons b B =>
      rw [if_pos (.inr (hB b (.head _)))]
      rfl
  | cons a A =>
    have h1 := hA a (.head _)
    rw [if_neg]
    · rfl
    · rintro (h2 | h2)
      · exact h.ne a (.head _) h2
      · have h3 : lessS a.name a.name := less_trans h1 h2
        rw [lessS, less_irr] at h3
        cases h3
include hG
theorem tfits_ok (x y : ResD) : Pure P 10 [resV x, resV y] (· = .b (fitsD x y)) := by
  refine pure_fn (hG _ AF.f10 rfl) rfl ?_
  ((conv => whnf); repeat' ((first | refine yf rfl ?_ | refine yt rfl ?_ | refine yo rfl ?_ | refine yc rfl ?_ | refine ys rfl ?_ | refine ye rfl ?_ | refine yn rfl ?_ | refine zw ?_ | refine zdt ?_ | refine zdf ?_ | refine znt ?_ | refine znf ?_ | refine zcd ?_ | refine zci ?_ | refine zc3 ?_ | refine SIf.ds (fun _ => ?_) (fun _ => ?_) | refine SIf.ns (fun _ => ?_) (fun _ => ?_) | refine SIf.mk (fun _ => ?_) (fun _ => ?_) | (intro r hr; cases r)) <;> (conv => whnf)))
  all_goals (refine pure_free rfl ?_)
  all_goals first | (simp_all [fitsD]; done) | (simp [fitsD]; omega)
set_option maxHeartbeats 8000000 in
set_option maxRecDepth 20000 in
theorem scoreTie_ok (h6 : okFn P 6 AF.f6 = true) (hb : ACall P 5 [] noG (fun r _ => r = .b true)) (hcmp : ∀ (a b : Str) (h : Heap) (K : V → Heap → Prop), K (.i .i64 (cmpB a b)) h → ACall P 82 [.s a, .s b] h K)
    (cap need : ResD) (names : List Str) (pack : Bool) (_ : cap.ok) (hn : need.ok) (hl : LenOk names) : ACall P 3 [.agg (resR cap), .agg (resR need), .sl none 1 (names.map strR), .b pack] noG (fun r _ => r = .b true) := by
  have hlm : (names.map strR).length = names.length := List.length_map _
  unfold LenOk at hl
  have hp : (tieP need).fit := ⟨⟨Nat.zero_le _, Nat.zero_le _, Nat.zero_le _, ⟨Nat.zero_le _, fun _ h => by cases h⟩, ⟨Nat.zero_le _, fun _ h => by cases h⟩, ⟨Nat.zero_le _, fun _ h => by cases h⟩⟩, hn⟩
  have hsmall : ∀ ns, TieOf cap ns → Small ⟨ns, []⟩ := fun ns h n hm => by rw [h.form n hm]; exact ⟨Nat.zero_le _, Nat.zero_le _⟩
  refine fn_sz (hG _ AF.f3 rfl) rfl ?_
  ((conv => whnf); repeat ((first | refine yf rfl ?_ | refine yt rfl ?_ | refine yo rfl ?_ | refine yc rfl ?_ | refine ys rfl ?_ | refine ye rfl ?_ | refine yn rfl ?_ | refine zw ?_ | refine zdt ?_ | refine zdf ?_ | refine znt ?_ | refine znf ?_ | refine zcd ?_ | refine zci ?_ | refine zc3 ?_) <;> (conv => whnf)))
  refine ⟨hb.frame rfl fun v h' hv => ?_⟩
  subst hv
  refine ⟨rfl, ?_⟩
  ((conv => whnf); repeat ((first | refine yf rfl ?_ | refine yt rfl ?_ | refine yo rfl ?_ | refine yc rfl ?_ | refine ys rfl ?_ | refine ye rfl ?_ | refine yn rfl ?_ | refine zw ?_ | refine zdt ?_ | refine zdf ?_ | refine znt ?_ | refine znf ?_ | refine zcd ?_ | refine zci ?_ | refine zc3 ?_) <;> (conv => whnf)))
  refine SLoopZ.by (fun q fr st => ∃ (i : Nat) (ns : List NodeD) (least : Str), i ≤ names.length ∧ q = names.length - i ∧ TieOf cap ns ∧ least = headD ns ∧
      fr = [(12, .i .i64 i), (11, .s least), (10, .p (.l 2) 0), (5, .p (.l 1) 0), (4, .p (.l 0) 0), (3, .b pack), (2, .sl none 1 (names.map strR))] ∧
      st = ⟨noG, ⟨3, [(2, .cs [.sl none 6 (ns.map nodeR), .sl none 16 (List.map podR [])]), (1, .cs (resR need)), (0, .cs (resR cap))]⟩⟩)
    names.length ⟨_, _, ?_, 0, [], [], Nat.zero_le _, rfl, ⟨Nat.zero_le _, List.Pairwise.nil, (fun n h => by cases h), (fun n h => by cases h)⟩, rfl, rfl, rfl⟩ ?_
  · exact tL [0, 1, 2]
  rintro q fr st ⟨i, ns, least, hi, rfl, hns, hle, rfl, rfl⟩ R hR
  have hnm : (ns.map nodeR).length = ns.length := List.length_map _
  ((conv => whnf); repeat ((first | refine yf rfl ?_ | refine yt rfl ?_ | refine yo rfl ?_ | refine yc rfl ?_ | refine ys rfl ?_ | refine ye rfl ?_ | refine yn rfl ?_ | refine zw ?_ | refine zdt ?_ | refine zdf ?_ | refine znt ?_ | refine znf ?_ | refine zcd ?_ | refine zci ?_ | refine zc3 ?_) <;> (conv => whnf)))
  refine SIf.ds (fun hlt => ?_) (fun hge => ?_)
  · ((conv => whnf); repeat ((first | refine yf rfl ?_ | refine yt rfl ?_ | refine yo rfl ?_ | refine yc rfl ?_ | refine ys rfl ?_ | refine ye rfl ?_ | refine yn rfl ?_ | refine zw ?_ | refine zdt ?_ | refine zdf ?_ | refine znt ?_ | refine znf ?_ | refine zcd ?_ | refine zci ?_ | refine zc3 ?_) <;> (conv => whnf)))
    refine SIf.ds (fun h6' => ?_) (fun h6' => ?_)
    · have hi' : i < names.length := by omega
      have he := List.getElem?_eq_getElem hi'
      generalize names[i] = e at he
      ((conv => whnf); repeat ((first | refine SEx.of (map_get' (by omega) he) ?_ | refine yf rfl ?_ | refine yt rfl ?_ | refine yo rfl ?_ | refine yc rfl ?_ | refine ys rfl ?_ | refine ye rfl ?_ | refine yn rfl ?_ | refine zw ?_ | refine zdt ?_ | refine zdf ?_ | refine znt ?_ | refine znf ?_ | refine zcd ?_ | refine zci ?_ | refine zc3 ?_) <;> (conv => whnf)))
      refine SCall.mk (Pure.str (text_ok h6 e) rfl fun t ht => ?_)
      ((conv => whnf); repeat ((first | refine SChk.d (by simp only [List.length_cons, List.length_nil]; omega) ?_ | refine yf rfl ?_ | refine yt rfl ?_ | refine yo rfl ?_ | refine yc rfl ?_ | refine ys rfl ?_ | refine ye rfl ?_ | refine yn rfl ?_ | refine zw ?_ | refine zdt ?_ | refine zdf ?_ | refine znt ?_ | refine znf ?_ | refine zcd ?_ | refine zci ?_ | refine zc3 ?_) <;> (conv => whnf)))
      have hnl : ([110] ++ t).length ≤ 7 := by simp only [List.length_append, List.length_cons, List.length_nil]; omega
      have hn1 : ([110] ++ t : Str) ≠ [] := by simp
      generalize ([110] ++ t : Str) = nm at hnl hn1
      refine SCall.mk (Pure.any (rname_ok hG nm (Nat.le_trans hnl (by decide))) rfl fun r hr => ?_)
      cases r
      · ((conv => whnf); repeat ((first | refine yf rfl ?_ | refine yt rfl ?_ | refine yo rfl ?_ | refine yc rfl ?_ | refine ys rfl ?_ | refine ye rfl ?_ | refine yn rfl ?_ | refine zw ?_ | refine zdt ?_ | refine zdf ?_ | refine znt ?_ | refine znf ?_ | refine zcd ?_ | refine zci ?_ | refine zc3 ?_) <;> (conv => whnf)))
        refine hR (names.length - (i + 1)) _ _ (by omega) ⟨_, _, ?_, i + 1, ns, least, by omega, rfl, hns, hle, rfl, rfl⟩
        exact tL [0, 1, 2]
      · have hgn := getnode_ok hG ⟨ns, []⟩ nm (Nat.le_trans hns.len (by decide)) (hsmall ns hns)
        cases hfd : (StD.nodes ⟨ns, []⟩).find? (fun p => p.name == nm) with
        | some x =>
          rw [hfd] at hgn
          ((conv => whnf); repeat ((first | refine SCall.app (Pure.go hgn rfl) ?_ | refine yf rfl ?_ | refine yt rfl ?_ | refine yo rfl ?_ | refine yc rfl ?_ | refine ys rfl ?_ | refine ye rfl ?_ | refine yn rfl ?_ | refine zw ?_ | refine zdt ?_ | refine zdf ?_ | refine znt ?_ | refine znf ?_ | refine zcd ?_ | refine zci ?_ | refine zc3 ?_) <;> (conv => whnf)))
          refine hR (names.length - (i + 1)) _ _ (by omega) ⟨_, _, ?_, i + 1, ns, least, by omega, rfl, hns, hle, rfl, rfl⟩
          exact tL [0, 1, 2]
        | none =>
          rw [hfd] at hgn
          have hnew : ∀ x ∈ ns, (x.name == nm) = false := fun x hx => by simpa using List.find?_eq_none.1 hfd x hx
          ((conv => whnf); repeat ((first | refine SCall.app (Pure.go hgn rfl) ?_ | refine yf rfl ?_ | refine yt rfl ?_ | refine yo rfl ?_ | refine yc rfl ?_ | refine ys rfl ?_ | refine ye rfl ?_ | refine yn rfl ?_ | refine zw ?_ | refine zdt ?_ | refine zdf ?_ | refine znt ?_ | refine znf ?_ | refine zcd ?_ | refine zci ?_ | refine zc3 ?_) <;> (conv => whnf)))
          refine SLoopZ.by (fun q fr st => ∃ k : Nat, k ≤ ns.length ∧ q = ns.length - k ∧ (∀ x ∈ ns.take k, lessS x.name nm) ∧
              fr = [(16, .i .i64 k), (13, .s nm), (12, .i .i64 i), (11, .s least), (10, .p (.l 2) 0), (5, .p (.l 1) 0), (4, .p (.l 0) 0), (3, .b pack), (2, .sl none 1 (names.map strR))] ∧
              st = ⟨noG, ⟨3, [(2, .cs [.sl none 6 (ns.map nodeR), .sl none 16 (List.map podR [])]), (1, .cs (resR need)), (0, .cs (resR cap))]⟩⟩)
            ns.length ⟨_, _, ?_, 0, Nat.zero_le _, rfl, (fun x hx => by cases hx), rfl, rfl⟩ ?_
          · exact tL [0, 1, 2]
          rintro q fr st ⟨k, hk, rfl, hless, rfl, rfl⟩ R2 hR2
          obtain ⟨A, hA⟩ : ∃ A, A = ns.take k := ⟨_, rfl⟩
          obtain ⟨B, hB⟩ : ∃ B, B = ns.drop k := ⟨_, rfl⟩
          have hAB : ns = A ++ B := by rw [hA, hB, List.take_append_drop]
          have hT : ((ns.map nodeR).take ((k : Nat) : Int).toNat).drop (Int.toNat 0) = A.map nodeR := by rw [Int.toNat_natCast, ← List.map_take, hA]; rfl
          have hD : (ns.map nodeR).drop ((k : Nat) : Int).toNat = B.map nodeR := by rw [Int.toNat_natCast, ← List.map_drop, hB]
          have hl6 : ns.length < 6 := by omega
          have hAl : A.length ≤ 6 := by rw [hA]; exact Nat.le_trans (List.length_take_le _ _) (by omega)
          have hBl : B.length ≤ 6 := by rw [hB, List.length_drop]; omega
          have hres : (∀ x ∈ ns.drop k, lessS nm x.name) → TieOf cap (A ++ [⟨nm, cap, [], []⟩] ++ B) ∧ headD (A ++ [⟨nm, cap, [], []⟩] ++ B) = if least = [] ∨ lessS nm least then nm else least := fun hB2 => by
            rw [← hB] at hB2
            rw [← hA] at hless
            rw [hle, hAB]
            rw [hAB] at hns hl6
            exact ⟨hns.ins hl6 hn1 hless hB2, head_ins hns hless hB2⟩
          ((conv => whnf); repeat ((first | refine yf rfl ?_ | refine yt rfl ?_ | refine yo rfl ?_ | refine yc rfl ?_ | refine ys rfl ?_ | refine ye rfl ?_ | refine yn rfl ?_ | refine zw ?_ | refine zdt ?_ | refine zdf ?_ | refine znt ?_ | refine znf ?_ | refine zcd ?_ | refine zci ?_ | refine zc3 ?_) <;> (conv => whnf)))
          refine SIf.ds (fun hlt2 => ?_) (fun hge2 => ?_)
          · have hk' : k < ns.length := by omega
            have hf := List.getElem?_eq_getElem hk'
            generalize ns[k] = f at hf
            ((conv => whnf); repeat ((first | refine SEx.of (map_get' (by omega) hf) ?_ | refine yf rfl ?_ | refine yt rfl ?_ | refine yo rfl ?_ | refine yc rfl ?_ | refine ys rfl ?_ | refine ye rfl ?_ | refine yn rfl ?_ | refine zw ?_ | refine zdt ?_ | refine zdf ?_ | refine znt ?_ | refine znf ?_ | refine zcd ?_ | refine zci ?_ | refine zc3 ?_) <;> (conv => whnf)))
            refine SIf.mk (fun hc => ?_) (fun hc => ?_)
            · ((conv => whnf); repeat ((first | refine SEx.of (map_get' (by omega) hf) ?_ | refine yf rfl ?_ | refine yt rfl ?_ | refine yo rfl ?_ | refine yc rfl ?_ | refine ys rfl ?_ | refine ye rfl ?_ | refine yn rfl ?_ | refine zw ?_ | refine zdt ?_ | refine zdf ?_ | refine znt ?_ | refine znf ?_ | refine zcd ?_ | refine zci ?_ | refine zc3 ?_) <;> (conv => whnf)))
              refine hR2 (ns.length - (k + 1)) _ _ (by omega) ⟨_, _, ?_, k + 1, by omega, rfl, all_step hless hf hc, rfl, rfl⟩
              exact tL [0, 1, 2]
            · obtain ⟨hres, hhd⟩ := hres (rest_less hns.so hf (less_tri hc fun h => by have := hnew f (List.mem_of_getElem? hf); simp [h] at this))
              have hndA := nd_tieA A nm cap
              have hnd := nd_tie A B nm cap
              cases A <;> cases B
              all_goals ((conv => whnf); repeat ((first | refine SEx.of (congrArg some hT) ?_ | refine SEx.of (congrArg some hD) ?_ | refine SSame.mk (congrArg (V.sl none 6) hD.symm) ?_ | refine SEx.of (deep_map (R := nodeR) (fun _ => rfl) _) ?_ | refine SChk.mk (by simp only [roomOk, List.length_map, List.length_append, List.length_cons, List.length_nil, decide_eq_true_eq] at *; omega) ?_ | refine SEx.of (map_get' (by omega) hf) ?_ | refine yf rfl ?_ | refine yt rfl ?_ | refine yo rfl ?_ | refine yc rfl ?_ | refine ys rfl ?_ | refine ye rfl ?_ | refine yn rfl ?_ | refine zw ?_ | refine zdt ?_ | refine zdf ?_ | refine znt ?_ | refine znf ?_ | refine zcd ?_ | refine zci ?_ | refine zc3 ?_) <;> (conv => whnf)))
              all_goals
                refine SIf.mk (fun hc1 => ?_) (fun hc1 => ?_)
                · ((conv => whnf); repeat ((first | refine yf rfl ?_ | refine yt rfl ?_ | refine yo rfl ?_ | refine yc rfl ?_ | refine ys rfl ?_ | refine ye rfl ?_ | refine yn rfl ?_ | refine zw ?_ | refine zdt ?_ | refine zdf ?_ | refine znt ?_ | refine znf ?_ | refine zcd ?_ | refine zci ?_ | refine zc3 ?_) <;> (conv => whnf)))
                  refine hR (names.length - (i + 1)) _ _ (by omega) ⟨_, _, ?_, i + 1, _, nm, by omega, rfl, hres, (by rw [hhd, if_pos (.inl (by simpa using hc1))]), rfl, rfl⟩
                  exact tL [0, 1, 2] (hl := by (repeat (first | exact trivial | refine ⟨⟨Nat.le_of_ble_eq_true rfl, rfl, _, rfl, by first | exact ceL_flat rfl | exact ⟨.rows hndA, ce_flat rfl, trivial⟩ | exact ⟨.rows hnd, ce_flat rfl, trivial⟩⟩, ?_⟩)))
                · ((conv => whnf); repeat ((first | refine yf rfl ?_ | refine yt rfl ?_ | refine yo rfl ?_ | refine yc rfl ?_ | refine ys rfl ?_ | refine ye rfl ?_ | refine yn rfl ?_ | refine zw ?_ | refine zdt ?_ | refine zdf ?_ | refine znt ?_ | refine znf ?_ | refine zcd ?_ | refine zci ?_ | refine zc3 ?_) <;> (conv => whnf)))
                  refine SIf.mk (fun hc2 => ?_) (fun hc2 => ?_)
                  · ((conv => whnf); repeat ((first | refine yf rfl ?_ | refine yt rfl ?_ | refine yo rfl ?_ | refine yc rfl ?_ | refine ys rfl ?_ | refine ye rfl ?_ | refine yn rfl ?_ | refine zw ?_ | refine zdt ?_ | refine zdf ?_ | refine znt ?_ | refine znf ?_ | refine zcd ?_ | refine zci ?_ | refine zc3 ?_) <;> (conv => whnf)))
                    refine hR (names.length - (i + 1)) _ _ (by omega) ⟨_, _, ?_, i + 1, _, nm, by omega, rfl, hres, (by rw [hhd, if_pos (.inr hc2)]), rfl, rfl⟩
                    exact tL [0, 1, 2] (hl := by (repeat (first | exact trivial | refine ⟨⟨Nat.le_of_ble_eq_true rfl, rfl, _, rfl, by first | exact ceL_flat rfl | exact ⟨.rows hndA, ce_flat rfl, trivial⟩ | exact ⟨.rows hnd, ce_flat rfl, trivial⟩⟩, ?_⟩)))
                  · ((conv => whnf); repeat ((first | refine yf rfl ?_ | refine yt rfl ?_ | refine yo rfl ?_ | refine yc rfl ?_ | refine ys rfl ?_ | refine ye rfl ?_ | refine yn rfl ?_ | refine zw ?_ | refine zdt ?_ | refine zdf ?_ | refine znt ?_ | refine znf ?_ | refine zcd ?_ | refine zci ?_ | refine zc3 ?_) <;> (conv => whnf)))
                    refine hR (names.length - (i + 1)) _ _ (by omega) ⟨_, _, ?_, i + 1, _, least, by omega, rfl, hres, (by
                      rw [hhd, if_neg]
                      rintro (h | h)
                      · rw [h] at hc1
                        cases hc1
                      · rw [lessS, hc2] at h
                        cases h), rfl, rfl⟩
                    exact tL [0, 1, 2] (hl := by (repeat (first | exact trivial | refine ⟨⟨Nat.le_of_ble_eq_true rfl, rfl, _, rfl, by first | exact ceL_flat rfl | exact ⟨.rows hndA, ce_flat rfl, trivial⟩ | exact ⟨.rows hnd, ce_flat rfl, trivial⟩⟩, ?_⟩)))
          · obtain ⟨hres, hhd⟩ := hres (by rw [List.drop_eq_nil_of_le (by omega)]; intro x hx; cases hx)
            have hndA := nd_tieA A nm cap
            have hnd := nd_tie A B nm cap
            cases A <;> cases B
            all_goals ((conv => whnf); repeat ((first | refine SEx.of (congrArg some hT) ?_ | refine SEx.of (congrArg some hD) ?_ | refine SSame.mk (congrArg (V.sl none 6) hD.symm) ?_ | refine SEx.of (deep_map (R := nodeR) (fun _ => rfl) _) ?_ | refine SChk.mk (by simp only [roomOk, List.length_map, List.length_append, List.length_cons, List.length_nil, decide_eq_true_eq] at *; omega) ?_ | refine yf rfl ?_ | refine yt rfl ?_ | refine yo rfl ?_ | refine yc rfl ?_ | refine ys rfl ?_ | refine ye rfl ?_ | refine yn rfl ?_ | refine zw ?_ | refine zdt ?_ | refine zdf ?_ | refine znt ?_ | refine znf ?_ | refine zcd ?_ | refine zci ?_ | refine zc3 ?_) <;> (conv => whnf)))
            all_goals
              refine SIf.mk (fun hc1 => ?_) (fun hc1 => ?_)
              · ((conv => whnf); repeat ((first | refine yf rfl ?_ | refine yt rfl ?_ | refine yo rfl ?_ | refine yc rfl ?_ | refine ys rfl ?_ | refine ye rfl ?_ | refine yn rfl ?_ | refine zw ?_ | refine zdt ?_ | refine zdf ?_ | refine znt ?_ | refine znf ?_ | refine zcd ?_ | refine zci ?_ | refine zc3 ?_) <;> (conv => whnf)))
                refine hR (names.length - (i + 1)) _ _ (by omega) ⟨_, _, ?_, i + 1, _, nm, by omega, rfl, hres, (by rw [hhd, if_pos (.inl (by simpa using hc1))]), rfl, rfl⟩
                exact tL [0, 1, 2] (hl := by (repeat (first | exact trivial | refine ⟨⟨Nat.le_of_ble_eq_true rfl, rfl, _, rfl, by first | exact ceL_flat rfl | exact ⟨.rows hndA, ce_flat rfl, trivial⟩ | exact ⟨.rows hnd, ce_flat rfl, trivial⟩⟩, ?_⟩)))
              · ((conv => whnf); repeat ((first | refine yf rfl ?_ | refine yt rfl ?_ | refine yo rfl ?_ | refine yc rfl ?_ | refine ys rfl ?_ | refine ye rfl ?_ | refine yn rfl ?_ | refine zw ?_ | refine zdt ?_ | refine zdf ?_ | refine znt ?_ | refine znf ?_ | refine zcd ?_ | refine zci ?_ | refine zc3 ?_) <;> (conv => whnf)))
                refine SIf.mk (fun hc2 => ?_) (fun hc2 => ?_)
                · ((conv => whnf); repeat ((first | refine yf rfl ?_ | refine yt rfl ?_ | refine yo rfl ?_ | refine yc rfl ?_ | refine ys rfl ?_ | refine ye rfl ?_ | refine yn rfl ?_ | refine zw ?_ | refine zdt ?_ | refine zdf ?_ | refine znt ?_ | refine znf ?_ | refine zcd ?_ | refine zci ?_ | refine zc3 ?_) <;> (conv => whnf)))
                  refine hR (names.length - (i + 1)) _ _ (by omega) ⟨_, _, ?_, i + 1, _, nm, by omega, rfl, hres, (by rw [hhd, if_pos (.inr hc2)]), rfl, rfl⟩
                  exact tL [0, 1, 2] (hl := by (repeat (first | exact trivial | refine ⟨⟨Nat.le_of_ble_eq_true rfl, rfl, _, rfl, by first | exact ceL_flat rfl | exact ⟨.rows hndA, ce_flat rfl, trivial⟩ | exact ⟨.rows hnd, ce_flat rfl, trivial⟩⟩, ?_⟩)))
                · ((conv => whnf); repeat ((first | refine yf rfl ?_ | refine yt rfl ?_ | refine yo rfl ?_ | refine yc rfl ?_ | refine ys rfl ?_ | refine ye rfl ?_ | refine yn rfl ?_ | refine zw ?_ | refine zdt ?_ | refine zdf ?_ | refine znt ?_ | refine znf ?_ | refine zcd ?_ | refine zci ?_ | refine zc3 ?_) <;> (conv => whnf)))
                  refine hR (names.length - (i + 1)) _ _ (by omega) ⟨_, _, ?_, i + 1, _, least, by omega, rfl, hres, (by
                    rw [hhd, if_neg]
                    rintro (h | h)
                    · rw [h] at hc1
                      cases hc1
                    · rw [lessS, hc2] at h
                      cases h), rfl, rfl⟩
                  exact tL [0, 1, 2] (hl := by (repeat (first | exact trivial | refine ⟨⟨Nat.le_of_ble_eq_true rfl, rfl, _, rfl, by first | exact ceL_flat rfl | exact ⟨.rows hndA, ce_flat rfl, trivial⟩ | exact ⟨.rows hnd, ce_flat rfl, trivial⟩⟩, ?_⟩)))
    · have hs : StD.ok ⟨ns, []⟩ := ⟨Nat.le_trans hns.len (by decide), Nat.zero_le _, (fun n hm => by rw [hns.form n hm]; exact ⟨Nat.zero_le _, Nat.zero_le _⟩), (fun q h => by cases h), Nat.zero_le _⟩
      have hwl : (whereD ⟨ns, []⟩ (tieP need)).length ≤ 6 := by
        rw [whereD, List.length_map]
        exact Nat.le_trans (List.length_filter_le _ _) hns.len
      have hbst := best_ok hG ⟨ns, []⟩ (tieP need) pack hwl (where_ok hG hcmp ⟨ns, []⟩ (tieP need) hs hp (hsmall ns hns) hns.len hns.so) (fun node => score_all hG ⟨ns, []⟩ (tieP need) node pack hs hp (hsmall ns hns) (fun q h => by cases h))
      have hf := tfits_ok hG need cap
      have ht := tie_best (need := need) pack hns
      rw [← hle] at ht
      generalize bestD ⟨ns, []⟩ (tieP need) pack = bd at hbst ht
      obtain ⟨bx, ba⟩ := bd
      obtain ⟨ht1, ht2⟩ := ht
      rw [ht1] at hbst
      ((conv => whnf); repeat' ((first | refine SCall.app (Pure.call1 hbst (by ((repeat (first | exact trivial | refine ⟨by first | exact ce1_free rfl | exact .inl .nil | exact .inl .tok | exact .inl (.rows (by ((repeat (first | exact .nil | refine .cons (by ((repeat (first | exact .nil | refine .cons (by first | exact .refl _ | exact .nil _) ?_)); first | done | fail)) ?_)); first | done | fail))) | exact .inr (.inl ⟨_, _, rfl, rfl, (by ((repeat (first | exact trivial | refine ⟨by first | exact ce_flat rfl | exact .nil | exact .tok | exact .ren rfl (Nat.le_of_ble_eq_true rfl) | exact .rows (by ((repeat (first | exact .nil | refine .cons (by ((repeat (first | exact .nil | refine .cons (by first | exact .refl _ | exact .nil _) ?_)); first | done | fail)) ?_)); first | done | fail)), ?_⟩)); first | done | fail))⟩), ?_⟩)); first | done | fail)) rfl) ?_ | refine SCall.app (Pure.go hf rfl) ?_ | refine yf rfl ?_ | refine yt rfl ?_ | refine yo rfl ?_ | refine yc rfl ?_ | refine ys rfl ?_ | refine ye rfl ?_ | refine yn rfl ?_ | refine zw ?_ | refine zdt ?_ | refine zdf ?_ | refine znt ?_ | refine znf ?_ | refine zcd ?_ | refine zci ?_ | refine zc3 ?_ | refine SIf.ds (fun _ => ?_) (fun _ => ?_) | refine SIf.ns (fun _ => ?_) (fun _ => ?_) | refine SIf.mk (fun _ => ?_) (fun _ => ?_) | (intro r hr; cases r)) <;> (conv => whnf)))
      all_goals clear hR hbst hf hb hcmp h6 hs hwl hsmall hp hns hnm hlm hle
      all_goals first
        | (exfalso; simp_all [canD]; done)
        | (exfalso; simp_all [canD]; omega)
        | (rename_i hz
           rw [← ht1] at hz
           have h7 : (0 : Int) ≤ bx := by simpa using hz
           rw [ht2 h7]
           simp)
  · have hs : StD.ok ⟨ns, []⟩ := ⟨Nat.le_trans hns.len (by decide), Nat.zero_le _, (fun n hm => by rw [hns.form n hm]; exact ⟨Nat.zero_le _, Nat.zero_le _⟩), (fun q h => by cases h), Nat.zero_le _⟩
    have hwl : (whereD ⟨ns, []⟩ (tieP need)).length ≤ 6 := by
      rw [whereD, List.length_map]
      exact Nat.le_trans (List.length_filter_le _ _) hns.len
    have hbst := best_ok hG ⟨ns, []⟩ (tieP need) pack hwl (where_ok hG hcmp ⟨ns, []⟩ (tieP need) hs hp (hsmall ns hns) hns.len hns.so) (fun node => score_all hG ⟨ns, []⟩ (tieP need) node pack hs hp (hsmall ns hns) (fun q h => by cases h))
    have hf := tfits_ok hG need cap
    have ht := tie_best (need := need) pack hns
    rw [← hle] at ht
    generalize bestD ⟨ns, []⟩ (tieP need) pack = bd at hbst ht
    obtain ⟨bx, ba⟩ := bd
    obtain ⟨ht1, ht2⟩ := ht
    rw [ht1] at hbst
    ((conv => whnf); repeat' ((first | refine SCall.app (Pure.call1 hbst (by ((repeat (first | exact trivial | refine ⟨by first | exact ce1_free rfl | exact .inl .nil | exact .inl .tok | exact .inl (.rows (by ((repeat (first | exact .nil | refine .cons (by ((repeat (first | exact .nil | refine .cons (by first | exact .refl _ | exact .nil _) ?_)); first | done | fail)) ?_)); first | done | fail))) | exact .inr (.inl ⟨_, _, rfl, rfl, (by ((repeat (first | exact trivial | refine ⟨by first | exact ce_flat rfl | exact .nil | exact .tok | exact .ren rfl (Nat.le_of_ble_eq_true rfl) | exact .rows (by ((repeat (first | exact .nil | refine .cons (by ((repeat (first | exact .nil | refine .cons (by first | exact .refl _ | exact .nil _) ?_)); first | done | fail)) ?_)); first | done | fail)), ?_⟩)); first | done | fail))⟩), ?_⟩)); first | done | fail)) rfl) ?_ | refine SCall.app (Pure.go hf rfl) ?_ | refine yf rfl ?_ | refine yt rfl ?_ | refine yo rfl ?_ | refine yc rfl ?_ | refine ys rfl ?_ | refine ye rfl ?_ | refine yn rfl ?_ | refine zw ?_ | refine zdt ?_ | refine zdf ?_ | refine znt ?_ | refine znf ?_ | refine zcd ?_ | refine zci ?_ | refine zc3 ?_ | refine SIf.ds (fun _ => ?_) (fun _ => ?_) | refine SIf.ns (fun _ => ?_) (fun _ => ?_) | refine SIf.mk (fun _ => ?_) (fun _ => ?_) | (intro r hr; cases r)) <;> (conv => whnf)))
    all_goals clear hR hbst hf hb hcmp h6 hs hwl hsmall hp hns hnm hlm hle
    all_goals first
      | (exfalso; simp_all [canD]; done)
      | (exfalso; simp_all [canD]; omega)
      | (rename_i hz
         rw [← ht1] at hz
         have h7 : (0 : Int) ≤ bx := by simpa using hz
         rw [ht2 h7]
         simp)
end
end Go.Eng
