/-
CacheAll: what one knows, whatever is told.
-/
import Derived.Test.YthhlbhmneabhiaaGreatCa5
import Derived.Test.YthhlbhmneabhiaaGreatArgX
set_option linter.unusedVariables false
set_option linter.unusedSimpArgs false
namespace Go.Eng
open Go
structure CopD where
  kind : Int
  from_ : Int
  rev : Int
  es : List EnD
  xs : List EvD
def copR (o : CopD) : List V := [.i .i64 o.kind, .i .i64 o.from_, .i .i64 o.rev, .sl none 3 (o.es.map enR), .sl none 4 (o.xs.map evR)]
structure CopOk (o : CopD) : Prop where
  es : ∀ e ∈ o.es, EnOk e
  xs : ∀ x ∈ o.xs, EnOk x.e
theorem CacheAt.keep2 {h h' : Heap} {a : Nat} {m : Option Nat} {rev : Int} {D : List EnD} (hc : CacheAt h a m rev D) {but : Nat → Prop} (hk : Heap.Keeps but h h') (ha : ¬ but a) (hm : ∀ k, m = some k → ¬ but k) : CacheAt h' a m rev D := by
  obtain ⟨h1, ⟨hm0, h2, h3, h4⟩ | ⟨mk, hm0, h2, h3, h4, h5⟩⟩ := hc
  · exact ⟨Nat.lt_of_lt_of_le h1 hk.1, .inl ⟨hm0, h2, h3, by rw [hk.2 a h1 ha]; exact h4⟩⟩
  · exact ⟨Nat.lt_of_lt_of_le h1 hk.1, .inr ⟨mk, hm0, h2, Nat.lt_of_lt_of_le h3 hk.1, by rw [hk.2 a h1 ha]; exact h4, by rw [hk.2 mk h3 (hm mk hm0)]; exact h5⟩⟩
theorem stepE_mem : ∀ (xs : List EvD) {D : List EnD} {e : EnD}, e ∈ xs.foldl stepE D → e ∈ D ∨ ∃ x ∈ xs, e = x.e
  | [], _, _, h => .inl h
  | x :: r, D, e, h => by
    rcases stepE_mem r h with h1 | ⟨y, hy, rfl⟩
    · unfold stepE at h1
      split at h1
      · exact .inl ((delE_sub _ _).subset h1)
      · rcases putE_mem h1 with rfl | h2
        · exact .inr ⟨x, .head _, rfl⟩
        · exact .inl h2
    · exact .inr ⟨y, .tail _ hy, rfl⟩
theorem lays_rel : ∀ (es : List EnD) {D L : List EnD}, CaRel D L → CaRel (es.foldl putE D) (es.foldl layL L)
  | [], _, _, h => h
  | e :: r, _, _, h => lays_rel r (h.put e)
theorem puts_same (rev : Int) : ∀ (es : List EnD) (S : List EnD), okE rev S es = true → es.foldl putE S = S ++ es
  | [], S, _ => by simp
  | e :: r, S, h => by
    simp only [okE, Bool.and_eq_true, Option.isNone_iff_eq_none] at h
    rw [List.foldl_cons, putE_new h.1.1.1.1, puts_same rev r _ h.2, List.append_assoc]; rfl
theorem list_rel {rev : Int} {es : List EnD} (h : okE rev [] es = true) : CaRel es (es.foldl layL []) := by
  have h1 := lays_rel es CaRel.nil
  rw [puts_same rev es [] h] at h1
  exact h1
section
variable {P : Program} (hG : FnsOk P AF.fns.get)
include hG
set_option maxHeartbeats 16000000 in
set_option maxRecDepth 20000 in
theorem cacheAll_ok (hS : SortedOk P) (hb0 : ACall P 10 [] noG (fun r _ => r = .b true)) (ops : List CopD) (key : Str) (hops : ∀ o ∈ ops, CopOk o) :
    ACall P 6 [.sl none 5 (ops.map copR), .s key] noG (fun r _ => r = .b true) := by
  have hlm : (ops.map copR).length = ops.length := List.length_map _
  refine fn_sv (hG _ AF.f6 rfl) rfl ?_
  ((conv => whnf); repeat ((first | refine yf rfl ?_ | refine yt rfl ?_ | refine yo rfl ?_ | refine yc rfl ?_ | refine ys rfl ?_ | refine ye rfl ?_ | refine yn rfl ?_ | refine zw ?_ | refine zdt ?_ | refine zdf ?_ | refine znt ?_ | refine znf ?_ | refine zcd ?_ | refine zci ?_ | refine zc3 ?_) <;> (conv => whnf)))
  refine ⟨hb0.frame rfl fun v h' hv => ?_⟩
  subst hv
  refine ⟨rfl, ?_⟩
  ((conv => whnf); repeat ((first | refine SCall.app (fn_sv (hG _ _ rfl) rfl) ?_ | refine yf rfl ?_ | refine yt rfl ?_ | refine yo rfl ?_ | refine yc rfl ?_ | refine ys rfl ?_ | refine ye rfl ?_ | refine yn rfl ?_ | refine zw ?_ | refine zdt ?_ | refine zdf ?_ | refine znt ?_ | refine znf ?_ | refine zcd ?_ | refine zci ?_ | refine zc3 ?_) <;> (conv => whnf)))
  refine SLoopV.by (fun q fr st => ∃ (i : Nat) (h lo : Heap) (m : Option Nat) (b : Nat) (rev : Int) (D L : List EnD), q = 40 - i ∧ i ≤ 40 ∧ CacheAt h 0 m rev D ∧ RefAt h b rev L ∧ CaRel D L ∧ b ≠ 0 ∧ m ≠ some b ∧ (∀ e ∈ D, EnOk e) ∧ L.length ≤ 8 * i ∧
      Fr.le [(8, .i .i64 i), (7, .p (.g b) 0), (6, .p (.g 0) 0), (1, .s key), (0, .sl none 5 (ops.map copR))] fr ∧ st = ⟨h, lo⟩)
    40 ⟨0, _, _, none, 1, -1, [], [], rfl, by omega, ⟨by decide, .inl ⟨rfl, rfl, rfl, rfl⟩⟩, ⟨by decide, .nils, .inl ⟨rfl, rfl⟩, rfl⟩, CaRel.nil, by omega, by simp, (fun e h => by cases h), Nat.le_refl _, (by repeat (first | exact Fr.le_nil | refine Fr.le_cons rfl ?_)), rfl⟩ ?_
  rintro q fr st ⟨i, h, lo, m, b, rev, D, L, rfl, hi40, hca, hrf, hrel, hb, hmb, hDok, hLl, hle0, rfl⟩
  refine ⟨_, hle0, fun R hR => ?_⟩
  by_cases hin : i < ops.length ∧ i < 40
  case neg =>
    have h6 : ¬ i < ops.length ∨ (i < ops.length ∧ ¬ i < 40) := by omega
    rcases h6 with h1 | ⟨h1, h2⟩
    all_goals ((conv => whnf); repeat ((first | refine yf rfl ?_ | refine yt rfl ?_ | refine yo rfl ?_ | refine yc rfl ?_ | refine ys rfl ?_ | refine ye rfl ?_ | refine yn rfl ?_ | refine zw ?_ | refine zdt ?_ | refine zdf ?_ | refine znt ?_ | refine znf ?_ | refine zcd ?_ | refine zci ?_ | refine zc3 ?_) <;> (conv => whnf)))
  obtain ⟨hi1, hi2⟩ := hin
  have he := List.getElem?_eq_getElem hi1
  have hok := hops _ (List.getElem_mem hi1)
  generalize ops[i] = o at he hok
  have hel : (o.es.map enR).length = o.es.length := List.length_map _
  have hxl : (o.xs.map evR).length = o.xs.length := List.length_map _
  obtain ⟨Q1, hQ1⟩ : ∃ Q, Q = min o.es.length 8 := ⟨_, rfl⟩
  obtain ⟨Q2, hQ2⟩ : ∃ Q, Q = min o.xs.length 8 := ⟨_, rfl⟩
  obtain ⟨T1, hT1⟩ : ∃ T, T = o.es.take Q1 := ⟨_, rfl⟩
  obtain ⟨T2, hT2⟩ : ∃ T, T = o.xs.take Q2 := ⟨_, rfl⟩
  have hT1l : T1.length ≤ 8 := by rw [hT1]; simp; omega
  have hT2l : T2.length ≤ 8 := by rw [hT2]; simp; omega
  have hT1k : ∀ e ∈ T1, EnOk e := fun e h => hok.es e (List.mem_of_mem_take (by rw [← hT1]; exact h))
  have hT2k : ∀ x ∈ T2, EnOk x.e := fun e h => hok.xs e (List.mem_of_mem_take (by rw [← hT2]; exact h))
  have hN1 : List.drop (Int.toNat 0) (List.take (Q1 : Int).toNat (List.map enR o.es)) = T1.map enR := by rw [hT1, List.map_take]; rfl
  have hN2 : List.drop (Int.toNat 0) (List.take (Q2 : Int).toNat (List.map evR o.xs)) = T2.map evR := by rw [hT2, List.map_take]; rfl
  have a2 : ∀ o o2, ((lo.push o).set lo.next o2).get lo.next = some o2 := fun o o2 => Heap.get_set_self (Heap.get_push_self _ _)
  have a3 : ∀ o o2 o3, (((lo.push o).set lo.next o2).set lo.next o3).get lo.next = some o3 := fun o o2 o3 => Heap.get_set_self (a2 _ _)
  have a4 : ∀ o o2 o3 o4, ((((lo.push o).set lo.next o2).set lo.next o3).set lo.next o4).get lo.next = some o4 := fun o o2 o3 o4 => Heap.get_set_self (a3 _ _ _)
  have a5 : ∀ o o2 o3 o4 p q, ((((((lo.push o).set lo.next o2).set lo.next o3).set lo.next o4).push p).set (lo.next + 1) q).get (lo.next + 1) = some q := fun o o2 o3 o4 p q => Heap.get_set_self (Heap.get_push_self _ _)
  have a6 : ∀ o o2 o3 o4 p q r s, ((((((((lo.push o).set lo.next o2).set lo.next o3).set lo.next o4).push p).set (lo.next + 1) q).push r).set (lo.next + 1 + 1) s).get (lo.next + 1) = some q := fun o o2 o3 o4 p q r s => Heap.gs (by omega) (Heap.gp (by show lo.next + 1 ≠ lo.next + 1 + 1; omega) (a5 _ _ _ _ _ _))
  have a7 : ∀ o o2 o3 o4 p q r s, ((((((((lo.push o).set lo.next o2).set lo.next o3).set lo.next o4).push p).set (lo.next + 1) q).push r).set (lo.next + 1 + 1) s).get (lo.next + 1 + 1) = some s := fun o o2 o3 o4 p q r s => Heap.get_set_self (Heap.get_push_self _ _)
  by_cases k0 : o.kind = 0
  · cases hbk : (decide (0 ≤ o.rev) && okE o.rev [] T1)
    · have hcl := fun (K : V → Heap → Prop) (hK : ∀ h', CacheAt h' 0 m rev D → Heap.Keeps (fun _ => False) h h' → K (.b false) h') => clist_at (K := K) hG hca T1 hT1k (by omega) o.rev (fun _ => hK) (fun hc => by rw [hbk] at hc; cases hc)
      ((conv => whnf); repeat ((first | refine SIf.dt (show (i : Int) < (ops.map copR).length by omega) ?_ | refine SIf.dt (show (i : Int) < 40 by omega) ?_ | refine SOpt.of (mn2 (z := (Q1 : Int)) (by rw [hel]; split <;> omega)) ?_ | refine SOpt.of (mn2 (z := (Q2 : Int)) (by rw [hxl]; split <;> omega)) ?_ | refine SIf.dt k0 ?_ | refine SEx.of (map_get' (by omega) he) ?_ | refine SEx.of (a2 _ _) ?_ | refine SEx.of (a3 _ _ _) ?_ | refine SEx.of (a4 _ _ _ _) ?_ | refine SEx.of (Heap.get_push_self _ _) ?_ | refine yf rfl ?_ | refine yt rfl ?_ | refine yo rfl ?_ | refine yc rfl ?_ | refine ys rfl ?_ | refine ye rfl ?_ | refine yn rfl ?_ | refine zw ?_ | refine zdt ?_ | refine zdf ?_ | refine znt ?_ | refine znf ?_ | refine zcd ?_ | refine zci ?_ | refine zc3 ?_) <;> (conv => whnf)))
      rw [hN1]
      ((conv => whnf); repeat ((first | refine SCall.app (hcl _) ?_ | refine SEx.of (map_get' (by omega) he) ?_ | refine SEx.of (a2 _ _) ?_ | refine SEx.of (a3 _ _ _) ?_ | refine SEx.of (a4 _ _ _ _) ?_ | refine SEx.of (Heap.get_push_self _ _) ?_ | refine yf rfl ?_ | refine yt rfl ?_ | refine yo rfl ?_ | refine yc rfl ?_ | refine ys rfl ?_ | refine ye rfl ?_ | refine yn rfl ?_ | refine zw ?_ | refine zdt ?_ | refine zdf ?_ | refine znt ?_ | refine znf ?_ | refine zcd ?_ | refine zci ?_ | refine zc3 ?_) <;> (conv => whnf)))
      intro hX cX hkX
      have rX : RefAt hX b rev L := hrf.keep hkX (fun x => x)
      have relX := hrel
      have hbX := hb
      have hmX := hmb
      have okX := hDok
      have lenX : L.length ≤ 8 * (i + 1) := by omega

      have hrl := fun (K : V → Heap → Prop) (hK : K (.b false) hX) => rlist_at (K := K) hG rX T1 (by omega) o.rev (fun _ => hK) (fun hc => by rw [hbk] at hc; cases hc)
      ((conv => whnf); repeat ((first | refine SCall.app (hrl _) ?_ | refine SEx.of (map_get' (by omega) he) ?_ | refine SEx.of (a2 _ _) ?_ | refine SEx.of (a3 _ _ _) ?_ | refine SEx.of (a4 _ _ _ _) ?_ | refine SEx.of (Heap.get_push_self _ _) ?_ | refine yf rfl ?_ | refine yt rfl ?_ | refine yo rfl ?_ | refine yc rfl ?_ | refine ys rfl ?_ | refine ye rfl ?_ | refine yn rfl ?_ | refine zw ?_ | refine zdt ?_ | refine zdf ?_ | refine znt ?_ | refine znf ?_ | refine zcd ?_ | refine zci ?_ | refine zc3 ?_) <;> (conv => whnf)))
      obtain ⟨hb1, lw, hlw, hgw⟩ := rX
      have rX : RefAt hX b rev L := ⟨hb1, lw, hlw, hgw⟩
      have hlenD : D.length ≤ 100000 := by have := relX.len; omega
      have hrev := fun K => crev_at (K := K) hG cX
      have hall := fun (K : V → Heap → Prop) (hK : ∀ lv h', EnsV lv L → Heap.Keeps (fun _ => False) hX h' → K lv h') => call_at (K := K) hG hS cX okX hlenD relX hK
      cases hg : getE D key with
      | none =>
        have hg2 : getE L key = none := by rw [← relX.fnd]; exact hg
        have hget := fun (K : V → Heap → Prop) (hK : K (.tup [.agg zeroE, .b false]) hX) => cget_at (K := K) hG cX okX key (fun _ => hK) (fun e he => by rw [hg] at he; cases he)
        have hget2 := fun (K : V → Heap → Prop) (hK : K (.tup [.agg zeroE, .b false]) hX) => rget_at (K := K) hG rX (by omega) key (fun _ => hK) (fun e he => by rw [hg2] at he; cases he)
        have heq := fun K => eqEn_zero (K := K) hG (h := hX)
        rcases hlw with ⟨rfl, hw0⟩ | rfl
        all_goals
          ((conv => whnf); repeat ((first | refine SCall.app (hget _) ?_ | refine SCall.app (hget2 _) ?_ | refine SCall.app (hrev _) ?_ | refine SIf.ff (show (!decide (rev = rev)) = false by simp) ?_ | refine SCall.app (heq _) ?_ | refine SCall.app (hall _) ?_ | refine SEx.of (hgw) ?_ | refine SEx.of (a5 _ _ _ _ _ _) ?_ | refine SEx.of (a6 _ _ _ _ _ _ _ _) ?_ | refine SEx.of (a7 _ _ _ _ _ _ _ _) ?_ | refine SEx.of (Heap.get_push_self _ _) ?_ | refine yf rfl ?_ | refine yt rfl ?_ | refine yo rfl ?_ | refine yc rfl ?_ | refine ys rfl ?_ | refine ye rfl ?_ | refine yn rfl ?_ | refine zw ?_ | refine zdt ?_ | refine zdf ?_ | refine znt ?_ | refine znf ?_ | refine zcd ?_ | refine zci ?_ | refine zc3 ?_) <;> (conv => whnf)))
          intro lv h3 hlv hk3
          obtain ⟨_, lw3, hlw3, hgw3⟩ := rX.keep hk3 (fun x => x)
          have hgw4 := (hk3.2 b hb1 (fun x => x)).trans hgw
          have heqs := fun (lw : V) (hlw : EnsV lw L) (K : V → Heap → Prop) => eqEns_at (K := K) hG (h := h3) hlv hlw (by omega)
          rcases hlv with ⟨rfl, hlv⟩ | rfl
          all_goals
            ((conv => whnf); repeat ((first | refine SCall.app (heqs .nils (.inl ⟨rfl, hw0⟩) _) ?_ | refine SCall.app (heqs _ (.inr rfl) _) ?_ | refine SWrap.w64 (by omega) (by omega) ?_ | refine SEx.of (hgw4) ?_ | refine SEx.of (a5 _ _ _ _ _ _) ?_ | refine SEx.of (a6 _ _ _ _ _ _ _ _) ?_ | refine SEx.of (a7 _ _ _ _ _ _ _ _) ?_ | refine SEx.of (Heap.get_push_self _ _) ?_ | refine yf rfl ?_ | refine yt rfl ?_ | refine yo rfl ?_ | refine yc rfl ?_ | refine ys rfl ?_ | refine ye rfl ?_ | refine yn rfl ?_ | refine zw ?_ | refine zdt ?_ | refine zdf ?_ | refine znt ?_ | refine znf ?_ | refine zcd ?_ | refine zci ?_ | refine zc3 ?_) <;> (conv => whnf)))
            exact hR (40 - (i + 1)) _ _ (by omega) ⟨i + 1, h3, _, m, b, rev, D, L, rfl, by omega, cX.keep hk3, rX.keep hk3 (fun x => x), relX, hbX, hmX, okX, lenX, (by repeat (first | exact Fr.le_nil | refine Fr.le_cons rfl ?_)), rfl⟩
      | some e =>
        have hg2 : getE L key = some e := by rw [← relX.fnd]; exact hg
        have hget := fun (K : V → Heap → Prop) (hK : K (.tup [.agg (enR e), .b true]) hX) => cget_at (K := K) hG cX okX key (fun hn => by rw [hg] at hn; cases hn) (fun e' he => by rw [hg] at he; cases he; exact hK)
        have hget2 := fun (K : V → Heap → Prop) (hK : K (.tup [.agg (enR e), .b true]) hX) => rget_at (K := K) hG rX (by omega) key (fun hn => by rw [hg2] at hn; cases hn) (fun e' he => by rw [hg2] at he; cases he; exact hK)
        have heq := fun K => eqEn_at (K := K) hG (h := hX) e
        rcases hlw with ⟨rfl, hw0⟩ | rfl
        all_goals
          ((conv => whnf); repeat ((first | refine SCall.app (hget _) ?_ | refine SCall.app (hget2 _) ?_ | refine SCall.app (hrev _) ?_ | refine SIf.ff (show (!decide (rev = rev)) = false by simp) ?_ | refine SCall.app (heq _) ?_ | refine SCall.app (hall _) ?_ | refine SEx.of (hgw) ?_ | refine SEx.of (a5 _ _ _ _ _ _) ?_ | refine SEx.of (a6 _ _ _ _ _ _ _ _) ?_ | refine SEx.of (a7 _ _ _ _ _ _ _ _) ?_ | refine SEx.of (Heap.get_push_self _ _) ?_ | refine yf rfl ?_ | refine yt rfl ?_ | refine yo rfl ?_ | refine yc rfl ?_ | refine ys rfl ?_ | refine ye rfl ?_ | refine yn rfl ?_ | refine zw ?_ | refine zdt ?_ | refine zdf ?_ | refine znt ?_ | refine znf ?_ | refine zcd ?_ | refine zci ?_ | refine zc3 ?_) <;> (conv => whnf)))
          intro lv h3 hlv hk3
          obtain ⟨_, lw3, hlw3, hgw3⟩ := rX.keep hk3 (fun x => x)
          have hgw4 := (hk3.2 b hb1 (fun x => x)).trans hgw
          have heqs := fun (lw : V) (hlw : EnsV lw L) (K : V → Heap → Prop) => eqEns_at (K := K) hG (h := h3) hlv hlw (by omega)
          rcases hlv with ⟨rfl, hlv⟩ | rfl
          all_goals
            ((conv => whnf); repeat ((first | refine SCall.app (heqs .nils (.inl ⟨rfl, hw0⟩) _) ?_ | refine SCall.app (heqs _ (.inr rfl) _) ?_ | refine SWrap.w64 (by omega) (by omega) ?_ | refine SEx.of (hgw4) ?_ | refine SEx.of (a5 _ _ _ _ _ _) ?_ | refine SEx.of (a6 _ _ _ _ _ _ _ _) ?_ | refine SEx.of (a7 _ _ _ _ _ _ _ _) ?_ | refine SEx.of (Heap.get_push_self _ _) ?_ | refine yf rfl ?_ | refine yt rfl ?_ | refine yo rfl ?_ | refine yc rfl ?_ | refine ys rfl ?_ | refine ye rfl ?_ | refine yn rfl ?_ | refine zw ?_ | refine zdt ?_ | refine zdf ?_ | refine znt ?_ | refine znf ?_ | refine zcd ?_ | refine zci ?_ | refine zc3 ?_) <;> (conv => whnf)))
            exact hR (40 - (i + 1)) _ _ (by omega) ⟨i + 1, h3, _, m, b, rev, D, L, rfl, by omega, cX.keep hk3, rX.keep hk3 (fun x => x), relX, hbX, hmX, okX, lenX, (by repeat (first | exact Fr.le_nil | refine Fr.le_cons rfl ?_)), rfl⟩

    · have hcl := fun (K : V → Heap → Prop) (hK : ∀ h' k, h.next ≤ k → CacheAt h' 0 (some k) o.rev T1 → Heap.Keeps (fun n => n = 0) h h' → K (.b true) h') => clist_at (K := K) hG hca T1 hT1k (by omega) o.rev (fun hc => by rw [hbk] at hc; cases hc) (fun _ => hK)
      ((conv => whnf); repeat ((first | refine SIf.dt (show (i : Int) < (ops.map copR).length by omega) ?_ | refine SIf.dt (show (i : Int) < 40 by omega) ?_ | refine SOpt.of (mn2 (z := (Q1 : Int)) (by rw [hel]; split <;> omega)) ?_ | refine SOpt.of (mn2 (z := (Q2 : Int)) (by rw [hxl]; split <;> omega)) ?_ | refine SIf.dt k0 ?_ | refine SEx.of (map_get' (by omega) he) ?_ | refine SEx.of (a2 _ _) ?_ | refine SEx.of (a3 _ _ _) ?_ | refine SEx.of (a4 _ _ _ _) ?_ | refine SEx.of (Heap.get_push_self _ _) ?_ | refine yf rfl ?_ | refine yt rfl ?_ | refine yo rfl ?_ | refine yc rfl ?_ | refine ys rfl ?_ | refine ye rfl ?_ | refine yn rfl ?_ | refine zw ?_ | refine zdt ?_ | refine zdf ?_ | refine znt ?_ | refine znf ?_ | refine zcd ?_ | refine zci ?_ | refine zc3 ?_) <;> (conv => whnf)))
      rw [hN1]
      ((conv => whnf); repeat ((first | refine SCall.app (hcl _) ?_ | refine SEx.of (map_get' (by omega) he) ?_ | refine SEx.of (a2 _ _) ?_ | refine SEx.of (a3 _ _ _) ?_ | refine SEx.of (a4 _ _ _ _) ?_ | refine SEx.of (Heap.get_push_self _ _) ?_ | refine yf rfl ?_ | refine yt rfl ?_ | refine yo rfl ?_ | refine yc rfl ?_ | refine ys rfl ?_ | refine ye rfl ?_ | refine yn rfl ?_ | refine zw ?_ | refine zdt ?_ | refine zdf ?_ | refine znt ?_ | refine znf ?_ | refine zcd ?_ | refine zci ?_ | refine zc3 ?_) <;> (conv => whnf)))
      intro h1 k hk1 c1 hk2
      have r1 : RefAt h1 b rev L := hrf.keep hk2 hb
      have hrl := fun (K : V → Heap → Prop) (hK : ∀ h', RefAt h' b o.rev (T1.foldl layL []) → Heap.Keeps (fun n => n = b) h1 h' → K (.b true) h') => rlist_at (K := K) hG r1 T1 (by omega) o.rev (fun hc => by rw [hbk] at hc; cases hc) (fun _ => hK)
      ((conv => whnf); repeat ((first | refine SCall.app (hrl _) ?_ | refine SEx.of (map_get' (by omega) he) ?_ | refine SEx.of (a2 _ _) ?_ | refine SEx.of (a3 _ _ _) ?_ | refine SEx.of (a4 _ _ _ _) ?_ | refine SEx.of (Heap.get_push_self _ _) ?_ | refine yf rfl ?_ | refine yt rfl ?_ | refine yo rfl ?_ | refine yc rfl ?_ | refine ys rfl ?_ | refine ye rfl ?_ | refine yn rfl ?_ | refine zw ?_ | refine zdt ?_ | refine zdf ?_ | refine znt ?_ | refine znf ?_ | refine zcd ?_ | refine zci ?_ | refine zc3 ?_) <;> (conv => whnf)))
      intro hX rX hkX
      have hbk' : okE o.rev [] T1 = true := by simp only [Bool.and_eq_true] at hbk; exact hbk.2
      have hkb : k ≠ b := by have := hrf.1; omega
      have cX : CacheAt hX 0 (some k) o.rev T1 := c1.keep2 hkX (Ne.symm hb) (fun j hj => by cases hj; exact hkb)
      have relX := list_rel hbk'
      have hbX := hb
      have hmX : (some k : Option Nat) ≠ some b := fun hc => hkb (Option.some.inj hc)
      have okX := hT1k
      have lenX : (T1.foldl layL []).length ≤ 8 * (i + 1) := by have := foldl_lay_len T1 []; simp at this; omega
      obtain ⟨hb1, lw, hlw, hgw⟩ := rX
      have rX : RefAt hX b (o.rev) (T1.foldl layL []) := ⟨hb1, lw, hlw, hgw⟩
      have hlenD : T1.length ≤ 100000 := by have := relX.len; omega
      have hrev := fun K => crev_at (K := K) hG cX
      have hall := fun (K : V → Heap → Prop) (hK : ∀ lv h', EnsV lv (T1.foldl layL []) → Heap.Keeps (fun _ => False) hX h' → K lv h') => call_at (K := K) hG hS cX okX hlenD relX hK
      cases hg : getE T1 key with
      | none =>
        have hg2 : getE (T1.foldl layL []) key = none := by rw [← relX.fnd]; exact hg
        have hget := fun (K : V → Heap → Prop) (hK : K (.tup [.agg zeroE, .b false]) hX) => cget_at (K := K) hG cX okX key (fun _ => hK) (fun e he => by rw [hg] at he; cases he)
        have hget2 := fun (K : V → Heap → Prop) (hK : K (.tup [.agg zeroE, .b false]) hX) => rget_at (K := K) hG rX (by omega) key (fun _ => hK) (fun e he => by rw [hg2] at he; cases he)
        have heq := fun K => eqEn_zero (K := K) hG (h := hX)
        rcases hlw with ⟨rfl, hw0⟩ | rfl
        all_goals
          ((conv => whnf); repeat ((first | refine SCall.app (hget _) ?_ | refine SCall.app (hget2 _) ?_ | refine SCall.app (hrev _) ?_ | refine SIf.ff (show (!decide ((o.rev) = (o.rev))) = false by simp) ?_ | refine SCall.app (heq _) ?_ | refine SCall.app (hall _) ?_ | refine SEx.of (hgw) ?_ | refine SEx.of (a5 _ _ _ _ _ _) ?_ | refine SEx.of (a6 _ _ _ _ _ _ _ _) ?_ | refine SEx.of (a7 _ _ _ _ _ _ _ _) ?_ | refine SEx.of (Heap.get_push_self _ _) ?_ | refine yf rfl ?_ | refine yt rfl ?_ | refine yo rfl ?_ | refine yc rfl ?_ | refine ys rfl ?_ | refine ye rfl ?_ | refine yn rfl ?_ | refine zw ?_ | refine zdt ?_ | refine zdf ?_ | refine znt ?_ | refine znf ?_ | refine zcd ?_ | refine zci ?_ | refine zc3 ?_) <;> (conv => whnf)))
          intro lv h3 hlv hk3
          obtain ⟨_, lw3, hlw3, hgw3⟩ := rX.keep hk3 (fun x => x)
          have hgw4 := (hk3.2 b hb1 (fun x => x)).trans hgw
          have heqs := fun (lw : V) (hlw : EnsV lw (T1.foldl layL [])) (K : V → Heap → Prop) => eqEns_at (K := K) hG (h := h3) hlv hlw (by omega)
          rcases hlv with ⟨rfl, hlv⟩ | rfl
          all_goals
            ((conv => whnf); repeat ((first | refine SCall.app (heqs .nils (.inl ⟨rfl, hw0⟩) _) ?_ | refine SCall.app (heqs _ (.inr rfl) _) ?_ | refine SWrap.w64 (by omega) (by omega) ?_ | refine SEx.of (hgw4) ?_ | refine SEx.of (a5 _ _ _ _ _ _) ?_ | refine SEx.of (a6 _ _ _ _ _ _ _ _) ?_ | refine SEx.of (a7 _ _ _ _ _ _ _ _) ?_ | refine SEx.of (Heap.get_push_self _ _) ?_ | refine yf rfl ?_ | refine yt rfl ?_ | refine yo rfl ?_ | refine yc rfl ?_ | refine ys rfl ?_ | refine ye rfl ?_ | refine yn rfl ?_ | refine zw ?_ | refine zdt ?_ | refine zdf ?_ | refine znt ?_ | refine znf ?_ | refine zcd ?_ | refine zci ?_ | refine zc3 ?_) <;> (conv => whnf)))
            exact hR (40 - (i + 1)) _ _ (by omega) ⟨i + 1, h3, _, (some k), b, (o.rev), T1, (T1.foldl layL []), rfl, by omega, cX.keep hk3, rX.keep hk3 (fun x => x), relX, hbX, hmX, okX, lenX, (by repeat (first | exact Fr.le_nil | refine Fr.le_cons rfl ?_)), rfl⟩
      | some e =>
        have hg2 : getE (T1.foldl layL []) key = some e := by rw [← relX.fnd]; exact hg
        have hget := fun (K : V → Heap → Prop) (hK : K (.tup [.agg (enR e), .b true]) hX) => cget_at (K := K) hG cX okX key (fun hn => by rw [hg] at hn; cases hn) (fun e' he => by rw [hg] at he; cases he; exact hK)
        have hget2 := fun (K : V → Heap → Prop) (hK : K (.tup [.agg (enR e), .b true]) hX) => rget_at (K := K) hG rX (by omega) key (fun hn => by rw [hg2] at hn; cases hn) (fun e' he => by rw [hg2] at he; cases he; exact hK)
        have heq := fun K => eqEn_at (K := K) hG (h := hX) e
        rcases hlw with ⟨rfl, hw0⟩ | rfl
        all_goals
          ((conv => whnf); repeat ((first | refine SCall.app (hget _) ?_ | refine SCall.app (hget2 _) ?_ | refine SCall.app (hrev _) ?_ | refine SIf.ff (show (!decide ((o.rev) = (o.rev))) = false by simp) ?_ | refine SCall.app (heq _) ?_ | refine SCall.app (hall _) ?_ | refine SEx.of (hgw) ?_ | refine SEx.of (a5 _ _ _ _ _ _) ?_ | refine SEx.of (a6 _ _ _ _ _ _ _ _) ?_ | refine SEx.of (a7 _ _ _ _ _ _ _ _) ?_ | refine SEx.of (Heap.get_push_self _ _) ?_ | refine yf rfl ?_ | refine yt rfl ?_ | refine yo rfl ?_ | refine yc rfl ?_ | refine ys rfl ?_ | refine ye rfl ?_ | refine yn rfl ?_ | refine zw ?_ | refine zdt ?_ | refine zdf ?_ | refine znt ?_ | refine znf ?_ | refine zcd ?_ | refine zci ?_ | refine zc3 ?_) <;> (conv => whnf)))
          intro lv h3 hlv hk3
          obtain ⟨_, lw3, hlw3, hgw3⟩ := rX.keep hk3 (fun x => x)
          have hgw4 := (hk3.2 b hb1 (fun x => x)).trans hgw
          have heqs := fun (lw : V) (hlw : EnsV lw (T1.foldl layL [])) (K : V → Heap → Prop) => eqEns_at (K := K) hG (h := h3) hlv hlw (by omega)
          rcases hlv with ⟨rfl, hlv⟩ | rfl
          all_goals
            ((conv => whnf); repeat ((first | refine SCall.app (heqs .nils (.inl ⟨rfl, hw0⟩) _) ?_ | refine SCall.app (heqs _ (.inr rfl) _) ?_ | refine SWrap.w64 (by omega) (by omega) ?_ | refine SEx.of (hgw4) ?_ | refine SEx.of (a5 _ _ _ _ _ _) ?_ | refine SEx.of (a6 _ _ _ _ _ _ _ _) ?_ | refine SEx.of (a7 _ _ _ _ _ _ _ _) ?_ | refine SEx.of (Heap.get_push_self _ _) ?_ | refine yf rfl ?_ | refine yt rfl ?_ | refine yo rfl ?_ | refine yc rfl ?_ | refine ys rfl ?_ | refine ye rfl ?_ | refine yn rfl ?_ | refine zw ?_ | refine zdt ?_ | refine zdf ?_ | refine znt ?_ | refine znf ?_ | refine zcd ?_ | refine zci ?_ | refine zc3 ?_) <;> (conv => whnf)))
            exact hR (40 - (i + 1)) _ _ (by omega) ⟨i + 1, h3, _, (some k), b, (o.rev), T1, (T1.foldl layL []), rfl, by omega, cX.keep hk3, rX.keep hk3 (fun x => x), relX, hbX, hmX, okX, lenX, (by repeat (first | exact Fr.le_nil | refine Fr.le_cons rfl ?_)), rfl⟩

  · by_cases k1 : o.kind = 1
    · have hF : ∀ (F : Int), (∀ (K : V → Heap → Prop), okAp rev F o.rev T2 = false → K (.b false) h → ACall P 13 [.p (.g 0) 0, .i .i64 F, .i .i64 o.rev, .sl none 4 (T2.map evR)] h K) ∧
          (∀ (K : V → Heap → Prop), okAp rev F o.rev T2 = true → (∀ h', CacheAt h' 0 m o.rev (T2.foldl stepE D) → Heap.Keeps (fun n => n = 0 ∨ m = some n) h h' → K (.b true) h') → ACall P 13 [.p (.g 0) 0, .i .i64 F, .i .i64 o.rev, .sl none 4 (T2.map evR)] h K) :=
        fun F => ⟨fun K hf hK => capply_at hG hca T2 hT2k (by omega) F o.rev (fun _ => hK) (fun hc => by rw [hf] at hc; cases hc), fun K ht hK => capply_at hG hca T2 hT2k (by omega) F o.rev (fun hc => by rw [ht] at hc; cases hc) (fun _ => hK)⟩
      have hlenE := foldl_step_len T2 L
      obtain ⟨hbn, lw0, hlw0, hgw0⟩ := hrf
      have hrf : RefAt h b rev L := ⟨hbn, lw0, hlw0, hgw0⟩
      by_cases hpar : ((i : Nat) : Int).tmod 2 = 0
      · cases hap : okAp rev rev o.rev T2
        · have hca1 := fun K => (hF rev).1 K hap
          have hX := h
          have hra := fun (K : V → Heap → Prop) (hK : K (.b false) h) => rapply_at (K := K) hG hrf (by omega) T2 (by omega) rev o.rev (fun _ => hK) (fun hc => by rw [hap] at hc; cases hc)
          rcases hlw0 with ⟨rfl, hw1⟩ | rfl
          all_goals
            ((conv => whnf); repeat ((first | refine SIf.dt (show (i : Int) < (ops.map copR).length by omega) ?_ | refine SIf.dt (show (i : Int) < 40 by omega) ?_ | refine SOpt.of (mn2 (z := (Q1 : Int)) (by rw [hel]; split <;> omega)) ?_ | refine SOpt.of (mn2 (z := (Q2 : Int)) (by rw [hxl]; split <;> omega)) ?_ | refine SIf.df k0 ?_ | refine SIf.dt k1 ?_ | refine SIf.dt hpar ?_ | refine SEx.of (map_get' (by omega) he) ?_ | refine SEx.of (a2 _ _) ?_ | refine SEx.of (a3 _ _ _) ?_ | refine SEx.of (a4 _ _ _ _) ?_ | refine SEx.of (Heap.get_push_self _ _) ?_ | refine SEx.of (hgw0) ?_ | refine yf rfl ?_ | refine yt rfl ?_ | refine yo rfl ?_ | refine yc rfl ?_ | refine ys rfl ?_ | refine ye rfl ?_ | refine yn rfl ?_ | refine zw ?_ | refine zdt ?_ | refine zdf ?_ | refine znt ?_ | refine znf ?_ | refine zcd ?_ | refine zci ?_ | refine zc3 ?_) <;> (conv => whnf)))
            rw [hN2]
            ((conv => whnf); repeat ((first | refine SCall.app (hca1 _) ?_ | refine SCall.app (hra _) ?_ | refine SEx.of (map_get' (by omega) he) ?_ | refine SEx.of (a2 _ _) ?_ | refine SEx.of (a3 _ _ _) ?_ | refine SEx.of (a4 _ _ _ _) ?_ | refine SEx.of (Heap.get_push_self _ _) ?_ | refine SEx.of (hgw0) ?_ | refine yf rfl ?_ | refine yt rfl ?_ | refine yo rfl ?_ | refine yc rfl ?_ | refine ys rfl ?_ | refine ye rfl ?_ | refine yn rfl ?_ | refine zw ?_ | refine zdt ?_ | refine zdf ?_ | refine znt ?_ | refine znf ?_ | refine zcd ?_ | refine zci ?_ | refine zc3 ?_) <;> (conv => whnf)))
            have cX := hca
            have rX := hrf
            have relX := hrel
            have hbX := hb
            have hmX := hmb
            have okX := hDok
            have lenX : L.length ≤ 8 * (i + 1) := by omega
            obtain ⟨hb1, lw, hlw, hgw⟩ := rX
            have rX : RefAt h b rev L := ⟨hb1, lw, hlw, hgw⟩
            have hlenD : D.length ≤ 100000 := by have := relX.len; omega
            have hrev := fun K => crev_at (K := K) hG cX
            have hall := fun (K : V → Heap → Prop) (hK : ∀ lv h', EnsV lv L → Heap.Keeps (fun _ => False) h h' → K lv h') => call_at (K := K) hG hS cX okX hlenD relX hK
            cases hg : getE D key with
            | none =>
              have hg2 : getE L key = none := by rw [← relX.fnd]; exact hg
              have hget := fun (K : V → Heap → Prop) (hK : K (.tup [.agg zeroE, .b false]) h) => cget_at (K := K) hG cX okX key (fun _ => hK) (fun e he => by rw [hg] at he; cases he)
              have hget2 := fun (K : V → Heap → Prop) (hK : K (.tup [.agg zeroE, .b false]) h) => rget_at (K := K) hG rX (by omega) key (fun _ => hK) (fun e he => by rw [hg2] at he; cases he)
              have heq := fun K => eqEn_zero (K := K) hG (h := h)
              rcases hlw with ⟨rfl, hw0⟩ | rfl
              all_goals
                ((conv => whnf); repeat ((first | refine SCall.app (hget _) ?_ | refine SCall.app (hget2 _) ?_ | refine SCall.app (hrev _) ?_ | refine SIf.ff (show (!decide (rev = rev)) = false by simp) ?_ | refine SCall.app (heq _) ?_ | refine SCall.app (hall _) ?_ | refine SEx.of (hgw) ?_ | refine SEx.of (a5 _ _ _ _ _ _) ?_ | refine SEx.of (a6 _ _ _ _ _ _ _ _) ?_ | refine SEx.of (a7 _ _ _ _ _ _ _ _) ?_ | refine SEx.of (Heap.get_push_self _ _) ?_ | refine yf rfl ?_ | refine yt rfl ?_ | refine yo rfl ?_ | refine yc rfl ?_ | refine ys rfl ?_ | refine ye rfl ?_ | refine yn rfl ?_ | refine zw ?_ | refine zdt ?_ | refine zdf ?_ | refine znt ?_ | refine znf ?_ | refine zcd ?_ | refine zci ?_ | refine zc3 ?_) <;> (conv => whnf)))
                intro lv h3 hlv hk3
                obtain ⟨_, lw3, hlw3, hgw3⟩ := rX.keep hk3 (fun x => x)
                have hgw4 := (hk3.2 b hb1 (fun x => x)).trans hgw
                have heqs := fun (lw : V) (hlw : EnsV lw L) (K : V → Heap → Prop) => eqEns_at (K := K) hG (h := h3) hlv hlw (by omega)
                rcases hlv with ⟨rfl, hlv⟩ | rfl
                all_goals
                  ((conv => whnf); repeat ((first | refine SCall.app (heqs .nils (.inl ⟨rfl, hw0⟩) _) ?_ | refine SCall.app (heqs _ (.inr rfl) _) ?_ | refine SWrap.w64 (by omega) (by omega) ?_ | refine SEx.of (hgw4) ?_ | refine SEx.of (a5 _ _ _ _ _ _) ?_ | refine SEx.of (a6 _ _ _ _ _ _ _ _) ?_ | refine SEx.of (a7 _ _ _ _ _ _ _ _) ?_ | refine SEx.of (Heap.get_push_self _ _) ?_ | refine yf rfl ?_ | refine yt rfl ?_ | refine yo rfl ?_ | refine yc rfl ?_ | refine ys rfl ?_ | refine ye rfl ?_ | refine yn rfl ?_ | refine zw ?_ | refine zdt ?_ | refine zdf ?_ | refine znt ?_ | refine znf ?_ | refine zcd ?_ | refine zci ?_ | refine zc3 ?_) <;> (conv => whnf)))
                  exact hR (40 - (i + 1)) _ _ (by omega) ⟨i + 1, h3, _, m, b, rev, D, L, rfl, by omega, cX.keep hk3, rX.keep hk3 (fun x => x), relX, hbX, hmX, okX, lenX, (by repeat (first | exact Fr.le_nil | refine Fr.le_cons rfl ?_)), rfl⟩
            | some e =>
              have hg2 : getE L key = some e := by rw [← relX.fnd]; exact hg
              have hget := fun (K : V → Heap → Prop) (hK : K (.tup [.agg (enR e), .b true]) h) => cget_at (K := K) hG cX okX key (fun hn => by rw [hg] at hn; cases hn) (fun e' he => by rw [hg] at he; cases he; exact hK)
              have hget2 := fun (K : V → Heap → Prop) (hK : K (.tup [.agg (enR e), .b true]) h) => rget_at (K := K) hG rX (by omega) key (fun hn => by rw [hg2] at hn; cases hn) (fun e' he => by rw [hg2] at he; cases he; exact hK)
              have heq := fun K => eqEn_at (K := K) hG (h := h) e
              rcases hlw with ⟨rfl, hw0⟩ | rfl
              all_goals
                ((conv => whnf); repeat ((first | refine SCall.app (hget _) ?_ | refine SCall.app (hget2 _) ?_ | refine SCall.app (hrev _) ?_ | refine SIf.ff (show (!decide (rev = rev)) = false by simp) ?_ | refine SCall.app (heq _) ?_ | refine SCall.app (hall _) ?_ | refine SEx.of (hgw) ?_ | refine SEx.of (a5 _ _ _ _ _ _) ?_ | refine SEx.of (a6 _ _ _ _ _ _ _ _) ?_ | refine SEx.of (a7 _ _ _ _ _ _ _ _) ?_ | refine SEx.of (Heap.get_push_self _ _) ?_ | refine yf rfl ?_ | refine yt rfl ?_ | refine yo rfl ?_ | refine yc rfl ?_ | refine ys rfl ?_ | refine ye rfl ?_ | refine yn rfl ?_ | refine zw ?_ | refine zdt ?_ | refine zdf ?_ | refine znt ?_ | refine znf ?_ | refine zcd ?_ | refine zci ?_ | refine zc3 ?_) <;> (conv => whnf)))
                intro lv h3 hlv hk3
                obtain ⟨_, lw3, hlw3, hgw3⟩ := rX.keep hk3 (fun x => x)
                have hgw4 := (hk3.2 b hb1 (fun x => x)).trans hgw
                have heqs := fun (lw : V) (hlw : EnsV lw L) (K : V → Heap → Prop) => eqEns_at (K := K) hG (h := h3) hlv hlw (by omega)
                rcases hlv with ⟨rfl, hlv⟩ | rfl
                all_goals
                  ((conv => whnf); repeat ((first | refine SCall.app (heqs .nils (.inl ⟨rfl, hw0⟩) _) ?_ | refine SCall.app (heqs _ (.inr rfl) _) ?_ | refine SWrap.w64 (by omega) (by omega) ?_ | refine SEx.of (hgw4) ?_ | refine SEx.of (a5 _ _ _ _ _ _) ?_ | refine SEx.of (a6 _ _ _ _ _ _ _ _) ?_ | refine SEx.of (a7 _ _ _ _ _ _ _ _) ?_ | refine SEx.of (Heap.get_push_self _ _) ?_ | refine yf rfl ?_ | refine yt rfl ?_ | refine yo rfl ?_ | refine yc rfl ?_ | refine ys rfl ?_ | refine ye rfl ?_ | refine yn rfl ?_ | refine zw ?_ | refine zdt ?_ | refine zdf ?_ | refine znt ?_ | refine znf ?_ | refine zcd ?_ | refine zci ?_ | refine zc3 ?_) <;> (conv => whnf)))
                  exact hR (40 - (i + 1)) _ _ (by omega) ⟨i + 1, h3, _, m, b, rev, D, L, rfl, by omega, cX.keep hk3, rX.keep hk3 (fun x => x), relX, hbX, hmX, okX, lenX, (by repeat (first | exact Fr.le_nil | refine Fr.le_cons rfl ?_)), rfl⟩

        · have hca1 := fun K => (hF rev).2 K hap
          rcases hlw0 with ⟨rfl, hw1⟩ | rfl
          all_goals
            ((conv => whnf); repeat ((first | refine SIf.dt (show (i : Int) < (ops.map copR).length by omega) ?_ | refine SIf.dt (show (i : Int) < 40 by omega) ?_ | refine SOpt.of (mn2 (z := (Q1 : Int)) (by rw [hel]; split <;> omega)) ?_ | refine SOpt.of (mn2 (z := (Q2 : Int)) (by rw [hxl]; split <;> omega)) ?_ | refine SIf.df k0 ?_ | refine SIf.dt k1 ?_ | refine SIf.dt hpar ?_ | refine SEx.of (map_get' (by omega) he) ?_ | refine SEx.of (a2 _ _) ?_ | refine SEx.of (a3 _ _ _) ?_ | refine SEx.of (a4 _ _ _ _) ?_ | refine SEx.of (Heap.get_push_self _ _) ?_ | refine SEx.of (hgw0) ?_ | refine yf rfl ?_ | refine yt rfl ?_ | refine yo rfl ?_ | refine yc rfl ?_ | refine ys rfl ?_ | refine ye rfl ?_ | refine yn rfl ?_ | refine zw ?_ | refine zdt ?_ | refine zdf ?_ | refine znt ?_ | refine znf ?_ | refine zcd ?_ | refine zci ?_ | refine zc3 ?_) <;> (conv => whnf)))
            rw [hN2]
            ((conv => whnf); repeat ((first | refine SCall.app (hca1 _) ?_ | refine SEx.of (map_get' (by omega) he) ?_ | refine SEx.of (a2 _ _) ?_ | refine SEx.of (a3 _ _ _) ?_ | refine SEx.of (a4 _ _ _ _) ?_ | refine SEx.of (Heap.get_push_self _ _) ?_ | refine SEx.of (hgw0) ?_ | refine yf rfl ?_ | refine yt rfl ?_ | refine yo rfl ?_ | refine yc rfl ?_ | refine ys rfl ?_ | refine ye rfl ?_ | refine yn rfl ?_ | refine zw ?_ | refine zdt ?_ | refine zdf ?_ | refine znt ?_ | refine znf ?_ | refine zcd ?_ | refine zci ?_ | refine zc3 ?_) <;> (conv => whnf)))
            intro h1 c1 hk1
            have r1 : RefAt h1 b rev L := hrf.keep hk1 (by rintro (h | h); exact hb h; exact hmb h)
            have hra := fun (K : V → Heap → Prop) (hK : ∀ h', RefAt h' b o.rev (T2.foldl stepL L) → Heap.Keeps (fun n => n = b) h1 h' → K (.b true) h') => rapply_at (K := K) hG r1 (by omega) T2 (by omega) rev o.rev (fun hc => by rw [hap] at hc; cases hc) (fun _ => hK)
            ((conv => whnf); repeat ((first | refine SCall.app (hra _) ?_ | refine SEx.of (map_get' (by omega) he) ?_ | refine SEx.of (a2 _ _) ?_ | refine SEx.of (a3 _ _ _) ?_ | refine SEx.of (a4 _ _ _ _) ?_ | refine SEx.of (Heap.get_push_self _ _) ?_ | refine yf rfl ?_ | refine yt rfl ?_ | refine yo rfl ?_ | refine yc rfl ?_ | refine ys rfl ?_ | refine ye rfl ?_ | refine yn rfl ?_ | refine zw ?_ | refine zdt ?_ | refine zdf ?_ | refine znt ?_ | refine znf ?_ | refine zcd ?_ | refine zci ?_ | refine zc3 ?_) <;> (conv => whnf)))
            intro hX rX hkX
            have cX : CacheAt hX 0 m o.rev (T2.foldl stepE D) := c1.keep2 hkX (Ne.symm hb) (fun j hj hc => hmb (by rw [hj, hc]))
            have relX := hrel.steps T2
            have hbX := hb
            have hmX := hmb
            have okX : ∀ e ∈ T2.foldl stepE D, EnOk e := fun e he => by
              rcases stepE_mem T2 he with h9 | ⟨x, hx, rfl⟩
              · exact hDok e h9
              · exact hT2k x hx
            have lenX : (T2.foldl stepL L).length ≤ 8 * (i + 1) := by omega
            obtain ⟨hb1, lw, hlw, hgw⟩ := rX
            have rX : RefAt hX b (o.rev) (T2.foldl stepL L) := ⟨hb1, lw, hlw, hgw⟩
            have hlenD : (T2.foldl stepE D).length ≤ 100000 := by have := relX.len; omega
            have hrev := fun K => crev_at (K := K) hG cX
            have hall := fun (K : V → Heap → Prop) (hK : ∀ lv h', EnsV lv (T2.foldl stepL L) → Heap.Keeps (fun _ => False) hX h' → K lv h') => call_at (K := K) hG hS cX okX hlenD relX hK
            cases hg : getE (T2.foldl stepE D) key with
            | none =>
              have hg2 : getE (T2.foldl stepL L) key = none := by rw [← relX.fnd]; exact hg
              have hget := fun (K : V → Heap → Prop) (hK : K (.tup [.agg zeroE, .b false]) hX) => cget_at (K := K) hG cX okX key (fun _ => hK) (fun e he => by rw [hg] at he; cases he)
              have hget2 := fun (K : V → Heap → Prop) (hK : K (.tup [.agg zeroE, .b false]) hX) => rget_at (K := K) hG rX (by omega) key (fun _ => hK) (fun e he => by rw [hg2] at he; cases he)
              have heq := fun K => eqEn_zero (K := K) hG (h := hX)
              rcases hlw with ⟨rfl, hw0⟩ | rfl
              all_goals
                ((conv => whnf); repeat ((first | refine SCall.app (hget _) ?_ | refine SCall.app (hget2 _) ?_ | refine SCall.app (hrev _) ?_ | refine SIf.ff (show (!decide ((o.rev) = (o.rev))) = false by simp) ?_ | refine SCall.app (heq _) ?_ | refine SCall.app (hall _) ?_ | refine SEx.of (hgw) ?_ | refine SEx.of (a5 _ _ _ _ _ _) ?_ | refine SEx.of (a6 _ _ _ _ _ _ _ _) ?_ | refine SEx.of (a7 _ _ _ _ _ _ _ _) ?_ | refine SEx.of (Heap.get_push_self _ _) ?_ | refine yf rfl ?_ | refine yt rfl ?_ | refine yo rfl ?_ | refine yc rfl ?_ | refine ys rfl ?_ | refine ye rfl ?_ | refine yn rfl ?_ | refine zw ?_ | refine zdt ?_ | refine zdf ?_ | refine znt ?_ | refine znf ?_ | refine zcd ?_ | refine zci ?_ | refine zc3 ?_) <;> (conv => whnf)))
                intro lv h3 hlv hk3
                obtain ⟨_, lw3, hlw3, hgw3⟩ := rX.keep hk3 (fun x => x)
                have hgw4 := (hk3.2 b hb1 (fun x => x)).trans hgw
                have heqs := fun (lw : V) (hlw : EnsV lw (T2.foldl stepL L)) (K : V → Heap → Prop) => eqEns_at (K := K) hG (h := h3) hlv hlw (by omega)
                rcases hlv with ⟨rfl, hlv⟩ | rfl
                all_goals
                  ((conv => whnf); repeat ((first | refine SCall.app (heqs .nils (.inl ⟨rfl, hw0⟩) _) ?_ | refine SCall.app (heqs _ (.inr rfl) _) ?_ | refine SWrap.w64 (by omega) (by omega) ?_ | refine SEx.of (hgw4) ?_ | refine SEx.of (a5 _ _ _ _ _ _) ?_ | refine SEx.of (a6 _ _ _ _ _ _ _ _) ?_ | refine SEx.of (a7 _ _ _ _ _ _ _ _) ?_ | refine SEx.of (Heap.get_push_self _ _) ?_ | refine yf rfl ?_ | refine yt rfl ?_ | refine yo rfl ?_ | refine yc rfl ?_ | refine ys rfl ?_ | refine ye rfl ?_ | refine yn rfl ?_ | refine zw ?_ | refine zdt ?_ | refine zdf ?_ | refine znt ?_ | refine znf ?_ | refine zcd ?_ | refine zci ?_ | refine zc3 ?_) <;> (conv => whnf)))
                  exact hR (40 - (i + 1)) _ _ (by omega) ⟨i + 1, h3, _, m, b, (o.rev), (T2.foldl stepE D), (T2.foldl stepL L), rfl, by omega, cX.keep hk3, rX.keep hk3 (fun x => x), relX, hbX, hmX, okX, lenX, (by repeat (first | exact Fr.le_nil | refine Fr.le_cons rfl ?_)), rfl⟩
            | some e =>
              have hg2 : getE (T2.foldl stepL L) key = some e := by rw [← relX.fnd]; exact hg
              have hget := fun (K : V → Heap → Prop) (hK : K (.tup [.agg (enR e), .b true]) hX) => cget_at (K := K) hG cX okX key (fun hn => by rw [hg] at hn; cases hn) (fun e' he => by rw [hg] at he; cases he; exact hK)
              have hget2 := fun (K : V → Heap → Prop) (hK : K (.tup [.agg (enR e), .b true]) hX) => rget_at (K := K) hG rX (by omega) key (fun hn => by rw [hg2] at hn; cases hn) (fun e' he => by rw [hg2] at he; cases he; exact hK)
              have heq := fun K => eqEn_at (K := K) hG (h := hX) e
              rcases hlw with ⟨rfl, hw0⟩ | rfl
              all_goals
                ((conv => whnf); repeat ((first | refine SCall.app (hget _) ?_ | refine SCall.app (hget2 _) ?_ | refine SCall.app (hrev _) ?_ | refine SIf.ff (show (!decide ((o.rev) = (o.rev))) = false by simp) ?_ | refine SCall.app (heq _) ?_ | refine SCall.app (hall _) ?_ | refine SEx.of (hgw) ?_ | refine SEx.of (a5 _ _ _ _ _ _) ?_ | refine SEx.of (a6 _ _ _ _ _ _ _ _) ?_ | refine SEx.of (a7 _ _ _ _ _ _ _ _) ?_ | refine SEx.of (Heap.get_push_self _ _) ?_ | refine yf rfl ?_ | refine yt rfl ?_ | refine yo rfl ?_ | refine yc rfl ?_ | refine ys rfl ?_ | refine ye rfl ?_ | refine yn rfl ?_ | refine zw ?_ | refine zdt ?_ | refine zdf ?_ | refine znt ?_ | refine znf ?_ | refine zcd ?_ | refine zci ?_ | refine zc3 ?_) <;> (conv => whnf)))
                intro lv h3 hlv hk3
                obtain ⟨_, lw3, hlw3, hgw3⟩ := rX.keep hk3 (fun x => x)
                have hgw4 := (hk3.2 b hb1 (fun x => x)).trans hgw
                have heqs := fun (lw : V) (hlw : EnsV lw (T2.foldl stepL L)) (K : V → Heap → Prop) => eqEns_at (K := K) hG (h := h3) hlv hlw (by omega)
                rcases hlv with ⟨rfl, hlv⟩ | rfl
                all_goals
                  ((conv => whnf); repeat ((first | refine SCall.app (heqs .nils (.inl ⟨rfl, hw0⟩) _) ?_ | refine SCall.app (heqs _ (.inr rfl) _) ?_ | refine SWrap.w64 (by omega) (by omega) ?_ | refine SEx.of (hgw4) ?_ | refine SEx.of (a5 _ _ _ _ _ _) ?_ | refine SEx.of (a6 _ _ _ _ _ _ _ _) ?_ | refine SEx.of (a7 _ _ _ _ _ _ _ _) ?_ | refine SEx.of (Heap.get_push_self _ _) ?_ | refine yf rfl ?_ | refine yt rfl ?_ | refine yo rfl ?_ | refine yc rfl ?_ | refine ys rfl ?_ | refine ye rfl ?_ | refine yn rfl ?_ | refine zw ?_ | refine zdt ?_ | refine zdf ?_ | refine znt ?_ | refine znf ?_ | refine zcd ?_ | refine zci ?_ | refine zc3 ?_) <;> (conv => whnf)))
                  exact hR (40 - (i + 1)) _ _ (by omega) ⟨i + 1, h3, _, m, b, (o.rev), (T2.foldl stepE D), (T2.foldl stepL L), rfl, by omega, cX.keep hk3, rX.keep hk3 (fun x => x), relX, hbX, hmX, okX, lenX, (by repeat (first | exact Fr.le_nil | refine Fr.le_cons rfl ?_)), rfl⟩

      · cases hap : okAp rev o.from_ o.rev T2
        · have hca1 := fun K => (hF o.from_).1 K hap
          have hra := fun (K : V → Heap → Prop) (hK : K (.b false) h) => rapply_at (K := K) hG hrf (by omega) T2 (by omega) o.from_ o.rev (fun _ => hK) (fun hc => by rw [hap] at hc; cases hc)
          ((conv => whnf); repeat ((first | refine SIf.dt (show (i : Int) < (ops.map copR).length by omega) ?_ | refine SIf.dt (show (i : Int) < 40 by omega) ?_ | refine SOpt.of (mn2 (z := (Q1 : Int)) (by rw [hel]; split <;> omega)) ?_ | refine SOpt.of (mn2 (z := (Q2 : Int)) (by rw [hxl]; split <;> omega)) ?_ | refine SIf.df k0 ?_ | refine SIf.dt k1 ?_ | refine SIf.df hpar ?_ | refine SEx.of (map_get' (by omega) he) ?_ | refine SEx.of (a2 _ _) ?_ | refine SEx.of (a3 _ _ _) ?_ | refine SEx.of (a4 _ _ _ _) ?_ | refine SEx.of (Heap.get_push_self _ _) ?_ | refine yf rfl ?_ | refine yt rfl ?_ | refine yo rfl ?_ | refine yc rfl ?_ | refine ys rfl ?_ | refine ye rfl ?_ | refine yn rfl ?_ | refine zw ?_ | refine zdt ?_ | refine zdf ?_ | refine znt ?_ | refine znf ?_ | refine zcd ?_ | refine zci ?_ | refine zc3 ?_) <;> (conv => whnf)))
          rw [hN2]
          ((conv => whnf); repeat ((first | refine SCall.app (hca1 _) ?_ | refine SCall.app (hra _) ?_ | refine SEx.of (map_get' (by omega) he) ?_ | refine SEx.of (a2 _ _) ?_ | refine SEx.of (a3 _ _ _) ?_ | refine SEx.of (a4 _ _ _ _) ?_ | refine SEx.of (Heap.get_push_self _ _) ?_ | refine yf rfl ?_ | refine yt rfl ?_ | refine yo rfl ?_ | refine yc rfl ?_ | refine ys rfl ?_ | refine ye rfl ?_ | refine yn rfl ?_ | refine zw ?_ | refine zdt ?_ | refine zdf ?_ | refine znt ?_ | refine znf ?_ | refine zcd ?_ | refine zci ?_ | refine zc3 ?_) <;> (conv => whnf)))
          have cX := hca
          have rX := hrf
          have relX := hrel
          have hbX := hb
          have hmX := hmb
          have okX := hDok
          have lenX : L.length ≤ 8 * (i + 1) := by omega
          obtain ⟨hb1, lw, hlw, hgw⟩ := rX
          have rX : RefAt h b rev L := ⟨hb1, lw, hlw, hgw⟩
          have hlenD : D.length ≤ 100000 := by have := relX.len; omega
          have hrev := fun K => crev_at (K := K) hG cX
          have hall := fun (K : V → Heap → Prop) (hK : ∀ lv h', EnsV lv L → Heap.Keeps (fun _ => False) h h' → K lv h') => call_at (K := K) hG hS cX okX hlenD relX hK
          cases hg : getE D key with
          | none =>
            have hg2 : getE L key = none := by rw [← relX.fnd]; exact hg
            have hget := fun (K : V → Heap → Prop) (hK : K (.tup [.agg zeroE, .b false]) h) => cget_at (K := K) hG cX okX key (fun _ => hK) (fun e he => by rw [hg] at he; cases he)
            have hget2 := fun (K : V → Heap → Prop) (hK : K (.tup [.agg zeroE, .b false]) h) => rget_at (K := K) hG rX (by omega) key (fun _ => hK) (fun e he => by rw [hg2] at he; cases he)
            have heq := fun K => eqEn_zero (K := K) hG (h := h)
            rcases hlw with ⟨rfl, hw0⟩ | rfl
            all_goals
              ((conv => whnf); repeat ((first | refine SCall.app (hget _) ?_ | refine SCall.app (hget2 _) ?_ | refine SCall.app (hrev _) ?_ | refine SIf.ff (show (!decide (rev = rev)) = false by simp) ?_ | refine SCall.app (heq _) ?_ | refine SCall.app (hall _) ?_ | refine SEx.of (hgw) ?_ | refine SEx.of (a5 _ _ _ _ _ _) ?_ | refine SEx.of (a6 _ _ _ _ _ _ _ _) ?_ | refine SEx.of (a7 _ _ _ _ _ _ _ _) ?_ | refine SEx.of (Heap.get_push_self _ _) ?_ | refine yf rfl ?_ | refine yt rfl ?_ | refine yo rfl ?_ | refine yc rfl ?_ | refine ys rfl ?_ | refine ye rfl ?_ | refine yn rfl ?_ | refine zw ?_ | refine zdt ?_ | refine zdf ?_ | refine znt ?_ | refine znf ?_ | refine zcd ?_ | refine zci ?_ | refine zc3 ?_) <;> (conv => whnf)))
              intro lv h3 hlv hk3
              obtain ⟨_, lw3, hlw3, hgw3⟩ := rX.keep hk3 (fun x => x)
              have hgw4 := (hk3.2 b hb1 (fun x => x)).trans hgw
              have heqs := fun (lw : V) (hlw : EnsV lw L) (K : V → Heap → Prop) => eqEns_at (K := K) hG (h := h3) hlv hlw (by omega)
              rcases hlv with ⟨rfl, hlv⟩ | rfl
              all_goals
                ((conv => whnf); repeat ((first | refine SCall.app (heqs .nils (.inl ⟨rfl, hw0⟩) _) ?_ | refine SCall.app (heqs _ (.inr rfl) _) ?_ | refine SWrap.w64 (by omega) (by omega) ?_ | refine SEx.of (hgw4) ?_ | refine SEx.of (a5 _ _ _ _ _ _) ?_ | refine SEx.of (a6 _ _ _ _ _ _ _ _) ?_ | refine SEx.of (a7 _ _ _ _ _ _ _ _) ?_ | refine SEx.of (Heap.get_push_self _ _) ?_ | refine yf rfl ?_ | refine yt rfl ?_ | refine yo rfl ?_ | refine yc rfl ?_ | refine ys rfl ?_ | refine ye rfl ?_ | refine yn rfl ?_ | refine zw ?_ | refine zdt ?_ | refine zdf ?_ | refine znt ?_ | refine znf ?_ | refine zcd ?_ | refine zci ?_ | refine zc3 ?_) <;> (conv => whnf)))
                exact hR (40 - (i + 1)) _ _ (by omega) ⟨i + 1, h3, _, m, b, rev, D, L, rfl, by omega, cX.keep hk3, rX.keep hk3 (fun x => x), relX, hbX, hmX, okX, lenX, (by repeat (first | exact Fr.le_nil | refine Fr.le_cons rfl ?_)), rfl⟩
          | some e =>
            have hg2 : getE L key = some e := by rw [← relX.fnd]; exact hg
            have hget := fun (K : V → Heap → Prop) (hK : K (.tup [.agg (enR e), .b true]) h) => cget_at (K := K) hG cX okX key (fun hn => by rw [hg] at hn; cases hn) (fun e' he => by rw [hg] at he; cases he; exact hK)
            have hget2 := fun (K : V → Heap → Prop) (hK : K (.tup [.agg (enR e), .b true]) h) => rget_at (K := K) hG rX (by omega) key (fun hn => by rw [hg2] at hn; cases hn) (fun e' he => by rw [hg2] at he; cases he; exact hK)
            have heq := fun K => eqEn_at (K := K) hG (h := h) e
            rcases hlw with ⟨rfl, hw0⟩ | rfl
            all_goals
              ((conv => whnf); repeat ((first | refine SCall.app (hget _) ?_ | refine SCall.app (hget2 _) ?_ | refine SCall.app (hrev _) ?_ | refine SIf.ff (show (!decide (rev = rev)) = false by simp) ?_ | refine SCall.app (heq _) ?_ | refine SCall.app (hall _) ?_ | refine SEx.of (hgw) ?_ | refine SEx.of (a5 _ _ _ _ _ _) ?_ | refine SEx.of (a6 _ _ _ _ _ _ _ _) ?_ | refine SEx.of (a7 _ _ _ _ _ _ _ _) ?_ | refine SEx.of (Heap.get_push_self _ _) ?_ | refine yf rfl ?_ | refine yt rfl ?_ | refine yo rfl ?_ | refine yc rfl ?_ | refine ys rfl ?_ | refine ye rfl ?_ | refine yn rfl ?_ | refine zw ?_ | refine zdt ?_ | refine zdf ?_ | refine znt ?_ | refine znf ?_ | refine zcd ?_ | refine zci ?_ | refine zc3 ?_) <;> (conv => whnf)))
              intro lv h3 hlv hk3
              obtain ⟨_, lw3, hlw3, hgw3⟩ := rX.keep hk3 (fun x => x)
              have hgw4 := (hk3.2 b hb1 (fun x => x)).trans hgw
              have heqs := fun (lw : V) (hlw : EnsV lw L) (K : V → Heap → Prop) => eqEns_at (K := K) hG (h := h3) hlv hlw (by omega)
              rcases hlv with ⟨rfl, hlv⟩ | rfl
              all_goals
                ((conv => whnf); repeat ((first | refine SCall.app (heqs .nils (.inl ⟨rfl, hw0⟩) _) ?_ | refine SCall.app (heqs _ (.inr rfl) _) ?_ | refine SWrap.w64 (by omega) (by omega) ?_ | refine SEx.of (hgw4) ?_ | refine SEx.of (a5 _ _ _ _ _ _) ?_ | refine SEx.of (a6 _ _ _ _ _ _ _ _) ?_ | refine SEx.of (a7 _ _ _ _ _ _ _ _) ?_ | refine SEx.of (Heap.get_push_self _ _) ?_ | refine yf rfl ?_ | refine yt rfl ?_ | refine yo rfl ?_ | refine yc rfl ?_ | refine ys rfl ?_ | refine ye rfl ?_ | refine yn rfl ?_ | refine zw ?_ | refine zdt ?_ | refine zdf ?_ | refine znt ?_ | refine znf ?_ | refine zcd ?_ | refine zci ?_ | refine zc3 ?_) <;> (conv => whnf)))
                exact hR (40 - (i + 1)) _ _ (by omega) ⟨i + 1, h3, _, m, b, rev, D, L, rfl, by omega, cX.keep hk3, rX.keep hk3 (fun x => x), relX, hbX, hmX, okX, lenX, (by repeat (first | exact Fr.le_nil | refine Fr.le_cons rfl ?_)), rfl⟩

        · have hca1 := fun K => (hF o.from_).2 K hap
          ((conv => whnf); repeat ((first | refine SIf.dt (show (i : Int) < (ops.map copR).length by omega) ?_ | refine SIf.dt (show (i : Int) < 40 by omega) ?_ | refine SOpt.of (mn2 (z := (Q1 : Int)) (by rw [hel]; split <;> omega)) ?_ | refine SOpt.of (mn2 (z := (Q2 : Int)) (by rw [hxl]; split <;> omega)) ?_ | refine SIf.df k0 ?_ | refine SIf.dt k1 ?_ | refine SIf.df hpar ?_ | refine SEx.of (map_get' (by omega) he) ?_ | refine SEx.of (a2 _ _) ?_ | refine SEx.of (a3 _ _ _) ?_ | refine SEx.of (a4 _ _ _ _) ?_ | refine SEx.of (Heap.get_push_self _ _) ?_ | refine yf rfl ?_ | refine yt rfl ?_ | refine yo rfl ?_ | refine yc rfl ?_ | refine ys rfl ?_ | refine ye rfl ?_ | refine yn rfl ?_ | refine zw ?_ | refine zdt ?_ | refine zdf ?_ | refine znt ?_ | refine znf ?_ | refine zcd ?_ | refine zci ?_ | refine zc3 ?_) <;> (conv => whnf)))
          rw [hN2]
          ((conv => whnf); repeat ((first | refine SCall.app (hca1 _) ?_ | refine SEx.of (map_get' (by omega) he) ?_ | refine SEx.of (a2 _ _) ?_ | refine SEx.of (a3 _ _ _) ?_ | refine SEx.of (a4 _ _ _ _) ?_ | refine SEx.of (Heap.get_push_self _ _) ?_ | refine yf rfl ?_ | refine yt rfl ?_ | refine yo rfl ?_ | refine yc rfl ?_ | refine ys rfl ?_ | refine ye rfl ?_ | refine yn rfl ?_ | refine zw ?_ | refine zdt ?_ | refine zdf ?_ | refine znt ?_ | refine znf ?_ | refine zcd ?_ | refine zci ?_ | refine zc3 ?_) <;> (conv => whnf)))
          intro h1 c1 hk1
          have r1 : RefAt h1 b rev L := hrf.keep hk1 (by rintro (h | h); exact hb h; exact hmb h)
          have hra := fun (K : V → Heap → Prop) (hK : ∀ h', RefAt h' b o.rev (T2.foldl stepL L) → Heap.Keeps (fun n => n = b) h1 h' → K (.b true) h') => rapply_at (K := K) hG r1 (by omega) T2 (by omega) o.from_ o.rev (fun hc => by rw [hap] at hc; cases hc) (fun _ => hK)
          ((conv => whnf); repeat ((first | refine SCall.app (hra _) ?_ | refine SEx.of (map_get' (by omega) he) ?_ | refine SEx.of (a2 _ _) ?_ | refine SEx.of (a3 _ _ _) ?_ | refine SEx.of (a4 _ _ _ _) ?_ | refine SEx.of (Heap.get_push_self _ _) ?_ | refine yf rfl ?_ | refine yt rfl ?_ | refine yo rfl ?_ | refine yc rfl ?_ | refine ys rfl ?_ | refine ye rfl ?_ | refine yn rfl ?_ | refine zw ?_ | refine zdt ?_ | refine zdf ?_ | refine znt ?_ | refine znf ?_ | refine zcd ?_ | refine zci ?_ | refine zc3 ?_) <;> (conv => whnf)))
          intro hX rX hkX
          have cX : CacheAt hX 0 m o.rev (T2.foldl stepE D) := c1.keep2 hkX (Ne.symm hb) (fun j hj hc => hmb (by rw [hj, hc]))
          have relX := hrel.steps T2
          have hbX := hb
          have hmX := hmb
          have okX : ∀ e ∈ T2.foldl stepE D, EnOk e := fun e he => by
            rcases stepE_mem T2 he with h9 | ⟨x, hx, rfl⟩
            · exact hDok e h9
            · exact hT2k x hx
          have lenX : (T2.foldl stepL L).length ≤ 8 * (i + 1) := by omega
          obtain ⟨hb1, lw, hlw, hgw⟩ := rX
          have rX : RefAt hX b (o.rev) (T2.foldl stepL L) := ⟨hb1, lw, hlw, hgw⟩
          have hlenD : (T2.foldl stepE D).length ≤ 100000 := by have := relX.len; omega
          have hrev := fun K => crev_at (K := K) hG cX
          have hall := fun (K : V → Heap → Prop) (hK : ∀ lv h', EnsV lv (T2.foldl stepL L) → Heap.Keeps (fun _ => False) hX h' → K lv h') => call_at (K := K) hG hS cX okX hlenD relX hK
          cases hg : getE (T2.foldl stepE D) key with
          | none =>
            have hg2 : getE (T2.foldl stepL L) key = none := by rw [← relX.fnd]; exact hg
            have hget := fun (K : V → Heap → Prop) (hK : K (.tup [.agg zeroE, .b false]) hX) => cget_at (K := K) hG cX okX key (fun _ => hK) (fun e he => by rw [hg] at he; cases he)
            have hget2 := fun (K : V → Heap → Prop) (hK : K (.tup [.agg zeroE, .b false]) hX) => rget_at (K := K) hG rX (by omega) key (fun _ => hK) (fun e he => by rw [hg2] at he; cases he)
            have heq := fun K => eqEn_zero (K := K) hG (h := hX)
            rcases hlw with ⟨rfl, hw0⟩ | rfl
            all_goals
              ((conv => whnf); repeat ((first | refine SCall.app (hget _) ?_ | refine SCall.app (hget2 _) ?_ | refine SCall.app (hrev _) ?_ | refine SIf.ff (show (!decide ((o.rev) = (o.rev))) = false by simp) ?_ | refine SCall.app (heq _) ?_ | refine SCall.app (hall _) ?_ | refine SEx.of (hgw) ?_ | refine SEx.of (a5 _ _ _ _ _ _) ?_ | refine SEx.of (a6 _ _ _ _ _ _ _ _) ?_ | refine SEx.of (a7 _ _ _ _ _ _ _ _) ?_ | refine SEx.of (Heap.get_push_self _ _) ?_ | refine yf rfl ?_ | refine yt rfl ?_ | refine yo rfl ?_ | refine yc rfl ?_ | refine ys rfl ?_ | refine ye rfl ?_ | refine yn rfl ?_ | refine zw ?_ | refine zdt ?_ | refine zdf ?_ | refine znt ?_ | refine znf ?_ | refine zcd ?_ | refine zci ?_ | refine zc3 ?_) <;> (conv => whnf)))
              intro lv h3 hlv hk3
              obtain ⟨_, lw3, hlw3, hgw3⟩ := rX.keep hk3 (fun x => x)
              have hgw4 := (hk3.2 b hb1 (fun x => x)).trans hgw
              have heqs := fun (lw : V) (hlw : EnsV lw (T2.foldl stepL L)) (K : V → Heap → Prop) => eqEns_at (K := K) hG (h := h3) hlv hlw (by omega)
              rcases hlv with ⟨rfl, hlv⟩ | rfl
              all_goals
                ((conv => whnf); repeat ((first | refine SCall.app (heqs .nils (.inl ⟨rfl, hw0⟩) _) ?_ | refine SCall.app (heqs _ (.inr rfl) _) ?_ | refine SWrap.w64 (by omega) (by omega) ?_ | refine SEx.of (hgw4) ?_ | refine SEx.of (a5 _ _ _ _ _ _) ?_ | refine SEx.of (a6 _ _ _ _ _ _ _ _) ?_ | refine SEx.of (a7 _ _ _ _ _ _ _ _) ?_ | refine SEx.of (Heap.get_push_self _ _) ?_ | refine yf rfl ?_ | refine yt rfl ?_ | refine yo rfl ?_ | refine yc rfl ?_ | refine ys rfl ?_ | refine ye rfl ?_ | refine yn rfl ?_ | refine zw ?_ | refine zdt ?_ | refine zdf ?_ | refine znt ?_ | refine znf ?_ | refine zcd ?_ | refine zci ?_ | refine zc3 ?_) <;> (conv => whnf)))
                exact hR (40 - (i + 1)) _ _ (by omega) ⟨i + 1, h3, _, m, b, (o.rev), (T2.foldl stepE D), (T2.foldl stepL L), rfl, by omega, cX.keep hk3, rX.keep hk3 (fun x => x), relX, hbX, hmX, okX, lenX, (by repeat (first | exact Fr.le_nil | refine Fr.le_cons rfl ?_)), rfl⟩
          | some e =>
            have hg2 : getE (T2.foldl stepL L) key = some e := by rw [← relX.fnd]; exact hg
            have hget := fun (K : V → Heap → Prop) (hK : K (.tup [.agg (enR e), .b true]) hX) => cget_at (K := K) hG cX okX key (fun hn => by rw [hg] at hn; cases hn) (fun e' he => by rw [hg] at he; cases he; exact hK)
            have hget2 := fun (K : V → Heap → Prop) (hK : K (.tup [.agg (enR e), .b true]) hX) => rget_at (K := K) hG rX (by omega) key (fun hn => by rw [hg2] at hn; cases hn) (fun e' he => by rw [hg2] at he; cases he; exact hK)
            have heq := fun K => eqEn_at (K := K) hG (h := hX) e
            rcases hlw with ⟨rfl, hw0⟩ | rfl
            all_goals
              ((conv => whnf); repeat ((first | refine SCall.app (hget _) ?_ | refine SCall.app (hget2 _) ?_ | refine SCall.app (hrev _) ?_ | refine SIf.ff (show (!decide ((o.rev) = (o.rev))) = false by simp) ?_ | refine SCall.app (heq _) ?_ | refine SCall.app (hall _) ?_ | refine SEx.of (hgw) ?_ | refine SEx.of (a5 _ _ _ _ _ _) ?_ | refine SEx.of (a6 _ _ _ _ _ _ _ _) ?_ | refine SEx.of (a7 _ _ _ _ _ _ _ _) ?_ | refine SEx.of (Heap.get_push_self _ _) ?_ | refine yf rfl ?_ | refine yt rfl ?_ | refine yo rfl ?_ | refine yc rfl ?_ | refine ys rfl ?_ | refine ye rfl ?_ | refine yn rfl ?_ | refine zw ?_ | refine zdt ?_ | refine zdf ?_ | refine znt ?_ | refine znf ?_ | refine zcd ?_ | refine zci ?_ | refine zc3 ?_) <;> (conv => whnf)))
              intro lv h3 hlv hk3
              obtain ⟨_, lw3, hlw3, hgw3⟩ := rX.keep hk3 (fun x => x)
              have hgw4 := (hk3.2 b hb1 (fun x => x)).trans hgw
              have heqs := fun (lw : V) (hlw : EnsV lw (T2.foldl stepL L)) (K : V → Heap → Prop) => eqEns_at (K := K) hG (h := h3) hlv hlw (by omega)
              rcases hlv with ⟨rfl, hlv⟩ | rfl
              all_goals
                ((conv => whnf); repeat ((first | refine SCall.app (heqs .nils (.inl ⟨rfl, hw0⟩) _) ?_ | refine SCall.app (heqs _ (.inr rfl) _) ?_ | refine SWrap.w64 (by omega) (by omega) ?_ | refine SEx.of (hgw4) ?_ | refine SEx.of (a5 _ _ _ _ _ _) ?_ | refine SEx.of (a6 _ _ _ _ _ _ _ _) ?_ | refine SEx.of (a7 _ _ _ _ _ _ _ _) ?_ | refine SEx.of (Heap.get_push_self _ _) ?_ | refine yf rfl ?_ | refine yt rfl ?_ | refine yo rfl ?_ | refine yc rfl ?_ | refine ys rfl ?_ | refine ye rfl ?_ | refine yn rfl ?_ | refine zw ?_ | refine zdt ?_ | refine zdf ?_ | refine znt ?_ | refine znf ?_ | refine zcd ?_ | refine zci ?_ | refine zc3 ?_) <;> (conv => whnf)))
                exact hR (40 - (i + 1)) _ _ (by omega) ⟨i + 1, h3, _, m, b, (o.rev), (T2.foldl stepE D), (T2.foldl stepL L), rfl, by omega, cX.keep hk3, rX.keep hk3 (fun x => x), relX, hbX, hmX, okX, lenX, (by repeat (first | exact Fr.le_nil | refine Fr.le_cons rfl ?_)), rfl⟩

    · have hdr := fun (K : V → Heap → Prop) (hK : ∀ h', CacheAt h' 0 none (-1) [] → Heap.Keeps (fun n => n = 0) h h' → K (.tup []) h') => cdrop_at (K := K) hG hca hK
      ((conv => whnf); repeat ((first | refine SIf.dt (show (i : Int) < (ops.map copR).length by omega) ?_ | refine SIf.dt (show (i : Int) < 40 by omega) ?_ | refine SOpt.of (mn2 (z := (Q1 : Int)) (by rw [hel]; split <;> omega)) ?_ | refine SOpt.of (mn2 (z := (Q2 : Int)) (by rw [hxl]; split <;> omega)) ?_ | refine SIf.df k0 ?_ | refine SIf.df k1 ?_ | refine SCall.app (hdr _) ?_ | refine SEx.of (map_get' (by omega) he) ?_ | refine SEx.of (a2 _ _) ?_ | refine SEx.of (a3 _ _ _) ?_ | refine SEx.of (a4 _ _ _ _) ?_ | refine SEx.of (Heap.get_push_self _ _) ?_ | refine yf rfl ?_ | refine yt rfl ?_ | refine yo rfl ?_ | refine yc rfl ?_ | refine ys rfl ?_ | refine ye rfl ?_ | refine yn rfl ?_ | refine zw ?_ | refine zdt ?_ | refine zdf ?_ | refine znt ?_ | refine znf ?_ | refine zcd ?_ | refine zci ?_ | refine zc3 ?_) <;> (conv => whnf)))
      intro h1 c1 hk1
      have hbX : h1.next ≠ 0 := by have := c1.1; omega
      have cX : CacheAt (h1.push (.cs [.i .i64 (-1), .nils])) 0 none (-1) [] := c1.keep (.push (.refl _ _) _)
      have rX : RefAt (h1.push (.cs [.i .i64 (-1), .nils])) h1.next (-1) [] := ⟨Nat.lt_succ_self _, .nils, .inl ⟨rfl, rfl⟩, Heap.get_push_self _ _⟩
      have relX := CaRel.nil
      have hmX : (none : Option Nat) ≠ some h1.next := by simp
      have okX : ∀ e ∈ ([] : List EnD), EnOk e := fun e h => by cases h
      have lenX : ([] : List EnD).length ≤ 8 * (i + 1) := Nat.zero_le _
      ((conv => whnf); repeat ((first | refine yf rfl ?_ | refine yt rfl ?_ | refine yo rfl ?_ | refine yc rfl ?_ | refine ys rfl ?_ | refine ye rfl ?_ | refine yn rfl ?_ | refine zw ?_ | refine zdt ?_ | refine zdf ?_ | refine znt ?_ | refine znf ?_ | refine zcd ?_ | refine zci ?_ | refine zc3 ?_) <;> (conv => whnf)))
      obtain ⟨hb1, lw, hlw, hgw⟩ := rX
      have rX : RefAt (h1.push (.cs [.i .i64 (-1), .nils])) (h1.next) ((-1 : Int)) (([] : List EnD)) := ⟨hb1, lw, hlw, hgw⟩
      have hlenD : (([] : List EnD)).length ≤ 100000 := by have := relX.len; omega
      have hrev := fun K => crev_at (K := K) hG cX
      have hall := fun (K : V → Heap → Prop) (hK : ∀ lv h', EnsV lv (([] : List EnD)) → Heap.Keeps (fun _ => False) (h1.push (.cs [.i .i64 (-1), .nils])) h' → K lv h') => call_at (K := K) hG hS cX okX hlenD relX hK
      cases hg : getE (([] : List EnD)) key with
      | none =>
        have hg2 : getE (([] : List EnD)) key = none := by rw [← relX.fnd]; exact hg
        have hget := fun (K : V → Heap → Prop) (hK : K (.tup [.agg zeroE, .b false]) (h1.push (.cs [.i .i64 (-1), .nils]))) => cget_at (K := K) hG cX okX key (fun _ => hK) (fun e he => by rw [hg] at he; cases he)
        have hget2 := fun (K : V → Heap → Prop) (hK : K (.tup [.agg zeroE, .b false]) (h1.push (.cs [.i .i64 (-1), .nils]))) => rget_at (K := K) hG rX (by omega) key (fun _ => hK) (fun e he => by rw [hg2] at he; cases he)
        have heq := fun K => eqEn_zero (K := K) hG (h := (h1.push (.cs [.i .i64 (-1), .nils])))
        rcases hlw with ⟨rfl, hw0⟩ | rfl
        all_goals
          ((conv => whnf); repeat ((first | refine SCall.app (hget _) ?_ | refine SCall.app (hget2 _) ?_ | refine SCall.app (hrev _) ?_ | refine SIf.ff (show (!decide (((-1 : Int)) = ((-1 : Int)))) = false by simp) ?_ | refine SCall.app (heq _) ?_ | refine SCall.app (hall _) ?_ | refine SEx.of (hgw) ?_ | refine SEx.of (a5 _ _ _ _ _ _) ?_ | refine SEx.of (a6 _ _ _ _ _ _ _ _) ?_ | refine SEx.of (a7 _ _ _ _ _ _ _ _) ?_ | refine SEx.of (Heap.get_push_self _ _) ?_ | refine yf rfl ?_ | refine yt rfl ?_ | refine yo rfl ?_ | refine yc rfl ?_ | refine ys rfl ?_ | refine ye rfl ?_ | refine yn rfl ?_ | refine zw ?_ | refine zdt ?_ | refine zdf ?_ | refine znt ?_ | refine znf ?_ | refine zcd ?_ | refine zci ?_ | refine zc3 ?_) <;> (conv => whnf)))
          intro lv h3 hlv hk3
          obtain ⟨_, lw3, hlw3, hgw3⟩ := rX.keep hk3 (fun x => x)
          have hgw4 := (hk3.2 (h1.next) hb1 (fun x => x)).trans hgw
          have heqs := fun (lw : V) (hlw : EnsV lw (([] : List EnD))) (K : V → Heap → Prop) => eqEns_at (K := K) hG (h := h3) hlv hlw (by omega)
          rcases hlv with ⟨rfl, hlv⟩ | rfl
          all_goals
            ((conv => whnf); repeat ((first | refine SCall.app (heqs .nils (.inl ⟨rfl, hw0⟩) _) ?_ | refine SCall.app (heqs _ (.inr rfl) _) ?_ | refine SWrap.w64 (by omega) (by omega) ?_ | refine SEx.of (hgw4) ?_ | refine SEx.of (a5 _ _ _ _ _ _) ?_ | refine SEx.of (a6 _ _ _ _ _ _ _ _) ?_ | refine SEx.of (a7 _ _ _ _ _ _ _ _) ?_ | refine SEx.of (Heap.get_push_self _ _) ?_ | refine yf rfl ?_ | refine yt rfl ?_ | refine yo rfl ?_ | refine yc rfl ?_ | refine ys rfl ?_ | refine ye rfl ?_ | refine yn rfl ?_ | refine zw ?_ | refine zdt ?_ | refine zdf ?_ | refine znt ?_ | refine znf ?_ | refine zcd ?_ | refine zci ?_ | refine zc3 ?_) <;> (conv => whnf)))
            exact hR (40 - (i + 1)) _ _ (by omega) ⟨i + 1, h3, _, ((none : Option Nat)), (h1.next), ((-1 : Int)), (([] : List EnD)), (([] : List EnD)), rfl, by omega, cX.keep hk3, rX.keep hk3 (fun x => x), relX, hbX, hmX, okX, lenX, (by repeat (first | exact Fr.le_nil | refine Fr.le_cons rfl ?_)), rfl⟩
      | some e =>
        have hg2 : getE (([] : List EnD)) key = some e := by rw [← relX.fnd]; exact hg
        have hget := fun (K : V → Heap → Prop) (hK : K (.tup [.agg (enR e), .b true]) (h1.push (.cs [.i .i64 (-1), .nils]))) => cget_at (K := K) hG cX okX key (fun hn => by rw [hg] at hn; cases hn) (fun e' he => by rw [hg] at he; cases he; exact hK)
        have hget2 := fun (K : V → Heap → Prop) (hK : K (.tup [.agg (enR e), .b true]) (h1.push (.cs [.i .i64 (-1), .nils]))) => rget_at (K := K) hG rX (by omega) key (fun hn => by rw [hg2] at hn; cases hn) (fun e' he => by rw [hg2] at he; cases he; exact hK)
        have heq := fun K => eqEn_at (K := K) hG (h := (h1.push (.cs [.i .i64 (-1), .nils]))) e
        rcases hlw with ⟨rfl, hw0⟩ | rfl
        all_goals
          ((conv => whnf); repeat ((first | refine SCall.app (hget _) ?_ | refine SCall.app (hget2 _) ?_ | refine SCall.app (hrev _) ?_ | refine SIf.ff (show (!decide (((-1 : Int)) = ((-1 : Int)))) = false by simp) ?_ | refine SCall.app (heq _) ?_ | refine SCall.app (hall _) ?_ | refine SEx.of (hgw) ?_ | refine SEx.of (a5 _ _ _ _ _ _) ?_ | refine SEx.of (a6 _ _ _ _ _ _ _ _) ?_ | refine SEx.of (a7 _ _ _ _ _ _ _ _) ?_ | refine SEx.of (Heap.get_push_self _ _) ?_ | refine yf rfl ?_ | refine yt rfl ?_ | refine yo rfl ?_ | refine yc rfl ?_ | refine ys rfl ?_ | refine ye rfl ?_ | refine yn rfl ?_ | refine zw ?_ | refine zdt ?_ | refine zdf ?_ | refine znt ?_ | refine znf ?_ | refine zcd ?_ | refine zci ?_ | refine zc3 ?_) <;> (conv => whnf)))
          intro lv h3 hlv hk3
          obtain ⟨_, lw3, hlw3, hgw3⟩ := rX.keep hk3 (fun x => x)
          have hgw4 := (hk3.2 (h1.next) hb1 (fun x => x)).trans hgw
          have heqs := fun (lw : V) (hlw : EnsV lw (([] : List EnD))) (K : V → Heap → Prop) => eqEns_at (K := K) hG (h := h3) hlv hlw (by omega)
          rcases hlv with ⟨rfl, hlv⟩ | rfl
          all_goals
            ((conv => whnf); repeat ((first | refine SCall.app (heqs .nils (.inl ⟨rfl, hw0⟩) _) ?_ | refine SCall.app (heqs _ (.inr rfl) _) ?_ | refine SWrap.w64 (by omega) (by omega) ?_ | refine SEx.of (hgw4) ?_ | refine SEx.of (a5 _ _ _ _ _ _) ?_ | refine SEx.of (a6 _ _ _ _ _ _ _ _) ?_ | refine SEx.of (a7 _ _ _ _ _ _ _ _) ?_ | refine SEx.of (Heap.get_push_self _ _) ?_ | refine yf rfl ?_ | refine yt rfl ?_ | refine yo rfl ?_ | refine yc rfl ?_ | refine ys rfl ?_ | refine ye rfl ?_ | refine yn rfl ?_ | refine zw ?_ | refine zdt ?_ | refine zdf ?_ | refine znt ?_ | refine znf ?_ | refine zcd ?_ | refine zci ?_ | refine zc3 ?_) <;> (conv => whnf)))
            exact hR (40 - (i + 1)) _ _ (by omega) ⟨i + 1, h3, _, ((none : Option Nat)), (h1.next), ((-1 : Int)), (([] : List EnD)), (([] : List EnD)), rfl, by omega, cX.keep hk3, rX.keep hk3 (fun x => x), relX, hbX, hmX, okX, lenX, (by repeat (first | exact Fr.le_nil | refine Fr.le_cons rfl ?_)), rfl⟩
end
end Go.Eng
