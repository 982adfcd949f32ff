/-
NetOrder: taken always from the first place mail comes in the order in which it was sent.
-/
import Derived.Test.YtomcdckppplieaaGreatNet3
import Derived.Test.YtomcdckppplieaaGreatArgX
import Derived.Test.YtomcdckppplieaaGreatArgsN
import Derived.Test.YtomcdckppplieaaGreatAfNO
set_option linter.unusedVariables false
set_option linter.unusedSimpArgs false
namespace Go.Eng
open Go
structure NetInv (i s a : Nat) (L : List MailD) : Prop where
  len : L.length + a = s
  le : s ≤ i
  i60 : i ≤ 60
  full : s = i ∨ (a + 50 ≤ i ∧ 50 ≤ s)
  most : L.length ≤ 50
  room : ∀ m ∈ L, m.b.length ≤ 11
  who : ∀ (j : Nat) (m : MailD), L[j]? = some m → a + j < 50 ∨ s = i → m.who = ((a + j : Nat) : Int) ∧ ∃ r, m.b = ((a + j : Nat) : Int) :: r
theorem NetInv.send {i a : Nat} {L : List MailD} {s : Nat} (h : NetInv i s a L) (h50 : L.length < 50) (hi : i < 60) {m : MailD} (hw : m.who = i) (hb : ∃ r, m.b = (i : Int) :: r) (hl : m.b.length ≤ 11) : NetInv (i + 1) (s + 1) a (L ++ [m]) := by
  have h1 := h.len
  have h2 := h.le
  have h3 := h.full
  refine ⟨by simp; omega, by omega, by omega, by omega, by simp; omega, fun q hq => ?_, fun j q hj hc => ?_⟩
  · rcases List.mem_append.1 hq with h4 | h4
    · exact h.room q h4
    · rw [List.mem_singleton.1 h4]; exact hl
  · by_cases hjl : j < L.length
    · rw [List.getElem?_append_left hjl] at hj
      exact h.who j q hj (by omega)
    · rw [List.getElem?_append_right (by omega)] at hj
      have hj0 : j - L.length = 0 := by
        have := (List.getElem?_eq_some_iff.1 hj).1
        simp at this; omega
      rw [hj0] at hj
      cases hj
      have : a + j = i := by omega
      rw [this]
      exact ⟨hw, hb⟩
theorem NetInv.skip {i a : Nat} {L : List MailD} {s : Nat} (h : NetInv i s a L) (h50 : ¬ L.length < 50) (hi : i < 60) : NetInv (i + 1) s a L := by
  have h1 := h.len
  have h2 := h.le
  have h3 := h.full
  refine ⟨h1, by omega, by omega, by omega, h.most, h.room, fun j q hj hc => h.who j q hj (by omega)⟩
theorem NetInv.take {i a : Nat} {L : List MailD} {s : Nat} (h : NetInv (i + 1) s a L) (h0 : L ≠ []) (hf : s = i + 1 ∨ a + 50 ≤ i ∧ 50 ≤ s) : NetInv (i + 1) s (a + 1) (delD L 0) ∧ ∃ m r, L[0]? = some m ∧ m.who = (a : Int) ∧ m.b = (a : Int) :: r := by
  cases L with
  | nil => exact absurd rfl h0
  | cons m r =>
    have h1 := h.len
    have h2 := h.le
    have h3 := h.full
    have h4 := h.i60
    have h5 := h.most
    simp only [List.length_cons] at h1 h5
    obtain ⟨e1, t, e2⟩ := h.who 0 m rfl (by omega)
    refine ⟨⟨by show r.length + (a + 1) = s; omega, h2, h4, ?_, by show r.length ≤ 50; omega, fun q hq => h.room q (.tail _ hq), fun j q hj hc => ?_⟩, m, t, rfl, by simpa using e1, by simpa using e2⟩
    · omega
    · obtain ⟨e3, e4⟩ := h.who (j + 1) q hj (by omega)
      rw [show a + (j + 1) = a + 1 + j by omega] at e3 e4
      exact ⟨e3, e4⟩
theorem NetInv.or {i a : Nat} {L : List MailD} {s : Nat} (h : NetInv i s a L) : (L.length < 50 → s + 1 = i + 1 ∨ a + 50 ≤ i ∧ 50 ≤ s + 1) ∧ (¬ L.length < 50 → s = i + 1 ∨ a + 50 ≤ i ∧ 50 ≤ s) := by
  have h1 := h.len
  have h2 := h.le
  have h3 := h.full
  constructor
  · intro _; omega
  · intro _; omega
theorem wu8n {n : Int} {k : Int → Prop} (h1 : 0 ≤ n) (h2 : n ≤ 255) (hk : k n) : SWrap .u8 n k :=
  .of (by have : IntKind.u8.min = 0 := by decide
          omega) (by have : IntKind.u8.max = 255 := by decide
                     omega) hk
section
variable {P : Program} (hG : FnsOk P AF.fns.get)
include hG
set_option maxHeartbeats 16000000 in
set_option maxRecDepth 20000 in
theorem netOrder_ok (hk : okFn P 5 AF.no = true) (hb : ACall P 7 [] noG (fun r _ => r = .b true)) (bs : List (List Int)) (ts : List Bool) (hl : bs.length ≤ 9223372036854775807) (hlt : ts.length ≤ 9223372036854775807) :
    ACall P 5 [.sl none 1 (bs.map bytesV), .sl none 1 (ts.map boolR)] noG (fun r _ => r = .b true) := by
  have hlm : (bs.map bytesV).length = bs.length := List.length_map _
  have hlm2 : (ts.map boolR).length = ts.length := List.length_map _
  refine fn_sp hk rfl ?_
  ((conv => whnf); repeat ((first | refine yf rfl ?_ | refine yt rfl ?_ | refine yo rfl ?_ | refine yc rfl ?_ | refine ys rfl ?_ | refine ye rfl ?_ | refine yn rfl ?_ | refine zw ?_ | refine zdt ?_ | refine zdf ?_ | refine znt ?_ | refine znf ?_ | refine zcd ?_ | refine zci ?_ | refine zc3 ?_) <;> (conv => whnf)))
  refine ⟨hb.frame rfl fun v h' hv => ?_⟩
  subst hv
  refine ⟨rfl, ?_⟩
  ((conv => whnf); repeat ((first | refine SCall.app (fn_sp (hG _ _ rfl) rfl) ?_ | refine yf rfl ?_ | refine yt rfl ?_ | refine yo rfl ?_ | refine yc rfl ?_ | refine ys rfl ?_ | refine ye rfl ?_ | refine yn rfl ?_ | refine zw ?_ | refine zdt ?_ | refine zdf ?_ | refine znt ?_ | refine znf ?_ | refine zcd ?_ | refine zci ?_ | refine zc3 ?_) <;> (conv => whnf)))
  refine SLoop.by (fun q fr st => ∃ (i s a : Nat) (L : List MailD) (h l : Heap), q = 60 - i ∧ NetInv i s a L ∧ NetAt h 0 50 L ∧
      Fr.le [(9, .i .i64 i), (8, .i .i64 s), (7, .i .i64 a), (6, .p (.g 0) 0), (1, .sl none 1 (ts.map boolR)), (0, .sl none 1 (bs.map bytesV))] fr ∧ st = ⟨h, l⟩)
    60 ⟨0, 0, 0, [], _, _, rfl, ⟨rfl, Nat.le_refl _, by omega, .inl rfl, by simp, (fun m h => by cases h), (fun j m h => by simp at h)⟩, ⟨Nat.zero_lt_one, .inl ⟨rfl, rfl⟩⟩, (by repeat (first | exact Fr.le_nil | refine Fr.le_cons rfl ?_)), rfl⟩ ?_
  rintro q fr st ⟨i, s, a, L, h, l, rfl, hinv, hat, hle0, rfl⟩
  refine ⟨_, hle0, fun R hR => ?_⟩
  have hi60 := hinv.i60
  have hslen := hinv.len
  have hsle := hinv.le
  have h50 := hinv.most
  obtain ⟨hor1, hor2⟩ := hinv.or
  by_cases hin : (i < bs.length ∧ i < ts.length) ∧ i < 60
  · obtain ⟨⟨hi1, hi2⟩, hi3⟩ := hin
    have he := List.getElem?_eq_getElem hi1
    have ht := List.getElem?_eq_getElem hi2
    generalize bs[i] = e at he
    generalize ts[i] = t at ht
    have hle : (e.map byR).length = e.length := List.length_map _
    obtain ⟨Q, hQ⟩ : ∃ Q, Q = min e.length 10 := ⟨_, rfl⟩
    obtain ⟨T, hT⟩ : ∃ T, T = e.take Q := ⟨_, rfl⟩
    have hTl : T.length ≤ 10 := by rw [hT]; simp; omega
    have hN : List.drop (Int.toNat 0) (List.take (Q : Int).toNat (List.map byR e)) = T.map byR := by rw [hT, List.map_take]; rfl
    have hN2 : deepElems (T.map byR) = some (T.map byR) := deep_map (fun _ => rfl) T
    have hlen := fun K => len_at (K := K) hG hat
    have hsend := fun (hlt : L.length < 50) (K : V → Heap → Prop) (hK : ∀ h', NetAt h' 0 50 (L ++ [⟨i, (i : Int) :: T⟩]) → K (.b true) h') => send_at (K := K) hG (m := ⟨i, (i : Int) :: T⟩) hat (by omega) (by simp; omega) (fun h => absurd h (by omega)) fun _ => hK
    have hnew := fun (hlt : L.length < 50) => hinv.send (m := ⟨i, (i : Int) :: T⟩) hlt hi3 rfl ⟨T, rfl⟩ (by simp; omega)
    have htake := fun (s' : Nat) (L' : List MailD) (hn : NetInv (i + 1) s' a L') (h0 : L' ≠ []) (hf : s' = i + 1 ∨ a + 50 ≤ i ∧ 50 ≤ s') (h' : Heap) (hat' : NetAt h' 0 50 L') (K : V → Heap → Prop) (hK : ∀ (r : List Int) h'', NetInv (i + 1) s' (a + 1) (delD L' 0) → NetAt h'' 0 50 (delD L' 0) → K (.tup [.agg (mailR ⟨a, (a : Int) :: r⟩), .b true]) h'') =>
      take_at (K := K) hG hat' (by have := hn.most; omega) (fun m hm => by have := hn.room m hm; omega) 0 false (fun h => absurd h h0) fun m k hmk hk hke h'' hat'' => by
        have hk0 : k = 0 := by
          rw [Int.zero_tmod, Int.zero_add, Int.tmod_self] at hke
          omega
        subst hk0
        obtain ⟨h1, m', r, h2, h3, h4⟩ := hn.take h0 hf
        rw [hmk] at h2
        cases h2
        obtain ⟨w, b⟩ := m
        dsimp only at h3 h4
        subst h3 h4
        exact hK r h'' h1 hat''
    clear hT
    rcases T with _ | ⟨x0, r0⟩
    all_goals
      by_cases hlt : L.length < 50
      · ((conv => whnf); repeat ((first | refine SOpt.of (mn2 (z := (Q : Int)) (by rw [hle]; split <;> omega)) ?_ | refine wu8n (by omega) (by omega) ?_ | refine SEx.of (congrArg some hN) ?_ | refine SSame.mk (congrArg (V.sl none 1) hN.symm) ?_ | refine SChk.mk (by simp [roomOk]; simp at hTl; omega) ?_ | refine SEx.of hN2 ?_ | refine SCall.app (hlen _) ?_ | refine SIf.dt (show ((L.length : Nat) : Int) < 50 by omega) ?_ | refine SCall.app (hsend hlt _) ?_ | refine SEx.of (map_get' (by omega) he) ?_ | refine SEx.of (map_get' (by omega) ht) ?_ | refine SEx.of (Heap.get_push_self _ _) ?_ | refine yf rfl ?_ | refine yt rfl ?_ | refine yo rfl ?_ | refine yc rfl ?_ | refine ys rfl ?_ | refine ye rfl ?_ | refine yn rfl ?_ | refine zw ?_ | refine zdt ?_ | refine zdf ?_ | refine znt ?_ | refine znf ?_ | refine zcd ?_ | refine zci ?_ | refine zc3 ?_) <;> (conv => whnf)))
        intro h' hat'
        have hor := hor1 hlt
        cases t
        · ((conv => whnf); repeat ((first | refine SEx.of (map_get' (by omega) ht) ?_ | refine yf rfl ?_ | refine yt rfl ?_ | refine yo rfl ?_ | refine yc rfl ?_ | refine ys rfl ?_ | refine ye rfl ?_ | refine yn rfl ?_ | refine zw ?_ | refine zdt ?_ | refine zdf ?_ | refine znt ?_ | refine znf ?_ | refine zcd ?_ | refine zci ?_ | refine zc3 ?_) <;> (conv => whnf)))
          exact hR (60 - (i + 1)) _ _ (by omega) ⟨i + 1, s + 1, a, _, h', _, rfl, hnew hlt, hat', (by repeat (first | exact Fr.le_nil | refine Fr.le_cons rfl ?_)), rfl⟩
        · ((conv => whnf); repeat ((first | refine SCall.app (htake (s + 1) _ (hnew hlt) (by simp) hor h' hat' _) ?_ | refine SEx.of (map_get' (by omega) ht) ?_ | refine yf rfl ?_ | refine yt rfl ?_ | refine yo rfl ?_ | refine yc rfl ?_ | refine ys rfl ?_ | refine ye rfl ?_ | refine yn rfl ?_ | refine zw ?_ | refine zdt ?_ | refine zdf ?_ | refine znt ?_ | refine znf ?_ | refine zcd ?_ | refine zci ?_ | refine zc3 ?_) <;> (conv => whnf)))
          intro r h'' hinv' hat''
          have hix : idxOk 0 (List.map byR ((a : Int) :: r)).length = true := by simp [idxOk]
          ((conv => whnf); repeat ((first | refine wu8n (by omega) (by omega) ?_ | refine SIf.nf rfl ?_ | refine SChk.mk hix ?_ | refine SEx.of (Heap.get_push_self _ _) ?_ | refine SEx.of (Heap.get_set_self (Heap.get_push_self _ _)) ?_ | refine yf rfl ?_ | refine yt rfl ?_ | refine yo rfl ?_ | refine yc rfl ?_ | refine ys rfl ?_ | refine ye rfl ?_ | refine yn rfl ?_ | refine zw ?_ | refine zdt ?_ | refine zdf ?_ | refine znt ?_ | refine znf ?_ | refine zcd ?_ | refine zci ?_ | refine zc3 ?_) <;> (conv => whnf)))
          exact hR (60 - (i + 1)) _ _ (by omega) ⟨i + 1, s + 1, a + 1, _, h'', _, rfl, hinv', hat'', (by repeat (first | exact Fr.le_nil | refine Fr.le_cons rfl ?_)), rfl⟩
      · have hor := hor2 hlt
        have hnil : L ≠ [] := by rintro rfl; simp at hlt
        cases t
        · ((conv => whnf); repeat ((first | refine SOpt.of (mn2 (z := (Q : Int)) (by rw [hle]; split <;> omega)) ?_ | refine wu8n (by omega) (by omega) ?_ | refine SEx.of (congrArg some hN) ?_ | refine SSame.mk (congrArg (V.sl none 1) hN.symm) ?_ | refine SChk.mk (by simp [roomOk]; simp at hTl; omega) ?_ | refine SEx.of hN2 ?_ | refine SCall.app (hlen _) ?_ | refine SIf.df (show ¬ ((L.length : Nat) : Int) < 50 by omega) ?_ | refine SEx.of (map_get' (by omega) he) ?_ | refine SEx.of (map_get' (by omega) ht) ?_ | refine SEx.of (Heap.get_push_self _ _) ?_ | refine yf rfl ?_ | refine yt rfl ?_ | refine yo rfl ?_ | refine yc rfl ?_ | refine ys rfl ?_ | refine ye rfl ?_ | refine yn rfl ?_ | refine zw ?_ | refine zdt ?_ | refine zdf ?_ | refine znt ?_ | refine znf ?_ | refine zcd ?_ | refine zci ?_ | refine zc3 ?_) <;> (conv => whnf)))
          exact hR (60 - (i + 1)) _ _ (by omega) ⟨i + 1, s, a, _, h, _, rfl, hinv.skip hlt hi3, hat, (by repeat (first | exact Fr.le_nil | refine Fr.le_cons rfl ?_)), rfl⟩
        · ((conv => whnf); repeat ((first | refine SOpt.of (mn2 (z := (Q : Int)) (by rw [hle]; split <;> omega)) ?_ | refine wu8n (by omega) (by omega) ?_ | refine SEx.of (congrArg some hN) ?_ | refine SSame.mk (congrArg (V.sl none 1) hN.symm) ?_ | refine SChk.mk (by simp [roomOk]; simp at hTl; omega) ?_ | refine SEx.of hN2 ?_ | refine SCall.app (hlen _) ?_ | refine SIf.df (show ¬ ((L.length : Nat) : Int) < 50 by omega) ?_ | refine SCall.app (htake s _ (hinv.skip hlt hi3) hnil hor h hat _) ?_ | refine SEx.of (map_get' (by omega) he) ?_ | refine SEx.of (map_get' (by omega) ht) ?_ | refine SEx.of (Heap.get_push_self _ _) ?_ | refine yf rfl ?_ | refine yt rfl ?_ | refine yo rfl ?_ | refine yc rfl ?_ | refine ys rfl ?_ | refine ye rfl ?_ | refine yn rfl ?_ | refine zw ?_ | refine zdt ?_ | refine zdf ?_ | refine znt ?_ | refine znf ?_ | refine zcd ?_ | refine zci ?_ | refine zc3 ?_) <;> (conv => whnf)))
          intro r h'' hinv' hat''
          have hix : idxOk 0 (List.map byR ((a : Int) :: r)).length = true := by simp [idxOk]
          ((conv => whnf); repeat ((first | refine wu8n (by omega) (by omega) ?_ | refine SIf.nf rfl ?_ | refine SChk.mk hix ?_ | refine SEx.of (Heap.get_push_self _ _) ?_ | refine SEx.of (Heap.get_set_self (Heap.get_push_self _ _)) ?_ | refine yf rfl ?_ | refine yt rfl ?_ | refine yo rfl ?_ | refine yc rfl ?_ | refine ys rfl ?_ | refine ye rfl ?_ | refine yn rfl ?_ | refine zw ?_ | refine zdt ?_ | refine zdf ?_ | refine znt ?_ | refine znf ?_ | refine zcd ?_ | refine zci ?_ | refine zc3 ?_) <;> (conv => whnf)))
          exact hR (60 - (i + 1)) _ _ (by omega) ⟨i + 1, s, a + 1, _, h'', _, rfl, hinv', hat'', (by repeat (first | exact Fr.le_nil | refine Fr.le_cons rfl ?_)), rfl⟩
  · have hlen := fun K => len_at (K := K) hG hat
    have h6 : ¬ i < bs.length ∨ (i < bs.length ∧ ¬ i < ts.length) ∨ (i < bs.length ∧ i < ts.length ∧ ¬ i < 60) := by omega
    rcases h6 with h1 | ⟨h1, h2⟩ | ⟨h1, h2, h3⟩
    all_goals ((conv => whnf); repeat ((first | refine SCall.app (hlen _) ?_ | refine yf rfl ?_ | refine yt rfl ?_ | refine yo rfl ?_ | refine yc rfl ?_ | refine ys rfl ?_ | refine ye rfl ?_ | refine yn rfl ?_ | refine zw ?_ | refine zdt ?_ | refine zdf ?_ | refine znt ?_ | refine znf ?_ | refine zcd ?_ | refine zci ?_ | refine zc3 ?_) <;> (conv => whnf)))
    all_goals exact congrArg V.b (decide_eq_true (by omega))
end
end Go.Eng
