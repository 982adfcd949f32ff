/-
The store of many keys: whether a txn can be done.
-/
import Derived.Test.YtcckglahpbmakaaGreatSgA
import Derived.Test.YtcckglahpbmakaaGreatEngC
set_option linter.unusedVariables false
set_option linter.unusedSimpArgs false
namespace Go.Eng
open Go
def tsP (t : Str × Int) : V × V := (.s t.1, .i .i64 t.2)
def putT : List (Str × Int) → Str → Int → List (Str × Int)
  | [], k, r => [(k, r)]
  | x :: q, k, r => if k = x.1 then (k, r) :: q else x :: putT q k r
theorem mput_ts (k : Str) (r : Int) : ∀ T : List (Str × Int), mput (T.map tsP) (.s k) (.i .i64 r) = (putT T k r).map tsP
  | [] => rfl
  | x :: q => by
    simp only [List.map_cons, tsP, mput, putT, keyEq_s]
    by_cases c : k = x.1
    · rw [if_pos c, if_pos (by simp [c])]; simp [tsP, c]
    · rw [if_neg c, if_neg (by simpa using c)]
      exact congrArg _ (mput_ts k r q)
structure StG (h : Heap) (a m0 m1 lg : Nat) (rl : Option Nat) (R : Int) (D : List EnD) (T : List (Str × Int)) (L : List EvD) (base : Int) : Prop where
  lt : a < h.next ∧ m0 < h.next ∧ m1 < h.next
  ne : a ≠ m0 ∧ a ≠ m1 ∧ m0 ≠ m1 ∧ a ≠ lg ∧ m0 ≠ lg ∧ m1 ≠ lg
  nr : ∀ k, rl = some k → k ≠ a ∧ k ≠ m0 ∧ k ≠ m1
  ga : ∃ rd wr, h.get a = some (.cs [.i .i64 R, .m (.g m0), .m (.g m1), .p (.g lg) 0, .i .i64 rd, .i .i64 wr])
  g0 : h.get m0 = some (.mp none (D.map enP))
  g1 : h.get m1 = some (.mp none (T.map tsP))
  log : LogG h lg rl L base R
def ownsG (a m0 m1 lg : Nat) (rl : Option Nat) (n : Nat) : Prop := n = a ∨ n = m0 ∨ n = m1 ∨ n = lg ∨ rl = some n
theorem StG.other {h h' : Heap} {a m0 m1 lg : Nat} {rl : Option Nat} {R : Int} {D : List EnD} {T : List (Str × Int)} {L : List EvD} {base : Int} (hs : StG h a m0 m1 lg rl R D T L base) {but : Nat → Prop} (hk : Heap.Keeps but h h') (hb : ∀ n, ownsG a m0 m1 lg rl n → ¬ but n) : StG h' a m0 m1 lg rl R D T L base := by
  obtain ⟨l1, l2, l3⟩ := hs.lt
  obtain ⟨rd, wr, ga⟩ := hs.ga
  have hn := hk.next
  exact ⟨⟨by omega, by omega, by omega⟩, hs.ne, hs.nr, ⟨rd, wr, (hk.same a l1 (hb a (.inl rfl))).trans ga⟩, (hk.same m0 l2 (hb m0 (.inr (.inl rfl)))).trans hs.g0, (hk.same m1 l3 (hb m1 (.inr (.inr (.inl rfl))))).trans hs.g1,
    hs.log.keep hk (hb lg (.inr (.inr (.inr (.inl rfl))))) (fun k hk' => hb k (.inr (.inr (.inr (.inr hk')))))⟩
def canW (D : List EnD) : List WrD → Bool
  | [] => true
  | w :: r => !(w.gone && (getE D w.key).isNone) && canW D r
def errT (D : List EnD) (ws : List WrD) : Int := if mayT ws then (if canW D ws then 0 else 3) else 1
section
variable {P : Program} (hG : FnsOk P AF.fns.get)
include hG
set_option maxHeartbeats 16000000 in
theorem gcan_at {h : Heap} {a m0 m1 lg : Nat} {rl : Option Nat} {R : Int} {D : List EnD} {T : List (Str × Int)} {L : List EvD} {base : Int} (hs : StG h a m0 m1 lg rl R D T L base) (ws : List WrD) (hw : ∀ w ∈ ws, WrOk w) (hl : ws.length ≤ 9223372036854775807) {K : V → Heap → Prop}
    (hK : ∀ h', Heap.Keeps (fun _ => False) h h' → K (.i .i64 (errT D ws)) h') :
    ACall P 54 [.p (.g a) 0, .agg [.nils, .sl none 3 (ws.map wrR)]] h K := by
  have hwl : (ws.map wrR).length = ws.length := List.length_map _
  have hmay := fun (K : V → Heap → Prop) hK => gmay_at (K := K) hG (h := h) ws hw hl hK
  unfold errT at hK
  refine fn_sv (hG _ AF.f54 rfl) rfl ?_
  cases hm : mayT ws
  · rw [hm] at hK hmay
    ((conv => whnf); repeat ((first | refine SCall.app (hmay _) ?_ | refine yf rfl ?_ | refine yt rfl ?_ | refine yo rfl ?_ | refine yc rfl ?_ | refine ys rfl ?_ | refine ye rfl ?_ | refine yn rfl ?_ | refine zw ?_ | refine zdt ?_ | refine zdf ?_ | refine znt ?_ | refine znf ?_ | refine zcd ?_ | refine zci ?_ | refine zc3 ?_) <;> (conv => whnf)))
    intro h1 k1
    ((conv => whnf); repeat ((first | refine yf rfl ?_ | refine yt rfl ?_ | refine yo rfl ?_ | refine yc rfl ?_ | refine ys rfl ?_ | refine ye rfl ?_ | refine yn rfl ?_ | refine zw ?_ | refine zdt ?_ | refine zdf ?_ | refine znt ?_ | refine znf ?_ | refine zcd ?_ | refine zci ?_ | refine zc3 ?_) <;> (conv => whnf)))
    exact hK h1 k1
  rw [hm] at hK hmay
  simp only [if_true] at hK
  obtain ⟨B, hB⟩ : ∃ B, B = canW D ws := ⟨_, rfl⟩
  rw [← hB] at hK
  ((conv => whnf); repeat ((first | refine SCall.app (hmay _) ?_ | refine yf rfl ?_ | refine yt rfl ?_ | refine yo rfl ?_ | refine yc rfl ?_ | refine ys rfl ?_ | refine ye rfl ?_ | refine yn rfl ?_ | refine zw ?_ | refine zdt ?_ | refine zdf ?_ | refine znt ?_ | refine znf ?_ | refine zcd ?_ | refine zci ?_ | refine zc3 ?_) <;> (conv => whnf)))
  intro h1 k1
  have hs1 := hs.other k1 (fun _ _ x => x)
  obtain ⟨rd, wr, ha⟩ := hs1.ga
  have h0 := hs1.g0
  ((conv => whnf); repeat ((first | refine yf rfl ?_ | refine yt rfl ?_ | refine yo rfl ?_ | refine yc rfl ?_ | refine ys rfl ?_ | refine ye rfl ?_ | refine yn rfl ?_ | refine zw ?_ | refine zdt ?_ | refine zdf ?_ | refine znt ?_ | refine znf ?_ | refine zcd ?_ | refine zci ?_ | refine zc3 ?_) <;> (conv => whnf)))
  refine SLoopV.un rfl ?_
  ((conv => whnf); repeat ((first | refine yf rfl ?_ | refine yt rfl ?_ | refine yo rfl ?_ | refine yc rfl ?_ | refine ys rfl ?_ | refine ye rfl ?_ | refine yn rfl ?_ | refine zw ?_ | refine zdt ?_ | refine zdf ?_ | refine znt ?_ | refine znf ?_ | refine zcd ?_ | refine zci ?_ | refine zc3 ?_) <;> (conv => whnf)))
  refine SLoopV.by (fun q fr st => ∃ (i : Nat) (lo : Heap), i ≤ ws.length ∧ q = ws.length - i ∧ B = canW D (ws.drop i) ∧
      Fr.le [(29, .i .i64 i), (28, .i .i64 (ws.map wrR).length), (27, .sl none 3 (ws.map wrR)), (0, .p (.g a) 0)] fr ∧ st = ⟨h1, lo⟩)
    ws.length ⟨0, _, Nat.zero_le _, rfl, hB, (by repeat (first | exact Fr.le_nil | refine Fr.le_cons rfl ?_)), rfl⟩ ?_
  rintro q fr st ⟨i, lo, hi, rfl, hc, hle0, rfl⟩
  refine ⟨_, hle0, fun R1 hR1 => ?_⟩
  by_cases hin : i < ws.length
  · have he := List.getElem?_eq_getElem hin
    have hdr := List.drop_eq_getElem_cons hin
    generalize ws[i] = w at he hdr
    rw [hdr] at hc
    unfold canW at hc
    have hmf := mfind_en w.key D
    have a1 : ∀ o, (lo.push o).get lo.next = some o := fun o => Heap.get_push_self _ _
    have a2 : ∀ o o2, ((lo.push o).set lo.next o2).get lo.next = some o2 := fun o o2 => Heap.get_set_self (a1 _)
    have a3 : ∀ o o2 o3, (((lo.push o).set lo.next o2).push o3).get lo.next = some o2 := fun o o2 o3 => Heap.gp (by show lo.next ≠ lo.next + 1; omega) (a2 _ _)
    have a4 : ∀ o o2 o3, (((lo.push o).set lo.next o2).push o3).get (lo.next + 1) = some o3 := fun o o2 o3 => Heap.get_push_self _ _
    have a5 : ∀ o o2 o3 o4, ((((lo.push o).set lo.next o2).push o3).set (lo.next + 1) o4).get lo.next = some o2 := fun o o2 o3 o4 => Heap.gs (by omega) (a3 _ _ _)
    have a6 : ∀ o o2 o3 o4, ((((lo.push o).set lo.next o2).push o3).set (lo.next + 1) o4).get (lo.next + 1) = some o4 := fun o o2 o3 o4 => Heap.get_set_self (a4 _ _ _)
    cases hgo : w.gone
    · rw [hgo] at hc
      have hc' : B = canW D (ws.drop (i + 1)) := by rw [hc]; simp
      have hrow : wrR w = [.s w.key, .sl none 1 (w.val.map byR), .b false] := by rw [← hgo]; rfl
      have hge := (map_get' (f := wrR) (j := ((i : Nat) : Int).toNat) (by omega) he).trans (congrArg some hrow)
      cases hgt : getE D w.key with
      | none =>
        rw [hgt] at hmf
        ((conv => whnf); repeat ((first | refine SIf.dt (show (i : Int) < (ws.map wrR).length by omega) ?_ | refine SOpt.no hmf ?_ | refine SWrap.w64 (by omega) (by omega) ?_ | refine SEx.of (hge) ?_ | refine SEx.of (a2 _ _) ?_ | refine SEx.of (a1 _) ?_ | refine SEx.of (a3 _ _ _) ?_ | refine SEx.of (a4 _ _ _) ?_ | refine SEx.of (a5 _ _ _ _) ?_ | refine SEx.of (a6 _ _ _ _) ?_ | refine SEx.of (ha) ?_ | refine SEx.of (h0) ?_ | refine yf rfl ?_ | refine yt rfl ?_ | refine yo rfl ?_ | refine yc rfl ?_ | refine ys rfl ?_ | refine ye rfl ?_ | refine yn rfl ?_ | refine zw ?_ | refine zdt ?_ | refine zdf ?_ | refine znt ?_ | refine znf ?_ | refine zcd ?_ | refine zci ?_ | refine zc3 ?_) <;> (conv => whnf)))
        exact hR1 (ws.length - (i + 1)) _ _ (by omega) ⟨i + 1, _, by omega, rfl, hc', (by repeat (first | exact Fr.le_nil | refine Fr.le_cons rfl ?_)), rfl⟩
      | some e =>
        rw [hgt] at hmf
        ((conv => whnf); repeat ((first | refine SIf.dt (show (i : Int) < (ws.map wrR).length by omega) ?_ | refine SOpt.of hmf ?_ | refine SWrap.w64 (by omega) (by omega) ?_ | refine SEx.of (hge) ?_ | refine SEx.of (a2 _ _) ?_ | refine SEx.of (a1 _) ?_ | refine SEx.of (a3 _ _ _) ?_ | refine SEx.of (a4 _ _ _) ?_ | refine SEx.of (a5 _ _ _ _) ?_ | refine SEx.of (a6 _ _ _ _) ?_ | refine SEx.of (ha) ?_ | refine SEx.of (h0) ?_ | refine yf rfl ?_ | refine yt rfl ?_ | refine yo rfl ?_ | refine yc rfl ?_ | refine ys rfl ?_ | refine ye rfl ?_ | refine yn rfl ?_ | refine zw ?_ | refine zdt ?_ | refine zdf ?_ | refine znt ?_ | refine znf ?_ | refine zcd ?_ | refine zci ?_ | refine zc3 ?_) <;> (conv => whnf)))
        exact hR1 (ws.length - (i + 1)) _ _ (by omega) ⟨i + 1, _, by omega, rfl, hc', (by repeat (first | exact Fr.le_nil | refine Fr.le_cons rfl ?_)), rfl⟩
    · rw [hgo] at hc
      have hrow : wrR w = [.s w.key, .sl none 1 (w.val.map byR), .b true] := by rw [← hgo]; rfl
      have hge := (map_get' (f := wrR) (j := ((i : Nat) : Int).toNat) (by omega) he).trans (congrArg some hrow)
      cases hgt : getE D w.key with
      | none =>
        rw [hgt] at hmf hc
        have hc' : B = false := by rw [hc]; simp
        rw [hc'] at hK
        ((conv => whnf); repeat ((first | refine SIf.dt (show (i : Int) < (ws.map wrR).length by omega) ?_ | refine SOpt.no hmf ?_ | refine SEx.of (hge) ?_ | refine SEx.of (a2 _ _) ?_ | refine SEx.of (a1 _) ?_ | refine SEx.of (a3 _ _ _) ?_ | refine SEx.of (a4 _ _ _) ?_ | refine SEx.of (a5 _ _ _ _) ?_ | refine SEx.of (a6 _ _ _ _) ?_ | refine SEx.of (ha) ?_ | refine SEx.of (h0) ?_ | refine yf rfl ?_ | refine yt rfl ?_ | refine yo rfl ?_ | refine yc rfl ?_ | refine ys rfl ?_ | refine ye rfl ?_ | refine yn rfl ?_ | refine zw ?_ | refine zdt ?_ | refine zdf ?_ | refine znt ?_ | refine znf ?_ | refine zcd ?_ | refine zci ?_ | refine zc3 ?_) <;> (conv => whnf)))
        exact hK h1 k1
      | some e =>
        rw [hgt] at hmf hc
        have hc' : B = canW D (ws.drop (i + 1)) := by rw [hc]; simp
        ((conv => whnf); repeat ((first | refine SIf.dt (show (i : Int) < (ws.map wrR).length by omega) ?_ | refine SOpt.of hmf ?_ | refine SWrap.w64 (by omega) (by omega) ?_ | refine SEx.of (hge) ?_ | refine SEx.of (a2 _ _) ?_ | refine SEx.of (a1 _) ?_ | refine SEx.of (a3 _ _ _) ?_ | refine SEx.of (a4 _ _ _) ?_ | refine SEx.of (a5 _ _ _ _) ?_ | refine SEx.of (a6 _ _ _ _) ?_ | refine SEx.of (ha) ?_ | refine SEx.of (h0) ?_ | refine yf rfl ?_ | refine yt rfl ?_ | refine yo rfl ?_ | refine yc rfl ?_ | refine ys rfl ?_ | refine ye rfl ?_ | refine yn rfl ?_ | refine zw ?_ | refine zdt ?_ | refine zdf ?_ | refine znt ?_ | refine znf ?_ | refine zcd ?_ | refine zci ?_ | refine zc3 ?_) <;> (conv => whnf)))
        exact hR1 (ws.length - (i + 1)) _ _ (by omega) ⟨i + 1, _, by omega, rfl, hc', (by repeat (first | exact Fr.le_nil | refine Fr.le_cons rfl ?_)), rfl⟩
  · obtain rfl : i = ws.length := by omega
    rw [List.drop_length] at hc
    rw [show B = true from hc] at hK
    ((conv => whnf); repeat ((first | refine SIf.df (show ¬ ((ws.length : Nat) : Int) < (ws.map wrR).length by omega) ?_ | refine yf rfl ?_ | refine yt rfl ?_ | refine yo rfl ?_ | refine yc rfl ?_ | refine ys rfl ?_ | refine ye rfl ?_ | refine yn rfl ?_ | refine zw ?_ | refine zdt ?_ | refine zdf ?_ | refine znt ?_ | refine znf ?_ | refine zcd ?_ | refine zci ?_ | refine zc3 ?_) <;> (conv => whnf)))
    exact hK h1 k1
end
end Go.Eng
