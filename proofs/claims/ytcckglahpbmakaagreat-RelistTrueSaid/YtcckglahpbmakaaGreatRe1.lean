/-
RelistEnds: as long as its calls are answered one knows all of a store within two of them.
-/
import Derived.Test.YtcckglahpbmakaaGreatRwB
import Derived.Test.YtcckglahpbmakaaGreatArgX
set_option linter.unusedVariables false
set_option linter.unusedSimpArgs false
namespace Go.Eng
open Go
structure GuD where
  key : Str
  rev : Int
  under : Bool
def guR (g : GuD) : List V := [.s g.key, .i .i64 g.rev, .b g.under]
structure OpT where
  kind : Int
  gs : List GuD
  ws : List WrD
  rev : Int
  now : Int
  lost : Bool
  late : Bool
def opT (o : OpT) : List V := [.i .i64 o.kind, .sl none 3 (o.gs.map guR), .sl none 3 (o.ws.map wrR), .i .i64 o.rev, .i .i64 o.now, .b o.lost, .b o.late]
structure OpTOk (o : OpT) : Prop where
  ws : o.ws.length ≤ 9223372036854775807
  each : ∀ w ∈ o.ws, WrOk w
theorem take5 (l : List WrD) (Q : Nat) (hQ : Q = min l.length 5) : List.drop (Int.toNat 0) (List.take (Q : Int).toNat (l.map wrR)) = (l.take 5).map wrR := by
  have h1 : l.take Q = l.take 5 := by
    rw [hQ]
    by_cases c : l.length ≤ 5
    · rw [Nat.min_eq_left c, List.take_of_length_le (Nat.le_refl _), List.take_of_length_le c]
    · rw [Nat.min_eq_right (by omega)]
  rw [← h1, List.map_take]; rfl
section
variable {P : Program} (hG : FnsOk P AF.fns.get)
include hG
set_option maxHeartbeats 16000000 in
set_option maxRecDepth 20000 in
theorem relistEnds_ok (hA : AddAt P) (hS : SortedOk P) (hb0 : ACall P 8 [] noG (fun r _ => r = .b true)) (ops : List OpT) (hops : ∀ o ∈ ops, OpTOk o) :
    ACall P 4 [.sl none 7 (ops.map opT)] noG (fun r _ => r = .b true) := by
  have hol : (ops.map opT).length = ops.length := List.length_map _
  refine fn_sv (hG _ AF.f4 rfl) rfl ?_
  ((conv => whnf); repeat ((first | refine yf rfl ?_ | refine yt rfl ?_ | refine yo rfl ?_ | refine yc rfl ?_ | refine ys rfl ?_ | refine ye rfl ?_ | refine yn rfl ?_ | refine zw ?_ | refine zdt ?_ | refine zdf ?_ | refine znt ?_ | refine znf ?_ | refine zcd ?_ | refine zci ?_ | refine zc3 ?_) <;> (conv => whnf)))
  refine ⟨hb0.frame rfl fun v h' hv => ?_⟩
  subst hv
  refine ⟨rfl, ?_⟩
  have hsn := fun (K : V → Heap → Prop) hK => snew_at (K := K) hG (h := noG) hK
  ((conv => whnf); repeat ((first | refine SCall.app (hsn _) ?_ | refine yf rfl ?_ | refine yt rfl ?_ | refine yo rfl ?_ | refine yc rfl ?_ | refine ys rfl ?_ | refine ye rfl ?_ | refine yn rfl ?_ | refine zw ?_ | refine zdt ?_ | refine zdf ?_ | refine znt ?_ | refine znf ?_ | refine zcd ?_ | refine zci ?_ | refine zc3 ?_) <;> (conv => whnf)))
  intro h1 hs1 k1 hn1
  have hrn := fun (K : V → Heap → Prop) hK => rlnew_at (K := K) hG (h := h1) 2 (by omega) hK
  have hn1' : h1.next = 4 := hn1
  rw [hn1'] at hrn
  ((conv => whnf); repeat ((first | refine SCall.app (hrn _) ?_ | refine yf rfl ?_ | refine yt rfl ?_ | refine yo rfl ?_ | refine yc rfl ?_ | refine ys rfl ?_ | refine ye rfl ?_ | refine yn rfl ?_ | refine zw ?_ | refine zdt ?_ | refine zdf ?_ | refine znt ?_ | refine znf ?_ | refine zcd ?_ | refine zci ?_ | refine zc3 ?_) <;> (conv => whnf)))
  intro h2 hr2 hc2 k2 hn2
  have hw0 := rw_begin (w := none) hs1 k2 hr2 hc2 (fun _ h => by cases h) (by show 6 ≤ h2.next; omega)
  ((conv => whnf); repeat ((first | refine yf rfl ?_ | refine yt rfl ?_ | refine yo rfl ?_ | refine yc rfl ?_ | refine ys rfl ?_ | refine ye rfl ?_ | refine yn rfl ?_ | refine zw ?_ | refine zdt ?_ | refine zdf ?_ | refine znt ?_ | refine znf ?_ | refine zcd ?_ | refine zci ?_ | refine zc3 ?_) <;> (conv => whnf)))
  refine SLoopV.by (fun q fr st => ∃ (i : Nat) (hh lo : Heap) (all : List EvD) (R id at_ fresh : Int) (out : Bool) (k : CallD) (ρ : Int), i ≤ ops.length ∧ i ≤ 30 ∧ q = ops.length - i ∧ RW hh none 2 all R id at_ fresh out k ρ ∧ all.length ≤ 5 * i ∧ R ≤ i ∧ (0 ≤ id ∧ id ≤ i) ∧ (0 ≤ at_ ∧ at_ ≤ 100 * i) ∧ (0 ≤ fresh ∧ fresh ≤ i) ∧
      Fr.le [(7, .i .i64 i), (6, .i .i64 (100 * i)), (5, .p (.g 5) 0), (4, .p (.g 3) 0), (0, .sl none 7 (ops.map opT))] fr ∧ st = ⟨hh, lo⟩)
    ops.length ⟨0, h2, _, [], 0, 0, 0, 0, false, ⟨0, 0, 0, 0⟩, -1, Nat.zero_le _, by omega, rfl, hw0, Nat.zero_le _, by omega, by omega, by omega, by omega, (by repeat (first | exact Fr.le_nil | refine Fr.le_cons rfl ?_)), rfl⟩ ?_
  rintro q fr st ⟨i, hh, lo, all, R, id, at_, fresh, out, k, ρ, hi, hi30, rfl, hw, hal, hR, hid, hat, hfr, hle0, rfl⟩
  refine ⟨_, hle0, fun R1 hR1 => ?_⟩
  have hr0 := hw.all.r0
  have a1 : ∀ x, (lo.push x).get lo.next = some x := fun x => Heap.get_push_self _ _
  have a2 : ∀ x y, ((lo.push x).set lo.next y).get lo.next = some y := fun x y => Heap.get_set_self (a1 x)
  have a3 : ∀ x y z, (((lo.push x).set lo.next y).push z).get (lo.next + 1) = some z := fun x y z => Heap.get_push_self _ _
  have a4 : ∀ x y z u, ((((lo.push x).set lo.next y).push z).set (lo.next + 1) u).get (lo.next + 1) = some u := fun x y z u => Heap.get_set_self (a3 x y z)
  by_cases hin : i < ops.length ∧ i < 30
  case neg =>
    have hlate : lateB (100 * i + 300) at_ = true := by unfold lateB; rw [decide_eq_true (by omega), decide_eq_true (by omega)]; rfl
    by_cases hin2 : i < ops.length
    all_goals
      ((conv => whnf); repeat ((first | refine SWrap.w64 (by omega) (by omega) ?_ | refine yf rfl ?_ | refine yt rfl ?_ | refine yo rfl ?_ | refine yc rfl ?_ | refine ys rfl ?_ | refine ye rfl ?_ | refine yn rfl ?_ | refine zw ?_ | refine zdt ?_ | refine zdf ?_ | refine znt ?_ | refine znf ?_ | refine zcd ?_ | refine zci ?_ | refine zc3 ?_) <;> (conv => whnf)))
      refine SLoopV.un rfl ?_
      have hwant := fun (K : V → Heap → Prop) hK => rw_want (K := K) hG hw (now := 100 * i + 300) (by omega) (by omega) (by omega) (fun _ c => absurd c (by rw [hlate]; decide)) (fun _ => hK)
      ((conv => whnf); repeat ((first | refine SCall.app (hwant _) ?_ | refine yf rfl ?_ | refine yt rfl ?_ | refine yo rfl ?_ | refine yc rfl ?_ | refine ys rfl ?_ | refine ye rfl ?_ | refine yn rfl ?_ | refine zw ?_ | refine zdt ?_ | refine zdf ?_ | refine znt ?_ | refine znf ?_ | refine zcd ?_ | refine zci ?_ | refine zc3 ?_) <;> (conv => whnf)))
      intro h3 hw3
      obtain ⟨e1, e2⟩ := wantC_from 2 id ρ
      have hkk := wantC_kind 2 id ρ
      obtain ⟨k3, hk3⟩ : ∃ k3, k3 = wantC 2 id ρ := ⟨_, rfl⟩
      rw [← hk3] at hw3 e1 e2 hkk
      have hof := fun (K : V → Heap → Prop) hK => rw_ofC (K := K) hG hA hS hw3 (by omega) hkk hK
      rw [e1] at hof
      unfold ansC ansR callR at hof
      rw [← hk3]
      ((conv => whnf); repeat ((first | refine SCall.app (hof _) ?_ | refine SEx.of (a2 _ _) ?_ | refine SEx.of (a1 _) ?_ | refine yf rfl ?_ | refine yt rfl ?_ | refine yo rfl ?_ | refine yc rfl ?_ | refine ys rfl ?_ | refine ye rfl ?_ | refine yn rfl ?_ | refine zw ?_ | refine zdt ?_ | refine zdf ?_ | refine znt ?_ | refine znf ?_ | refine zcd ?_ | refine zci ?_ | refine zc3 ?_) <;> (conv => whnf)))
      intro es xs err h4 hans hw4
      have htk := fun (K : V → Heap → Prop) hK => rw_take (K := K) hG hw4 (by omega) (by omega) hans hK
      unfold ansC ansR at htk
      ((conv => whnf); repeat ((first | refine SCall.app (htk _) ?_ | refine yf rfl ?_ | refine yt rfl ?_ | refine yo rfl ?_ | refine yc rfl ?_ | refine ys rfl ?_ | refine ye rfl ?_ | refine yn rfl ?_ | refine zw ?_ | refine zdt ?_ | refine zdf ?_ | refine znt ?_ | refine znf ?_ | refine zcd ?_ | refine zci ?_ | refine zc3 ?_) <;> (conv => whnf)))
      intro v h5 fr5 ρ5 _ hρ5 _ hw5
      have hc5 := fun (K : V → Heap → Prop) hK => rw_cache (K := K) hG hw5 hK
      have hr5 := fun (K : V → Heap → Prop) hK => rw_crev (K := K) hG hw5 hK
      have hs5 := fun (K : V → Heap → Prop) hK => rw_rev (K := K) hG hw5 hK
      rcases hρ5 with rfl | rfl
      · ((conv => whnf); repeat ((first | refine SCall.app (hc5 _) ?_ | refine SCall.app (hr5 _) ?_ | refine SCall.app (hs5 _) ?_ | refine SIf.dt (rfl : ρ5 = ρ5) ?_ | refine yf rfl ?_ | refine yt rfl ?_ | refine yo rfl ?_ | refine yc rfl ?_ | refine ys rfl ?_ | refine ye rfl ?_ | refine yn rfl ?_ | refine zw ?_ | refine zdt ?_ | refine zdf ?_ | refine znt ?_ | refine znf ?_ | refine zcd ?_ | refine zci ?_ | refine zc3 ?_) <;> (conv => whnf)))
        have hal5 := fun (K : V → Heap → Prop) hK => rw_callC (K := K) hG hS hw5 (by omega) hK
        have hkn : knows all ρ5 = atR all ρ5 := by unfold knows; rw [if_pos hr0]
        rw [hkn] at hal5
        ((conv => whnf); repeat ((first | refine SCall.app (hal5 _) ?_ | refine yf rfl ?_ | refine yt rfl ?_ | refine yo rfl ?_ | refine yc rfl ?_ | refine ys rfl ?_ | refine ye rfl ?_ | refine yn rfl ?_ | refine zw ?_ | refine zdt ?_ | refine zdf ?_ | refine znt ?_ | refine znf ?_ | refine zcd ?_ | refine zci ?_ | refine zc3 ?_) <;> (conv => whnf)))
        intro h6 hw6
        have hli6 := fun (K : V → Heap → Prop) hK => rw_slistC (K := K) hG hA hS hw6 (by omega) hK
        ((conv => whnf); repeat ((first | refine SCall.app (hli6 _) ?_ | refine yf rfl ?_ | refine yt rfl ?_ | refine yo rfl ?_ | refine yc rfl ?_ | refine ys rfl ?_ | refine ye rfl ?_ | refine yn rfl ?_ | refine zw ?_ | refine zdt ?_ | refine zdf ?_ | refine znt ?_ | refine znf ?_ | refine zcd ?_ | refine zci ?_ | refine zc3 ?_) <;> (conv => whnf)))
        intro h7 hw7
        have hln := atR_len all ρ5
        have heq := fun (K : V → Heap → Prop) hK => eqEns_at (K := K) hG (h := h7) (L := atR all ρ5) (.inr rfl) (.inr rfl) (by omega) hK
        ((conv => whnf); repeat ((first | refine SCall.app (heq _) ?_ | refine yf rfl ?_ | refine yt rfl ?_ | refine yo rfl ?_ | refine yc rfl ?_ | refine ys rfl ?_ | refine ye rfl ?_ | refine yn rfl ?_ | refine zw ?_ | refine zdt ?_ | refine zdf ?_ | refine znt ?_ | refine znf ?_ | refine zcd ?_ | refine zci ?_ | refine zc3 ?_) <;> (conv => whnf)))
      · have hne : ¬ (-1 : Int) = R := by omega
        ((conv => whnf); repeat ((first | refine SCall.app (hc5 _) ?_ | refine SCall.app (hr5 _) ?_ | refine SCall.app (hs5 _) ?_ | refine SIf.df hne ?_ | refine yf rfl ?_ | refine yt rfl ?_ | refine yo rfl ?_ | refine yc rfl ?_ | refine ys rfl ?_ | refine ye rfl ?_ | refine yn rfl ?_ | refine zw ?_ | refine zdt ?_ | refine zdf ?_ | refine znt ?_ | refine znf ?_ | refine zcd ?_ | refine zci ?_ | refine zc3 ?_) <;> (conv => whnf)))
        refine SLoopV.un rfl ?_
        have hwant := fun (K : V → Heap → Prop) hK => rw_want (K := K) hG hw5 (now := 100 * i + 300) (by omega) (by omega) (by omega) (fun c _ => by cases c) (fun _ => hK)
        ((conv => whnf); repeat ((first | refine SCall.app (hwant _) ?_ | refine yf rfl ?_ | refine yt rfl ?_ | refine yo rfl ?_ | refine yc rfl ?_ | refine ys rfl ?_ | refine ye rfl ?_ | refine yn rfl ?_ | refine zw ?_ | refine zdt ?_ | refine zdf ?_ | refine znt ?_ | refine znf ?_ | refine zcd ?_ | refine zci ?_ | refine zc3 ?_) <;> (conv => whnf)))
        intro h6 hw6
        obtain ⟨f1, f2⟩ := wantC_from 2 (id + 1) (-1)
        have hkk := wantC_kind 2 (id + 1) (-1)
        obtain ⟨k6, hk6⟩ : ∃ k6, k6 = wantC 2 (id + 1) (-1) := ⟨_, rfl⟩
        rw [← hk6] at hw6 f1 f2 hkk
        have hof6 := fun (K : V → Heap → Prop) hK => rw_ofC (K := K) hG hA hS hw6 (by omega) hkk hK
        rw [f1] at hof6
        unfold ansC ansR callR at hof6
        rw [← hk6]
        ((conv => whnf); repeat ((first | refine SCall.app (hof6 _) ?_ | refine SEx.of (a4 _ _ _ _) ?_ | refine SEx.of (a3 _ _ _) ?_ | refine yf rfl ?_ | refine yt rfl ?_ | refine yo rfl ?_ | refine yc rfl ?_ | refine ys rfl ?_ | refine ye rfl ?_ | refine yn rfl ?_ | refine zw ?_ | refine zdt ?_ | refine zdf ?_ | refine znt ?_ | refine znf ?_ | refine zcd ?_ | refine zci ?_ | refine zc3 ?_) <;> (conv => whnf)))
        intro es7 xs7 err7 h7 hans7 hw7
        have htk7 := fun (K : V → Heap → Prop) hK => rw_take (K := K) hG hw7 (by omega) (by omega) hans7 hK
        unfold ansC ansR at htk7
        ((conv => whnf); repeat ((first | refine SCall.app (htk7 _) ?_ | refine yf rfl ?_ | refine yt rfl ?_ | refine yo rfl ?_ | refine yc rfl ?_ | refine ys rfl ?_ | refine ye rfl ?_ | refine yn rfl ?_ | refine zw ?_ | refine zdt ?_ | refine zdf ?_ | refine znt ?_ | refine znf ?_ | refine zcd ?_ | refine zci ?_ | refine zc3 ?_) <;> (conv => whnf)))
        intro v8 h8 fr8 ρ8 _ _ hρ8 hw8
        have hρ8' := hρ8 (by decide)
        subst hρ8'
        have hc8 := fun (K : V → Heap → Prop) hK => rw_cache (K := K) hG hw8 hK
        have hr8 := fun (K : V → Heap → Prop) hK => rw_crev (K := K) hG hw8 hK
        have hs8 := fun (K : V → Heap → Prop) hK => rw_rev (K := K) hG hw8 hK
        ((conv => whnf); repeat ((first | refine SCall.app (hc8 _) ?_ | refine SCall.app (hr8 _) ?_ | refine SCall.app (hs8 _) ?_ | refine SIf.dt (rfl : ρ8 = ρ8) ?_ | refine yf rfl ?_ | refine yt rfl ?_ | refine yo rfl ?_ | refine yc rfl ?_ | refine ys rfl ?_ | refine ye rfl ?_ | refine yn rfl ?_ | refine zw ?_ | refine zdt ?_ | refine zdf ?_ | refine znt ?_ | refine znf ?_ | refine zcd ?_ | refine zci ?_ | refine zc3 ?_) <;> (conv => whnf)))
        have hal8 := fun (K : V → Heap → Prop) hK => rw_callC (K := K) hG hS hw8 (by omega) hK
        have hkn : knows all ρ8 = atR all ρ8 := by unfold knows; rw [if_pos hr0]
        rw [hkn] at hal8
        ((conv => whnf); repeat ((first | refine SCall.app (hal8 _) ?_ | refine yf rfl ?_ | refine yt rfl ?_ | refine yo rfl ?_ | refine yc rfl ?_ | refine ys rfl ?_ | refine ye rfl ?_ | refine yn rfl ?_ | refine zw ?_ | refine zdt ?_ | refine zdf ?_ | refine znt ?_ | refine znf ?_ | refine zcd ?_ | refine zci ?_ | refine zc3 ?_) <;> (conv => whnf)))
        intro h9 hw9
        have hli9 := fun (K : V → Heap → Prop) hK => rw_slistC (K := K) hG hA hS hw9 (by omega) hK
        ((conv => whnf); repeat ((first | refine SCall.app (hli9 _) ?_ | refine yf rfl ?_ | refine yt rfl ?_ | refine yo rfl ?_ | refine yc rfl ?_ | refine ys rfl ?_ | refine ye rfl ?_ | refine yn rfl ?_ | refine zw ?_ | refine zdt ?_ | refine zdf ?_ | refine znt ?_ | refine znf ?_ | refine zcd ?_ | refine zci ?_ | refine zc3 ?_) <;> (conv => whnf)))
        intro h10 hw10
        have hln := atR_len all ρ8
        have heq := fun (K : V → Heap → Prop) hK => eqEns_at (K := K) hG (h := h10) (L := atR all ρ8) (.inr rfl) (.inr rfl) (by omega) hK
        ((conv => whnf); repeat ((first | refine SCall.app (heq _) ?_ | refine yf rfl ?_ | refine yt rfl ?_ | refine yo rfl ?_ | refine yc rfl ?_ | refine ys rfl ?_ | refine ye rfl ?_ | refine yn rfl ?_ | refine zw ?_ | refine zdt ?_ | refine zdf ?_ | refine znt ?_ | refine znf ?_ | refine zcd ?_ | refine zci ?_ | refine zc3 ?_) <;> (conv => whnf)))
  obtain ⟨hin1, hin2⟩ := hin
  have he := List.getElem?_eq_getElem hin1
  have heo := hops _ (List.getElem_mem hin1)
  generalize ops[i] = o at he heo
  have hge := map_get' (f := opT) (j := ((i : Nat) : Int).toNat) (show i = ((i : Nat) : Int).toNat by omega) he
  by_cases k0 : o.kind = 0
  · obtain ⟨Q, hQ⟩ : ∃ Q, Q = min o.ws.length 5 := ⟨_, rfl⟩
    have hwl : (o.ws.map wrR).length = o.ws.length := List.length_map _
    have hwo := heo.ws
    have hN := take5 o.ws Q hQ
    have htx := fun (K : V → Heap → Prop) (hK : _ ∧ _) => rw_txn (K := K) hG hA hw (by omega) (by omega) (o.ws.take 5) (fun w hm => heo.each w (List.mem_of_mem_take hm)) (by simp; omega) hK.1 hK.2
    ((conv => whnf); repeat ((first | refine SIf.dt k0 ?_ | refine SChk.ix (by omega) (by omega) ?_ | refine SWrap.w64 (by omega) (by omega) ?_ | refine SOpt.of (mn2 (z := (Q : Int)) (by rw [hwl]; split <;> omega)) ?_ | refine SChk.d3 (by omega) (by omega) (by omega) ?_ | refine SEx.of (hge) ?_ | refine yf rfl ?_ | refine yt rfl ?_ | refine yo rfl ?_ | refine yc rfl ?_ | refine ys rfl ?_ | refine ye rfl ?_ | refine yn rfl ?_ | refine zw ?_ | refine zdt ?_ | refine zdf ?_ | refine znt ?_ | refine znf ?_ | refine zcd ?_ | refine zci ?_ | refine zc3 ?_) <;> (conv => whnf)))
    rw [hN]
    ((conv => whnf); repeat ((first | refine SCall.app (htx _) ?_ | refine yf rfl ?_ | refine yt rfl ?_ | refine yo rfl ?_ | refine yc rfl ?_ | refine ys rfl ?_ | refine ye rfl ?_ | refine yn rfl ?_ | refine zw ?_ | refine zdt ?_ | refine zdf ?_ | refine znt ?_ | refine znf ?_ | refine zcd ?_ | refine zci ?_ | refine zc3 ?_) <;> (conv => whnf)))
    refine ⟨fun e h' _ hw' => ?_, fun h' hwm hw' => ?_⟩
    · ((conv => whnf); repeat ((first | refine SWrap.w64 (by omega) (by omega) ?_ | refine yf rfl ?_ | refine yt rfl ?_ | refine yo rfl ?_ | refine yc rfl ?_ | refine ys rfl ?_ | refine ye rfl ?_ | refine yn rfl ?_ | refine zw ?_ | refine zdt ?_ | refine zdf ?_ | refine znt ?_ | refine znf ?_ | refine zcd ?_ | refine zci ?_ | refine zc3 ?_) <;> (conv => whnf)))
      exact hR1 (ops.length - (i + 1)) _ _ (by omega) ⟨i + 1, h', _, all, R, id, at_, fresh, out, k, ρ, by omega, by omega, rfl, hw', by omega, by omega, by omega, by omega, by omega, (by repeat (first | exact Fr.le_nil | refine Fr.le_cons rfl ?_)), rfl⟩
    · ((conv => whnf); repeat ((first | refine SWrap.w64 (by omega) (by omega) ?_ | refine yf rfl ?_ | refine yt rfl ?_ | refine yo rfl ?_ | refine yc rfl ?_ | refine ys rfl ?_ | refine ye rfl ?_ | refine yn rfl ?_ | refine zw ?_ | refine zdt ?_ | refine zdf ?_ | refine znt ?_ | refine znf ?_ | refine zcd ?_ | refine zci ?_ | refine zc3 ?_) <;> (conv => whnf)))
      exact hR1 (ops.length - (i + 1)) _ _ (by omega) ⟨i + 1, h', _, _, R + 1, id, at_, fresh, out, k, ρ, by omega, by omega, rfl, hw', by unfold evW; simp; omega, by omega, by omega, by omega, by omega, (by repeat (first | exact Fr.le_nil | refine Fr.le_cons rfl ?_)), rfl⟩
  by_cases k1 : o.kind = 1
  · have hrv := fun (K : V → Heap → Prop) hK => rw_rev (K := K) hG hw hK
    have hco := fun (K : V → Heap → Prop) hK => rw_compact (K := K) hG hw R hK
    ((conv => whnf); repeat ((first | refine SIf.df k0 ?_ | refine SIf.dt k1 ?_ | refine SChk.ix (by omega) (by omega) ?_ | refine SWrap.w64 (by omega) (by omega) ?_ | refine SCall.app (hrv _) ?_ | refine SCall.app (hco _) ?_ | refine SEx.of (hge) ?_ | refine yf rfl ?_ | refine yt rfl ?_ | refine yo rfl ?_ | refine yc rfl ?_ | refine ys rfl ?_ | refine ye rfl ?_ | refine yn rfl ?_ | refine zw ?_ | refine zdt ?_ | refine zdf ?_ | refine znt ?_ | refine znf ?_ | refine zcd ?_ | refine zci ?_ | refine zc3 ?_) <;> (conv => whnf)))
    intro h' hw'
    ((conv => whnf); repeat ((first | refine SWrap.w64 (by omega) (by omega) ?_ | refine yf rfl ?_ | refine yt rfl ?_ | refine yo rfl ?_ | refine yc rfl ?_ | refine ys rfl ?_ | refine ye rfl ?_ | refine yn rfl ?_ | refine zw ?_ | refine zdt ?_ | refine zdf ?_ | refine znt ?_ | refine znf ?_ | refine zcd ?_ | refine zci ?_ | refine zc3 ?_) <;> (conv => whnf)))
    exact hR1 (ops.length - (i + 1)) _ _ (by omega) ⟨i + 1, h', _, all, R, id, at_, fresh, out, k, ρ, by omega, by omega, rfl, hw', by omega, by omega, by omega, by omega, by omega, (by repeat (first | exact Fr.le_nil | refine Fr.le_cons rfl ?_)), rfl⟩
  · have hwant := fun (K : V → Heap → Prop) (hK : _ ∧ _) => rw_want (K := K) hG hw (now := 100 * i + 100) (by omega) (by omega) (by omega) hK.1 hK.2
    ((conv => whnf); repeat ((first | refine SIf.df k0 ?_ | refine SIf.df k1 ?_ | refine SChk.ix (by omega) (by omega) ?_ | refine SWrap.w64 (by omega) (by omega) ?_ | refine SCall.app (hwant _) ?_ | refine SEx.of (hge) ?_ | refine yf rfl ?_ | refine yt rfl ?_ | refine yo rfl ?_ | refine yc rfl ?_ | refine ys rfl ?_ | refine ye rfl ?_ | refine yn rfl ?_ | refine zw ?_ | refine zdt ?_ | refine zdf ?_ | refine znt ?_ | refine znf ?_ | refine zcd ?_ | refine zci ?_ | refine zc3 ?_) <;> (conv => whnf)))
    refine ⟨fun ho hl => ?_, fun _ h3 hw3 => ?_⟩
    · ((conv => whnf); repeat ((first | refine SWrap.w64 (by omega) (by omega) ?_ | refine SEx.of (a2 _ _) ?_ | refine SEx.of (a1 _) ?_ | refine yf rfl ?_ | refine yt rfl ?_ | refine yo rfl ?_ | refine yc rfl ?_ | refine ys rfl ?_ | refine ye rfl ?_ | refine yn rfl ?_ | refine zw ?_ | refine zdt ?_ | refine zdf ?_ | refine znt ?_ | refine znf ?_ | refine zcd ?_ | refine zci ?_ | refine zc3 ?_) <;> (conv => whnf)))
      exact hR1 (ops.length - (i + 1)) _ _ (by omega) ⟨i + 1, hh, _, all, R, id, at_, fresh, out, k, ρ, by omega, by omega, rfl, hw, by omega, by omega, by omega, by omega, by omega, (by repeat (first | exact Fr.le_nil | refine Fr.le_cons rfl ?_)), rfl⟩
    · obtain ⟨e1, e2⟩ := wantC_from 2 id ρ
      have hkk := wantC_kind 2 id ρ
      obtain ⟨k3, hk3⟩ : ∃ k3, k3 = wantC 2 id ρ := ⟨_, rfl⟩
      rw [← hk3] at hw3 e1 e2 hkk
      rw [← hk3]
      cases hlo : o.lost
      · have hrow : opT o = [.i .i64 o.kind, .sl none 3 (o.gs.map guR), .sl none 3 (o.ws.map wrR), .i .i64 o.rev, .i .i64 o.now, .b false, .b o.late] := by rw [← hlo]; rfl
        have hof := fun (K : V → Heap → Prop) hK => rw_ofC (K := K) hG hA hS hw3 (by omega) hkk hK
        rw [e1] at hof
        unfold ansC ansR callR at hof
        ((conv => whnf); repeat ((first | refine SChk.ix (by omega) (by omega) ?_ | refine SCall.app (hof _) ?_ | refine SEx.of (hge.trans (congrArg some hrow)) ?_ | refine SEx.of (a2 _ _) ?_ | refine SEx.of (a1 _) ?_ | refine yf rfl ?_ | refine yt rfl ?_ | refine yo rfl ?_ | refine yc rfl ?_ | refine ys rfl ?_ | refine ye rfl ?_ | refine yn rfl ?_ | refine zw ?_ | refine zdt ?_ | refine zdf ?_ | refine znt ?_ | refine znf ?_ | refine zcd ?_ | refine zci ?_ | refine zc3 ?_) <;> (conv => whnf)))
        intro es xs err h4 hans hw4
        have htk := fun (K : V → Heap → Prop) hK => rw_take (K := K) hG hw4 (by omega) (by omega) hans hK
        unfold ansC ansR at htk
        ((conv => whnf); repeat ((first | refine SCall.app (htk _) ?_ | refine yf rfl ?_ | refine yt rfl ?_ | refine yo rfl ?_ | refine yc rfl ?_ | refine ys rfl ?_ | refine ye rfl ?_ | refine yn rfl ?_ | refine zw ?_ | refine zdt ?_ | refine zdf ?_ | refine znt ?_ | refine znf ?_ | refine zcd ?_ | refine zci ?_ | refine zc3 ?_) <;> (conv => whnf)))
        intro v h5 fr5 ρ5 hf5 hρ5 _ hw5
        ((conv => whnf); repeat ((first | refine SWrap.w64 (by omega) (by omega) ?_ | refine yf rfl ?_ | refine yt rfl ?_ | refine yo rfl ?_ | refine yc rfl ?_ | refine ys rfl ?_ | refine ye rfl ?_ | refine yn rfl ?_ | refine zw ?_ | refine zdt ?_ | refine zdf ?_ | refine znt ?_ | refine znf ?_ | refine zcd ?_ | refine zci ?_ | refine zc3 ?_) <;> (conv => whnf)))
        exact hR1 (ops.length - (i + 1)) _ _ (by omega) ⟨i + 1, h5, _, all, R, id + 1, 100 * i + 100, fr5, false, k3, ρ5, by omega, by omega, rfl, hw5, by omega, by omega, by omega, by omega, by omega, (by repeat (first | exact Fr.le_nil | refine Fr.le_cons rfl ?_)), rfl⟩
      · have hrow : opT o = [.i .i64 o.kind, .sl none 3 (o.gs.map guR), .sl none 3 (o.ws.map wrR), .i .i64 o.rev, .i .i64 o.now, .b true, .b o.late] := by rw [← hlo]; rfl
        ((conv => whnf); repeat ((first | refine SChk.ix (by omega) (by omega) ?_ | refine SWrap.w64 (by omega) (by omega) ?_ | refine SEx.of (hge.trans (congrArg some hrow)) ?_ | refine SEx.of (a2 _ _) ?_ | refine SEx.of (a1 _) ?_ | refine yf rfl ?_ | refine yt rfl ?_ | refine yo rfl ?_ | refine yc rfl ?_ | refine ys rfl ?_ | refine ye rfl ?_ | refine yn rfl ?_ | refine zw ?_ | refine zdt ?_ | refine zdf ?_ | refine znt ?_ | refine znf ?_ | refine zcd ?_ | refine zci ?_ | refine zc3 ?_) <;> (conv => whnf)))
        exact hR1 (ops.length - (i + 1)) _ _ (by omega) ⟨i + 1, h3, _, all, R, id + 1, 100 * i + 100, fresh, true, k3, ρ, by omega, by omega, rfl, hw3, by omega, by omega, by omega, by omega, by omega, (by repeat (first | exact Fr.le_nil | refine Fr.le_cons rfl ?_)), rfl⟩
end
end Go.Eng
