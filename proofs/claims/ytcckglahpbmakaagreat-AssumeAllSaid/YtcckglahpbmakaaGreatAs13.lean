/-
AssumeAll: what one takes for done, until it is known, too old, or of another term: the run.
-/
import Derived.Test.YtcckglahpbmakaaGreatAs12b
set_option linter.unusedVariables false
set_option linter.unusedSimpArgs false
namespace Go.Eng
open Go
structure OpOk (o : OpA) : Prop where
  pod : o.d.pod.length ≤ 9223372036854775807
  vic : o.d.vic.length ≤ 9223372036854775807
  pods : o.pods.length ≤ 9223372036854775807
  each : ∀ p ∈ o.pods, PodLen p ∧ p.term ≤ 9223372036854775807
def WOk (w : List OpA) : Prop := ∀ x ∈ w, x.d.pod.length ≤ 9223372036854775807 ∧ x.d.vic.length ≤ 4
theorem wok_d {w : List OpA} (h : WOk w) : (∀ o ∈ w.map (·.d), o.pod.length ≤ 9223372036854775807) ∧ ∀ o ∈ w.map (·.d), o.vic.length * 16 ≤ 140737488355328 := by
  refine ⟨fun o ho => ?_, fun o ho => ?_⟩
  · obtain ⟨x, hx, rfl⟩ := List.mem_map.1 ho
    exact (h x hx).1
  · obtain ⟨x, hx, rfl⟩ := List.mem_map.1 ho
    have := (h x hx).2
    omega
theorem any_d (w : List OpA) (pod : Str) : ((w.map (·.d)).any fun o => o.pod == pod) = w.any fun x => x.d.pod == pod := by
  rw [List.any_map]; rfl
theorem any_take {w : List OpA} {j : Nat} {x : OpA} (h : w[j]? = some x) (f : OpA → Bool) : (w.take (j + 1)).any f = ((w.take j).any f || f x) := by
  rw [List.take_add_one, h, List.any_append]; simp
theorem leftA_take {w : List OpA} {j : Nat} {x : OpA} (h : w[j]? = some x) (kn : List PodD) (now term : Int) : leftA kn now term (w.take (j + 1)) = leftA kn now term (w.take j) ++ (if qA kn now term x then [x] else []) := by
  unfold leftA
  rw [List.take_add_one, h, List.filter_append]
  cases hq : qA kn now term x <;> simp [hq]
def EsV (lo : Nat) (lj : Heap) (ev : V) (kn : List PodD) : Prop := (ev = .nils ∧ kn = []) ∨ (0 < kn.length ∧ ∃ u, ev = .sl (some (.l u)) 3 ((knE kn).map enR) ∧ lo < u ∧ u < lj.next ∧ lj.get u = some .spare)
def LfV (lo : Nat) (lj : Heap) (fv : V) (l : List OpA) : Prop := (fv = .nils ∧ l = []) ∨ (0 < l.length ∧ ∃ u, fv = .sl (some (.l u)) 8 (l.map opR) ∧ lo < u ∧ u < lj.next ∧ lj.get u = some .spare)
theorem LfV.keep {lo : Nat} {lj lk : Heap} {fv : V} {l : List OpA} (h : LfV lo lj fv l) (hk : Heap.Keeps (fun _ => False) lj lk) : LfV lo lk fv l := by
  rcases h with h | ⟨h1, u, h2, h3, h4, h5⟩
  · exact .inl h
  · exact .inr ⟨h1, u, h2, h3, Nat.lt_of_lt_of_le h4 hk.1, by rw [hk.2 u h4 (fun x => x)]; exact h5⟩
section
variable {P : Program} (hG : FnsOk P AF.fns.get)
include hG
set_option maxHeartbeats 64000000 in
set_option maxRecDepth 20000 in
theorem assumeAll_ok (hon : OnceOk P 161) (hb0 : ACall P 8 [] noG (fun r _ => r = .b true)) (ops : List OpA) (hops : ∀ o ∈ ops, OpOk o) :
    ACall P 7 [.sl none 8 (ops.map opR)] noG (fun r _ => r = .b true) := by
  have hol : (ops.map opR).length = ops.length := List.length_map _
  refine fn_sv (hG _ AF.f7 rfl) rfl ?_
  ((conv => whnf); repeat ((first | refine yf rfl ?_ | refine yt rfl ?_ | refine yo rfl ?_ | refine yc rfl ?_ | refine ys rfl ?_ | refine ye rfl ?_ | refine yn rfl ?_ | refine zw ?_ | refine zdt ?_ | refine zdf ?_ | refine zci ?_) <;> (conv => whnf)))
  refine ⟨hb0.frame rfl fun v h' hv => ?_⟩
  subst hv
  refine ⟨rfl, ?_⟩
  have hnw := fun K hK => anew_at (K := K) hG (h := noG) hK
  ((conv => whnf); repeat ((first | refine SCall.app (hnw _) ?_ | refine yf rfl ?_ | refine yt rfl ?_ | refine yo rfl ?_ | refine yc rfl ?_ | refine ys rfl ?_ | refine ye rfl ?_ | refine yn rfl ?_ | refine zw ?_ | refine zdt ?_ | refine zdf ?_ | refine zci ?_) <;> (conv => whnf)))
  intro h1 a1 k1
  ((conv => whnf); repeat ((first | refine yf rfl ?_ | refine yt rfl ?_ | refine yo rfl ?_ | refine yc rfl ?_ | refine ys rfl ?_ | refine ye rfl ?_ | refine yn rfl ?_ | refine zw ?_ | refine zdt ?_ | refine zdf ?_ | refine zci ?_) <;> (conv => whnf)))
  refine SLoopV.by (fun q fr st => ∃ (i : Nat) (hh lo : Heap) (lv : V) (w : List OpA) (r : Option Nat), i ≤ ops.length ∧ i ≤ 50 ∧ q = ops.length - i ∧ AsAt hh 0 r (w.map (·.d)) ∧ w.length ≤ i ∧ WOk w ∧ WV lo lv w ∧
      Fr.le [(6, .i .i64 i), (5, lv), (4, .p (.g 0) 0), (0, .sl none 8 (ops.map opR))] fr ∧ st = ⟨hh, lo⟩)
    ops.length ⟨0, h1, _, .nils, [], none, Nat.zero_le _, by omega, rfl, a1, Nat.le_refl _, (fun _ h => by cases h), .inl ⟨rfl, rfl⟩, (by repeat (first | exact Fr.le_nil | refine Fr.le_cons rfl ?_)), rfl⟩ ?_
  rintro q fr st ⟨i, hh, lo, lv, w, r, hi, hi50, rfl, ha, hwl, hwo, hlv, hle0, rfl⟩
  refine ⟨_, hle0, fun R hR => ?_⟩
  have hdl : (w.map (·.d)).length = w.length := List.length_map _
  have hwm : (w.map opR).length = w.length := List.length_map _
  by_cases hin : i < ops.length ∧ i < 50
  case neg =>
    by_cases hin2 : i < ops.length
    all_goals
      have hnb := fun (K : V → Heap → Prop) hK => ahas_at (K := K) hG ha (by omega) [110, 111, 98, 111, 100, 121, 45, 97, 116, 45, 97, 108, 108] hK
      rw [any_d] at hnb
      rcases hlv with ⟨rfl, rfl⟩ | ⟨hw0, t, rfl, ht1, ht2⟩
      · ((conv => whnf); repeat ((first | refine SLoopV.un rfl ?_ | refine SCall.app (hnb _) ?_ | refine yf rfl ?_ | refine yt rfl ?_ | refine yo rfl ?_ | refine yc rfl ?_ | refine ys rfl ?_ | refine ye rfl ?_ | refine yn rfl ?_ | refine zw ?_ | refine zdt ?_ | refine zdf ?_ | refine zci ?_) <;> (conv => whnf)))
        intro h2 k2
        ((conv => whnf); repeat ((first | refine yf rfl ?_ | refine yt rfl ?_ | refine yo rfl ?_ | refine yc rfl ?_ | refine ys rfl ?_ | refine ye rfl ?_ | refine yn rfl ?_ | refine zw ?_ | refine zdt ?_ | refine zdf ?_ | refine zci ?_) <;> (conv => whnf)))
        rfl
      · ((conv => whnf); repeat ((first | refine yf rfl ?_ | refine yt rfl ?_ | refine yo rfl ?_ | refine yc rfl ?_ | refine ys rfl ?_ | refine ye rfl ?_ | refine yn rfl ?_ | refine zw ?_ | refine zdt ?_ | refine zdf ?_ | refine zci ?_) <;> (conv => whnf)))
        refine SLoopV.by (fun q fr st => ∃ (j : Nat) (lj : Heap) (th : Bool), j ≤ w.length ∧ q = w.length - j ∧ th = ((w.take j).any fun x => x.d.pod == [110, 111, 98, 111, 100, 121, 45, 97, 116, 45, 97, 108, 108]) ∧
            Fr.le [(256, .i .i64 j), (255, .i .i64 (w.map opR).length), (254, .sl (some (.l t)) 8 (w.map opR)), (25, .b th), (4, .p (.g 0) 0)] fr ∧ st = ⟨hh, lj⟩)
          w.length ⟨0, _, false, Nat.zero_le _, rfl, rfl, (by repeat (first | exact Fr.le_nil | refine Fr.le_cons rfl ?_)), rfl⟩ ?_
        rintro q fr st ⟨j, lj, th, hj, rfl, hth, hle1, rfl⟩
        refine ⟨_, hle1, fun R' hR' => ?_⟩
        by_cases hjn : j < w.length
        · have hx := List.getElem?_eq_getElem hjn
          generalize w[j] = x at hx
          have hst := any_take hx (fun x => x.d.pod == [110, 111, 98, 111, 100, 121, 45, 97, 116, 45, 97, 108, 108])
          have b2 : ∀ o o2, ((lj.push o).set lj.next o2).get lj.next = some o2 := fun o o2 => Heap.get_set_self (Heap.get_push_self _ _)
          cases th
          · ((conv => whnf); repeat ((first | refine SIf.dt (show (j : Int) < (w.map opR).length by omega) ?_ | refine SWrap.w64 (by omega) (by omega) ?_ | refine SEx.of (map_get' (f := opR) (by omega) hx) ?_ | refine SEx.of (b2 _ _) ?_ | refine SEx.of (Heap.get_push_self _ _) ?_ | refine yf rfl ?_ | refine yt rfl ?_ | refine yo rfl ?_ | refine yc rfl ?_ | refine ys rfl ?_ | refine ye rfl ?_ | refine yn rfl ?_ | refine zw ?_ | refine zdt ?_ | refine zdf ?_ | refine zci ?_) <;> (conv => whnf)))
            exact hR' (w.length - (j + 1)) _ _ (by omega) ⟨j + 1, _, _, by omega, rfl, by first | (rw [hst, ← hth]; done) | (rw [hst, ← hth]; rfl), (by repeat (first | exact Fr.le_nil | refine Fr.le_cons rfl ?_)), rfl⟩
          · ((conv => whnf); repeat ((first | refine SIf.dt (show (j : Int) < (w.map opR).length by omega) ?_ | refine SWrap.w64 (by omega) (by omega) ?_ | refine SEx.of (map_get' (f := opR) (by omega) hx) ?_ | refine SEx.of (b2 _ _) ?_ | refine SEx.of (Heap.get_push_self _ _) ?_ | refine yf rfl ?_ | refine yt rfl ?_ | refine yo rfl ?_ | refine yc rfl ?_ | refine ys rfl ?_ | refine ye rfl ?_ | refine yn rfl ?_ | refine zw ?_ | refine zdt ?_ | refine zdf ?_ | refine zci ?_) <;> (conv => whnf)))
            exact hR' (w.length - (j + 1)) _ _ (by omega) ⟨j + 1, _, true, by omega, rfl, by first | (rw [hst, ← hth]; done) | (rw [hst, ← hth]; rfl), (by repeat (first | exact Fr.le_nil | refine Fr.le_cons rfl ?_)), rfl⟩
        · obtain rfl : j = w.length := by omega
          rw [List.take_length] at hth
          rw [← hth] at hnb
          ((conv => whnf); repeat ((first | refine SIf.df (show ¬ ((w.length : Nat) : Int) < (w.map opR).length by omega) ?_ | refine SCall.app (hnb _) ?_ | refine yf rfl ?_ | refine yt rfl ?_ | refine yo rfl ?_ | refine yc rfl ?_ | refine ys rfl ?_ | refine ye rfl ?_ | refine yn rfl ?_ | refine zw ?_ | refine zdt ?_ | refine zdf ?_ | refine zci ?_) <;> (conv => whnf)))
          intro h2 k2
          cases th
          · ((conv => whnf); repeat ((first | refine yf rfl ?_ | refine yt rfl ?_ | refine yo rfl ?_ | refine yc rfl ?_ | refine ys rfl ?_ | refine ye rfl ?_ | refine yn rfl ?_ | refine zw ?_ | refine zdt ?_ | refine zdf ?_ | refine zci ?_) <;> (conv => whnf)))
            rfl
          · ((conv => whnf); repeat ((first | refine yf rfl ?_ | refine yt rfl ?_ | refine yo rfl ?_ | refine yc rfl ?_ | refine ys rfl ?_ | refine ye rfl ?_ | refine yn rfl ?_ | refine zw ?_ | refine zdt ?_ | refine zdf ?_ | refine zci ?_) <;> (conv => whnf)))
            rfl

  obtain ⟨hin1, hin2⟩ := hin
  have he := List.getElem?_eq_getElem hin1
  have heo := hops _ (List.getElem_mem hin1)
  generalize ops[i] = o at he heo
  obtain ⟨Q, hQ⟩ : ∃ Q, Q = min o.d.vic.length 4 := ⟨_, rfl⟩
  have hvl : (o.d.vic.map strR).length = o.d.vic.length := List.length_map _
  have hvo := heo.vic
  have hN : List.drop (Int.toNat 0) (List.take (Q : Int).toNat (o.d.vic.map strR)) = (o.d.vic.take 4).map strR := by
    have h1 : o.d.vic.take Q = o.d.vic.take 4 := by
      rw [hQ]
      by_cases c : o.d.vic.length ≤ 4
      · rw [Nat.min_eq_left c, List.take_of_length_le (Nat.le_refl _), List.take_of_length_le c]
      · rw [Nat.min_eq_right (by omega)]
    rw [← h1, List.map_take]; rfl
  have hcl4 : (cutO o).d.vic.length ≤ 4 := by show (o.d.vic.take 4).length ≤ 4; simp; omega
  have hcr : opR (cutO o) = [.i .i64 o.kind, .s o.d.pod, .s o.d.node, .sl none 1 ((o.d.vic.take 4).map strR), .i .i64 o.d.uid, .i .i64 o.d.term, .i .i64 o.d.until_, .sl none 16 (o.pods.map podR)] := rfl
  have a1' : ∀ x, (lo.push x).get lo.next = some x := fun x => Heap.get_push_self _ _
  have a2 : ∀ x y, ((lo.push x).set lo.next y).get lo.next = some y := fun x y => Heap.get_set_self (a1' x)
  have a3 : ∀ x y z, (((lo.push x).set lo.next y).set lo.next z).get lo.next = some z := fun x y z => Heap.get_set_self (a2 x y)
  have klo : ∀ x y z, Heap.Keeps (fun _ => False) lo (((lo.push x).set lo.next y).set lo.next z) := fun x y z => Heap.Keeps.set (b := fun _ => False) (Heap.Keeps.set (b := fun _ => False) (.push (.refl _ _) _) (.inr (Nat.le_refl _)) _) (.inr (Nat.le_refl _)) _
  have hnl : ∀ x y z, (((lo.push x).set lo.next y).set lo.next z).next = lo.next + 1 := fun x y z => rfl
  have hputc : ∀ {r : Option Nat} {h2 : Heap} {L : List AsD}, AsAt h2 0 r L → L.length ≤ 100000 → ∀ K : V → Heap → Prop, (putA L (cutO o).d = false → ∀ h', Heap.Keeps (fun _ => False) h2 h' → K (.b false) h') →
      (putA L (cutO o).d = true → ∀ h' r', AsAt h' 0 r' (L ++ [(cutO o).d]) → (∀ k, r' = some k → r = some k ∨ h2.next ≤ k) → Heap.Keeps (fun n => n = 0 ∨ r = some n) h2 h' → K (.b true) h') →
      ACall P 25 [.p (.g 0) 0, .agg [.s o.d.pod, .s o.d.node, .sl none 1 ((o.d.vic.take 4).map strR)], .i .i64 o.d.uid, .i .i64 o.d.term, .i .i64 o.d.until_] h2 K :=
    fun h2a h2l K hno hK => aput_at hG h2a h2l (cutO o).d (by omega) hno hK
  ((conv => whnf); repeat ((first | refine SIf.dt (show (i : Int) < (ops.map opR).length by omega) ?_ | refine SIf.dt (show (i : Int) < 50 by omega) ?_ | refine SOpt.of (mn2 (z := (Q : Int)) (by rw [hvl]; split <;> omega)) ?_ | refine SChk.d3 (by omega) (by omega) (by omega) ?_ | refine SEx.of (map_get' (f := opR) (by omega) he) ?_ | refine SEx.of (a3 _ _ _) ?_ | refine SEx.of (a2 _ _) ?_ | refine SEx.of (a1' _) ?_ | refine yf rfl ?_ | refine yt rfl ?_ | refine yo rfl ?_ | refine yc rfl ?_ | refine ys rfl ?_ | refine ye rfl ?_ | refine yn rfl ?_ | refine zw ?_ | refine zdt ?_ | refine zdf ?_ | refine zci ?_) <;> (conv => whnf)))
  rw [hN]
  by_cases k0 : o.kind = 0
  · rcases hlv with ⟨rfl, rfl⟩ | ⟨hw0, t, rfl, ht1, ht2⟩
    · -- nothing yet
      have hpc := hputc ha (by simp)
      by_cases cn : o.d.node = []
      · have hpf : putA (([] : List OpA).map (·.d)) (cutO o).d = false := by unfold putA; rw [show (cutO o).d.node = o.d.node from rfl, cn]; rfl
        have hp := fun (K : V → Heap → Prop) hK => hpc K (fun _ => hK) (fun h => by rw [hpf] at h; cases h)
        have e2 : (o.d.node == []) = true := by rw [cn]; rfl
        ((conv => whnf); repeat ((first | refine SIf.dt k0 ?_ | refine SLoopV.un rfl ?_ | refine SIf.ff (by rw [e2]; rfl) ?_ | refine SIf.tt (by rw [e2]; rfl) ?_ | refine SCall.app (hp _) ?_ | refine SEx.of (a3 _ _ _) ?_ | refine yf rfl ?_ | refine yt rfl ?_ | refine yo rfl ?_ | refine yc rfl ?_ | refine ys rfl ?_ | refine ye rfl ?_ | refine yn rfl ?_ | refine zw ?_ | refine zdt ?_ | refine zdf ?_ | refine zci ?_) <;> (conv => whnf)))
        intro h2 k2
        have ha2 := ha.keep k2 (fun x => x) (fun _ _ x => x)
        ((conv => whnf); repeat ((first | refine SIf.ff (by rw [e2]; rfl) ?_ | refine SIf.tt (by rw [e2]; rfl) ?_ | refine yf rfl ?_ | refine yt rfl ?_ | refine yo rfl ?_ | refine yc rfl ?_ | refine ys rfl ?_ | refine ye rfl ?_ | refine yn rfl ?_ | refine zw ?_ | refine zdt ?_ | refine zdf ?_ | refine zci ?_) <;> (conv => whnf)))
        have hal := fun (K : V → Heap → Prop) hK => aall_at (K := K) hG ha2 (by simp) (fun _ h => by cases h) hK
        ((conv => whnf); repeat ((first | refine SCall.app (hal _) ?_ | refine yf rfl ?_ | refine yt rfl ?_ | refine yo rfl ?_ | refine yc rfl ?_ | refine ys rfl ?_ | refine ye rfl ?_ | refine yn rfl ?_ | refine zw ?_ | refine zdt ?_ | refine zdf ?_ | refine zci ?_) <;> (conv => whnf)))
        rintro lv (⟨rfl, _⟩ | rfl)
        all_goals
          ((conv => whnf); repeat ((first | refine SLoopV.un rfl ?_ | refine SWrap.w64 (by omega) (by omega) ?_ | refine yf rfl ?_ | refine yt rfl ?_ | refine yo rfl ?_ | refine yc rfl ?_ | refine ys rfl ?_ | refine ye rfl ?_ | refine yn rfl ?_ | refine zw ?_ | refine zdt ?_ | refine zdf ?_ | refine zci ?_) <;> (conv => whnf)))
          exact hR (ops.length - (i + 1)) _ _ (by omega) ⟨i + 1, _, _, .nils, [], _, by omega, by omega, rfl, ha2, Nat.zero_le _, (fun _ h => by cases h), .inl ⟨rfl, rfl⟩, (by repeat (first | exact Fr.le_nil | refine Fr.le_cons rfl ?_)), rfl⟩
      · have hpt : putA (([] : List OpA).map (·.d)) (cutO o).d = true := by unfold putA; rw [show (cutO o).d.node = o.d.node from rfl, decide_eq_false cn]; rfl
        have hp := fun (K : V → Heap → Prop) hK => hpc K (fun h => by rw [hpt] at h; cases h) (fun _ => hK)
        have e2 : (o.d.node == []) = false := beq_false_of_ne cn
        have a4 : ∀ x y z u, ((((lo.push x).set lo.next y).set lo.next z).push u).get lo.next = some z := fun x y z u => Heap.gp (by rw [hnl]; omega) (a3 x y z)
        ((conv => whnf); repeat ((first | refine SIf.dt k0 ?_ | refine SLoopV.un rfl ?_ | refine SIf.ff (by rw [e2]; rfl) ?_ | refine SIf.tt (by rw [e2]; rfl) ?_ | refine SCall.app (hp _) ?_ | refine SEx.of (a3 _ _ _) ?_ | refine yf rfl ?_ | refine yt rfl ?_ | refine yo rfl ?_ | refine yc rfl ?_ | refine ys rfl ?_ | refine ye rfl ?_ | refine yn rfl ?_ | refine zw ?_ | refine zdt ?_ | refine zdf ?_ | refine zci ?_) <;> (conv => whnf)))
        intro h2 r2 ha2 hr2 k2
        have ha3 : AsAt h2 0 r2 (([] ++ [cutO o] : List OpA).map (·.d)) := ha2
        ((conv => whnf); repeat ((first | refine SIf.ff (by rw [e2]; rfl) ?_ | refine SIf.tt (by rw [e2]; rfl) ?_ | refine SEx.of (a3 _ _ _) ?_ | refine SEx.of (a4 _ _ _ _) ?_ | refine yf rfl ?_ | refine yt rfl ?_ | refine yo rfl ?_ | refine yc rfl ?_ | refine ys rfl ?_ | refine ye rfl ?_ | refine yn rfl ?_ | refine zw ?_ | refine zdt ?_ | refine zdf ?_ | refine zci ?_) <;> (conv => whnf)))
        have hWl : (([] ++ [cutO o] : List OpA)).length ≤ i + 1 := by simp
        have hWo : WOk (([] ++ [cutO o] : List OpA)) := fun x hx => by simp at hx; rw [hx]; exact ⟨heo.pod, hcl4⟩
        have hWd : ((([] ++ [cutO o] : List OpA)).map (·.d)).length = (([] ++ [cutO o] : List OpA)).length := List.length_map _
        have hWm : ((([] ++ [cutO o] : List OpA)).map opR).length = (([] ++ [cutO o] : List OpA)).length := List.length_map _
        have hWr : (((([] ++ [cutO o] : List OpA)).map (·.d)).map doR).length = (([] ++ [cutO o] : List OpA)).length := by simp
        have hW0 : 0 < (([] ++ [cutO o] : List OpA)).length := by first | assumption | (simp; done)
        have hal := fun (K : V → Heap → Prop) hK => aall_at (K := K) hG ha3 (by omega) (wok_d hWo).2 hK
        ((conv => whnf); repeat ((first | refine SCall.app (hal _) ?_ | refine yf rfl ?_ | refine yt rfl ?_ | refine yo rfl ?_ | refine yc rfl ?_ | refine ys rfl ?_ | refine ye rfl ?_ | refine yn rfl ?_ | refine zw ?_ | refine zdt ?_ | refine zdf ?_ | refine zci ?_) <;> (conv => whnf)))
        rintro lv (⟨_, hno⟩ | rfl)
        · exfalso; have := congrArg List.length hno; rw [hWd] at this; simp only [List.length_nil] at this; omega
        ((conv => whnf); repeat ((first | refine SIf.nf (show ((((([] ++ [cutO o] : List OpA)).map (·.d)).map doR).length : Int) = ((([] ++ [cutO o] : List OpA)).map opR).length by omega) ?_ | refine yf rfl ?_ | refine yt rfl ?_ | refine yo rfl ?_ | refine yc rfl ?_ | refine ys rfl ?_ | refine ye rfl ?_ | refine yn rfl ?_ | refine zw ?_ | refine zdt ?_ | refine zdf ?_ | refine zci ?_) <;> (conv => whnf)))
        refine SLoopV.by (fun q fr st => ∃ (k : Nat) (h4 lk : Heap), k ≤ (([] ++ [cutO o] : List OpA)).length ∧ q = (([] ++ [cutO o] : List OpA)).length - k ∧ AsAt h4 0 r2 ((([] ++ [cutO o] : List OpA)).map (·.d)) ∧ (lo.next + 1 + 1) < lk.next ∧ lk.get (lo.next + 1 + 1) = some .spare ∧
            Fr.le [(228, .i .i64 k), (227, .i .i64 (((([] ++ [cutO o] : List OpA)).map (·.d)).map doR).length), (23, .sl none 3 (((([] ++ [cutO o] : List OpA)).map (·.d)).map doR)), (6, .i .i64 i), (5, .sl (some (.l (lo.next + 1 + 1))) 8 ((([] ++ [cutO o] : List OpA)).map opR)), (4, .p (.g 0) 0), (0, .sl none 8 (ops.map opR))] fr ∧ st = ⟨h4, lk⟩)
          (([] ++ [cutO o] : List OpA)).length ⟨0, _, _, Nat.zero_le _, rfl, ha3, ?_, ?_, (by repeat (first | exact Fr.le_nil | refine Fr.le_cons rfl ?_)), rfl⟩ ?_
        · exact Nat.lt_succ_self _
        · exact Heap.get_push_self _ _
        rintro q fr st ⟨k, h4, lk, hk, rfl, ha4, hk1, hk2, hle1, rfl⟩
        refine ⟨_, hle1, fun R' hR' => ?_⟩
        by_cases hkn : k < (([] ++ [cutO o] : List OpA)).length
        · obtain ⟨x, hx⟩ : ∃ x, (([] ++ [cutO o] : List OpA))[k]? = some x := ⟨_, List.getElem?_eq_getElem hkn⟩
          have hxm := hWo x (List.mem_of_getElem? hx)
          have hg1 := map_get' (f := doR) (j := ((k : Nat) : Int).toNat) (show k = ((k : Nat) : Int).toNat by omega) (map_get' (f := fun z : OpA => z.d) rfl hx)
          have hg2 := map_get' (f := opR) (j := ((k : Nat) : Int).toNat) (show k = ((k : Nat) : Int).toNat by omega) hx
          have heq := fun K hK => eqdo_self (K := K) (h := h4) hG x.d (by omega) hK
          have hha := fun (K : V → Heap → Prop) hK => ahas_at (K := K) hG ha4 (by omega) x.d.pod hK
          rw [any_d, show ((([] ++ [cutO o] : List OpA)).any fun z => z.d.pod == x.d.pod) = true from List.any_eq_true.2 ⟨x, List.mem_of_getElem? hx, by simp⟩] at hha
          ((conv => whnf); repeat ((first | refine SIf.dt (show (k : Int) < (((([] ++ [cutO o] : List OpA)).map (·.d)).map doR).length by omega) ?_ | refine SChk.ix (by omega) (by omega) ?_ | refine SCall.app (heq _) ?_ | refine SCall.app (hha _) ?_ | refine SEx.of (hg1) ?_ | refine SEx.of (hg2) ?_ | refine yf rfl ?_ | refine yt rfl ?_ | refine yo rfl ?_ | refine yc rfl ?_ | refine ys rfl ?_ | refine ye rfl ?_ | refine yn rfl ?_ | refine zw ?_ | refine zdt ?_ | refine zdf ?_ | refine zci ?_) <;> (conv => whnf)))
          intro h5 k5
          ((conv => whnf); repeat ((first | refine SWrap.w64 (by omega) (by omega) ?_ | refine yf rfl ?_ | refine yt rfl ?_ | refine yo rfl ?_ | refine yc rfl ?_ | refine ys rfl ?_ | refine ye rfl ?_ | refine yn rfl ?_ | refine zw ?_ | refine zdt ?_ | refine zdf ?_ | refine zci ?_) <;> (conv => whnf)))
          exact hR' ((([] ++ [cutO o] : List OpA)).length - (k + 1)) _ _ (by omega) ⟨k + 1, h5, lk, by omega, rfl, ha4.keep k5 (fun x => x) (fun _ _ x => x), hk1, hk2, (by repeat (first | exact Fr.le_nil | refine Fr.le_cons rfl ?_)), rfl⟩
        · ((conv => whnf); repeat ((first | refine SIf.df (show ¬ (k : Int) < (((([] ++ [cutO o] : List OpA)).map (·.d)).map doR).length by omega) ?_ | refine SWrap.w64 (by omega) (by omega) ?_ | refine yf rfl ?_ | refine yt rfl ?_ | refine yo rfl ?_ | refine yc rfl ?_ | refine ys rfl ?_ | refine ye rfl ?_ | refine yn rfl ?_ | refine zw ?_ | refine zdt ?_ | refine zdf ?_ | refine zci ?_) <;> (conv => whnf)))
          exact hR (ops.length - (i + 1)) _ _ (by omega) ⟨i + 1, h4, lk, _, ([] ++ [cutO o] : List OpA), _, by omega, by omega, rfl, ha4, hWl, hWo, .inr ⟨hW0, (lo.next + 1 + 1), rfl, hk1, hk2⟩, (by repeat (first | exact Fr.le_nil | refine Fr.le_cons rfl ?_)), rfl⟩
    · -- some
      have a0k : ∀ x y z, Heap.Keeps (fun _ => False) lo (((lo.push x).set lo.next y).set lo.next z) := klo
      ((conv => whnf); repeat ((first | refine SIf.dt k0 ?_ | refine SEx.of (a3 _ _ _) ?_ | refine yf rfl ?_ | refine yt rfl ?_ | refine yo rfl ?_ | refine yc rfl ?_ | refine ys rfl ?_ | refine ye rfl ?_ | refine yn rfl ?_ | refine zw ?_ | refine zdt ?_ | refine zdf ?_ | refine zci ?_) <;> (conv => whnf)))
      refine SLoopV.by (fun q fr st => ∃ (j : Nat) (lj : Heap) (th : Bool), j ≤ w.length ∧ q = w.length - j ∧ th = ((w.take j).any fun x => x.d.pod == o.d.pod) ∧ Heap.Keeps (fun _ => False) lo lj ∧ lo.next < lj.next ∧ lj.get lo.next = some (.cs (opR (cutO o))) ∧
          Fr.le [(65, .i .i64 j), (64, .i .i64 (w.map opR).length), (63, .sl (some (.l t)) 8 (w.map opR)), (8, .b th), (7, .p (.l lo.next) 0), (6, .i .i64 i), (5, .sl (some (.l t)) 8 (w.map opR)), (4, .p (.g 0) 0), (0, .sl none 8 (ops.map opR))] fr ∧ st = ⟨hh, lj⟩)
        w.length ⟨0, _, false, Nat.zero_le _, rfl, rfl, ?_, ?_, ?_, (by repeat (first | exact Fr.le_nil | refine Fr.le_cons rfl ?_)), rfl⟩ ?_
      · exact klo _ _ _
      · exact Nat.lt_succ_self _
      · exact a3 _ _ _
      rintro q fr st ⟨j, lj, th, hj, rfl, hth, klj, hlj, hobj, hle1, rfl⟩
      refine ⟨_, hle1, fun R' hR' => ?_⟩
      by_cases hjn : j < w.length
      · have hx := List.getElem?_eq_getElem hjn
        generalize w[j] = x at hx
        have hst := any_take hx (fun x => x.d.pod == o.d.pod)
        have b1 : ∀ o2, (lj.push o2).get lj.next = some o2 := fun o2 => Heap.get_push_self _ _
        have b2 : ∀ o o2, ((lj.push o).set lj.next o2).get lj.next = some o2 := fun o o2 => Heap.get_set_self (b1 o)
        have b3 : ∀ o2 o3, ((lj.push o2).set lj.next o3).get lo.next = some (.cs (opR (cutO o))) := fun o2 o3 => Heap.gs (by omega) (Heap.gp (by omega) hobj)
        have kk : ∀ o2 o3, Heap.Keeps (fun _ => False) lo ((lj.push o2).set lj.next o3) := fun o2 o3 => Heap.Keeps.set (b := fun _ => False) (.push klj _) (.inr klj.1) _
        cases th
        · ((conv => whnf); repeat ((first | refine SIf.dt (show (j : Int) < (w.map opR).length by omega) ?_ | refine SWrap.w64 (by omega) (by omega) ?_ | refine SEx.of (map_get' (f := opR) (by omega) hx) ?_ | refine SEx.of (b2 _ _) ?_ | refine SEx.of (b1 _) ?_ | refine SEx.of (b3 _ _) ?_ | refine yf rfl ?_ | refine yt rfl ?_ | refine yo rfl ?_ | refine yc rfl ?_ | refine ys rfl ?_ | refine ye rfl ?_ | refine yn rfl ?_ | refine zw ?_ | refine zdt ?_ | refine zdf ?_ | refine zci ?_) <;> (conv => whnf)))
          exact hR' (w.length - (j + 1)) _ _ (by omega) ⟨j + 1, _, _, by omega, rfl, by first | (rw [hst, ← hth]; done) | (rw [hst, ← hth]; rfl), kk _ _, (by show lo.next < lj.next + 1; omega), b3 _ _, (by repeat (first | exact Fr.le_nil | refine Fr.le_cons rfl ?_)), rfl⟩
        · ((conv => whnf); repeat ((first | refine SIf.dt (show (j : Int) < (w.map opR).length by omega) ?_ | refine SWrap.w64 (by omega) (by omega) ?_ | refine SEx.of (map_get' (f := opR) (by omega) hx) ?_ | refine SEx.of (b2 _ _) ?_ | refine SEx.of (b1 _) ?_ | refine SEx.of (b3 _ _) ?_ | refine yf rfl ?_ | refine yt rfl ?_ | refine yo rfl ?_ | refine yc rfl ?_ | refine ys rfl ?_ | refine ye rfl ?_ | refine yn rfl ?_ | refine zw ?_ | refine zdt ?_ | refine zdf ?_ | refine zci ?_) <;> (conv => whnf)))
          exact hR' (w.length - (j + 1)) _ _ (by omega) ⟨j + 1, _, true, by omega, rfl, by first | (rw [hst, ← hth]; done) | (rw [hst, ← hth]; rfl), kk _ _, (by show lo.next < lj.next + 1; omega), b3 _ _, (by repeat (first | exact Fr.le_nil | refine Fr.le_cons rfl ?_)), rfl⟩
      obtain rfl : j = w.length := by omega
      rw [List.take_length] at hth
      have htj : t < lj.next := Nat.lt_of_lt_of_le ht1 klj.1
      have hsp : lj.get t = some .spare := by rw [klj.2 t ht1 (fun x => x)]; exact ht2
      have hpc := hputc ha (by omega)
      have hpa : putA (w.map (·.d)) (cutO o).d = (decide (w.length < 40) && (!decide (o.d.node = []) && !th)) := by
        unfold putA
        rw [hdl, show (cutO o).d.node = o.d.node from rfl, show (cutO o).d.pod = o.d.pod from rfl, any_d, ← hth]
      have hcut : lj.get lo.next = some (.cs [.i .i64 o.kind, .s o.d.pod, .s o.d.node, .sl none 1 ((o.d.vic.take 4).map strR), .i .i64 o.d.uid, .i .i64 o.d.term, .i .i64 o.d.until_, .sl none 16 (o.pods.map podR)]) := hobj
      cases th
      · by_cases c40 : w.length < 40
        · by_cases cn : o.d.node = []
          · have e2 : (o.d.node == []) = true := by rw [cn]; rfl
            have hpf : putA (w.map (·.d)) (cutO o).d = false := by rw [hpa]; rw [decide_eq_true cn]; simp
            have hp := fun (K : V → Heap → Prop) hK => hpc K (fun _ => hK) (fun h => by rw [hpf] at h; cases h)
            ((conv => whnf); repeat ((first | refine SIf.df (show ¬ ((w.length : Nat) : Int) < (w.map opR).length by omega) ?_ | refine SIf.dt (show ((w.map opR).length : Int) < 40 by omega) ?_ | refine SIf.ff (by rw [e2]; rfl) ?_ | refine SIf.tt (by rw [e2]; rfl) ?_ | refine SCall.app (hp _) ?_ | refine SEx.of (hcut) ?_ | refine yf rfl ?_ | refine yt rfl ?_ | refine yo rfl ?_ | refine yc rfl ?_ | refine ys rfl ?_ | refine ye rfl ?_ | refine yn rfl ?_ | refine zw ?_ | refine zdt ?_ | refine zdf ?_ | refine zci ?_) <;> (conv => whnf)))
            intro h2 k2
            have ha2 := ha.keep k2 (fun x => x) (fun _ _ x => x)
            ((conv => whnf); repeat ((first | refine SIf.dt (show ((w.map opR).length : Int) < 40 by omega) ?_ | refine SIf.ff (by rw [e2]; rfl) ?_ | refine SIf.tt (by rw [e2]; rfl) ?_ | refine SEx.of (hcut) ?_ | refine yf rfl ?_ | refine yt rfl ?_ | refine yo rfl ?_ | refine yc rfl ?_ | refine ys rfl ?_ | refine ye rfl ?_ | refine yn rfl ?_ | refine zw ?_ | refine zdt ?_ | refine zdf ?_ | refine zci ?_) <;> (conv => whnf)))
            have hWl : (w).length ≤ i + 1 := by omega
            have hWo : WOk (w) := hwo
            have hWd : ((w).map (·.d)).length = (w).length := List.length_map _
            have hWm : ((w).map opR).length = (w).length := List.length_map _
            have hWr : (((w).map (·.d)).map doR).length = (w).length := by simp
            have hW0 : 0 < (w).length := by first | assumption | (simp; done)
            have hal := fun (K : V → Heap → Prop) hK => aall_at (K := K) hG ha2 (by omega) (wok_d hWo).2 hK
            ((conv => whnf); repeat ((first | refine SCall.app (hal _) ?_ | refine yf rfl ?_ | refine yt rfl ?_ | refine yo rfl ?_ | refine yc rfl ?_ | refine ys rfl ?_ | refine ye rfl ?_ | refine yn rfl ?_ | refine zw ?_ | refine zdt ?_ | refine zdf ?_ | refine zci ?_) <;> (conv => whnf)))
            rintro lv (⟨_, hno⟩ | rfl)
            · exfalso; have := congrArg List.length hno; rw [hWd] at this; simp only [List.length_nil] at this; omega
            ((conv => whnf); repeat ((first | refine SIf.nf (show ((((w).map (·.d)).map doR).length : Int) = ((w).map opR).length by omega) ?_ | refine yf rfl ?_ | refine yt rfl ?_ | refine yo rfl ?_ | refine yc rfl ?_ | refine ys rfl ?_ | refine ye rfl ?_ | refine yn rfl ?_ | refine zw ?_ | refine zdt ?_ | refine zdf ?_ | refine zci ?_) <;> (conv => whnf)))
            refine SLoopV.by (fun q fr st => ∃ (k : Nat) (h4 lk : Heap), k ≤ (w).length ∧ q = (w).length - k ∧ AsAt h4 0 r ((w).map (·.d)) ∧ t < lk.next ∧ lk.get t = some .spare ∧
                Fr.le [(228, .i .i64 k), (227, .i .i64 (((w).map (·.d)).map doR).length), (23, .sl none 3 (((w).map (·.d)).map doR)), (6, .i .i64 i), (5, .sl (some (.l t)) 8 ((w).map opR)), (4, .p (.g 0) 0), (0, .sl none 8 (ops.map opR))] fr ∧ st = ⟨h4, lk⟩)
              (w).length ⟨0, _, _, Nat.zero_le _, rfl, ha2, ?_, ?_, (by repeat (first | exact Fr.le_nil | refine Fr.le_cons rfl ?_)), rfl⟩ ?_
            · exact htj
            · exact hsp
            rintro q fr st ⟨k, h4, lk, hk, rfl, ha4, hk1, hk2, hle1, rfl⟩
            refine ⟨_, hle1, fun R' hR' => ?_⟩
            by_cases hkn : k < (w).length
            · obtain ⟨x, hx⟩ : ∃ x, (w)[k]? = some x := ⟨_, List.getElem?_eq_getElem hkn⟩
              have hxm := hWo x (List.mem_of_getElem? hx)
              have hg1 := map_get' (f := doR) (j := ((k : Nat) : Int).toNat) (show k = ((k : Nat) : Int).toNat by omega) (map_get' (f := fun z : OpA => z.d) rfl hx)
              have hg2 := map_get' (f := opR) (j := ((k : Nat) : Int).toNat) (show k = ((k : Nat) : Int).toNat by omega) hx
              have heq := fun K hK => eqdo_self (K := K) (h := h4) hG x.d (by omega) hK
              have hha := fun (K : V → Heap → Prop) hK => ahas_at (K := K) hG ha4 (by omega) x.d.pod hK
              rw [any_d, show ((w).any fun z => z.d.pod == x.d.pod) = true from List.any_eq_true.2 ⟨x, List.mem_of_getElem? hx, by simp⟩] at hha
              ((conv => whnf); repeat ((first | refine SIf.dt (show (k : Int) < (((w).map (·.d)).map doR).length by omega) ?_ | refine SChk.ix (by omega) (by omega) ?_ | refine SCall.app (heq _) ?_ | refine SCall.app (hha _) ?_ | refine SEx.of (hg1) ?_ | refine SEx.of (hg2) ?_ | refine yf rfl ?_ | refine yt rfl ?_ | refine yo rfl ?_ | refine yc rfl ?_ | refine ys rfl ?_ | refine ye rfl ?_ | refine yn rfl ?_ | refine zw ?_ | refine zdt ?_ | refine zdf ?_ | refine zci ?_) <;> (conv => whnf)))
              intro h5 k5
              ((conv => whnf); repeat ((first | refine SWrap.w64 (by omega) (by omega) ?_ | refine yf rfl ?_ | refine yt rfl ?_ | refine yo rfl ?_ | refine yc rfl ?_ | refine ys rfl ?_ | refine ye rfl ?_ | refine yn rfl ?_ | refine zw ?_ | refine zdt ?_ | refine zdf ?_ | refine zci ?_) <;> (conv => whnf)))
              exact hR' ((w).length - (k + 1)) _ _ (by omega) ⟨k + 1, h5, lk, by omega, rfl, ha4.keep k5 (fun x => x) (fun _ _ x => x), hk1, hk2, (by repeat (first | exact Fr.le_nil | refine Fr.le_cons rfl ?_)), rfl⟩
            · ((conv => whnf); repeat ((first | refine SIf.df (show ¬ (k : Int) < (((w).map (·.d)).map doR).length by omega) ?_ | refine SWrap.w64 (by omega) (by omega) ?_ | refine yf rfl ?_ | refine yt rfl ?_ | refine yo rfl ?_ | refine yc rfl ?_ | refine ys rfl ?_ | refine ye rfl ?_ | refine yn rfl ?_ | refine zw ?_ | refine zdt ?_ | refine zdf ?_ | refine zci ?_) <;> (conv => whnf)))
              exact hR (ops.length - (i + 1)) _ _ (by omega) ⟨i + 1, h4, lk, _, w, _, by omega, by omega, rfl, ha4, hWl, hWo, .inr ⟨hW0, t, rfl, hk1, hk2⟩, (by repeat (first | exact Fr.le_nil | refine Fr.le_cons rfl ?_)), rfl⟩
          · have e2 : (o.d.node == []) = false := beq_false_of_ne cn
            have hpf : putA (w.map (·.d)) (cutO o).d = true := by rw [hpa]; rw [decide_eq_false cn, decide_eq_true c40]; rfl
            have hp := fun (K : V → Heap → Prop) hK => hpc K (fun h => by rw [hpf] at h; cases h) (fun _ => hK)
            ((conv => whnf); repeat ((first | refine SIf.df (show ¬ ((w.length : Nat) : Int) < (w.map opR).length by omega) ?_ | refine SIf.dt (show ((w.map opR).length : Int) < 40 by omega) ?_ | refine SIf.ff (by rw [e2]; rfl) ?_ | refine SIf.tt (by rw [e2]; rfl) ?_ | refine SCall.app (hp _) ?_ | refine SEx.of (hcut) ?_ | refine yf rfl ?_ | refine yt rfl ?_ | refine yo rfl ?_ | refine yc rfl ?_ | refine ys rfl ?_ | refine ye rfl ?_ | refine yn rfl ?_ | refine zw ?_ | refine zdt ?_ | refine zdf ?_ | refine zci ?_) <;> (conv => whnf)))
            intro h2 r2 ha2 hr2 k2
            have hwap : (w ++ [cutO o]).map (·.d) = w.map (·.d) ++ [(cutO o).d] := by simp
            have ha3 : AsAt h2 0 r2 ((w ++ [cutO o]).map (·.d)) := by rw [hwap]; exact ha2
            have hrow : w.map opR ++ [opR (cutO o)] = (w ++ [cutO o]).map opR := by simp
            have p0 : (lj.push .spare).get t = some .spare := Heap.gp (by omega) hsp
            ((conv => whnf); repeat ((first | refine SIf.dt (show ((w.map opR).length : Int) < 40 by omega) ?_ | refine SIf.ff (by rw [e2]; rfl) ?_ | refine SIf.tt (by rw [e2]; rfl) ?_ | refine SChk.mk (by simp [roomOk]; omega) ?_ | refine SEx.of (hcut) ?_ | refine SEx.of (p0) ?_ | refine yf rfl ?_ | refine yt rfl ?_ | refine yo rfl ?_ | refine yc rfl ?_ | refine ys rfl ?_ | refine ye rfl ?_ | refine yn rfl ?_ | refine zw ?_ | refine zdt ?_ | refine zdf ?_ | refine zci ?_) <;> (conv => whnf)))
            rw [show (w.map opR ++ [[.i .i64 o.kind, .s o.d.pod, .s o.d.node, .sl none 1 ((o.d.vic.take 4).map strR), .i .i64 o.d.uid, .i .i64 o.d.term, .i .i64 o.d.until_, .sl none 16 (o.pods.map podR)]]) = (w ++ [cutO o]).map opR from hrow]
            have hWl : ((w ++ [cutO o])).length ≤ i + 1 := by simp; omega
            have hWo : WOk ((w ++ [cutO o])) := fun x hx => by rcases List.mem_append.1 hx with hx | hx; exact hwo x hx; simp at hx; rw [hx]; exact ⟨heo.pod, hcl4⟩
            have hWd : (((w ++ [cutO o])).map (·.d)).length = ((w ++ [cutO o])).length := List.length_map _
            have hWm : (((w ++ [cutO o])).map opR).length = ((w ++ [cutO o])).length := List.length_map _
            have hWr : ((((w ++ [cutO o])).map (·.d)).map doR).length = ((w ++ [cutO o])).length := by simp
            have hW0 : 0 < ((w ++ [cutO o])).length := by first | assumption | (simp; done)
            have hal := fun (K : V → Heap → Prop) hK => aall_at (K := K) hG ha3 (by omega) (wok_d hWo).2 hK
            ((conv => whnf); repeat ((first | refine SCall.app (hal _) ?_ | refine yf rfl ?_ | refine yt rfl ?_ | refine yo rfl ?_ | refine yc rfl ?_ | refine ys rfl ?_ | refine ye rfl ?_ | refine yn rfl ?_ | refine zw ?_ | refine zdt ?_ | refine zdf ?_ | refine zci ?_) <;> (conv => whnf)))
            rintro lv (⟨_, hno⟩ | rfl)
            · exfalso; have := congrArg List.length hno; rw [hWd] at this; simp only [List.length_nil] at this; omega
            ((conv => whnf); repeat ((first | refine SIf.nf (show (((((w ++ [cutO o])).map (·.d)).map doR).length : Int) = (((w ++ [cutO o])).map opR).length by omega) ?_ | refine yf rfl ?_ | refine yt rfl ?_ | refine yo rfl ?_ | refine yc rfl ?_ | refine ys rfl ?_ | refine ye rfl ?_ | refine yn rfl ?_ | refine zw ?_ | refine zdt ?_ | refine zdf ?_ | refine zci ?_) <;> (conv => whnf)))
            refine SLoopV.by (fun q fr st => ∃ (k : Nat) (h4 lk : Heap), k ≤ ((w ++ [cutO o])).length ∧ q = ((w ++ [cutO o])).length - k ∧ AsAt h4 0 r2 (((w ++ [cutO o])).map (·.d)) ∧ (lj.next + 1) < lk.next ∧ lk.get (lj.next + 1) = some .spare ∧
                Fr.le [(228, .i .i64 k), (227, .i .i64 ((((w ++ [cutO o])).map (·.d)).map doR).length), (23, .sl none 3 ((((w ++ [cutO o])).map (·.d)).map doR)), (6, .i .i64 i), (5, .sl (some (.l (lj.next + 1))) 8 (((w ++ [cutO o])).map opR)), (4, .p (.g 0) 0), (0, .sl none 8 (ops.map opR))] fr ∧ st = ⟨h4, lk⟩)
              ((w ++ [cutO o])).length ⟨0, _, _, Nat.zero_le _, rfl, ha3, ?_, ?_, (by repeat (first | exact Fr.le_nil | refine Fr.le_cons rfl ?_)), rfl⟩ ?_
            · exact Nat.lt_succ_self _
            · exact Heap.get_push_self _ _
            rintro q fr st ⟨k, h4, lk, hk, rfl, ha4, hk1, hk2, hle1, rfl⟩
            refine ⟨_, hle1, fun R' hR' => ?_⟩
            by_cases hkn : k < ((w ++ [cutO o])).length
            · obtain ⟨x, hx⟩ : ∃ x, ((w ++ [cutO o]))[k]? = some x := ⟨_, List.getElem?_eq_getElem hkn⟩
              have hxm := hWo x (List.mem_of_getElem? hx)
              have hg1 := map_get' (f := doR) (j := ((k : Nat) : Int).toNat) (show k = ((k : Nat) : Int).toNat by omega) (map_get' (f := fun z : OpA => z.d) rfl hx)
              have hg2 := map_get' (f := opR) (j := ((k : Nat) : Int).toNat) (show k = ((k : Nat) : Int).toNat by omega) hx
              have heq := fun K hK => eqdo_self (K := K) (h := h4) hG x.d (by omega) hK
              have hha := fun (K : V → Heap → Prop) hK => ahas_at (K := K) hG ha4 (by omega) x.d.pod hK
              rw [any_d, show (((w ++ [cutO o])).any fun z => z.d.pod == x.d.pod) = true from List.any_eq_true.2 ⟨x, List.mem_of_getElem? hx, by simp⟩] at hha
              ((conv => whnf); repeat ((first | refine SIf.dt (show (k : Int) < ((((w ++ [cutO o])).map (·.d)).map doR).length by omega) ?_ | refine SChk.ix (by omega) (by omega) ?_ | refine SCall.app (heq _) ?_ | refine SCall.app (hha _) ?_ | refine SEx.of (hg1) ?_ | refine SEx.of (hg2) ?_ | refine yf rfl ?_ | refine yt rfl ?_ | refine yo rfl ?_ | refine yc rfl ?_ | refine ys rfl ?_ | refine ye rfl ?_ | refine yn rfl ?_ | refine zw ?_ | refine zdt ?_ | refine zdf ?_ | refine zci ?_) <;> (conv => whnf)))
              intro h5 k5
              ((conv => whnf); repeat ((first | refine SWrap.w64 (by omega) (by omega) ?_ | refine yf rfl ?_ | refine yt rfl ?_ | refine yo rfl ?_ | refine yc rfl ?_ | refine ys rfl ?_ | refine ye rfl ?_ | refine yn rfl ?_ | refine zw ?_ | refine zdt ?_ | refine zdf ?_ | refine zci ?_) <;> (conv => whnf)))
              exact hR' (((w ++ [cutO o])).length - (k + 1)) _ _ (by omega) ⟨k + 1, h5, lk, by omega, rfl, ha4.keep k5 (fun x => x) (fun _ _ x => x), hk1, hk2, (by repeat (first | exact Fr.le_nil | refine Fr.le_cons rfl ?_)), rfl⟩
            · ((conv => whnf); repeat ((first | refine SIf.df (show ¬ (k : Int) < ((((w ++ [cutO o])).map (·.d)).map doR).length by omega) ?_ | refine SWrap.w64 (by omega) (by omega) ?_ | refine yf rfl ?_ | refine yt rfl ?_ | refine yo rfl ?_ | refine yc rfl ?_ | refine ys rfl ?_ | refine ye rfl ?_ | refine yn rfl ?_ | refine zw ?_ | refine zdt ?_ | refine zdf ?_ | refine zci ?_) <;> (conv => whnf)))
              exact hR (ops.length - (i + 1)) _ _ (by omega) ⟨i + 1, h4, lk, _, (w ++ [cutO o]), _, by omega, by omega, rfl, ha4, hWl, hWo, .inr ⟨hW0, (lj.next + 1), rfl, hk1, hk2⟩, (by repeat (first | exact Fr.le_nil | refine Fr.le_cons rfl ?_)), rfl⟩
        · -- full
          have hpf : putA (w.map (·.d)) (cutO o).d = false := by rw [hpa]; rw [decide_eq_false c40]; rfl
          have hp := fun (K : V → Heap → Prop) hK => hpc K (fun _ => hK) (fun h => by rw [hpf] at h; cases h)
          ((conv => whnf); repeat ((first | refine SIf.df (show ¬ ((w.length : Nat) : Int) < (w.map opR).length by omega) ?_ | refine SIf.df (show ¬ ((w.map opR).length : Int) < 40 by omega) ?_ | refine SCall.app (hp _) ?_ | refine SEx.of (hcut) ?_ | refine yf rfl ?_ | refine yt rfl ?_ | refine yo rfl ?_ | refine yc rfl ?_ | refine ys rfl ?_ | refine ye rfl ?_ | refine yn rfl ?_ | refine zw ?_ | refine zdt ?_ | refine zdf ?_ | refine zci ?_) <;> (conv => whnf)))
          intro h2 k2
          have ha2 := ha.keep k2 (fun x => x) (fun _ _ x => x)
          ((conv => whnf); repeat ((first | refine SIf.df (show ¬ ((w.map opR).length : Int) < 40 by omega) ?_ | refine SEx.of (hcut) ?_ | refine yf rfl ?_ | refine yt rfl ?_ | refine yo rfl ?_ | refine yc rfl ?_ | refine ys rfl ?_ | refine ye rfl ?_ | refine yn rfl ?_ | refine zw ?_ | refine zdt ?_ | refine zdf ?_ | refine zci ?_) <;> (conv => whnf)))
          have hWl : (w).length ≤ i + 1 := by omega
          have hWo : WOk (w) := hwo
          have hWd : ((w).map (·.d)).length = (w).length := List.length_map _
          have hWm : ((w).map opR).length = (w).length := List.length_map _
          have hWr : (((w).map (·.d)).map doR).length = (w).length := by simp
          have hW0 : 0 < (w).length := by first | assumption | (simp; done)
          have hal := fun (K : V → Heap → Prop) hK => aall_at (K := K) hG ha2 (by omega) (wok_d hWo).2 hK
          ((conv => whnf); repeat ((first | refine SCall.app (hal _) ?_ | refine yf rfl ?_ | refine yt rfl ?_ | refine yo rfl ?_ | refine yc rfl ?_ | refine ys rfl ?_ | refine ye rfl ?_ | refine yn rfl ?_ | refine zw ?_ | refine zdt ?_ | refine zdf ?_ | refine zci ?_) <;> (conv => whnf)))
          rintro lv (⟨_, hno⟩ | rfl)
          · exfalso; have := congrArg List.length hno; rw [hWd] at this; simp only [List.length_nil] at this; omega
          ((conv => whnf); repeat ((first | refine SIf.nf (show ((((w).map (·.d)).map doR).length : Int) = ((w).map opR).length by omega) ?_ | refine yf rfl ?_ | refine yt rfl ?_ | refine yo rfl ?_ | refine yc rfl ?_ | refine ys rfl ?_ | refine ye rfl ?_ | refine yn rfl ?_ | refine zw ?_ | refine zdt ?_ | refine zdf ?_ | refine zci ?_) <;> (conv => whnf)))
          refine SLoopV.by (fun q fr st => ∃ (k : Nat) (h4 lk : Heap), k ≤ (w).length ∧ q = (w).length - k ∧ AsAt h4 0 r ((w).map (·.d)) ∧ t < lk.next ∧ lk.get t = some .spare ∧
              Fr.le [(228, .i .i64 k), (227, .i .i64 (((w).map (·.d)).map doR).length), (23, .sl none 3 (((w).map (·.d)).map doR)), (6, .i .i64 i), (5, .sl (some (.l t)) 8 ((w).map opR)), (4, .p (.g 0) 0), (0, .sl none 8 (ops.map opR))] fr ∧ st = ⟨h4, lk⟩)
            (w).length ⟨0, _, _, Nat.zero_le _, rfl, ha2, ?_, ?_, (by repeat (first | exact Fr.le_nil | refine Fr.le_cons rfl ?_)), rfl⟩ ?_
          · exact htj
          · exact hsp
          rintro q fr st ⟨k, h4, lk, hk, rfl, ha4, hk1, hk2, hle1, rfl⟩
          refine ⟨_, hle1, fun R' hR' => ?_⟩
          by_cases hkn : k < (w).length
          · obtain ⟨x, hx⟩ : ∃ x, (w)[k]? = some x := ⟨_, List.getElem?_eq_getElem hkn⟩
            have hxm := hWo x (List.mem_of_getElem? hx)
            have hg1 := map_get' (f := doR) (j := ((k : Nat) : Int).toNat) (show k = ((k : Nat) : Int).toNat by omega) (map_get' (f := fun z : OpA => z.d) rfl hx)
            have hg2 := map_get' (f := opR) (j := ((k : Nat) : Int).toNat) (show k = ((k : Nat) : Int).toNat by omega) hx
            have heq := fun K hK => eqdo_self (K := K) (h := h4) hG x.d (by omega) hK
            have hha := fun (K : V → Heap → Prop) hK => ahas_at (K := K) hG ha4 (by omega) x.d.pod hK
            rw [any_d, show ((w).any fun z => z.d.pod == x.d.pod) = true from List.any_eq_true.2 ⟨x, List.mem_of_getElem? hx, by simp⟩] at hha
            ((conv => whnf); repeat ((first | refine SIf.dt (show (k : Int) < (((w).map (·.d)).map doR).length by omega) ?_ | refine SChk.ix (by omega) (by omega) ?_ | refine SCall.app (heq _) ?_ | refine SCall.app (hha _) ?_ | refine SEx.of (hg1) ?_ | refine SEx.of (hg2) ?_ | refine yf rfl ?_ | refine yt rfl ?_ | refine yo rfl ?_ | refine yc rfl ?_ | refine ys rfl ?_ | refine ye rfl ?_ | refine yn rfl ?_ | refine zw ?_ | refine zdt ?_ | refine zdf ?_ | refine zci ?_) <;> (conv => whnf)))
            intro h5 k5
            ((conv => whnf); repeat ((first | refine SWrap.w64 (by omega) (by omega) ?_ | refine yf rfl ?_ | refine yt rfl ?_ | refine yo rfl ?_ | refine yc rfl ?_ | refine ys rfl ?_ | refine ye rfl ?_ | refine yn rfl ?_ | refine zw ?_ | refine zdt ?_ | refine zdf ?_ | refine zci ?_) <;> (conv => whnf)))
            exact hR' ((w).length - (k + 1)) _ _ (by omega) ⟨k + 1, h5, lk, by omega, rfl, ha4.keep k5 (fun x => x) (fun _ _ x => x), hk1, hk2, (by repeat (first | exact Fr.le_nil | refine Fr.le_cons rfl ?_)), rfl⟩
          · ((conv => whnf); repeat ((first | refine SIf.df (show ¬ (k : Int) < (((w).map (·.d)).map doR).length by omega) ?_ | refine SWrap.w64 (by omega) (by omega) ?_ | refine yf rfl ?_ | refine yt rfl ?_ | refine yo rfl ?_ | refine yc rfl ?_ | refine ys rfl ?_ | refine ye rfl ?_ | refine yn rfl ?_ | refine zw ?_ | refine zdt ?_ | refine zdf ?_ | refine zci ?_) <;> (conv => whnf)))
            exact hR (ops.length - (i + 1)) _ _ (by omega) ⟨i + 1, h4, lk, _, w, _, by omega, by omega, rfl, ha4, hWl, hWo, .inr ⟨hW0, t, rfl, hk1, hk2⟩, (by repeat (first | exact Fr.le_nil | refine Fr.le_cons rfl ?_)), rfl⟩
      · -- there
        have hpf : putA (w.map (·.d)) (cutO o).d = false := by rw [hpa]; simp
        have hp := fun (K : V → Heap → Prop) hK => hpc K (fun _ => hK) (fun h => by rw [hpf] at h; cases h)
        ((conv => whnf); repeat ((first | refine SIf.df (show ¬ ((w.length : Nat) : Int) < (w.map opR).length by omega) ?_ | refine SIf.dt k0 ?_ | refine SCall.app (hp _) ?_ | refine SEx.of (hcut) ?_ | refine yf rfl ?_ | refine yt rfl ?_ | refine yo rfl ?_ | refine yc rfl ?_ | refine ys rfl ?_ | refine ye rfl ?_ | refine yn rfl ?_ | refine zw ?_ | refine zdt ?_ | refine zdf ?_ | refine zci ?_) <;> (conv => whnf)))
        intro h2 k2
        have ha2 := ha.keep k2 (fun x => x) (fun _ _ x => x)
        ((conv => whnf); repeat ((first | refine SIf.dt k0 ?_ | refine SEx.of (hcut) ?_ | refine yf rfl ?_ | refine yt rfl ?_ | refine yo rfl ?_ | refine yc rfl ?_ | refine ys rfl ?_ | refine ye rfl ?_ | refine yn rfl ?_ | refine zw ?_ | refine zdt ?_ | refine zdf ?_ | refine zci ?_) <;> (conv => whnf)))
        have hWl : (w).length ≤ i + 1 := by omega
        have hWo : WOk (w) := hwo
        have hWd : ((w).map (·.d)).length = (w).length := List.length_map _
        have hWm : ((w).map opR).length = (w).length := List.length_map _
        have hWr : (((w).map (·.d)).map doR).length = (w).length := by simp
        have hW0 : 0 < (w).length := by first | assumption | (simp; done)
        have hal := fun (K : V → Heap → Prop) hK => aall_at (K := K) hG ha2 (by omega) (wok_d hWo).2 hK
        ((conv => whnf); repeat ((first | refine SCall.app (hal _) ?_ | refine yf rfl ?_ | refine yt rfl ?_ | refine yo rfl ?_ | refine yc rfl ?_ | refine ys rfl ?_ | refine ye rfl ?_ | refine yn rfl ?_ | refine zw ?_ | refine zdt ?_ | refine zdf ?_ | refine zci ?_) <;> (conv => whnf)))
        rintro lv (⟨_, hno⟩ | rfl)
        · exfalso; have := congrArg List.length hno; rw [hWd] at this; simp only [List.length_nil] at this; omega
        ((conv => whnf); repeat ((first | refine SIf.nf (show ((((w).map (·.d)).map doR).length : Int) = ((w).map opR).length by omega) ?_ | refine yf rfl ?_ | refine yt rfl ?_ | refine yo rfl ?_ | refine yc rfl ?_ | refine ys rfl ?_ | refine ye rfl ?_ | refine yn rfl ?_ | refine zw ?_ | refine zdt ?_ | refine zdf ?_ | refine zci ?_) <;> (conv => whnf)))
        refine SLoopV.by (fun q fr st => ∃ (k : Nat) (h4 lk : Heap), k ≤ (w).length ∧ q = (w).length - k ∧ AsAt h4 0 r ((w).map (·.d)) ∧ t < lk.next ∧ lk.get t = some .spare ∧
            Fr.le [(228, .i .i64 k), (227, .i .i64 (((w).map (·.d)).map doR).length), (23, .sl none 3 (((w).map (·.d)).map doR)), (6, .i .i64 i), (5, .sl (some (.l t)) 8 ((w).map opR)), (4, .p (.g 0) 0), (0, .sl none 8 (ops.map opR))] fr ∧ st = ⟨h4, lk⟩)
          (w).length ⟨0, _, _, Nat.zero_le _, rfl, ha2, ?_, ?_, (by repeat (first | exact Fr.le_nil | refine Fr.le_cons rfl ?_)), rfl⟩ ?_
        · exact htj
        · exact hsp
        rintro q fr st ⟨k, h4, lk, hk, rfl, ha4, hk1, hk2, hle1, rfl⟩
        refine ⟨_, hle1, fun R' hR' => ?_⟩
        by_cases hkn : k < (w).length
        · obtain ⟨x, hx⟩ : ∃ x, (w)[k]? = some x := ⟨_, List.getElem?_eq_getElem hkn⟩
          have hxm := hWo x (List.mem_of_getElem? hx)
          have hg1 := map_get' (f := doR) (j := ((k : Nat) : Int).toNat) (show k = ((k : Nat) : Int).toNat by omega) (map_get' (f := fun z : OpA => z.d) rfl hx)
          have hg2 := map_get' (f := opR) (j := ((k : Nat) : Int).toNat) (show k = ((k : Nat) : Int).toNat by omega) hx
          have heq := fun K hK => eqdo_self (K := K) (h := h4) hG x.d (by omega) hK
          have hha := fun (K : V → Heap → Prop) hK => ahas_at (K := K) hG ha4 (by omega) x.d.pod hK
          rw [any_d, show ((w).any fun z => z.d.pod == x.d.pod) = true from List.any_eq_true.2 ⟨x, List.mem_of_getElem? hx, by simp⟩] at hha
          ((conv => whnf); repeat ((first | refine SIf.dt (show (k : Int) < (((w).map (·.d)).map doR).length by omega) ?_ | refine SChk.ix (by omega) (by omega) ?_ | refine SCall.app (heq _) ?_ | refine SCall.app (hha _) ?_ | refine SEx.of (hg1) ?_ | refine SEx.of (hg2) ?_ | refine yf rfl ?_ | refine yt rfl ?_ | refine yo rfl ?_ | refine yc rfl ?_ | refine ys rfl ?_ | refine ye rfl ?_ | refine yn rfl ?_ | refine zw ?_ | refine zdt ?_ | refine zdf ?_ | refine zci ?_) <;> (conv => whnf)))
          intro h5 k5
          ((conv => whnf); repeat ((first | refine SWrap.w64 (by omega) (by omega) ?_ | refine yf rfl ?_ | refine yt rfl ?_ | refine yo rfl ?_ | refine yc rfl ?_ | refine ys rfl ?_ | refine ye rfl ?_ | refine yn rfl ?_ | refine zw ?_ | refine zdt ?_ | refine zdf ?_ | refine zci ?_) <;> (conv => whnf)))
          exact hR' ((w).length - (k + 1)) _ _ (by omega) ⟨k + 1, h5, lk, by omega, rfl, ha4.keep k5 (fun x => x) (fun _ _ x => x), hk1, hk2, (by repeat (first | exact Fr.le_nil | refine Fr.le_cons rfl ?_)), rfl⟩
        · ((conv => whnf); repeat ((first | refine SIf.df (show ¬ (k : Int) < (((w).map (·.d)).map doR).length by omega) ?_ | refine SWrap.w64 (by omega) (by omega) ?_ | refine yf rfl ?_ | refine yt rfl ?_ | refine yo rfl ?_ | refine yc rfl ?_ | refine ys rfl ?_ | refine ye rfl ?_ | refine yn rfl ?_ | refine zw ?_ | refine zdt ?_ | refine zdf ?_ | refine zci ?_) <;> (conv => whnf)))
          exact hR (ops.length - (i + 1)) _ _ (by omega) ⟨i + 1, h4, lk, _, w, _, by omega, by omega, rfl, ha4, hWl, hWo, .inr ⟨hW0, t, rfl, hk1, hk2⟩, (by repeat (first | exact Fr.le_nil | refine Fr.le_cons rfl ?_)), rfl⟩
  by_cases k1 : o.kind = 1
  case neg =>
    have hclr := fun K hK => aclear_at (K := K) hG ha hK
    ((conv => whnf); repeat ((first | refine SIf.df k0 ?_ | refine SIf.df k1 ?_ | refine SCall.app (hclr _) ?_ | refine SEx.of (a3 _ _ _) ?_ | refine yf rfl ?_ | refine yt rfl ?_ | refine yo rfl ?_ | refine yc rfl ?_ | refine ys rfl ?_ | refine ye rfl ?_ | refine yn rfl ?_ | refine zw ?_ | refine zdt ?_ | refine zdf ?_ | refine zci ?_) <;> (conv => whnf)))
    intro h2 ha2 k2
    have hal := fun (K : V → Heap → Prop) hK => aall_at (K := K) hG ha2 (by simp) (fun _ h => by cases h) hK
    ((conv => whnf); repeat ((first | refine SCall.app (hal _) ?_ | refine yf rfl ?_ | refine yt rfl ?_ | refine yo rfl ?_ | refine yc rfl ?_ | refine ys rfl ?_ | refine ye rfl ?_ | refine yn rfl ?_ | refine zw ?_ | refine zdt ?_ | refine zdf ?_ | refine zci ?_) <;> (conv => whnf)))
    rintro lv (⟨rfl, _⟩ | rfl)
    all_goals
      ((conv => whnf); repeat ((first | refine SLoopV.un rfl ?_ | refine SWrap.w64 (by omega) (by omega) ?_ | refine yf rfl ?_ | refine yt rfl ?_ | refine yo rfl ?_ | refine yc rfl ?_ | refine ys rfl ?_ | refine ye rfl ?_ | refine yn rfl ?_ | refine zw ?_ | refine zdt ?_ | refine zdf ?_ | refine zci ?_) <;> (conv => whnf)))
      exact hR (ops.length - (i + 1)) _ _ (by omega) ⟨i + 1, _, _, .nils, [], _, by omega, by omega, rfl, ha2, Nat.zero_le _, (fun _ h => by cases h), .inl ⟨rfl, rfl⟩, (by repeat (first | exact Fr.le_nil | refine Fr.le_cons rfl ?_)), rfl⟩
  -- settle
  have hcn := fun K hK => cnew_at (K := K) hG (h := hh) hK
  ((conv => whnf); repeat ((first | refine SIf.df k0 ?_ | refine SIf.dt k1 ?_ | refine SCall.app (hcn _) ?_ | refine SEx.of (a3 _ _ _) ?_ | refine yf rfl ?_ | refine yt rfl ?_ | refine yo rfl ?_ | refine yc rfl ?_ | refine ys rfl ?_ | refine ye rfl ?_ | refine yn rfl ?_ | refine zw ?_ | refine zdt ?_ | refine zdf ?_ | refine zci ?_) <;> (conv => whnf)))
  intro h2 c2 k2
  have ha2 := ha.keep k2 (fun x => x) (fun _ _ x => x)
  have hhc : hh.next < h2.next := c2.1
  obtain ⟨h3, hh3⟩ : ∃ h3 : Heap, h3 = h2.push (.mp none []) := ⟨_, rfl⟩
  have k3 : Heap.Keeps (fun _ => False) h2 h3 := by rw [hh3]; exact .push (.refl _ _) _
  have g3 : h3.get h2.next = some (.mp none []) := by rw [hh3]; exact Heap.get_push_self _ _
  have hn3 : h3.next = h2.next + 1 := by rw [hh3]; rfl
  have ha3 := ha2.keep k3 (fun x => x) (fun _ _ x => x)
  have c3 := c2.keep k3
  have hpl : (o.pods.map podR).length = o.pods.length := List.length_map _
  ((conv => whnf); repeat ((first | refine SEx.of (a3 _ _ _) ?_ | refine yf rfl ?_ | refine yt rfl ?_ | refine yo rfl ?_ | refine yc rfl ?_ | refine ys rfl ?_ | refine ye rfl ?_ | refine yn rfl ?_ | refine zw ?_ | refine zdt ?_ | refine zdf ?_ | refine zci ?_) <;> (conv => whnf)))
  refine SLoopV.by (fun q fr st => ∃ (j : Nat) (hj lj : Heap) (kn : List PodD) (ev : V), j ≤ o.pods.length ∧ j ≤ 8 ∧ q = o.pods.length - j ∧ KnOk kn ∧ kn.length ≤ j ∧ Heap.Keeps (fun n => n = h2.next) h3 hj ∧ hj.get h2.next = some (.mp none (kn.map knM)) ∧
      Heap.Keeps (fun _ => False) lo lj ∧ lo.next < lj.next ∧ lj.get lo.next = some (.cs (opR (cutO o))) ∧ EsV lo.next lj ev kn ∧
      Fr.le [(15, .i .i64 j), (14, .m (.g h2.next)), (13, ev), (12, .p (.g hh.next) 0), (7, .p (.l lo.next) 0), (6, .i .i64 i), (5, lv), (4, .p (.g 0) 0), (0, .sl none 8 (ops.map opR))] fr ∧ st = ⟨hj, lj⟩)
    o.pods.length ⟨0, _, _, [], .nils, Nat.zero_le _, by omega, rfl, ⟨by simp, fun _ h => by cases h⟩, Nat.le_refl _, ?_, ?_, ?_, ?_, ?_, .inl ⟨rfl, rfl⟩, (by repeat (first | exact Fr.le_nil | refine Fr.le_cons rfl ?_)), rfl⟩ ?_
  · rw [hh3]; exact .refl _ _
  · rw [hh3] at g3; exact g3
  · exact klo _ _ _
  · exact Nat.lt_succ_self _
  · exact a3 _ _ _
  rintro q fr st ⟨j, hj, lj, kn, ev, hjl, hj8, rfl, hkn, hknl, khj, gm, klj, hlj, hobj, hev, hle1, rfl⟩
  refine ⟨_, hle1, fun R' hR' => ?_⟩
  have hcut : lj.get lo.next = some (.cs [.i .i64 o.kind, .s o.d.pod, .s o.d.node, .sl none 1 ((o.d.vic.take 4).map strR), .i .i64 o.d.uid, .i .i64 o.d.term, .i .i64 o.d.until_, .sl none 16 (o.pods.map podR)]) := hobj
  have hnx : h3.next ≤ hj.next := khj.1
  by_cases hjn : j < o.pods.length ∧ j < 8
  · obtain ⟨hjn1, hjn2⟩ := hjn
    have hx := List.getElem?_eq_getElem hjn1
    have hxo := heo.each _ (List.getElem_mem hjn1)
    generalize o.pods[j] = p at hx hxo
    obtain ⟨hpL, hpT⟩ := hxo
    have b1 : ∀ x, (lj.push x).get lj.next = some x := fun x => Heap.get_push_self _ _
    have b2 : ∀ x y, ((lj.push x).set lj.next y).get lj.next = some y := fun x y => Heap.get_set_self (b1 x)
    have kk : ∀ x y, Heap.Keeps (fun _ => False) lo ((lj.push x).set lj.next y) := fun x y => Heap.Keeps.set (b := fun _ => False) (.push klj _) (.inr klj.1) _
    have bo : ∀ x y, ((lj.push x).set lj.next y).get lo.next = some (.cs (opR (cutO o))) := fun x y => Heap.gs (by omega) (Heap.gp (by omega) hobj)
    cases hb : podB p
    · have hput := fun K hK => put_no (K := K) (h := hj) hG p hpL hb hK
      ((conv => whnf); repeat ((first | refine SIf.dt (show (j : Int) < (o.pods.map podR).length by omega) ?_ | refine SIf.dt (show (j : Int) < 8 by omega) ?_ | refine SCall.app (hput _) ?_ | refine SWrap.w64 (by omega) (by omega) ?_ | refine SEx.of (hcut) ?_ | refine SEx.of (map_get' (f := podR) (by omega) hx) ?_ | refine SEx.of (b2 _ _) ?_ | refine SEx.of (b1 _) ?_ | refine yf rfl ?_ | refine yt rfl ?_ | refine yo rfl ?_ | refine yc rfl ?_ | refine ys rfl ?_ | refine ye rfl ?_ | refine yn rfl ?_ | refine zw ?_ | refine zdt ?_ | refine zdf ?_ | refine zci ?_) <;> (conv => whnf)))
      refine hR' (o.pods.length - (j + 1)) _ _ (by omega) ⟨j + 1, hj, _, kn, ev, by omega, by omega, rfl, hkn, by omega, khj, gm, kk _ _, (by show lo.next < lj.next + 1; omega), bo _ _, ?_, (by repeat (first | exact Fr.le_nil | refine Fr.le_cons rfl ?_)), rfl⟩
      rcases hev with ⟨h6, h7⟩ | ⟨h6, u, h7, h8, h9, h10⟩
      · exact .inl ⟨h6, h7⟩
      · exact .inr ⟨h6, u, h7, h8, (by show u < lj.next + 1; omega), Heap.gs (by omega) (Heap.gp (by omega) h10)⟩
    · obtain ⟨E, hE⟩ : ∃ E, E = encPod p := ⟨_, rfl⟩
      have hput := fun K hK => put_yes (K := K) (h := hj) hG hon p hpL hb hpT hK
      have hbl := encPod_pos p
      rw [← hE] at hput hbl
      have hml : (E.map byR).length = E.length := List.length_map _
      have hnl' : p.name.length ≤ 12 := (nameB_ok (podB_name hb)).1
      have hmf := mfind_kn p.name kn
      cases hgk : getK kn p.name with
      | some y =>
        rw [hgk] at hmf
        have hy1 : 1 ≤ y.uid := podB_uid (hkn.each y (getK_mem hgk).1).2.1
        ((conv => whnf); repeat ((first | refine SIf.dt (show (j : Int) < (o.pods.map podR).length by omega) ?_ | refine SIf.dt (show (j : Int) < 8 by omega) ?_ | refine SCall.app (hput _) ?_ | refine SEx.of (hcut) ?_ | refine SEx.of (map_get' (f := podR) (by omega) hx) ?_ | refine SEx.of (b2 _ _) ?_ | refine SEx.of (b1 _) ?_ | refine yf rfl ?_ | refine yt rfl ?_ | refine yo rfl ?_ | refine yc rfl ?_ | refine ys rfl ?_ | refine ye rfl ?_ | refine yn rfl ?_ | refine zw ?_ | refine zdt ?_ | refine zdf ?_ | refine zci ?_) <;> (conv => whnf)))
        intro h5 k5
        have gm5 : h5.get h2.next = some (.mp none (kn.map knM)) := by rw [k5.2 h2.next (by omega) (fun x => x)]; exact gm
        ((conv => whnf); repeat ((first | refine SIf.dt (show (0 : Int) < ((E.map byR).length : Nat) by omega) ?_ | refine SOpt.of hmf ?_ | refine SIf.df (show ¬ y.uid = 0 by omega) ?_ | refine SWrap.w64 (by omega) (by omega) ?_ | refine SEx.of (b2 _ _) ?_ | refine SEx.of (b1 _) ?_ | refine SEx.of (gm5) ?_ | refine yf rfl ?_ | refine yt rfl ?_ | refine yo rfl ?_ | refine yc rfl ?_ | refine ys rfl ?_ | refine ye rfl ?_ | refine yn rfl ?_ | refine zw ?_ | refine zdt ?_ | refine zdf ?_ | refine zci ?_) <;> (conv => whnf)))
        refine hR' (o.pods.length - (j + 1)) _ _ (by omega) ⟨j + 1, h5, _, kn, ev, by omega, by omega, rfl, hkn, by omega, khj.trans (k5.mono fun _ _ e => e.elim), gm5, kk _ _, (by show lo.next < lj.next + 1; omega), bo _ _, ?_, (by repeat (first | exact Fr.le_nil | refine Fr.le_cons rfl ?_)), rfl⟩
        rcases hev with ⟨h6, h7⟩ | ⟨h6, u, h7, h8, h9, h10⟩
        · exact .inl ⟨h6, h7⟩
        · exact .inr ⟨h6, u, h7, h8, (by show u < lj.next + 1; omega), Heap.gs (by omega) (Heap.gp (by omega) h10)⟩
      | none =>
        rw [hgk] at hmf
        have hmp := mput_kn p hgk
        have hst : stepK kn p = kn ++ [p] := by unfold stepK; rw [hb, hgk]; rfl
        have hkn2 := hkn.step hpL hpT
        rw [hst] at hkn2
        have hrow : (knE kn).map enR ++ [[.s ([112, 47] ++ p.name), .i .i64 1, .sl none 1 (E.map byR)]] = (knE (kn ++ [p])).map enR := by rw [hE]; unfold knE; simp; rfl
        have hrow0 : [[.s ([112, 47] ++ p.name), .i .i64 1, .sl none 1 (E.map byR)]] = (knE ([] ++ [p])).map enR := by rw [hE]; rfl
        ((conv => whnf); repeat ((first | refine SIf.dt (show (j : Int) < (o.pods.map podR).length by omega) ?_ | refine SIf.dt (show (j : Int) < 8 by omega) ?_ | refine SCall.app (hput _) ?_ | refine SEx.of (hcut) ?_ | refine SEx.of (map_get' (f := podR) (by omega) hx) ?_ | refine SEx.of (b2 _ _) ?_ | refine SEx.of (b1 _) ?_ | refine yf rfl ?_ | refine yt rfl ?_ | refine yo rfl ?_ | refine yc rfl ?_ | refine ys rfl ?_ | refine ye rfl ?_ | refine yn rfl ?_ | refine zw ?_ | refine zdt ?_ | refine zdf ?_ | refine zci ?_) <;> (conv => whnf)))
        intro h5 k5
        have gm5 : h5.get h2.next = some (.mp none (kn.map knM)) := by rw [k5.2 h2.next (by omega) (fun x => x)]; exact gm
        have kh5 : ∀ z, Heap.Keeps (fun n => n = h2.next) h3 (h5.set h2.next z) := fun z => Heap.Keeps.set (b := fun n => n = h2.next) (khj.trans (k5.mono fun _ _ e => e.elim)) (.inl rfl) _
        have gmp : (h5.set h2.next (.mp none (mput (kn.map knM) (.s p.name) (.agg (podR p))))).get h2.next = some (.mp none ((kn ++ [p]).map knM)) := by rw [← hmp]; exact Heap.get_set_self gm5
        rcases hev with ⟨rfl, rfl⟩ | ⟨h6, u, rfl, h8, h9, h10⟩
        · ((conv => whnf); repeat ((first | refine SIf.dt (show (0 : Int) < ((E.map byR).length : Nat) by omega) ?_ | refine SOpt.no hmf ?_ | refine SWrap.w64 (by omega) (by omega) ?_ | refine SChk.mk (decide_eq_true (show ((([112, 47] : Str).length + p.name.length : Nat) : Int) ≤ 9223372036854775807 by simp; omega)) ?_ | refine SEx.of (b2 _ _) ?_ | refine SEx.of (b1 _) ?_ | refine SEx.of (gm5) ?_ | refine yf rfl ?_ | refine yt rfl ?_ | refine yo rfl ?_ | refine yc rfl ?_ | refine ys rfl ?_ | refine ye rfl ?_ | refine yn rfl ?_ | refine zw ?_ | refine zdt ?_ | refine zdf ?_ | refine zci ?_) <;> (conv => whnf)))
          exact hR' (o.pods.length - (j + 1)) _ _ (by omega) ⟨j + 1, _, _, [] ++ [p], _, by omega, by omega, rfl, hkn2, by simp, kh5 _, gmp, .push (.push (kk _ _) _) _, (by show lo.next < lj.next + 1 + 1 + 1; omega), Heap.gp (by show lo.next ≠ lj.next + 1 + 1; omega) (Heap.gp (by show lo.next ≠ lj.next + 1; omega) (bo _ _)), .inr ⟨by simp, lj.next + 1 + 1, by rw [← hrow0], by omega, Nat.lt_succ_self _, Heap.get_push_self _ _⟩, (by repeat (first | exact Fr.le_nil | refine Fr.le_cons rfl ?_)), rfl⟩
        · have p0 : ∀ x y, (((lj.push x).set lj.next y).push .spare).get u = some .spare := fun x y => Heap.gp (by show u ≠ lj.next + 1; omega) (Heap.gs (by omega) (Heap.gp (by omega) h10))
          have htl : ((knE kn).map enR).length ≤ 100 := by unfold knE; simp; omega
          ((conv => whnf); repeat ((first | refine SIf.dt (show (0 : Int) < ((E.map byR).length : Nat) by omega) ?_ | refine SOpt.no hmf ?_ | refine SWrap.w64 (by omega) (by omega) ?_ | refine SChk.mk (decide_eq_true (show ((([112, 47] : Str).length + p.name.length : Nat) : Int) ≤ 9223372036854775807 by simp; omega)) ?_ | refine SChk.mk (by simp [roomOk] at htl ⊢; omega) ?_ | refine SEx.of (b2 _ _) ?_ | refine SEx.of (b1 _) ?_ | refine SEx.of (gm5) ?_ | refine SEx.of (p0 _ _) ?_ | refine yf rfl ?_ | refine yt rfl ?_ | refine yo rfl ?_ | refine yc rfl ?_ | refine ys rfl ?_ | refine ye rfl ?_ | refine yn rfl ?_ | refine zw ?_ | refine zdt ?_ | refine zdf ?_ | refine zci ?_) <;> (conv => whnf)))
          refine hR' (o.pods.length - (j + 1)) _ _ (by omega) ⟨j + 1, _, _, kn ++ [p], .sl (some (.l (lj.next + 1 + 1))) 3 ((knE kn).map enR ++ [[.s ([112, 47] ++ p.name), .i .i64 1, .sl none 1 (E.map byR)]]), by omega, by omega, rfl, hkn2, by simp; omega, kh5 _, gmp, ?_, ?_, ?_, ?_, (by repeat (first | exact Fr.le_nil | refine Fr.le_cons rfl ?_)), rfl⟩
          · exact .push (Heap.Keeps.remove (b := fun _ => False) (.push (kk _ _) _) (.inr (Nat.le_of_lt h8))) _
          · show lo.next < lj.next + 1 + 1 + 1; omega
          · exact Heap.gp (by show lo.next ≠ lj.next + 1 + 1; omega) (Heap.gr (by omega) (Heap.gp (by show lo.next ≠ lj.next + 1; omega) (bo _ _)))
          · exact .inr ⟨by simp, lj.next + 1 + 1, by rw [← hrow], by omega, Nat.lt_succ_self _, Heap.get_push_self _ _⟩
  by_cases hjn1 : j < o.pods.length
  all_goals
    rcases hev with ⟨rfl, hkn0⟩ | ⟨_, uu, rfl, _, _, _⟩
    all_goals
      have hoke : (decide ((0 : Int) ≤ 9) && okE 9 [] (knE kn)) = true := by
        have := okE_knE [] kn (by simpa using hkn.nd)
        rw [show okE 9 [] (knE kn) = true from this]; rfl
      have cj : CacheAt hj hh.next none (-1) [] := c3.keepB khj (Nat.ne_of_lt hhc) (fun _ h => by cases h)
      have hcl0 := fun (K : V → Heap → Prop) (hK : ∀ h' k, hj.next ≤ k → CacheAt h' hh.next (some k) 9 (knE kn) → Heap.Keeps (fun n => n = hh.next) hj h' → K (.b true) h') => clist_at (K := K) hG cj (knE kn) (knE_ok hkn) (by unfold knE; simp; omega) 9 (fun h => by rw [hoke] at h; cases h) (fun _ => hK)
      have hcl := fun (K : V → Heap → Prop) hK evv (he : (evv = .nils ∧ kn = []) ∨ evv = .sl none 3 ((knE kn).map enR)) => show ACall P 26 [.p (.g hh.next) 0, .i .i64 9, evv] hj K from by
        rcases he with ⟨rfl, h6⟩ | rfl
        · exact ACall.leq (args' := [.p (.g hh.next) 0, .i .i64 9, .sl none 3 []]) (hr := ⟨.inl rfl, .inl rfl, .inr (.inl .nil), trivial⟩) (h0 := by have := hcl0 K hK; rw [show (knE kn).map enR = [] by rw [h6]; rfl] at this; exact this)
        · exact hcl0 K hK
      have haj := ha3.keep khj (by have := ha3.1; show ¬ 0 = h2.next; omega) (fun q hq => by
        obtain ⟨_, ⟨h, _⟩ | ⟨mk, _, h, _, h', _⟩⟩ := ha
        · rw [h] at hq; cases hq
        · rw [h] at hq; cases hq; show ¬ q = h2.next; omega)
      ((conv => whnf); repeat ((first | refine SCall.app (fun hK => hcl _ hK _ (by first | exact .inl ⟨rfl, by assumption⟩ | exact .inr rfl)) ?_ | refine SEx.of (hcut) ?_ | refine yf rfl ?_ | refine yt rfl ?_ | refine yo rfl ?_ | refine yc rfl ?_ | refine ys rfl ?_ | refine ye rfl ?_ | refine yn rfl ?_ | refine zw ?_ | refine zdt ?_ | refine zdf ?_ | refine zci ?_) <;> (conv => whnf)))
      intro h4 km hkm c4 k4
      have hrlt : ∀ q, r = some q → q < hh.next := fun q hq => by
        obtain ⟨_, ⟨h, _⟩ | ⟨mk, _, h, _, h', _⟩⟩ := ha
        · rw [h] at hq; cases hq
        · rw [h] at hq; cases hq; exact h'
      have h0lt : 0 < hh.next := ha.1
      have ha4 := haj.keep k4 (by show ¬ 0 = hh.next; omega) (fun q hq => by have := hrlt q hq; show ¬ q = hh.next; omega)
      have gm4 : h4.get h2.next = some (.mp none (kn.map knM)) := by rw [k4.2 h2.next (by omega) (by show ¬ h2.next = hh.next; omega)]; exact gm
      have hsep : ∀ q, r = some q → q ≠ hh.next ∧ some km ≠ some q := fun q hq => by
        have := hrlt q hq
        exact ⟨by omega, fun e => by cases e; omega⟩
      have hset := fun (K : V → Heap → Prop) hK => asettle_at (K := K) hG hon ha4 (by omega) (wok_d hwo).1 c4 (knE_ok hkn) (known_kn hkn) hsep o.d.until_ o.d.term hK
      rw [keepA_left, hdl, List.length_map] at hset
      have hll : (leftA kn o.d.until_ o.d.term w).length ≤ w.length := List.length_filter_le _ _
      rcases hlv with ⟨rfl, rfl⟩ | ⟨hw0, t, rfl, ht1, ht2⟩
      · -- nothing to let go
        ((conv => whnf); repeat ((first | refine SLoopV.un rfl ?_ | refine SCall.app (hset _) ?_ | refine SEx.of (hcut) ?_ | refine yf rfl ?_ | refine yt rfl ?_ | refine yo rfl ?_ | refine yc rfl ?_ | refine ys rfl ?_ | refine ye rfl ?_ | refine yn rfl ?_ | refine zw ?_ | refine zdt ?_ | refine zdf ?_ | refine zci ?_) <;> (conv => whnf)))
        intro h5 ha5' k5
        have ha5 : AsAt h5 0 r (([] : List OpA).map (·.d)) := ha5'
        ((conv => whnf); repeat ((first | refine SWrap.w64 (by omega) (by omega) ?_ | refine SIf.nf (rfl : (0 : Int) = 0) ?_ | refine SEx.of (hcut) ?_ | refine yf rfl ?_ | refine yt rfl ?_ | refine yo rfl ?_ | refine yc rfl ?_ | refine ys rfl ?_ | refine ye rfl ?_ | refine yn rfl ?_ | refine zw ?_ | refine zdt ?_ | refine zdf ?_ | refine zci ?_) <;> (conv => whnf)))
        have hal := fun (K : V → Heap → Prop) hK => aall_at (K := K) hG ha5 (by simp) (fun _ h => by cases h) hK
        ((conv => whnf); repeat ((first | refine SCall.app (hal _) ?_ | refine yf rfl ?_ | refine yt rfl ?_ | refine yo rfl ?_ | refine yc rfl ?_ | refine ys rfl ?_ | refine ye rfl ?_ | refine yn rfl ?_ | refine zw ?_ | refine zdt ?_ | refine zdf ?_ | refine zci ?_) <;> (conv => whnf)))
        rintro lv (⟨rfl, _⟩ | rfl)
        all_goals
          ((conv => whnf); repeat ((first | refine SLoopV.un rfl ?_ | refine SWrap.w64 (by omega) (by omega) ?_ | refine yf rfl ?_ | refine yt rfl ?_ | refine yo rfl ?_ | refine yc rfl ?_ | refine ys rfl ?_ | refine ye rfl ?_ | refine yn rfl ?_ | refine zw ?_ | refine zdt ?_ | refine zdf ?_ | refine zci ?_) <;> (conv => whnf)))
          exact hR (ops.length - (i + 1)) _ _ (by omega) ⟨i + 1, _, _, .nils, [], _, by omega, by omega, rfl, ha5, Nat.zero_le _, (fun _ h => by cases h), .inl ⟨rfl, rfl⟩, (by repeat (first | exact Fr.le_nil | refine Fr.le_cons rfl ?_)), rfl⟩
      · have htj : t < lj.next := Nat.lt_of_lt_of_le ht1 klj.1
        ((conv => whnf); repeat ((first | refine SEx.of (hcut) ?_ | refine yf rfl ?_ | refine yt rfl ?_ | refine yo rfl ?_ | refine yc rfl ?_ | refine ys rfl ?_ | refine ye rfl ?_ | refine yn rfl ?_ | refine zw ?_ | refine zdt ?_ | refine zdf ?_ | refine zci ?_) <;> (conv => whnf)))
        refine SLoopV.by (fun q fr st => ∃ (m : Nat) (lk : Heap) (fv : V), m ≤ w.length ∧ q = w.length - m ∧ Heap.Keeps (fun _ => False) lo lk ∧ lo.next < lk.next ∧ lk.get lo.next = some (.cs (opR (cutO o))) ∧ LfV lo.next lk fv (leftA kn o.d.until_ o.d.term (w.take m)) ∧
            Fr.le [(161, .i .i64 m), (160, .i .i64 (w.map opR).length), (159, .sl (some (.l t)) 8 (w.map opR)), (18, fv), (14, .m (.g h2.next)), (12, .p (.g hh.next) 0), (7, .p (.l lo.next) 0), (6, .i .i64 i), (5, .sl (some (.l t)) 8 (w.map opR)), (4, .p (.g 0) 0), (0, .sl none 8 (ops.map opR))] fr ∧ st = ⟨h4, lk⟩)
          w.length ⟨0, _, .nils, Nat.zero_le _, rfl, ?_, ?_, ?_, .inl ⟨rfl, rfl⟩, (by repeat (first | exact Fr.le_nil | refine Fr.le_cons rfl ?_)), rfl⟩ ?_
        · exact klj
        · exact hlj
        · exact hobj
        rintro q fr st ⟨m, lk, fv, hm, rfl, klk, hlk, hok, hfv, hle2, rfl⟩
        refine ⟨_, hle2, fun R2 hR2 => ?_⟩
        have hcuk : lk.get lo.next = some (.cs [.i .i64 o.kind, .s o.d.pod, .s o.d.node, .sl none 1 ((o.d.vic.take 4).map strR), .i .i64 o.d.uid, .i .i64 o.d.term, .i .i64 o.d.until_, .sl none 16 (o.pods.map podR)]) := hok
        by_cases hmn : m < w.length
        · have hy := List.getElem?_eq_getElem hmn
          generalize w[m] = x at hy
          have hlt := leftA_take hy kn o.d.until_ o.d.term
          have hmf := mfind_kn x.d.pod kn
          have b1 : ∀ x, (lk.push x).get lk.next = some x := fun x => Heap.get_push_self _ _
          have b2 : ∀ x y, ((lk.push x).set lk.next y).get lk.next = some y := fun x y => Heap.get_set_self (b1 x)
          have b3 : ∀ x y z, (((lk.push x).set lk.next y).push z).get lk.next = some y := fun x y z => Heap.gp (by show lk.next ≠ lk.next + 1; omega) (b2 x y)
          have b4 : ∀ x y z, (((lk.push x).set lk.next y).push z).get (lk.next + 1) = some z := fun x y z => Heap.get_push_self _ _
          have b5 : ∀ x y z u, ((((lk.push x).set lk.next y).push z).set (lk.next + 1) u).get (lk.next + 1) = some u := fun x y z u => Heap.get_set_self (b4 x y z)
          have b6 : ∀ x y z u, ((((lk.push x).set lk.next y).push z).set (lk.next + 1) u).get lk.next = some y := fun x y z u => Heap.gs (by omega) (b3 x y z)
          have b7 : ∀ x y z u, ((((lk.push x).set lk.next y).push z).set (lk.next + 1) u).get lo.next = some (.cs (opR (cutO o))) := fun x y z u => Heap.gs (by omega) (Heap.gp (by show lo.next ≠ lk.next + 1; omega) (Heap.gs (by omega) (Heap.gp (by omega) hok)))
          have b8 : ∀ x y z u v, (((((lk.push x).set lk.next y).push z).set (lk.next + 1) u).push v).get lk.next = some y := fun x y z u v => Heap.gp (by show lk.next ≠ lk.next + 1 + 1; omega) (b6 x y z u)
          have kk : ∀ x y z u, Heap.Keeps (fun _ => False) lo ((((lk.push x).set lk.next y).push z).set (lk.next + 1) u) := fun x y z u => Heap.Keeps.set (b := fun _ => False) (.push (Heap.Keeps.set (b := fun _ => False) (.push klk _) (.inr klk.1) _) _) (.inr (Nat.le_succ_of_le klk.1)) _
          have kn4 : ∀ x y z u, ((((lk.push x).set lk.next y).push z).set (lk.next + 1) u).next = lk.next + 2 := fun x y z u => rfl
          have kkk : ∀ x y z u, Heap.Keeps (fun _ => False) lk ((((lk.push x).set lk.next y).push z).set (lk.next + 1) u) := fun x y z u => Heap.Keeps.set (b := fun _ => False) (.push (Heap.Keeps.set (b := fun _ => False) (.push (.refl _ _) _) (.inr (Nat.le_refl _)) _) _) (.inr (Nat.le_succ _)) _
          by_cases c1 : x.d.term = o.d.term
          case neg =>
            cases hgk : getK kn x.d.pod with
            | none =>
              rw [hgk] at hmf
              have hq : qA kn o.d.until_ o.d.term x = false := by unfold qA; rw [decide_eq_false c1]; rfl
              rw [hq, if_neg (by decide), List.append_nil] at hlt
              rw [← hlt] at hfv
              ((conv => whnf); repeat ((first | refine SIf.dt (show (m : Int) < (w.map opR).length by omega) ?_ | refine SOpt.of hmf ?_ | refine SOpt.no hmf ?_ | refine SIf.df c1 ?_ | refine SWrap.w64 (by omega) (by omega) ?_ | refine SEx.of (map_get' (f := opR) (by omega) hy) ?_ | refine SEx.of (b1 _) ?_ | refine SEx.of (b2 _ _) ?_ | refine SEx.of (b4 _ _ _) ?_ | refine SEx.of (b5 _ _ _ _) ?_ | refine SEx.of (b6 _ _ _ _) ?_ | refine SEx.of (b7 _ _ _ _) ?_ | refine SEx.of (gm4) ?_ | refine yf rfl ?_ | refine yt rfl ?_ | refine yo rfl ?_ | refine yc rfl ?_ | refine ys rfl ?_ | refine ye rfl ?_ | refine yn rfl ?_ | refine zw ?_ | refine zdt ?_ | refine zdf ?_ | refine zci ?_) <;> (conv => whnf)))
              exact hR2 (w.length - (m + 1)) _ _ (by omega) ⟨m + 1, _, fv, by omega, rfl, kk _ _ _ _, (by show lo.next < lk.next + 1 + 1; omega), b7 _ _ _ _, hfv.keep (kkk _ _ _ _), (by repeat (first | exact Fr.le_nil | refine Fr.le_cons rfl ?_)), rfl⟩
            | some y =>
              rw [hgk] at hmf
              have hq : qA kn o.d.until_ o.d.term x = false := by unfold qA; rw [decide_eq_false c1]; rfl
              rw [hq, if_neg (by decide), List.append_nil] at hlt
              rw [← hlt] at hfv
              ((conv => whnf); repeat ((first | refine SIf.dt (show (m : Int) < (w.map opR).length by omega) ?_ | refine SOpt.of hmf ?_ | refine SOpt.no hmf ?_ | refine SIf.df c1 ?_ | refine SWrap.w64 (by omega) (by omega) ?_ | refine SEx.of (map_get' (f := opR) (by omega) hy) ?_ | refine SEx.of (b1 _) ?_ | refine SEx.of (b2 _ _) ?_ | refine SEx.of (b4 _ _ _) ?_ | refine SEx.of (b5 _ _ _ _) ?_ | refine SEx.of (b6 _ _ _ _) ?_ | refine SEx.of (b7 _ _ _ _) ?_ | refine SEx.of (gm4) ?_ | refine yf rfl ?_ | refine yt rfl ?_ | refine yo rfl ?_ | refine yc rfl ?_ | refine ys rfl ?_ | refine ye rfl ?_ | refine yn rfl ?_ | refine zw ?_ | refine zdt ?_ | refine zdf ?_ | refine zci ?_) <;> (conv => whnf)))
              exact hR2 (w.length - (m + 1)) _ _ (by omega) ⟨m + 1, _, fv, by omega, rfl, kk _ _ _ _, (by show lo.next < lk.next + 1 + 1; omega), b7 _ _ _ _, hfv.keep (kkk _ _ _ _), (by repeat (first | exact Fr.le_nil | refine Fr.le_cons rfl ?_)), rfl⟩
          by_cases c2 : o.d.until_ < x.d.until_
          case neg =>
            cases hgk : getK kn x.d.pod with
            | none =>
              rw [hgk] at hmf
              have hq : qA kn o.d.until_ o.d.term x = false := by unfold qA; rw [decide_eq_true c1, decide_eq_false c2]; rfl
              rw [hq, if_neg (by decide), List.append_nil] at hlt
              rw [← hlt] at hfv
              ((conv => whnf); repeat ((first | refine SIf.dt (show (m : Int) < (w.map opR).length by omega) ?_ | refine SOpt.of hmf ?_ | refine SOpt.no hmf ?_ | refine SIf.dt c1 ?_ | refine SIf.df c2 ?_ | refine SWrap.w64 (by omega) (by omega) ?_ | refine SEx.of (map_get' (f := opR) (by omega) hy) ?_ | refine SEx.of (b1 _) ?_ | refine SEx.of (b2 _ _) ?_ | refine SEx.of (b4 _ _ _) ?_ | refine SEx.of (b5 _ _ _ _) ?_ | refine SEx.of (b6 _ _ _ _) ?_ | refine SEx.of (b7 _ _ _ _) ?_ | refine SEx.of (gm4) ?_ | refine yf rfl ?_ | refine yt rfl ?_ | refine yo rfl ?_ | refine yc rfl ?_ | refine ys rfl ?_ | refine ye rfl ?_ | refine yn rfl ?_ | refine zw ?_ | refine zdt ?_ | refine zdf ?_ | refine zci ?_) <;> (conv => whnf)))
              exact hR2 (w.length - (m + 1)) _ _ (by omega) ⟨m + 1, _, fv, by omega, rfl, kk _ _ _ _, (by show lo.next < lk.next + 1 + 1; omega), b7 _ _ _ _, hfv.keep (kkk _ _ _ _), (by repeat (first | exact Fr.le_nil | refine Fr.le_cons rfl ?_)), rfl⟩
            | some y =>
              rw [hgk] at hmf
              have hq : qA kn o.d.until_ o.d.term x = false := by unfold qA; rw [decide_eq_true c1, decide_eq_false c2]; rfl
              rw [hq, if_neg (by decide), List.append_nil] at hlt
              rw [← hlt] at hfv
              ((conv => whnf); repeat ((first | refine SIf.dt (show (m : Int) < (w.map opR).length by omega) ?_ | refine SOpt.of hmf ?_ | refine SOpt.no hmf ?_ | refine SIf.dt c1 ?_ | refine SIf.df c2 ?_ | refine SWrap.w64 (by omega) (by omega) ?_ | refine SEx.of (map_get' (f := opR) (by omega) hy) ?_ | refine SEx.of (b1 _) ?_ | refine SEx.of (b2 _ _) ?_ | refine SEx.of (b4 _ _ _) ?_ | refine SEx.of (b5 _ _ _ _) ?_ | refine SEx.of (b6 _ _ _ _) ?_ | refine SEx.of (b7 _ _ _ _) ?_ | refine SEx.of (gm4) ?_ | refine yf rfl ?_ | refine yt rfl ?_ | refine yo rfl ?_ | refine yc rfl ?_ | refine ys rfl ?_ | refine ye rfl ?_ | refine yn rfl ?_ | refine zw ?_ | refine zdt ?_ | refine zdf ?_ | refine zci ?_) <;> (conv => whnf)))
              exact hR2 (w.length - (m + 1)) _ _ (by omega) ⟨m + 1, _, fv, by omega, rfl, kk _ _ _ _, (by show lo.next < lk.next + 1 + 1; omega), b7 _ _ _ _, hfv.keep (kkk _ _ _ _), (by repeat (first | exact Fr.le_nil | refine Fr.le_cons rfl ?_)), rfl⟩
          cases hgk : getK kn x.d.pod with
          | none =>
            rw [hgk] at hmf
            have hq : qA kn o.d.until_ o.d.term x = false := by unfold qA wK; rw [hgk]; simp
            rw [hq, if_neg (by decide), List.append_nil] at hlt
            rw [← hlt] at hfv
            ((conv => whnf); repeat ((first | refine SIf.dt (show (m : Int) < (w.map opR).length by omega) ?_ | refine SOpt.of hmf ?_ | refine SOpt.no hmf ?_ | refine SIf.dt c1 ?_ | refine SIf.dt c2 ?_ | refine SWrap.w64 (by omega) (by omega) ?_ | refine SEx.of (map_get' (f := opR) (by omega) hy) ?_ | refine SEx.of (b1 _) ?_ | refine SEx.of (b2 _ _) ?_ | refine SEx.of (b4 _ _ _) ?_ | refine SEx.of (b5 _ _ _ _) ?_ | refine SEx.of (b6 _ _ _ _) ?_ | refine SEx.of (b7 _ _ _ _) ?_ | refine SEx.of (gm4) ?_ | refine yf rfl ?_ | refine yt rfl ?_ | refine yo rfl ?_ | refine yc rfl ?_ | refine ys rfl ?_ | refine ye rfl ?_ | refine yn rfl ?_ | refine zw ?_ | refine zdt ?_ | refine zdf ?_ | refine zci ?_) <;> (conv => whnf)))
            exact hR2 (w.length - (m + 1)) _ _ (by omega) ⟨m + 1, _, fv, by omega, rfl, kk _ _ _ _, (by show lo.next < lk.next + 1 + 1; omega), b7 _ _ _ _, hfv.keep (kkk _ _ _ _), (by repeat (first | exact Fr.le_nil | refine Fr.le_cons rfl ?_)), rfl⟩
          | some y =>
            rw [hgk] at hmf
            by_cases c3 : y.uid = x.d.uid
            case neg =>
              have hq : qA kn o.d.until_ o.d.term x = false := by unfold qA wK; rw [hgk]; simp [c3]
              rw [hq, if_neg (by decide), List.append_nil] at hlt
              rw [← hlt] at hfv
              ((conv => whnf); repeat ((first | refine SIf.dt (show (m : Int) < (w.map opR).length by omega) ?_ | refine SOpt.of hmf ?_ | refine SOpt.no hmf ?_ | refine SIf.dt c1 ?_ | refine SIf.dt c2 ?_ | refine SIf.df c3 ?_ | refine SWrap.w64 (by omega) (by omega) ?_ | refine SEx.of (map_get' (f := opR) (by omega) hy) ?_ | refine SEx.of (b1 _) ?_ | refine SEx.of (b2 _ _) ?_ | refine SEx.of (b4 _ _ _) ?_ | refine SEx.of (b5 _ _ _ _) ?_ | refine SEx.of (b6 _ _ _ _) ?_ | refine SEx.of (b7 _ _ _ _) ?_ | refine SEx.of (gm4) ?_ | refine yf rfl ?_ | refine yt rfl ?_ | refine yo rfl ?_ | refine yc rfl ?_ | refine ys rfl ?_ | refine ye rfl ?_ | refine yn rfl ?_ | refine zw ?_ | refine zdt ?_ | refine zdf ?_ | refine zci ?_) <;> (conv => whnf)))
              exact hR2 (w.length - (m + 1)) _ _ (by omega) ⟨m + 1, _, fv, by omega, rfl, kk _ _ _ _, (by show lo.next < lk.next + 1 + 1; omega), b7 _ _ _ _, hfv.keep (kkk _ _ _ _), (by repeat (first | exact Fr.le_nil | refine Fr.le_cons rfl ?_)), rfl⟩
            by_cases c4 : y.node = []
            case neg =>
              have e4 : (y.node == []) = false := beq_false_of_ne c4
              have hq : qA kn o.d.until_ o.d.term x = false := by unfold qA wK; rw [hgk]; simp [c4]
              rw [hq, if_neg (by decide), List.append_nil] at hlt
              rw [← hlt] at hfv
              ((conv => whnf); repeat ((first | refine SIf.dt (show (m : Int) < (w.map opR).length by omega) ?_ | refine SOpt.of hmf ?_ | refine SOpt.no hmf ?_ | refine SIf.dt c1 ?_ | refine SIf.dt c2 ?_ | refine SIf.dt c3 ?_ | refine SIf.ff e4 ?_ | refine SWrap.w64 (by omega) (by omega) ?_ | refine SEx.of (map_get' (f := opR) (by omega) hy) ?_ | refine SEx.of (b1 _) ?_ | refine SEx.of (b2 _ _) ?_ | refine SEx.of (b4 _ _ _) ?_ | refine SEx.of (b5 _ _ _ _) ?_ | refine SEx.of (b6 _ _ _ _) ?_ | refine SEx.of (b7 _ _ _ _) ?_ | refine SEx.of (gm4) ?_ | refine yf rfl ?_ | refine yt rfl ?_ | refine yo rfl ?_ | refine yc rfl ?_ | refine ys rfl ?_ | refine ye rfl ?_ | refine yn rfl ?_ | refine zw ?_ | refine zdt ?_ | refine zdf ?_ | refine zci ?_) <;> (conv => whnf)))
              exact hR2 (w.length - (m + 1)) _ _ (by omega) ⟨m + 1, _, fv, by omega, rfl, kk _ _ _ _, (by show lo.next < lk.next + 1 + 1; omega), b7 _ _ _ _, hfv.keep (kkk _ _ _ _), (by repeat (first | exact Fr.le_nil | refine Fr.le_cons rfl ?_)), rfl⟩
            have e4 : (y.node == []) = true := by rw [c4]; rfl
            have hq : qA kn o.d.until_ o.d.term x = true := by unfold qA wK; rw [hgk]; simp [c1, c2, c3, c4]
            rw [hq, if_pos rfl] at hlt
            have hml : (leftA kn o.d.until_ o.d.term (w.take m)).length ≤ m := Nat.le_trans (List.length_filter_le _ _) (by rw [List.length_take]; omega)
            have hrow : (leftA kn o.d.until_ o.d.term (w.take m)).map opR ++ [opR x] = (leftA kn o.d.until_ o.d.term (w.take (m + 1))).map opR := by rw [hlt]; simp
            have hle3 : 0 < (leftA kn o.d.until_ o.d.term (w.take (m + 1))).length := by rw [hlt]; simp
            rcases hfv with ⟨rfl, h7⟩ | ⟨h6, u, rfl, h8, h9, h10⟩
            · have hrow0 : [opR x] = (leftA kn o.d.until_ o.d.term (w.take (m + 1))).map opR := by rw [← hrow, h7]; rfl
              ((conv => whnf); repeat ((first | refine SIf.dt (show (m : Int) < (w.map opR).length by omega) ?_ | refine SOpt.of hmf ?_ | refine SIf.dt c1 ?_ | refine SIf.dt c2 ?_ | refine SIf.dt c3 ?_ | refine SIf.tt e4 ?_ | refine SWrap.w64 (by omega) (by omega) ?_ | refine SEx.of (map_get' (f := opR) (by omega) hy) ?_ | refine SEx.of (b1 _) ?_ | refine SEx.of (b2 _ _) ?_ | refine SEx.of (b4 _ _ _) ?_ | refine SEx.of (b5 _ _ _ _) ?_ | refine SEx.of (b6 _ _ _ _) ?_ | refine SEx.of (b7 _ _ _ _) ?_ | refine SEx.of (gm4) ?_ | refine yf rfl ?_ | refine yt rfl ?_ | refine yo rfl ?_ | refine yc rfl ?_ | refine ys rfl ?_ | refine ye rfl ?_ | refine yn rfl ?_ | refine zw ?_ | refine zdt ?_ | refine zdf ?_ | refine zci ?_) <;> (conv => whnf)))
              exact hR2 (w.length - (m + 1)) _ _ (by omega) ⟨m + 1, _, _, by omega, rfl, .push (.push (kk _ _ _ _) _) _, (by show lo.next < lk.next + 1 + 1 + 1 + 1; omega), Heap.gp (by show lo.next ≠ lk.next + 1 + 1 + 1; omega) (Heap.gp (by show lo.next ≠ lk.next + 1 + 1; omega) (b7 _ _ _ _)), .inr ⟨hle3, lk.next + 1 + 1 + 1, by rw [← hrow0], by omega, Nat.lt_succ_self _, Heap.get_push_self _ _⟩, (by repeat (first | exact Fr.le_nil | refine Fr.le_cons rfl ?_)), rfl⟩
            · have p0 : ∀ x y z v, (((((lk.push x).set lk.next y).push z).set (lk.next + 1) v).push .spare).get u = some .spare := fun x y z v => Heap.gp (by show u ≠ lk.next + 1 + 1; omega) (Heap.gs (by omega) (Heap.gp (by show u ≠ lk.next + 1; omega) (Heap.gs (by omega) (Heap.gp (by omega) h10))))
              ((conv => whnf); repeat ((first | refine SIf.dt (show (m : Int) < (w.map opR).length by omega) ?_ | refine SOpt.of hmf ?_ | refine SIf.dt c1 ?_ | refine SIf.dt c2 ?_ | refine SIf.dt c3 ?_ | refine SIf.tt e4 ?_ | refine SChk.mk (by simp [roomOk]; omega) ?_ | refine SWrap.w64 (by omega) (by omega) ?_ | refine SEx.of (map_get' (f := opR) (by omega) hy) ?_ | refine SEx.of (b1 _) ?_ | refine SEx.of (b2 _ _) ?_ | refine SEx.of (b4 _ _ _) ?_ | refine SEx.of (b5 _ _ _ _) ?_ | refine SEx.of (b6 _ _ _ _) ?_ | refine SEx.of (b7 _ _ _ _) ?_ | refine SEx.of (gm4) ?_ | refine SEx.of (p0 _ _ _ _) ?_ | refine yf rfl ?_ | refine yt rfl ?_ | refine yo rfl ?_ | refine yc rfl ?_ | refine ys rfl ?_ | refine ye rfl ?_ | refine yn rfl ?_ | refine zw ?_ | refine zdt ?_ | refine zdf ?_ | refine zci ?_) <;> (conv => whnf)))
              refine hR2 (w.length - (m + 1)) _ _ (by omega) ⟨m + 1, _, .sl (some (.l (lk.next + 1 + 1 + 1))) 8 ((leftA kn o.d.until_ o.d.term (w.take m)).map opR ++ [opR x]), by omega, rfl, ?_, ?_, ?_, ?_, (by repeat (first | exact Fr.le_nil | refine Fr.le_cons rfl ?_)), rfl⟩
              · exact .push (Heap.Keeps.remove (b := fun _ => False) (.push (kk _ _ _ _) _) (.inr (Nat.le_of_lt h8))) _
              · show lo.next < lk.next + 1 + 1 + 1 + 1; omega
              · exact Heap.gp (by show lo.next ≠ lk.next + 1 + 1 + 1; omega) (Heap.gr (by omega) (Heap.gp (by show lo.next ≠ lk.next + 1 + 1; omega) (b7 _ _ _ _)))
              · exact .inr ⟨hle3, lk.next + 1 + 1 + 1, by rw [← hrow], by omega, Nat.lt_succ_self _, Heap.get_push_self _ _⟩
        obtain rfl : m = w.length := by omega
        rw [List.take_length] at hfv
        rcases hfv with ⟨rfl, h7⟩ | ⟨h6, u, rfl, h8, h9, h10⟩
        · rw [h7] at hset
          ((conv => whnf); repeat ((first | refine SIf.df (show ¬ ((w.length : Nat) : Int) < (w.map opR).length by omega) ?_ | refine SCall.app (hset _) ?_ | refine SEx.of (hcuk) ?_ | refine yf rfl ?_ | refine yt rfl ?_ | refine yo rfl ?_ | refine yc rfl ?_ | refine ys rfl ?_ | refine ye rfl ?_ | refine yn rfl ?_ | refine zw ?_ | refine zdt ?_ | refine zdf ?_ | refine zci ?_) <;> (conv => whnf)))
          intro h5 ha5 k5
          ((conv => whnf); repeat ((first | refine SWrap.w64 (by simp; omega) (by simp; omega) ?_ | refine SIf.nf (show ((w.length : Nat) : Int) - (([] : List OpA).length : Nat) = ((w.map opR).length : Nat) - 0 by simp) ?_ | refine SEx.of (hcuk) ?_ | refine yf rfl ?_ | refine yt rfl ?_ | refine yo rfl ?_ | refine yc rfl ?_ | refine ys rfl ?_ | refine ye rfl ?_ | refine yn rfl ?_ | refine zw ?_ | refine zdt ?_ | refine zdf ?_ | refine zci ?_) <;> (conv => whnf)))
          have hal := fun (K : V → Heap → Prop) hK => aall_at (K := K) hG ha5 (by simp) (fun _ h => by cases h) hK
          ((conv => whnf); repeat ((first | refine SCall.app (hal _) ?_ | refine yf rfl ?_ | refine yt rfl ?_ | refine yo rfl ?_ | refine yc rfl ?_ | refine ys rfl ?_ | refine ye rfl ?_ | refine yn rfl ?_ | refine zw ?_ | refine zdt ?_ | refine zdf ?_ | refine zci ?_) <;> (conv => whnf)))
          rintro lv (⟨rfl, _⟩ | rfl)
          all_goals
            ((conv => whnf); repeat ((first | refine SLoopV.un rfl ?_ | refine SWrap.w64 (by omega) (by omega) ?_ | refine yf rfl ?_ | refine yt rfl ?_ | refine yo rfl ?_ | refine yc rfl ?_ | refine ys rfl ?_ | refine ye rfl ?_ | refine yn rfl ?_ | refine zw ?_ | refine zdt ?_ | refine zdf ?_ | refine zci ?_) <;> (conv => whnf)))
            exact hR (ops.length - (i + 1)) _ _ (by omega) ⟨i + 1, _, _, .nils, [], _, by omega, by omega, rfl, ha5, Nat.zero_le _, (fun _ h => by cases h), .inl ⟨rfl, rfl⟩, (by repeat (first | exact Fr.le_nil | refine Fr.le_cons rfl ?_)), rfl⟩
        · have hllm : ((leftA kn o.d.until_ o.d.term w).map opR).length = (leftA kn o.d.until_ o.d.term w).length := List.length_map _
          ((conv => whnf); repeat ((first | refine SIf.df (show ¬ ((w.length : Nat) : Int) < (w.map opR).length by omega) ?_ | refine SCall.app (hset _) ?_ | refine SEx.of (hcuk) ?_ | refine yf rfl ?_ | refine yt rfl ?_ | refine yo rfl ?_ | refine yc rfl ?_ | refine ys rfl ?_ | refine ye rfl ?_ | refine yn rfl ?_ | refine zw ?_ | refine zdt ?_ | refine zdf ?_ | refine zci ?_) <;> (conv => whnf)))
          intro h5 ha5 k5
          ((conv => whnf); repeat ((first | refine SWrap.w64 (by omega) (by omega) ?_ | refine SIf.nf (show ((w.length : Nat) : Int) - ((leftA kn o.d.until_ o.d.term w).length : Nat) = ((w.map opR).length : Nat) - (((leftA kn o.d.until_ o.d.term w).map opR).length : Nat) by omega) ?_ | refine SEx.of (hcuk) ?_ | refine yf rfl ?_ | refine yt rfl ?_ | refine yo rfl ?_ | refine yc rfl ?_ | refine ys rfl ?_ | refine ye rfl ?_ | refine yn rfl ?_ | refine zw ?_ | refine zdt ?_ | refine zdf ?_ | refine zci ?_) <;> (conv => whnf)))
          have hWl : ((leftA kn o.d.until_ o.d.term w)).length ≤ i + 1 := by omega
          have hWo : WOk ((leftA kn o.d.until_ o.d.term w)) := fun x hx => hwo x ((List.mem_filter.1 hx).1)
          have hWd : (((leftA kn o.d.until_ o.d.term w)).map (·.d)).length = ((leftA kn o.d.until_ o.d.term w)).length := List.length_map _
          have hWm : (((leftA kn o.d.until_ o.d.term w)).map opR).length = ((leftA kn o.d.until_ o.d.term w)).length := List.length_map _
          have hWr : ((((leftA kn o.d.until_ o.d.term w)).map (·.d)).map doR).length = ((leftA kn o.d.until_ o.d.term w)).length := by simp
          have hW0 : 0 < ((leftA kn o.d.until_ o.d.term w)).length := by first | assumption | (simp; done)
          have hal := fun (K : V → Heap → Prop) hK => aall_at (K := K) hG ha5 (by omega) (wok_d hWo).2 hK
          ((conv => whnf); repeat ((first | refine SCall.app (hal _) ?_ | refine yf rfl ?_ | refine yt rfl ?_ | refine yo rfl ?_ | refine yc rfl ?_ | refine ys rfl ?_ | refine ye rfl ?_ | refine yn rfl ?_ | refine zw ?_ | refine zdt ?_ | refine zdf ?_ | refine zci ?_) <;> (conv => whnf)))
          rintro lv (⟨_, hno⟩ | rfl)
          · exfalso; have := congrArg List.length hno; rw [hWd] at this; simp only [List.length_nil] at this; omega
          ((conv => whnf); repeat ((first | refine SIf.nf (show (((((leftA kn o.d.until_ o.d.term w)).map (·.d)).map doR).length : Int) = (((leftA kn o.d.until_ o.d.term w)).map opR).length by omega) ?_ | refine yf rfl ?_ | refine yt rfl ?_ | refine yo rfl ?_ | refine yc rfl ?_ | refine ys rfl ?_ | refine ye rfl ?_ | refine yn rfl ?_ | refine zw ?_ | refine zdt ?_ | refine zdf ?_ | refine zci ?_) <;> (conv => whnf)))
          refine SLoopV.by (fun q fr st => ∃ (k : Nat) (h4 lk : Heap), k ≤ ((leftA kn o.d.until_ o.d.term w)).length ∧ q = ((leftA kn o.d.until_ o.d.term w)).length - k ∧ AsAt h4 0 r (((leftA kn o.d.until_ o.d.term w)).map (·.d)) ∧ u < lk.next ∧ lk.get u = some .spare ∧
              Fr.le [(228, .i .i64 k), (227, .i .i64 ((((leftA kn o.d.until_ o.d.term w)).map (·.d)).map doR).length), (23, .sl none 3 ((((leftA kn o.d.until_ o.d.term w)).map (·.d)).map doR)), (6, .i .i64 i), (5, .sl (some (.l u)) 8 (((leftA kn o.d.until_ o.d.term w)).map opR)), (4, .p (.g 0) 0), (0, .sl none 8 (ops.map opR))] fr ∧ st = ⟨h4, lk⟩)
            ((leftA kn o.d.until_ o.d.term w)).length ⟨0, _, _, Nat.zero_le _, rfl, ha5, ?_, ?_, (by repeat (first | exact Fr.le_nil | refine Fr.le_cons rfl ?_)), rfl⟩ ?_
          · exact h9
          · exact h10
          rintro q fr st ⟨k, h4, lk, hk, rfl, ha4, hk1, hk2, hle1, rfl⟩
          refine ⟨_, hle1, fun R' hR' => ?_⟩
          by_cases hkn : k < ((leftA kn o.d.until_ o.d.term w)).length
          · obtain ⟨x, hx⟩ : ∃ x, ((leftA kn o.d.until_ o.d.term w))[k]? = some x := ⟨_, List.getElem?_eq_getElem hkn⟩
            have hxm := hWo x (List.mem_of_getElem? hx)
            have hg1 := map_get' (f := doR) (j := ((k : Nat) : Int).toNat) (show k = ((k : Nat) : Int).toNat by omega) (map_get' (f := fun z : OpA => z.d) rfl hx)
            have hg2 := map_get' (f := opR) (j := ((k : Nat) : Int).toNat) (show k = ((k : Nat) : Int).toNat by omega) hx
            have heq := fun K hK => eqdo_self (K := K) (h := h4) hG x.d (by omega) hK
            have hha := fun (K : V → Heap → Prop) hK => ahas_at (K := K) hG ha4 (by omega) x.d.pod hK
            rw [any_d, show (((leftA kn o.d.until_ o.d.term w)).any fun z => z.d.pod == x.d.pod) = true from List.any_eq_true.2 ⟨x, List.mem_of_getElem? hx, by simp⟩] at hha
            ((conv => whnf); repeat ((first | refine SIf.dt (show (k : Int) < ((((leftA kn o.d.until_ o.d.term w)).map (·.d)).map doR).length by omega) ?_ | refine SChk.ix (by omega) (by omega) ?_ | refine SCall.app (heq _) ?_ | refine SCall.app (hha _) ?_ | refine SEx.of (hg1) ?_ | refine SEx.of (hg2) ?_ | refine yf rfl ?_ | refine yt rfl ?_ | refine yo rfl ?_ | refine yc rfl ?_ | refine ys rfl ?_ | refine ye rfl ?_ | refine yn rfl ?_ | refine zw ?_ | refine zdt ?_ | refine zdf ?_ | refine zci ?_) <;> (conv => whnf)))
            intro h5 k5
            ((conv => whnf); repeat ((first | refine SWrap.w64 (by omega) (by omega) ?_ | refine yf rfl ?_ | refine yt rfl ?_ | refine yo rfl ?_ | refine yc rfl ?_ | refine ys rfl ?_ | refine ye rfl ?_ | refine yn rfl ?_ | refine zw ?_ | refine zdt ?_ | refine zdf ?_ | refine zci ?_) <;> (conv => whnf)))
            exact hR' (((leftA kn o.d.until_ o.d.term w)).length - (k + 1)) _ _ (by omega) ⟨k + 1, h5, lk, by omega, rfl, ha4.keep k5 (fun x => x) (fun _ _ x => x), hk1, hk2, (by repeat (first | exact Fr.le_nil | refine Fr.le_cons rfl ?_)), rfl⟩
          · ((conv => whnf); repeat ((first | refine SIf.df (show ¬ (k : Int) < ((((leftA kn o.d.until_ o.d.term w)).map (·.d)).map doR).length by omega) ?_ | refine SWrap.w64 (by omega) (by omega) ?_ | refine yf rfl ?_ | refine yt rfl ?_ | refine yo rfl ?_ | refine yc rfl ?_ | refine ys rfl ?_ | refine ye rfl ?_ | refine yn rfl ?_ | refine zw ?_ | refine zdt ?_ | refine zdf ?_ | refine zci ?_) <;> (conv => whnf)))
            exact hR (ops.length - (i + 1)) _ _ (by omega) ⟨i + 1, h4, lk, _, (leftA kn o.d.until_ o.d.term w), _, by omega, by omega, rfl, ha4, hWl, hWo, .inr ⟨hW0, u, rfl, hk1, hk2⟩, (by repeat (first | exact Fr.le_nil | refine Fr.le_cons rfl ?_)), rfl⟩
end
end Go.Eng
