/-
Pods that are to be even, placed one by one wherever they may be: no domain has more than the skew above the least.
-/
import Derived.Test.YtllgfkpmblhbmaaGreatZoP
set_option linter.unusedVariables false
set_option linter.unusedSimpArgs false
namespace Go.Eng
open Go
def evP (i : Nat) (k : Int) (x : Str) (t : Int) : PodD := ⟨[112, UInt8.ofNat (97 + i)], i + 1, 0, ⟨0, 0, 0⟩, [], [⟨appS, [120]⟩], [], [], zoneS, [], k, [exT], x, t⟩
/-- How many there are in a domain. -/
def cntD (N : List NodeD) (l : List PodD) (v : Str) : Nat := countD ⟨N, l⟩ zoneS v [exT]
structure EvenTo (N : List NodeD) (k : Int) (i : Nat) (l : List PodD) : Prop where
  len : l.length = i
  pod : ∀ q ∈ l, ∃ (j : Nat) (n : NodeD), j < i ∧ n ∈ N ∧ (domOf n).2 = true ∧ q = evP j k n.name 1
  even : ∀ m ∈ N, ∀ n ∈ N, (domOf m).2 = true → (domOf n).2 = true → (cntD N l (domOf m).1 : Int) - cntD N l (domOf n).1 ≤ k
theorem evname_ne {j i : Nat} {k : Int} {x y : Str} {s t : Int} (h : j < i) (hi : i < 100) : (evP j k x s).name ≠ (evP i k y t).name := fun e => by
  have e1 : UInt8.ofNat (97 + j) = UInt8.ofNat (97 + i) := (List.cons.inj (List.cons.inj e).2).1
  have e2 := congrArg UInt8.toNat e1
  simp only [UInt8.toNat_ofNat'] at e2
  omega
theorem minI_le (a b : Int) : minI a b ≤ a ∧ minI a b ≤ b := by
  unfold minI
  split <;> omega
theorem minI_at (a b : Int) : minI a b = a ∨ minI a b = b := by
  unfold minI
  split <;> omega
theorem least_le {o : StD} {p : PodD} : ∀ {N : List NodeD} {h : Int}, leastD o p h N ≤ h ∧ ∀ n ∈ N, (getD n.labels p.topo).2 = true → leastD o p h N ≤ countD o p.topo (getD n.labels p.topo).1 p.even
  | [], h => ⟨Int.le_refl _, fun _ h => by cases h⟩
  | n :: r, h => by
    unfold leastD
    cases hd : (getD n.labels p.topo).2 with
    | false =>
      obtain ⟨h1, h2⟩ := least_le (o := o) (p := p) (N := r) (h := h)
      simp only [Bool.false_eq_true, if_false]
      refine ⟨h1, fun m hm hmd => ?_⟩
      cases hm with
      | head => rw [hd] at hmd; cases hmd
      | tail _ hm => exact h2 m hm hmd
    | true =>
      obtain ⟨h1, h2⟩ := least_le (o := o) (p := p) (N := r) (h := minI h (countD o p.topo (getD n.labels p.topo).1 p.even))
      obtain ⟨m1, m2⟩ := minI_le h (countD o p.topo (getD n.labels p.topo).1 p.even)
      simp only [if_true]
      refine ⟨Int.le_trans h1 m1, fun m hm hmd => ?_⟩
      cases hm with
      | head => exact Int.le_trans h1 m2
      | tail _ hm => exact h2 m hm hmd
theorem least_at {o : StD} {p : PodD} : ∀ {N : List NodeD} {h : Int}, leastD o p h N = h ∨ ∃ n ∈ N, (getD n.labels p.topo).2 = true ∧ leastD o p h N = countD o p.topo (getD n.labels p.topo).1 p.even
  | [], h => .inl rfl
  | n :: r, h => by
    unfold leastD
    cases hd : (getD n.labels p.topo).2 with
    | false =>
      rcases least_at (o := o) (p := p) (N := r) (h := h) with h1 | ⟨m, h1, h2, h3⟩
      · exact .inl (by simpa using h1)
      · exact .inr ⟨m, .tail _ h1, h2, by simpa using h3⟩
    | true =>
      simp only [if_true]
      rcases least_at (o := o) (p := p) (N := r) (h := minI h (countD o p.topo (getD n.labels p.topo).1 p.even)) with h1 | ⟨m, h1, h2, h3⟩
      · rw [h1]
        rcases minI_at h (countD o p.topo (getD n.labels p.topo).1 p.even) with h2 | h2
        · exact .inl h2
        · exact .inr ⟨n, .head _, hd, h2⟩
      · exact .inr ⟨m, .tail _ h1, h2, h3⟩
theorem ev_others {N : List NodeD} {k : Int} {i : Nat} {l : List PodD} (h : EvenTo N k i l) (hi : i < 100) : othersD ⟨N, l⟩ (evP i k [] 0) = ⟨N, l⟩ := by
  unfold othersD
  have : (l.filter fun q => !(q.name == (evP i k [] 0).name)) = l := by
    rw [List.filter_eq_self]
    intro q hq
    obtain ⟨j, m, hj, _, _, rfl⟩ := h.pod q hq
    rw [beq_eq_false_iff_ne.2 (evname_ne hj hi)]
    rfl
  rw [this]
theorem feas_even {N : List NodeD} {k : Int} {i : Nat} {l : List PodD} (hN : ZonesOf N) (h : EvenTo N k i l) (hi : i < 100) (hk : 1 ≤ k) {n : NodeD} (hn : n ∈ N) :
    feasD ⟨N, l⟩ (evP i k [] 0) n.name = ((domOf n).2 && decide ((cntD N l (domOf n).1 : Int) + 1 - leastD ⟨N, l⟩ (evP i k [] 0) (cntD N l (domOf n).1) N ≤ k)) := by
  have hlen := h.len
  rw [feas_bare hN (fun q hq => by obtain ⟨j, m, _, _, _, rfl⟩ := h.pod q hq; rfl) (by omega) rfl rfl rfl rfl hn]
  have ha : apartD ⟨N, l⟩ (evP i k [] 0) n.name = true := by
    unfold apartD
    have h1 : (!(!(evP i k [] 0).anti.isEmpty && !(domainD ⟨N, l⟩ (evP i k [] 0).topo n.name).2)) = true := rfl
    rw [h1, Bool.true_and, Bool.not_eq_true', List.any_eq_false]
    intro q hq
    obtain ⟨j, m, hj, hm, _, rfl⟩ := h.pod q hq
    unfold badD
    have k1 : keepsD ⟨N, l⟩ (evP i k [] 0) (evP j k m.name 1) (evP j k m.name 1).node n.name = false := rfl
    have k2 : keepsD ⟨N, l⟩ (evP j k m.name 1) (evP i k [] 0) (evP j k m.name 1).node n.name = false := rfl
    rw [k1, k2]
    simp
  rw [ha, Bool.true_and]
  unfold evenD
  rw [ev_others h hi]
  have hs : ¬ (evP i k [] 0).skew ≤ 0 := show ¬ k ≤ 0 by omega
  rw [if_neg hs]
  have hd : domainD ⟨N, l⟩ (evP i k [] 0).topo n.name = domOf n := dom_node hN hn l
  rw [hd]
  have hall : ((evP i k [] 0).even.all fun t => holdsD t (evP i k [] 0).labels) = true := rfl
  rw [hall, if_pos rfl]
  cases hb : (domOf n).2
  · rfl
  · rfl
theorem where_even {N : List NodeD} {k : Int} {i : Nat} {l : List PodD} (hN : ZonesOf N) (h : EvenTo N k i l) (hi : i < 100) (hk : 1 ≤ k) (hw : whereD ⟨N, l⟩ (evP i k [] 0) = []) : ∀ n ∈ N, (domOf n).2 = false := by
  intro n hn
  cases hd : (domOf n).2 with
  | false => rfl
  | true =>
    exfalso
    have key : ∀ m ∈ N, (domOf m).2 = true → (∀ n ∈ N, (domOf n).2 = true → cntD N l (domOf m).1 ≤ cntD N l (domOf n).1) → False := fun m hm hmd hmin => by
      have hf := feas_even hN h hi hk hm
      have hl : leastD ⟨N, l⟩ (evP i k [] 0) (cntD N l (domOf m).1) N = cntD N l (domOf m).1 := by
        have h1 := (least_le (o := ⟨N, l⟩) (p := evP i k [] 0) (N := N) (h := cntD N l (domOf m).1)).1
        rcases least_at (o := ⟨N, l⟩) (p := evP i k [] 0) (N := N) (h := cntD N l (domOf m).1) with h2 | ⟨n', h2, h3, h4⟩
        · exact h2
        · have := hmin n' h2 h3
          have h4' : leastD ⟨N, l⟩ (evP i k [] 0) (cntD N l (domOf m).1) N = (cntD N l (domOf n').1 : Int) := h4
          omega
      rw [hmd, hl, Bool.true_and, decide_eq_true (by omega)] at hf
      have : m.name ∈ whereD ⟨N, l⟩ (evP i k [] 0) := List.mem_map.2 ⟨m, List.mem_filter.2 ⟨hm, hf⟩, rfl⟩
      rw [hw] at this
      cases this
    obtain ⟨g1, g2⟩ := least_le (o := ⟨N, l⟩) (p := evP i k [] 0) (N := N) (h := cntD N l (domOf n).1)
    have g2' : ∀ m ∈ N, (domOf m).2 = true → leastD ⟨N, l⟩ (evP i k [] 0) (cntD N l (domOf n).1) N ≤ (cntD N l (domOf m).1 : Int) := g2
    rcases least_at (o := ⟨N, l⟩) (p := evP i k [] 0) (N := N) (h := cntD N l (domOf n).1) with h2 | ⟨n', h2, h3, h4⟩
    · exact key n hn hd fun m hm hmd => by
        have := g2' m hm hmd
        omega
    · have h4' : leastD ⟨N, l⟩ (evP i k [] 0) (cntD N l (domOf n).1) N = (cntD N l (domOf n').1 : Int) := h4
      exact key n' h2 h3 fun m hm hmd => by
        have := g2' m hm hmd
        omega
theorem cnt_put {N : List NodeD} {k : Int} {i : Nat} {l : List PodD} (hN : ZonesOf N) (h : EvenTo N k i l) (hi : i < 100) {n : NodeD} (hn : n ∈ N) (hd : (domOf n).2 = true) :
    (putL l (evP i k n.name 1)).Perm (evP i k n.name 1 :: l) ∧ ∀ v, cntD N (putL l (evP i k n.name 1)) v = cntD N l v + if (domOf n).1 = v then 1 else 0 := by
  have hfi : l.findIdx? (fun q => q.name == (evP i k n.name 1).name) = none := by
    rw [List.findIdx?_eq_none_iff]
    intro q h1
    obtain ⟨j, m, hj, _, _, rfl⟩ := h.pod q h1
    exact beq_eq_false_iff_ne.2 (evname_ne hj hi)
  have hput : ∃ A B, l = A ++ B ∧ putL l (evP i k n.name 1) = A ++ evP i k n.name 1 :: B := by
    unfold putL
    rw [hfi]
    exact ⟨l.take (l.takeWhile fun q => Op.bytesLess q.name (evP i k n.name 1).name).length, l.drop (l.takeWhile fun q => Op.bytesLess q.name (evP i k n.name 1).name).length, (List.take_append_drop _ l).symm, by simp⟩
  obtain ⟨A, B, hl, hp⟩ := hput
  have hperm : (putL l (evP i k n.name 1)).Perm (evP i k n.name 1 :: l) := by rw [hp, hl]; exact List.perm_middle
  refine ⟨hperm, fun v => ?_⟩
  have e1 : cntD N (putL l (evP i k n.name 1)) v = ((evP i k n.name 1 :: l).filter (inDom ⟨N, l⟩ zoneS v [exT])).length := (hperm.filter (inDom ⟨N, l⟩ zoneS v [exT])).length_eq
  rw [e1, List.filter_cons]
  have e2 : inDom ⟨N, l⟩ zoneS v [exT] (evP i k n.name 1) = ((domOf n).1 == v) := by
    have hme : ((evP i k n.name 1).node == ([] : Str)) = false := beq_eq_false_iff_ne.2 (hN.node n hn).2.2.2
    unfold inDom
    rw [hme, show domainD ⟨N, l⟩ zoneS (evP i k n.name 1).node = domOf n from dom_node hN hn l, hd]
    rfl
  rw [e2]
  by_cases hv : (domOf n).1 = v
  · rw [if_pos (beq_iff_eq.2 hv), if_pos hv]
    rfl
  · rw [if_neg (by simpa using hv), if_neg hv]
    rfl
theorem even_step {N : List NodeD} {k : Int} {i : Nat} {l : List PodD} {x : Str} (hN : ZonesOf N) (h : EvenTo N k i l) (hi : i < 100) (hk : 1 ≤ k) (hx : x ∈ whereD ⟨N, l⟩ (evP i k [] 0)) : EvenTo N k (i + 1) (putL l (evP i k x 1)) := by
  obtain ⟨n, hn, rfl⟩ := List.mem_map.1 hx
  obtain ⟨hn, hf⟩ := List.mem_filter.1 hn
  rw [feas_even hN h hi hk hn] at hf
  simp only [Bool.and_eq_true, decide_eq_true_eq] at hf
  obtain ⟨hd, hle⟩ := hf
  obtain ⟨hperm, hcnt⟩ := cnt_put hN h hi hn hd
  refine ⟨by rw [hperm.length_eq, List.length_cons, h.len], fun q hq => ?_, fun a ha b hb had hbd => ?_⟩
  · rcases List.mem_cons.1 (hperm.mem_iff.1 hq) with rfl | hq
    · exact ⟨i, n, by omega, hn, hd, rfl⟩
    · obtain ⟨j, m, hj, hm, hmd, e⟩ := h.pod q hq
      exact ⟨j, m, by omega, hm, hmd, e⟩
  · rw [hcnt, hcnt]
    have h0 := h.even a ha b hb had hbd
    have hb2 : leastD ⟨N, l⟩ (evP i k [] 0) (cntD N l (domOf n).1) N ≤ (cntD N l (domOf b).1 : Int) := (least_le (o := ⟨N, l⟩) (p := evP i k [] 0) (N := N) (h := cntD N l (domOf n).1)).2 b hb hbd
    by_cases e1 : (domOf n).1 = (domOf a).1
    · rw [if_pos e1]
      by_cases e2 : (domOf n).1 = (domOf b).1
      · rw [if_pos e2, ← e1, ← e2]; omega
      · rw [if_neg e2, ← e1]; omega
    · rw [if_neg e1]
      by_cases e2 : (domOf n).1 = (domOf b).1
      · rw [if_pos e2]; omega
      · rw [if_neg e2]; omega
theorem cnt_len {N : List NodeD} {l : List PodD} {v : Str} : cntD N l v ≤ l.length := List.length_filter_le _ _
/-- The least and the greatest so far. -/
def LowOf (N : List NodeD) (l : List PodD) (lo hi : Int) : Prop :=
  (lo = 1073741824 ∨ ∃ n ∈ N, (domOf n).2 = true ∧ lo = cntD N l (domOf n).1) ∧ (hi = 0 ∨ ∃ n ∈ N, (domOf n).2 = true ∧ hi = cntD N l (domOf n).1)
theorem LowOf.le {N : List NodeD} {k : Int} {i : Nat} {l : List PodD} {lo hi : Int} (h : LowOf N l lo hi) (he : EvenTo N k i l) (hk : 1 ≤ k) (h9 : i < 100) : hi - lo ≤ k := by
  have hlen := he.len
  obtain ⟨h1, h2⟩ := h
  rcases h1 with rfl | ⟨n, hn, hnd, rfl⟩ <;> rcases h2 with rfl | ⟨m, hm, hmd, rfl⟩
  · omega
  · have := cnt_len (N := N) (l := l) (v := (domOf m).1); omega
  · omega
  · exact he.even m hm n hn hmd hnd
theorem LowOf.bound {N : List NodeD} {l : List PodD} {lo hi : Int} (h : LowOf N l lo hi) (h9 : l.length < 100) : 0 ≤ lo ∧ lo ≤ 1073741824 ∧ 0 ≤ hi ∧ hi ≤ 100 := by
  obtain ⟨h1, h2⟩ := h
  rcases h1 with rfl | ⟨n, hn, hnd, rfl⟩ <;> rcases h2 with rfl | ⟨m, hm, hmd, rfl⟩
  · omega
  · have := cnt_len (N := N) (l := l) (v := (domOf m).1); omega
  · have := cnt_len (N := N) (l := l) (v := (domOf n).1); omega
  · have := cnt_len (N := N) (l := l) (v := (domOf m).1); have := cnt_len (N := N) (l := l) (v := (domOf n).1); omega
end Go.Eng
