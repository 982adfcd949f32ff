/-
The log: events are cut from its front.
-/
import Derived.Test.YtcckglahpbmakaaGreatCa2
import Derived.Test.YtcckglahpbmakaaGreatFitA
import Derived.Test.YtcckglahpbmakaaGreatArgX
set_option linter.unusedVariables false
set_option linter.unusedSimpArgs false
namespace Go.Eng
open Go
theorem Heap.Keeps.comp {b b2 : Nat → Prop} {h1 h2 h3 : Heap} (a : Heap.Keeps b h1 h2) (c : Heap.Keeps b2 h2 h3) (hs : ∀ n, n < h1.next → b2 n → b n) : Heap.Keeps b h1 h3 :=
  ⟨Nat.le_trans a.next c.next, fun n hn hb => (c.same n (Nat.lt_of_lt_of_le hn a.next) fun e => hb (hs n hn e)).trans (a.same n hn hb)⟩
def ev0 : List V := [.i .i64 0, .s [], .nils, .b false]
theorem ev_len (L : List EvD) (d : Nat) : (L.map evR ++ List.replicate d ev0).length = L.length + d := by simp
theorem ev_get {L : List EvD} {d i : Nat} {x : EvD} {j : Nat} (hj : j = i) (h : L[i]? = some x) : (L.map evR ++ List.replicate d ev0)[0 + j]? = some (evR x) := by
  subst hj
  have := (List.getElem?_eq_some_iff.1 h).1
  rw [Nat.zero_add, List.getElem?_append_left (by simpa using this), List.getElem?_map, h]; rfl
def keepE (p : EvD → Bool) (L : List EvD) : List EvD := L.filter fun o => !p o
structure DelE (p : EvD → Bool) (L M : List EvD) (j m : Nat) : Prop where
  len : M.length = L.length
  take : M.take j = keepE p (L.take m)
  drop : M.drop m = L.drop m
  jm : j ≤ m
  jl : j = (keepE p (L.take m)).length
theorem keepE_none {p : EvD → Bool} {L : List EvD} (h : ∀ (j : Nat) (e : EvD), L[j]? = some e → p e = false) : keepE p L = L := by
  unfold keepE
  refine List.filter_eq_self.2 fun a ha => ?_
  obtain ⟨j, hj⟩ := List.mem_iff_getElem?.1 ha
  rw [h j a hj]; rfl
theorem DelE.start {p : EvD → Bool} {L : List EvD} {i : Nat} {e : EvD} (he : L[i]? = some e) (hp : p e = true) (hno : ∀ (j : Nat) (x : EvD), j < i → L[j]? = some x → p x = false) : DelE p L L i (i + 1) := by
  have hi := (List.getElem?_eq_some_iff.1 he).1
  have h1 : keepE p (L.take i) = L.take i := keepE_none fun j x hj => by
    have hji : j < i := by have := (List.getElem?_eq_some_iff.1 hj).1; simp at this; omega
    rw [List.getElem?_take_of_lt hji] at hj
    exact hno j x hji hj
  have h2 : keepE p (L.take (i + 1)) = L.take i := by
    rw [List.take_add_one, he]
    unfold keepE at h1 ⊢
    rw [List.filter_append, h1]
    simp [hp]
  exact ⟨rfl, h2.symm, rfl, by omega, by rw [h2, List.length_take]; omega⟩
theorem DelE.skip {p : EvD → Bool} {L M : List EvD} {j m : Nat} (h : DelE p L M j m) {x : EvD} (hx : L[m]? = some x) (hp : p x = true) : DelE p L M j (m + 1) := by
  have h2 : keepE p (L.take (m + 1)) = keepE p (L.take m) := by
    rw [List.take_add_one, hx]; unfold keepE; simp [List.filter_append, hp]
  have hm := (List.getElem?_eq_some_iff.1 hx).1
  refine ⟨h.len, by rw [h2]; exact h.take, ?_, by have := h.jm; omega, by rw [h2]; exact h.jl⟩
  have := congrArg (List.drop 1) h.drop
  rwa [List.drop_drop, List.drop_drop] at this
theorem DelE.keep {p : EvD → Bool} {L M : List EvD} {j m : Nat} (h : DelE p L M j m) {x : EvD} (hx : L[m]? = some x) (hp : p x = false) : DelE p L (M.set j x) (j + 1) (m + 1) := by
  have hm := (List.getElem?_eq_some_iff.1 hx).1
  have hj : j < M.length := by have := h.jm; have := h.len; omega
  have h2 : keepE p (L.take (m + 1)) = keepE p (L.take m) ++ [x] := by
    rw [List.take_add_one, hx]; unfold keepE; simp [List.filter_append, hp]
  refine ⟨by rw [List.length_set]; exact h.len, ?_, ?_, by have := h.jm; omega, by rw [h2, List.length_append, ← h.jl]; rfl⟩
  · rw [h2, ← h.take, List.take_add_one, List.getElem?_set_self hj, List.take_set_of_le (Nat.le_refl j)]; rfl
  · rw [List.drop_set_of_lt (by have := h.jm; omega)]
    have := congrArg (List.drop 1) h.drop
    rwa [List.drop_drop, List.drop_drop] at this
theorem DelE.get {p : EvD → Bool} {L M : List EvD} {j m : Nat} (h : DelE p L M j m) {x : EvD} (hx : L[m]? = some x) : M[m]? = some x := by
  have h1 : (M.drop m)[0]? = (L.drop m)[0]? := by rw [h.drop]
  rw [List.getElem?_drop, List.getElem?_drop, Nat.add_zero] at h1
  rw [h1]; exact hx
theorem rowE_get {M : List EvD} {J : List (List V)} {k i : Nat} {x : EvD} (hk : k = i) (h : M[i]? = some x) : (M.map evR ++ J)[0 + k]? = some (evR x) := by
  subst hk
  have := (List.getElem?_eq_some_iff.1 h).1
  rw [Nat.zero_add, List.getElem?_append_left (by simpa using this), List.getElem?_map, h]; rfl
theorem rowE_set {M : List EvD} {J : List (List V)} {k j : Nat} {x : EvD} (hk : k = j) (h : j < M.length) : (M.map evR ++ J).set (0 + k) (evR x) = (M.set j x).map evR ++ J := by
  subst hk
  rw [Nat.zero_add, List.set_append_left _ _ (by simpa using h), ← List.map_set]
theorem rowE_clear {M K : List EvD} {d n j a b c : Nat} (ha : a = j) (hb : b = n - j) (hc : c = n) (hn : M.length = n) (hj : j ≤ n) (hK : M.take j = K) :
    List.take a (M.map evR ++ List.replicate d ev0) ++ List.replicate b ev0 ++ List.drop c (M.map evR ++ List.replicate d ev0) = K.map evR ++ List.replicate (n - j + d) ev0 := by
  subst ha hb hc hK
  have h1 : (M.map evR).length = c := by simpa using hn
  rw [List.take_append_of_le_length (by omega), List.drop_append, List.drop_of_length_le (by omega), h1, Nat.sub_self, List.drop_zero, List.nil_append, ← List.map_take, List.append_assoc, List.replicate_append_replicate]
section
variable {P : Program} (hG : FnsOk P AF.fns.get)
include hG
set_option maxHeartbeats 4000000 in
theorem eidx_at {h : Heap} {c d g k1 : Nat} {L : List EvD} (hch : c < h.next) (hc : h.get c = some (.arr 4 (L.map evR ++ List.replicate d ev0))) (hl : L.length ≤ 100000) {p : EvD → Bool}
    (hg : ∀ h', Heap.Keeps (fun n => n = c) h h' → ∀ e ∈ L, ∀ K : V → Heap → Prop, (∀ h'', Heap.Keeps (fun _ => False) h' h'' → K (.b (p e)) h'') → ACall P g (.agg (evR e) :: [.p (.g k1) 0]) h' K) {K : V → Heap → Prop}
    (hK : ∀ h', Heap.Keeps (fun _ => False) h h' → K (.i .i64 (ixRes p L)) h') : ACall P 153 [.ms (.g c) 4 0 L.length, .fn g [] [.p (.g k1) 0]] h K := by
  have hrl := ev_len L d
  refine fn_sp (hG _ AF.f153 rfl) rfl ?_
  ((conv => whnf); repeat ((first | refine yf rfl ?_ | refine yt rfl ?_ | refine yo rfl ?_ | refine yc rfl ?_ | refine ys rfl ?_ | refine ye rfl ?_ | refine yn rfl ?_ | refine zw ?_ | refine zdt ?_ | refine zdf ?_ | refine znt ?_ | refine znf ?_ | refine zcd ?_ | refine zci ?_ | refine zc3 ?_) <;> (conv => whnf)))
  refine SLoop.by (fun q fr st => ∃ (i : Nat) (hh lc : Heap), i ≤ L.length ∧ q = L.length - i ∧ (∀ (j : Nat) (e : EvD), j < i → L[j]? = some e → p e = false) ∧ Heap.Keeps (fun _ => False) h hh ∧
      Fr.le [(8, .i .i64 i), (7, .i .i64 L.length), (1, .fn g [] [.p (.g k1) 0]), (0, .ms (.g c) 4 0 L.length)] fr ∧ st = ⟨hh, lc⟩)
    L.length ⟨0, h, _, Nat.zero_le _, rfl, (fun j e hj => absurd hj (Nat.not_lt_zero _)), .refl _ _, (by repeat (first | exact Fr.le_nil | refine Fr.le_cons rfl ?_)), rfl⟩ ?_
  rintro q fr st ⟨i, hh, lc, hi, rfl, hno, hk, hle0, rfl⟩
  refine ⟨_, hle0, fun R hR => ?_⟩
  by_cases hin : i < L.length
  · have he := List.getElem?_eq_getElem hin
    have hem := List.getElem_mem hin
    generalize L[i] = e at he hem
    have hcl := fun K hK => hg hh (hk.mono fun _ _ e => e.elim) e hem K hK
    have hc' : hh.get c = some (.arr 4 (L.map evR ++ List.replicate d ev0)) := by rw [hk.2 c hch (fun x => x)]; exact hc
    ((conv => whnf); repeat ((first | refine SIf.dt (show (i : Int) < (L.length : Nat) by omega) ?_ | refine SChk.ix (by omega) (by omega) ?_ | refine SChk.mk (decide_eq_true (by omega)) ?_ | refine SCall.app (hcl _) ?_ | refine SEx.of (hc') ?_ | refine SEx.of (ev_get (by omega) he) ?_ | refine yf rfl ?_ | refine yt rfl ?_ | refine yo rfl ?_ | refine yc rfl ?_ | refine ys rfl ?_ | refine ye rfl ?_ | refine yn rfl ?_ | refine zw ?_ | refine zdt ?_ | refine zdf ?_ | refine znt ?_ | refine znf ?_ | refine zcd ?_ | refine zci ?_ | refine zc3 ?_) <;> (conv => whnf)))
    intro h2 hk2
    cases hp : p e
    · ((conv => whnf); repeat ((first | refine SWrap.w64 (by omega) (by omega) ?_ | refine yf rfl ?_ | refine yt rfl ?_ | refine yo rfl ?_ | refine yc rfl ?_ | refine ys rfl ?_ | refine ye rfl ?_ | refine yn rfl ?_ | refine zw ?_ | refine zdt ?_ | refine zdf ?_ | refine znt ?_ | refine znf ?_ | refine zcd ?_ | refine zci ?_ | refine zc3 ?_) <;> (conv => whnf)))
      exact hR (L.length - (i + 1)) _ _ (by omega) ⟨i + 1, h2, _, by omega, rfl, (fun j x hj hx => by
        by_cases hji : j < i
        · exact hno j x hji hx
        · obtain rfl : j = i := by omega
          rw [he] at hx; cases hx; exact hp), hk.trans hk2, (by repeat (first | exact Fr.le_nil | refine Fr.le_cons rfl ?_)), rfl⟩
    · ((conv => whnf); repeat ((first | refine yf rfl ?_ | refine yt rfl ?_ | refine yo rfl ?_ | refine yc rfl ?_ | refine ys rfl ?_ | refine ye rfl ?_ | refine yn rfl ?_ | refine zw ?_ | refine zdt ?_ | refine zdf ?_ | refine znt ?_ | refine znf ?_ | refine zcd ?_ | refine zci ?_ | refine zc3 ?_) <;> (conv => whnf)))
      have := hK h2 (hk.trans hk2)
      rw [findIdx_some he hp hno] at this
      exact this
  · ((conv => whnf); repeat ((first | refine SIf.df (show ¬ (i : Int) < (L.length : Nat) by omega) ?_ | refine yf rfl ?_ | refine yt rfl ?_ | refine yo rfl ?_ | refine yc rfl ?_ | refine ys rfl ?_ | refine ye rfl ?_ | refine yn rfl ?_ | refine zw ?_ | refine zdt ?_ | refine zdf ?_ | refine znt ?_ | refine znf ?_ | refine zcd ?_ | refine zci ?_ | refine zc3 ?_) <;> (conv => whnf)))
    have := hK hh hk
    rw [findIdx_none fun j x hx => hno j x (by have := (List.getElem?_eq_some_iff.1 hx).1; omega) hx] at this
    exact this
set_option maxHeartbeats 8000000 in
theorem edel_at {h : Heap} {c d g k1 : Nat} {L : List EvD} (hch : c < h.next) (hc : h.get c = some (.arr 4 (L.map evR ++ List.replicate d ev0))) (hl : L.length ≤ 100000) {p : EvD → Bool}
    (hg : ∀ h', Heap.Keeps (fun n => n = c) h h' → ∀ e ∈ L, ∀ K : V → Heap → Prop, (∀ h'', Heap.Keeps (fun _ => False) h' h'' → K (.b (p e)) h'') → ACall P g (.agg (evR e) :: [.p (.g k1) 0]) h' K) {K : V → Heap → Prop}
    (hK : ∀ h' d', h'.get c = some (.arr 4 ((keepE p L).map evR ++ List.replicate d' ev0)) → Heap.Keeps (fun n => n = c) h h' → K (.ms (.g c) 4 0 (keepE p L).length) h') :
    ACall P 105 [.ms (.g c) 4 0 L.length, .fn g [] [.p (.g k1) 0]] h K := by
  have hrl := ev_len L d
  have hix := fun (K : V → Heap → Prop) hK => eidx_at (K := K) hG hch hc hl hg hK
  cases hfi : L.findIdx? p with
  | none =>
    have hno : ∀ (j : Nat) (e : EvD), L[j]? = some e → p e = false := fun j e he => by
      have := List.findIdx?_eq_none_iff.1 hfi e (List.mem_of_getElem? he)
      simpa using this
    rw [findIdx_none hno] at hix
    rw [keepE_none hno] at hK
    refine fn_sp (hG _ AF.f105 rfl) rfl ?_
    ((conv => whnf); repeat ((first | refine SCall.app (hix _) ?_ | refine yf rfl ?_ | refine yt rfl ?_ | refine yo rfl ?_ | refine yc rfl ?_ | refine ys rfl ?_ | refine ye rfl ?_ | refine yn rfl ?_ | refine zw ?_ | refine zdt ?_ | refine zdf ?_ | refine znt ?_ | refine znf ?_ | refine zcd ?_ | refine zci ?_ | refine zc3 ?_) <;> (conv => whnf)))
    intro h1 hk1
    ((conv => whnf); repeat ((first | refine yf rfl ?_ | refine yt rfl ?_ | refine yo rfl ?_ | refine yc rfl ?_ | refine ys rfl ?_ | refine ye rfl ?_ | refine yn rfl ?_ | refine zw ?_ | refine zdt ?_ | refine zdf ?_ | refine znt ?_ | refine znf ?_ | refine zcd ?_ | refine zci ?_ | refine zc3 ?_) <;> (conv => whnf)))
    exact hK h1 d (by rw [hk1.2 c hch (fun x => x)]; exact hc) (hk1.mono fun _ _ e => e.elim)
  | some i0 =>
    rw [List.findIdx?_eq_some_iff_getElem] at hfi
    obtain ⟨hi0, hp0, hb0⟩ := hfi
    have he0 := List.getElem?_eq_getElem hi0
    have hno : ∀ (j : Nat) (x : EvD), j < i0 → L[j]? = some x → p x = false := fun j x hj hx => by
      have := hb0 j hj
      rw [List.getElem?_eq_getElem (by omega)] at hx
      cases hx
      simpa using this
    rw [findIdx_some he0 hp0 hno] at hix
    have hst := DelE.start he0 hp0 hno
    refine fn_sp (hG _ AF.f105 rfl) rfl ?_
    ((conv => whnf); repeat ((first | refine SCall.app (hix _) ?_ | refine yf rfl ?_ | refine yt rfl ?_ | refine yo rfl ?_ | refine yc rfl ?_ | refine ys rfl ?_ | refine ye rfl ?_ | refine yn rfl ?_ | refine zw ?_ | refine zdt ?_ | refine zdf ?_ | refine znt ?_ | refine znf ?_ | refine zcd ?_ | refine zci ?_ | refine zc3 ?_) <;> (conv => whnf)))
    intro h1 hk1
    ((conv => whnf); repeat ((first | refine SIf.df (show ¬ (i0 : Int) = -1 by omega) ?_ | refine SWrap.w64 (by omega) (by omega) ?_ | refine yf rfl ?_ | refine yt rfl ?_ | refine yo rfl ?_ | refine yc rfl ?_ | refine ys rfl ?_ | refine ye rfl ?_ | refine yn rfl ?_ | refine zw ?_ | refine zdt ?_ | refine zdf ?_ | refine znt ?_ | refine znf ?_ | refine zcd ?_ | refine zci ?_ | refine zc3 ?_) <;> (conv => whnf)))
    refine SLoop.by (fun q fr st => ∃ (j m : Nat) (M : List EvD) (hh lc : Heap), q = L.length - m ∧ m ≤ L.length ∧ DelE p L M j m ∧ hh.get c = some (.arr 4 (M.map evR ++ List.replicate d ev0)) ∧ Heap.Keeps (fun n => n = c) h hh ∧
        Fr.le [(6, .i .i64 m), (5, .i .i64 j), (1, .fn g [] [.p (.g k1) 0]), (0, .ms (.g c) 4 0 L.length)] fr ∧ st = ⟨hh, lc⟩)
      (L.length - (i0 + 1)) ⟨i0, i0 + 1, L, h1, _, rfl, by omega, hst, by rw [hk1.2 c hch (fun x => x)]; exact hc, hk1.mono fun _ _ e => e.elim, (by repeat (first | exact Fr.le_nil | refine Fr.le_cons rfl ?_)), rfl⟩ ?_
    rintro q fr st ⟨j, m, M, hh, lc, rfl, hm, hd, hcc, hk, hle0, rfl⟩
    refine ⟨_, hle0, fun R hR => ?_⟩
    have hML := hd.len
    have hjm := hd.jm
    have hwl := ev_len M d
    by_cases hin : m < L.length
    · have he := List.getElem?_eq_getElem hin
      have hem := List.getElem_mem hin
      generalize L[m] = e at he hem
      have a1 : ∀ x, (lc.push x).get lc.next = some x := fun x => Heap.get_push_self _ _
      have a2 : ∀ x y, ((lc.push x).set lc.next y).get lc.next = some y := fun x y => Heap.get_set_self (a1 x)
      have hcl := fun K hK => hg hh hk e hem K hK
      have hge := rowE_get (J := List.replicate d ev0) (k := ((m : Nat) : Int).toNat) (by omega) (hd.get he)
      ((conv => whnf); repeat ((first | refine SIf.dt (show (m : Int) < (L.length : Nat) by omega) ?_ | refine SChk.ix (by omega) (by omega) ?_ | refine SChk.mk (decide_eq_true (by omega)) ?_ | refine SCall.app (hcl _) ?_ | refine SEx.of (hcc) ?_ | refine SEx.of (hge) ?_ | refine SEx.of (a1 _) ?_ | refine SEx.of (a2 _ _) ?_ | refine yf rfl ?_ | refine yt rfl ?_ | refine yo rfl ?_ | refine yc rfl ?_ | refine ys rfl ?_ | refine ye rfl ?_ | refine yn rfl ?_ | refine zw ?_ | refine zdt ?_ | refine zdf ?_ | refine znt ?_ | refine znf ?_ | refine zcd ?_ | refine zci ?_ | refine zc3 ?_) <;> (conv => whnf)))
      intro h2 hk2
      have hcc2 : h2.get c = some (.arr 4 (M.map evR ++ List.replicate d ev0)) := by rw [hk2.2 c (Nat.lt_of_lt_of_le hch hk.1) (fun x => x)]; exact hcc
      have hkk : Heap.Keeps (fun n => n = c) h h2 := hk.trans (hk2.mono fun _ _ e => e.elim)
      cases hp : p e
      · have hj : j < M.length := by omega
        have hy := List.getElem?_eq_getElem hj
        generalize M[j] = y at hy
        have hgy := rowE_get (J := List.replicate d ev0) (k := ((j : Nat) : Int).toNat) (by omega) hy
        have hset := rowE_set (J := List.replicate d ev0) (k := ((j : Nat) : Int).toNat) (x := e) (by omega) hj
        ((conv => whnf); repeat ((first | refine SIf.ff (show (!true) = false from rfl) ?_ | refine SChk.ix (by omega) (by omega) ?_ | refine SChk.mk (decide_eq_true (by omega)) ?_ | refine SWrap.w64 (by omega) (by omega) ?_ | refine SEx.of (hcc2) ?_ | refine SEx.of (hgy) ?_ | refine SEx.of (a1 _) ?_ | refine SEx.of (a2 _ _) ?_ | refine SEx.of (congrArg some hset) ?_ | refine yf rfl ?_ | refine yt rfl ?_ | refine yo rfl ?_ | refine yc rfl ?_ | refine ys rfl ?_ | refine ye rfl ?_ | refine yn rfl ?_ | refine zw ?_ | refine zdt ?_ | refine zdf ?_ | refine znt ?_ | refine znf ?_ | refine zcd ?_ | refine zci ?_ | refine zc3 ?_) <;> (conv => whnf)))
        exact hR (L.length - (m + 1)) _ _ (by omega) ⟨j + 1, m + 1, M.set j e, _, _, rfl, by omega, hd.keep he hp, Heap.get_set_self hcc2, Heap.Keeps.set (b := fun n => n = c) hkk (.inl rfl) _, (by repeat (first | exact Fr.le_nil | refine Fr.le_cons rfl ?_)), rfl⟩
      · ((conv => whnf); repeat ((first | refine SWrap.w64 (by omega) (by omega) ?_ | refine SEx.of (a1 _) ?_ | refine SEx.of (a2 _ _) ?_ | refine yf rfl ?_ | refine yt rfl ?_ | refine yo rfl ?_ | refine yc rfl ?_ | refine ys rfl ?_ | refine ye rfl ?_ | refine yn rfl ?_ | refine zw ?_ | refine zdt ?_ | refine zdf ?_ | refine znt ?_ | refine znf ?_ | refine zcd ?_ | refine zci ?_ | refine zc3 ?_) <;> (conv => whnf)))
        exact hR (L.length - (m + 1)) _ _ (by omega) ⟨j, m + 1, M, h2, _, rfl, by omega, hd.skip he hp, hcc2, hkk, (by repeat (first | exact Fr.le_nil | refine Fr.le_cons rfl ?_)), rfl⟩
    · obtain rfl : m = L.length := by omega
      have hjl := hd.jl
      have hta := hd.take
      rw [List.take_length] at hjl hta
      have hcl := rowE_clear (K := keepE p L) (d := d) (n := L.length) (j := j) (a := 0 + ((j : Nat) : Int).toNat) (b := (((L.length : Nat)) : Int).toNat - ((j : Nat) : Int).toNat) (c := 0 + ((j : Nat) : Int).toNat + ((((L.length : Nat)) : Int).toNat - ((j : Nat) : Int).toNat)) (by omega) (by omega) (by omega) hML hjm hta
      have := hK (hh.set c (.arr 4 ((keepE p L).map evR ++ List.replicate (L.length - j + d) ev0))) (L.length - j + d) (Heap.get_set_self hcc) (Heap.Keeps.set (b := fun n => n = c) hk (.inl rfl) _)
      rw [← hjl, ← hcl] at this
      ((conv => whnf); repeat ((first | refine SIf.df (show ¬ ((L.length : Nat) : Int) < (L.length : Nat) by omega) ?_ | refine SChk.d3 (by omega) (by omega) (by omega) ?_ | refine SChk.mk (decide_eq_true (by omega)) ?_ | refine SChk.d3 (by omega) (by omega) (by first | omega | (simp; omega)) ?_ | refine SEx.of (hcc) ?_ | refine SEx.of (Heap.get_set_self hcc) ?_ | refine yf rfl ?_ | refine yt rfl ?_ | refine yo rfl ?_ | refine yc rfl ?_ | refine ys rfl ?_ | refine ye rfl ?_ | refine yn rfl ?_ | refine zw ?_ | refine zdt ?_ | refine zdf ?_ | refine znt ?_ | refine znf ?_ | refine zcd ?_ | refine zci ?_ | refine zc3 ?_) <;> (conv => whnf)))
      exact this
end
def LogG (h : Heap) (g : Nat) (r : Option Nat) (L : List EvD) (base last : Int) : Prop :=
  g < h.next ∧ ((r = none ∧ L = [] ∧ h.get g = some (.cs [.nils, .i .i64 64, .i .i64 base, .i .i64 last])) ∨
    ∃ c d, r = some c ∧ c ≠ g ∧ c < h.next ∧ h.get g = some (.cs [.ms (.g c) 4 0 L.length, .i .i64 64, .i .i64 base, .i .i64 last]) ∧ h.get c = some (.arr 4 (L.map evR ++ List.replicate d ev0)))
theorem LogG.keep {h h' : Heap} {g : Nat} {r : Option Nat} {L : List EvD} {base last : Int} (ha : LogG h g r L base last) {but : Nat → Prop} (hk : Heap.Keeps but h h') (hb : ¬ but g) (hr : ∀ k, r = some k → ¬ but k) : LogG h' g r L base last := by
  obtain ⟨h1, ⟨h2, h3, h4⟩ | ⟨c, d, h2, h3, h4, h5, h6⟩⟩ := ha
  · exact ⟨Nat.lt_of_lt_of_le h1 hk.1, .inl ⟨h2, h3, by rw [hk.2 g h1 hb]; exact h4⟩⟩
  · exact ⟨Nat.lt_of_lt_of_le h1 hk.1, .inr ⟨c, d, h2, h3, Nat.lt_of_lt_of_le h4 hk.1, by rw [hk.2 g h1 hb]; exact h5, by rw [hk.2 c h4 (hr c h2)]; exact h6⟩⟩
theorem LogG.row_lt {h : Heap} {g : Nat} {r : Option Nat} {L : List EvD} {base last : Int} (ha : LogG h g r L base last) : ∀ k, r = some k → k < h.next ∧ k ≠ g := by
  obtain ⟨h1, ⟨h2, h3, h4⟩ | ⟨c, d, h2, h3, h4, h5, h6⟩⟩ := ha
  · intro k hk; rw [h2] at hk; cases hk
  · intro k hk; rw [h2] at hk; cases hk; exact ⟨h4, h3⟩
def cutBase (base last r : Int) : Int := if base < (if last < r then last else r) then (if last < r then last else r) else base
section
variable {P : Program} (hG : FnsOk P AF.fns.get)
include hG
theorem ecut_at {e : EvD} {r : Int} {h : Heap} {k : Nat} (hk : h.get k = some (.cs [.i .i64 r])) {K : V → Heap → Prop} (hK : K (.b (decide (e.e.rev ≤ r))) h) : ACall P 106 [.agg (evR e), .p (.g k) 0] h K := by
  refine fn_sv (hG _ AF.f106 rfl) rfl ?_
  ((conv => whnf); repeat ((first | refine SEx.of (hk) ?_ | refine yf rfl ?_ | refine yt rfl ?_ | refine yo rfl ?_ | refine yc rfl ?_ | refine ys rfl ?_ | refine ye rfl ?_ | refine yn rfl ?_ | refine zw ?_ | refine zdt ?_ | refine zdf ?_ | refine znt ?_ | refine znf ?_ | refine zcd ?_ | refine zci ?_ | refine zc3 ?_) <;> (conv => whnf)))
  exact hK
set_option maxHeartbeats 4000000 in
theorem lcut_at {h : Heap} {g : Nat} {r : Option Nat} {L : List EvD} {base last : Int} (hl : LogG h g r L base last) (hn : L.length ≤ 100000) (rev : Int) {K : V → Heap → Prop}
    (hK : ∀ h', LogG h' g r (L.filter fun x => decide (rev < x.e.rev)) (cutBase base last rev) last → Heap.Keeps (fun n => n = g ∨ r = some n) h h' → K (.tup []) h') :
    ACall P 59 [.p (.g g) 0, .i .i64 rev] h K := by
  have hke : keepE (fun x => decide (x.e.rev ≤ rev)) L = L.filter fun x => decide (rev < x.e.rev) := by
    unfold keepE
    refine List.filter_congr fun x _ => ?_
    show (!decide (x.e.rev ≤ rev)) = decide (rev < x.e.rev)
    by_cases c : x.e.rev ≤ rev
    · rw [decide_eq_true c, decide_eq_false (by omega)]; rfl
    · rw [decide_eq_false c, decide_eq_true (by omega)]; rfl
  obtain ⟨h1, ⟨hr0, hL0, h2⟩ | ⟨c, d, hr0, h2, h3, h4, h5⟩⟩ := hl
  · subst hL0
    have g1 : ∀ x, (h.push x).get g = some (.cs [.nils, .i .i64 64, .i .i64 base, .i .i64 last]) := fun x => Heap.gp (by omega) h2
    have g2 : ∀ x y, ((h.push x).set g y).get g = some y := fun x y => Heap.get_set_self (g1 x)
    have g3 : ∀ x y, ((h.push x).set g y).get h.next = some x := fun x y => Heap.gs (by omega) (Heap.get_push_self _ _)
    refine fn_sv (hG _ AF.f59 rfl) rfl ?_
    ((conv => whnf); repeat ((first | refine SCall.app (fn_sv (hG _ AF.f105 rfl) rfl) ?_ | refine SCall.app (fn_sv (hG _ AF.f153 rfl) rfl) ?_ | refine SLoopV.un rfl ?_ | refine SOpt.of (mn2 (z := if last < rev then last else rev) rfl) ?_ | refine SOpt.of (mx2 (z := cutBase base last rev) rfl) ?_ | refine SEx.of (g1 _) ?_ | refine SEx.of (g2 _ _) ?_ | refine SEx.of (g3 _ _) ?_ | refine SEx.of (Heap.get_set_self (g2 _ _)) ?_ | refine yf rfl ?_ | refine yt rfl ?_ | refine yo rfl ?_ | refine yc rfl ?_ | refine ys rfl ?_ | refine ye rfl ?_ | refine yn rfl ?_ | refine zw ?_ | refine zdt ?_ | refine zdf ?_ | refine znt ?_ | refine znf ?_ | refine zcd ?_ | refine zci ?_ | refine zc3 ?_) <;> (conv => whnf)))
    exact hK _ ⟨(by show g < h.next + 1; omega), .inl ⟨hr0, rfl, Heap.get_set_self (g2 _ _)⟩⟩ (Heap.Keeps.set (b := fun n => n = g ∨ r = some n) (Heap.Keeps.set (b := fun n => n = g ∨ r = some n) (.push (.refl _ _) _) (.inl (.inl rfl)) _) (.inl (.inl rfl)) _)
  · have g1 : ∀ x, (h.push x).get g = some (.cs [.ms (.g c) 4 0 L.length, .i .i64 64, .i .i64 base, .i .i64 last]) := fun x => Heap.gp (by omega) h4
    have g2 : ∀ x, (h.push x).get c = some (.arr 4 (L.map evR ++ List.replicate d ev0)) := fun x => Heap.gp (by omega) h5
    have g3 : ∀ x, (h.push x).get h.next = some x := fun x => Heap.get_push_self _ _
    have hdel := fun (K : V → Heap → Prop) hK => edel_at (K := K) hG (c := c) (d := d) (g := 106) (k1 := h.next) (L := L) (p := fun x => decide (x.e.rev ≤ rev)) (show c < (h.push (.cs [.i .i64 rev])).next by show c < h.next + 1; omega) (g2 (.cs [.i .i64 rev])) hn (fun h' hk' e he K hK =>
      ecut_at hG (by rw [hk'.2 _ (Nat.lt_succ_self _) (by omega)]; exact g3 _) (hK h' (.refl _ _))) hK
    rw [hke] at hdel
    refine fn_sv (hG _ AF.f59 rfl) rfl ?_
    ((conv => whnf); repeat ((first | refine SCall.app (hdel _) ?_ | refine SEx.of (g1 _) ?_ | refine yf rfl ?_ | refine yt rfl ?_ | refine yo rfl ?_ | refine yc rfl ?_ | refine ys rfl ?_ | refine ye rfl ?_ | refine yn rfl ?_ | refine zw ?_ | refine zdt ?_ | refine zdf ?_ | refine znt ?_ | refine znf ?_ | refine zcd ?_ | refine zci ?_ | refine zc3 ?_) <;> (conv => whnf)))
    intro h' d' hg' hk'
    have hnx : h.next + 1 ≤ h'.next := hk'.1
    have p3 : h'.get g = some (.cs [.ms (.g c) 4 0 L.length, .i .i64 64, .i .i64 base, .i .i64 last]) := by rw [hk'.2 g (by show g < h.next + 1; omega) (fun e => h2 e.symm)]; exact g1 _
    have p4 : h'.get h.next = some (.cs [.i .i64 rev]) := by rw [hk'.2 h.next (Nat.lt_succ_self _) (by omega)]; exact g3 _
    have p5 : ∀ x, (h'.set g x).get g = some x := fun x => Heap.get_set_self p3
    have p6 : ∀ x, (h'.set g x).get h.next = some (.cs [.i .i64 rev]) := fun x => Heap.gs (by omega) p4
    ((conv => whnf); repeat ((first | refine SOpt.of (mn2 (z := if last < rev then last else rev) rfl) ?_ | refine SOpt.of (mx2 (z := cutBase base last rev) rfl) ?_ | refine SEx.of (p3) ?_ | refine SEx.of (p5 _) ?_ | refine SEx.of (p6 _) ?_ | refine yf rfl ?_ | refine yt rfl ?_ | refine yo rfl ?_ | refine yc rfl ?_ | refine ys rfl ?_ | refine ye rfl ?_ | refine yn rfl ?_ | refine zw ?_ | refine zdt ?_ | refine zdf ?_ | refine znt ?_ | refine znf ?_ | refine zcd ?_ | refine zci ?_ | refine zc3 ?_) <;> (conv => whnf)))
    have hkk : Heap.Keeps (fun n => n = g ∨ r = some n) h h' := Heap.Keeps.trans (b := fun n => n = g ∨ r = some n) (.push (.refl _ _) _) (hk'.mono fun n _ e => .inr (by rw [hr0, e]))
    exact hK _ ⟨(by show g < h'.next; omega), .inr ⟨c, d', hr0, h2, (by show c < h'.next; omega), Heap.get_set_self (p5 _), Heap.gs h2 (Heap.gs h2 hg')⟩⟩ (Heap.Keeps.set (b := fun n => n = g ∨ r = some n) (Heap.Keeps.set (b := fun n => n = g ∨ r = some n) hkk (.inl (.inl rfl)) _) (.inl (.inl rfl)) _)
end
end Go.Eng
