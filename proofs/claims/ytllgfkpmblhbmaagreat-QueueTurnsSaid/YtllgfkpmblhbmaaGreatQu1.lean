/-
The queue: who waits, in a row of objects; whose turn it is; when somebody's time comes.
-/
import Derived.Test.YtllgfkpmblhbmaaGreatWiP
import Derived.Test.YtllgfkpmblhbmaaGreatArgX
set_option linter.unusedVariables false
set_option linter.unusedSimpArgs false
namespace Go.Eng
open Go
structure OneD where
  p : PodD
  parked : Bool
  failed : Int
  time : Int
def oneR (o : OneD) : List V := podR o.p ++ [.b o.parked, .i .i64 o.failed, .i .i64 o.time]
def zeroQ : List V := [.s [], .i .i64 0, .i .i64 0, .i .i64 0, .i .i64 0, .i .i64 0, .nils, .nils, .nils, .nils, .s [], .nils, .i .i64 0, .nils, .s [], .i .i64 0]
def kR (k : Nat) : List V := [.p (.g k) 0]
/-- The row of objects in `lv`. -/
def RowAt (h : Heap) (q : Nat) (lv : V) (ks : List Nat) : Prop :=
  (ks = [] ∧ lv = .nils) ∨ ∃ c, lv = .ms (.g c) 1 0 ks.length ∧ c ≠ q ∧ c < h.next ∧ c ∉ ks ∧ h.get c = some (.arr 1 (ks.map kR))
/-- The objects themselves. -/
structure ItsAt (h : Heap) (q : Nat) (ks : List Nat) (its : List OneD) : Prop where
  len : ks.length = its.length
  it : ∀ (j k : Nat) (o : OneD), ks[j]? = some k → its[j]? = some o → k ≠ q ∧ k < h.next ∧ h.get k = some (.cs (oneR o))
  nd : ks.Nodup
structure QAt (h : Heap) (q : Nat) (ks : List Nat) (its : List OneD) (s : StD) : Prop where
  lt : q < h.next
  row : ∃ lv, h.get q = some (.cs [lv, .sl none 6 (s.nodes.map nodeR), .sl none 16 (s.pods.map podR), .b true]) ∧ RowAt h q lv ks
  its : ItsAt h q ks its
def comeD (o : OneD) (now : Int) : Bool := decide (o.failed = 0) || decide (o.time ≤ now)
def turnD (now : Int) (o : OneD) : Bool := !o.parked && comeD o now
section
variable {P : Program} (hG : FnsOk P AF.fns.get)
include hG
theorem come_at {h : Heap} {k : Nat} {o : OneD} (hk : h.get k = some (.cs (oneR o))) (now : Int) {K : V → Heap → Prop} (hK : K (.b (comeD o now)) h) : ACall P 79 [.p (.g k) 0, .i .i64 now] h K := by
  unfold comeD at hK
  refine fn_sp (hG _ AF.f79 rfl) rfl ?_
  by_cases c : o.failed = 0
  · rw [decide_eq_true c, Bool.true_or] at hK
    ((conv => whnf); repeat ((first | refine SEx.of (hk) ?_ | refine yf rfl ?_ | refine yt rfl ?_ | refine yo rfl ?_ | refine yc rfl ?_ | refine ys rfl ?_ | refine ye rfl ?_ | refine yn rfl ?_ | refine zw ?_ | refine zdt ?_ | refine zdf ?_ | refine znt ?_ | refine znf ?_ | refine zcd ?_ | refine zci ?_ | refine zc3 ?_) <;> (conv => whnf)))
    exact hK
  · rw [decide_eq_false c, Bool.false_or] at hK
    ((conv => whnf); repeat ((first | refine SEx.of (hk) ?_ | refine yf rfl ?_ | refine yt rfl ?_ | refine yo rfl ?_ | refine yc rfl ?_ | refine ys rfl ?_ | refine ye rfl ?_ | refine yn rfl ?_ | refine zw ?_ | refine zdt ?_ | refine zdf ?_ | refine znt ?_ | refine znf ?_ | refine zcd ?_ | refine zci ?_ | refine zc3 ?_) <;> (conv => whnf)))
    exact hK
set_option maxHeartbeats 4000000 in
theorem next_at {h : Heap} {q : Nat} {ks : List Nat} {its : List OneD} {s : StD} (hq : QAt h q ks its s) (hl : its.length ≤ 1000) (hr : ∀ o ∈ its, PodRoom o.p) (now : Int) {K : V → Heap → Prop}
    (hK : K (match its.find? (turnD now) with | some o => .tup [.agg (podR o.p), .b true] | none => .tup [.agg zeroQ, .b false]) h) : ACall P 28 [.p (.g q) 0, .i .i64 now] h K := by
  obtain ⟨lv, hg, hrow⟩ := hq.row
  have hlen := hq.its.len
  rcases hrow with ⟨rfl, rfl⟩ | ⟨c, rfl, hcq, hcn, hck, hc⟩
  · have : its = [] := List.length_eq_zero_iff.1 hlen.symm
    subst this
    refine fn_sp (hG _ AF.f28 rfl) rfl ?_
    ((conv => whnf); repeat ((first | refine SLoop.un ?_ | refine SEx.of (hg) ?_ | refine yf rfl ?_ | refine yt rfl ?_ | refine yo rfl ?_ | refine yc rfl ?_ | refine ys rfl ?_ | refine ye rfl ?_ | refine yn rfl ?_ | refine zw ?_ | refine zdt ?_ | refine zdf ?_ | refine znt ?_ | refine znf ?_ | refine zcd ?_ | refine zci ?_ | refine zc3 ?_) <;> (conv => whnf)))
    exact hK
  · have hkl : (ks.map kR).length = ks.length := List.length_map _
    refine fn_sp (hG _ AF.f28 rfl) rfl ?_
    ((conv => whnf); repeat ((first | refine SEx.of (hg) ?_ | refine yf rfl ?_ | refine yt rfl ?_ | refine yo rfl ?_ | refine yc rfl ?_ | refine ys rfl ?_ | refine ye rfl ?_ | refine yn rfl ?_ | refine zw ?_ | refine zdt ?_ | refine zdf ?_ | refine znt ?_ | refine znf ?_ | refine zcd ?_ | refine zci ?_ | refine zc3 ?_) <;> (conv => whnf)))
    refine SLoop.by (fun n fr st => ∃ (i : Nat), i ≤ ks.length ∧ n = ks.length - i ∧ (∀ (j : Nat) (o : OneD), j < i → its[j]? = some o → turnD now o = false) ∧
        Fr.le [(16, .i .i64 i), (15, .i .i64 ks.length), (14, .ms (.g c) 1 0 ks.length), (9, .b false), (4, .p (.l 0) 0), (1, .i .i64 now)] fr ∧ ∃ x l, st = ⟨h, ⟨x, (0, .cs zeroQ) :: l⟩⟩)
      ks.length ⟨0, Nat.zero_le _, rfl, fun j o hj => absurd hj (Nat.not_lt_zero _), (by repeat (first | exact Fr.le_nil | refine Fr.le_cons rfl ?_)), _, _, rfl⟩ ?_
    rintro n fr st ⟨i, hi, rfl, hno, hle0, x, l, rfl⟩
    refine ⟨_, hle0, fun R hR => ?_⟩
    by_cases hin : i < ks.length
    · obtain ⟨k, hk⟩ : ∃ k, ks[i]? = some k := ⟨_, List.getElem?_eq_getElem hin⟩
      obtain ⟨o, ho⟩ : ∃ o, its[i]? = some o := ⟨_, List.getElem?_eq_getElem (by omega)⟩
      obtain ⟨hkq, hkn, hko⟩ := hq.its.it i k o hk ho
      have hcome := fun K => come_at hG hko now (K := K)
      have hcop := copyPod_ok hG o.p (hr o (List.mem_of_getElem? ho))
      have hyes : turnD now o = true → its.find? (turnD now) = some o := fun ht => find_some ho ht hno
      have hnx : turnD now o = false → ∀ (j : Nat) (o : OneD), j < i + 1 → its[j]? = some o → turnD now o = false := fun ht => by
        intro j o' hj hj'
        by_cases e : j = i
        · subst e; rw [ho] at hj'; cases hj'; exact ht
        · exact hno j o' (by omega) hj'
      obtain ⟨op, opk, of, ot⟩ := o
      cases opk
      · generalize hcd : comeD ⟨op, false, of, ot⟩ now = cd at hcome
        have hcd2 : turnD now ⟨op, false, of, ot⟩ = cd := by rw [← hcd]; rfl
        cases cd
        · ((conv => whnf); repeat ((first | refine SCall.app (hcome _) ?_ | refine SEx.of (hc) ?_ | refine SEx.of (map_get' (by omega) hk) ?_ | refine SEx.of (hko) ?_ | refine yf rfl ?_ | refine yt rfl ?_ | refine yo rfl ?_ | refine yc rfl ?_ | refine ys rfl ?_ | refine ye rfl ?_ | refine yn rfl ?_ | refine zw ?_ | refine zdt ?_ | refine zdf ?_ | refine znt ?_ | refine znf ?_ | refine zcd ?_ | refine zci ?_ | refine zc3 ?_) <;> (conv => whnf)))
          exact hR (ks.length - (i + 1)) _ _ (by omega) ⟨i + 1, by omega, rfl, hnx hcd2, (by repeat (first | exact Fr.le_nil | refine Fr.le_cons rfl ?_)), _, _, rfl⟩
        · rw [hyes hcd2] at hK
          ((conv => whnf); repeat ((first | refine SCall.app (hcome _) ?_ | refine SCall.app (Pure.go hcop rfl) ?_ | refine SEx.of (hc) ?_ | refine SEx.of (map_get' (by omega) hk) ?_ | refine SEx.of (hko) ?_ | refine yf rfl ?_ | refine yt rfl ?_ | refine yo rfl ?_ | refine yc rfl ?_ | refine ys rfl ?_ | refine ye rfl ?_ | refine yn rfl ?_ | refine zw ?_ | refine zdt ?_ | refine zdf ?_ | refine znt ?_ | refine znf ?_ | refine zcd ?_ | refine zci ?_ | refine zc3 ?_) <;> (conv => whnf)))
          exact hK
      · ((conv => whnf); repeat ((first | refine SEx.of (hc) ?_ | refine SEx.of (map_get' (by omega) hk) ?_ | refine SEx.of (hko) ?_ | refine yf rfl ?_ | refine yt rfl ?_ | refine yo rfl ?_ | refine yc rfl ?_ | refine ys rfl ?_ | refine ye rfl ?_ | refine yn rfl ?_ | refine zw ?_ | refine zdt ?_ | refine zdf ?_ | refine znt ?_ | refine znf ?_ | refine zcd ?_ | refine zci ?_ | refine zc3 ?_) <;> (conv => whnf)))
        exact hR (ks.length - (i + 1)) _ _ (by omega) ⟨i + 1, by omega, rfl, hnx rfl, (by repeat (first | exact Fr.le_nil | refine Fr.le_cons rfl ?_)), _, _, rfl⟩
    · have hnone : its.find? (turnD now) = none := by
        rw [List.find?_eq_none]
        intro o ho
        obtain ⟨j, hj⟩ := List.mem_iff_getElem?.1 ho
        have := (List.getElem?_eq_some_iff.1 hj).1
        rw [hno j o (by omega) hj]
        decide
      rw [hnone] at hK
      ((conv => whnf); repeat ((first | refine yf rfl ?_ | refine yt rfl ?_ | refine yo rfl ?_ | refine yc rfl ?_ | refine ys rfl ?_ | refine ye rfl ?_ | refine yn rfl ?_ | refine zw ?_ | refine zdt ?_ | refine zdf ?_ | refine znt ?_ | refine znf ?_ | refine zcd ?_ | refine zci ?_ | refine zc3 ?_) <;> (conv => whnf)))
      exact hK
set_option maxHeartbeats 4000000 in
theorem due_at {h : Heap} {q : Nat} {ks : List Nat} {its : List OneD} {s : StD} (hq : QAt h q ks its s) (hl : its.length ≤ 1000) (hp : ∀ o ∈ its, o.parked = true) (now : Int) {K : V → Heap → Prop}
    (hK : K (.tup [.i .i64 0, .b false]) h) : ACall P 30 [.p (.g q) 0, .i .i64 now] h K := by
  obtain ⟨lv, hg, hrow⟩ := hq.row
  have hlen := hq.its.len
  rcases hrow with ⟨rfl, rfl⟩ | ⟨c, rfl, hcq, hcn, hck, hc⟩
  · refine fn_sp (hG _ AF.f30 rfl) rfl ?_
    ((conv => whnf); repeat ((first | refine SLoop.un ?_ | refine SEx.of (hg) ?_ | refine yf rfl ?_ | refine yt rfl ?_ | refine yo rfl ?_ | refine yc rfl ?_ | refine ys rfl ?_ | refine ye rfl ?_ | refine yn rfl ?_ | refine zw ?_ | refine zdt ?_ | refine zdf ?_ | refine znt ?_ | refine znf ?_ | refine zcd ?_ | refine zci ?_ | refine zc3 ?_) <;> (conv => whnf)))
    exact hK
  · have hkl : (ks.map kR).length = ks.length := List.length_map _
    refine fn_sp (hG _ AF.f30 rfl) rfl ?_
    ((conv => whnf); repeat ((first | refine SEx.of (hg) ?_ | refine yf rfl ?_ | refine yt rfl ?_ | refine yo rfl ?_ | refine yc rfl ?_ | refine ys rfl ?_ | refine ye rfl ?_ | refine yn rfl ?_ | refine zw ?_ | refine zdt ?_ | refine zdf ?_ | refine znt ?_ | refine znf ?_ | refine zcd ?_ | refine zci ?_ | refine zc3 ?_) <;> (conv => whnf)))
    refine SLoop.by (fun n fr st => ∃ (i : Nat), i ≤ ks.length ∧ n = ks.length - i ∧
        Fr.le [(18, .i .i64 i), (17, .i .i64 ks.length), (16, .ms (.g c) 1 0 ks.length), (7, .b false), (6, .i .i64 0), (1, .i .i64 now)] fr ∧ ∃ l, st = ⟨h, l⟩)
      ks.length ⟨0, Nat.zero_le _, rfl, (by repeat (first | exact Fr.le_nil | refine Fr.le_cons rfl ?_)), _, rfl⟩ ?_
    rintro n fr st ⟨i, hi, rfl, hle0, l, rfl⟩
    refine ⟨_, hle0, fun R hR => ?_⟩
    by_cases hin : i < ks.length
    · obtain ⟨k, hk⟩ : ∃ k, ks[i]? = some k := ⟨_, List.getElem?_eq_getElem hin⟩
      obtain ⟨o, ho⟩ : ∃ o, its[i]? = some o := ⟨_, List.getElem?_eq_getElem (by omega)⟩
      obtain ⟨hkq, hkn, hko⟩ := hq.its.it i k o hk ho
      have hpk := hp o (List.mem_of_getElem? ho)
      obtain ⟨op, opk, of, ot⟩ := o
      dsimp only at hpk
      subst hpk
      ((conv => whnf); repeat ((first | refine SEx.of (hc) ?_ | refine SEx.of (map_get' (by omega) hk) ?_ | refine SEx.of (hko) ?_ | refine yf rfl ?_ | refine yt rfl ?_ | refine yo rfl ?_ | refine yc rfl ?_ | refine ys rfl ?_ | refine ye rfl ?_ | refine yn rfl ?_ | refine zw ?_ | refine zdt ?_ | refine zdf ?_ | refine znt ?_ | refine znf ?_ | refine zcd ?_ | refine zci ?_ | refine zc3 ?_) <;> (conv => whnf)))
      exact hR (ks.length - (i + 1)) _ _ (by omega) ⟨i + 1, by omega, rfl, (by repeat (first | exact Fr.le_nil | refine Fr.le_cons rfl ?_)), _, rfl⟩
    · ((conv => whnf); repeat ((first | refine yf rfl ?_ | refine yt rfl ?_ | refine yo rfl ?_ | refine yc rfl ?_ | refine ys rfl ?_ | refine ye rfl ?_ | refine yn rfl ?_ | refine zw ?_ | refine zdt ?_ | refine zdf ?_ | refine znt ?_ | refine znf ?_ | refine zcd ?_ | refine zci ?_ | refine zc3 ?_) <;> (conv => whnf)))
      exact hK
end
end Go.Eng
