/-
The log that is full: its first event goes.
-/
import Derived.Test.YtomcdckppplieaaGreatSt1
import Derived.Test.YtomcdckppplieaaGreatEngSymV
import Derived.Test.YtomcdckppplieaaGreatArgX
set_option linter.unusedVariables false
set_option linter.unusedSimpArgs false
namespace Go.Eng
open Go
abbrev EvD := Int × List Int
def evL (e : EvD) : List V := evR e.1 e.2
def zeroE : List V := [.i .i64 0, .s [], .nils, .b false]
section
variable {P : Program} (hG : FnsOk P AF.fns.get)
include hG
theorem cutf_at {e : EvD} {r : Int} {h : Heap} {k : Nat} (hk : h.get k = some (.cs [.i .i64 r])) {K : V → Heap → Prop} (hK : K (.b (decide (e.1 ≤ r))) h) : ACall P 133 [.agg (evL e), .p (.g k) 0] h K := by
  refine fn_sv (hG _ AF.f133 rfl) rfl ?_
  ((conv => whnf); repeat ((first | refine SEx.of (hk) ?_ | refine yf rfl ?_ | refine yt rfl ?_ | refine yo rfl ?_ | refine yc rfl ?_ | refine ys rfl ?_ | refine ye rfl ?_ | refine yn rfl ?_ | refine zw ?_ | refine zdt ?_ | refine zdf ?_ | refine znt ?_ | refine znf ?_ | refine zcd ?_ | refine zci ?_ | refine zc3 ?_) <;> (conv => whnf)))
  exact hK
theorem ixe_at {e : EvD} {R : List EvD} {J : List (List V)} {h : Heap} {c k : Nat} (hc : h.get c = some (.arr 4 ((e :: R).map evL ++ J))) (hk : h.get k = some (.cs [.i .i64 e.1])) {K : V → Heap → Prop} (hK : K (.i .i64 0) h) :
    ACall P 182 [.ms (.g c) 4 0 (R.length + 1), .fn 133 [] [.p (.g k) 0]] h K := by
  have hcf := fun K => cutf_at hG hk (e := e) (K := K)
  rw [decide_eq_true (Int.le_refl _)] at hcf
  refine fn_sv (hG _ AF.f182 rfl) rfl ?_
  ((conv => whnf); repeat ((first | refine SLoopV.un rfl ?_ | refine SCall.app (hcf _) ?_ | refine SEx.of (hc) ?_ | refine SEx.of (Heap.get_push_self _ _) ?_ | refine SEx.of (Heap.get_set_self (Heap.get_push_self _ _)) ?_ | refine yf rfl ?_ | refine yt rfl ?_ | refine yo rfl ?_ | refine yc rfl ?_ | refine ys rfl ?_ | refine ye rfl ?_ | refine yn rfl ?_ | refine zw ?_ | refine zdt ?_ | refine zdf ?_ | refine znt ?_ | refine znf ?_ | refine zcd ?_ | refine zci ?_ | refine zc3 ?_) <;> (conv => whnf)))
  exact hK
end
theorem cut_mid {α : Type} {A B J : List α} {n : Nat} (hA : A.length = n) (hB : B.length = 1) (z : α) : List.take n (A ++ B ++ J) ++ List.replicate 1 z ++ List.drop (n + 1) (A ++ B ++ J) = A ++ [z] ++ J := by
  rw [List.drop_left' (by rw [List.length_append, hA, hB]), List.append_assoc A B J, List.take_left' hA]
  rfl
/-- The rows, so many of them moved. -/
def movE (e : EvD) (R : List EvD) (J : List (List V)) (m : Nat) : List (List V) := (R.take m).map evL ++ ((e :: R).drop m).map evL ++ J
theorem movE_len {e : EvD} {R : List EvD} {J : List (List V)} {m : Nat} (hm : m ≤ R.length) : (movE e R J m).length = R.length + 1 + J.length := by
  simp only [movE, List.length_append, List.length_map, List.length_take, List.length_drop, List.length_cons]; omega
theorem movE_get {e : EvD} {R : List EvD} {J : List (List V)} {m : Nat} {x : EvD} (hx : R[m]? = some x) : (movE e R J m)[m + 1]? = some (evL x) := by
  have hm := (List.getElem?_eq_some_iff.1 hx).1
  unfold movE
  rw [List.append_assoc, List.getElem?_append_right (by rw [List.length_map, List.length_take]; omega), List.length_map, List.length_take, Nat.min_eq_left (by omega), show m + 1 - m = 1 by omega,
    List.getElem?_append_left (by rw [List.length_map, List.length_drop, List.length_cons]; omega), List.getElem?_map, List.getElem?_drop, List.getElem?_cons_succ, hx]
  rfl
theorem movE_set {e : EvD} {R : List EvD} {J : List (List V)} {m : Nat} {x : EvD} (hx : R[m]? = some x) : (movE e R J m).set m (evL x) = movE e R J (m + 1) := by
  have hm := (List.getElem?_eq_some_iff.1 hx)
  have hm1 := hm.1
  have hd : (e :: R).drop m = (e :: R)[m]'(by simp; omega) :: (e :: R).drop (m + 1) := List.drop_eq_getElem_cons _
  unfold movE
  rw [hd, List.map_cons, List.append_assoc, List.set_append_right _ _ (by rw [List.length_map, List.length_take]; omega)]
  rw [show m - ((R.take m).map evL).length = 0 by rw [List.length_map, List.length_take]; omega, List.cons_append, List.set_cons_zero, List.take_add_one, hx, List.map_append]
  simp
section
variable {P : Program} (hG : FnsOk P AF.fns.get)
include hG
set_option maxHeartbeats 4000000 in
theorem delf_at {e : EvD} {R : List EvD} {J : List (List V)} {h : Heap} {c k : Nat} (hc : h.get c = some (.arr 4 ((e :: R).map evL ++ J))) (hk : h.get k = some (.cs [.i .i64 e.1])) (hck : k ≠ c) (hl : R.length ≤ 1000) (hinc : ∀ x ∈ R, e.1 < x.1) {K : V → Heap → Prop}
    (hK : ∀ h', h'.get c = some (.arr 4 (R.map evL ++ [zeroE] ++ J)) → h'.next = h.next → (∀ i, i ≠ c → h'.get i = h.get i) → K (.ms (.g c) 4 0 R.length) h') :
    ACall P 132 [.ms (.g c) 4 0 (R.length + 1), .fn 133 [] [.p (.g k) 0]] h K := by
  have hix := fun K => ixe_at hG hc hk (K := K)
  have hc0 : h.get c = some (.arr 4 (movE e R J 0)) := hc
  refine fn_sv (hG _ AF.f132 rfl) rfl ?_
  ((conv => whnf); repeat ((first | refine SCall.app (hix _) ?_ | refine yf rfl ?_ | refine yt rfl ?_ | refine yo rfl ?_ | refine yc rfl ?_ | refine ys rfl ?_ | refine ye rfl ?_ | refine yn rfl ?_ | refine zw ?_ | refine zdt ?_ | refine zdf ?_ | refine znt ?_ | refine znf ?_ | refine zcd ?_ | refine zci ?_ | refine zc3 ?_) <;> (conv => whnf)))
  refine SLoopV.by (fun q fr st => ∃ (m : Nat) (h' l : Heap), m ≤ R.length ∧ q = R.length - m ∧ h'.get c = some (.arr 4 (movE e R J m)) ∧ h'.next = h.next ∧ (∀ i, i ≠ c → h'.get i = h.get i) ∧
      Fr.le [(6, .i .i64 ((m : Int) + 1)), (5, .i .i64 m), (1, .fn 133 [] [.p (.g k) 0]), (0, .ms (.g c) 4 0 (R.length + 1))] fr ∧ st = ⟨h', l⟩)
    R.length ⟨0, h, _, Nat.zero_le _, rfl, hc0, rfl, fun _ _ => rfl, (by repeat (first | exact Fr.le_nil | refine Fr.le_cons rfl ?_)), rfl⟩ ?_
  rintro q fr st ⟨m, h', l, hm, rfl, hc', hn', hs', hle0, rfl⟩
  refine ⟨_, hle0, fun R' hR => ?_⟩
  have hwl := movE_len (e := e) (R := R) (J := J) hm
  by_cases hlt : m < R.length
  · obtain ⟨x, hx⟩ : ∃ x, R[m]? = some x := ⟨_, List.getElem?_eq_getElem hlt⟩
    have hcf := fun K => cutf_at hG ((hs' k hck).trans hk) (e := x) (K := K)
    have hxe := hinc x (List.mem_of_getElem? hx)
    rw [decide_eq_false (show ¬ x.1 ≤ e.1 by omega)] at hcf
    have hg := movE_get (e := e) (J := J) hx
    obtain ⟨y, hy⟩ : ∃ y, (movE e R J m)[m]? = some y := ⟨_, List.getElem?_eq_getElem (by omega)⟩
    have hy4 : ∃ z, y = evL z := by
      unfold movE at hy
      rw [List.append_assoc, List.getElem?_append_right (by rw [List.length_map, List.length_take]; omega), List.length_map, List.length_take, Nat.min_eq_left (by omega), Nat.sub_self,
        List.getElem?_append_left (by rw [List.length_map, List.length_drop, List.length_cons]; omega), List.getElem?_map] at hy
      obtain ⟨z, _, hz⟩ := Option.map_eq_some_iff.1 hy
      exact ⟨z, hz.symm⟩
    obtain ⟨z, rfl⟩ := hy4
    have hset := movE_set (e := e) (J := J) hx
    generalize movE e R J m = W at hc' hwl hg hy hset
    have hi1 : ((m : Int) + 1).toNat = m + 1 := by omega
    have hg' : W[0 + ((m : Int) + 1).toNat]? = some (evL x) := by rw [hi1, Nat.zero_add]; exact hg
    have hy' : W[0 + (m : Int).toNat]? = some (evL z) := by rw [Int.toNat_natCast, Nat.zero_add]; exact hy
    have hset' : W.set (0 + (m : Int).toNat) (evL x) = movE e R J (m + 1) := by rw [Int.toNat_natCast, Nat.zero_add]; exact hset
    ((conv => whnf); repeat ((first | refine SCall.app (hcf _) ?_ | refine SChk.mk (decide_eq_true (by omega)) ?_ | refine SEx.of (hc') ?_ | refine SEx.of (hg') ?_ | refine SEx.of (hy') ?_ | refine SEx.of (Heap.get_push_self _ _) ?_ | refine SEx.of (Heap.get_set_self (Heap.get_push_self _ _)) ?_ | refine SEx.of (congrArg some hset') ?_ | refine yf rfl ?_ | refine yt rfl ?_ | refine yo rfl ?_ | refine yc rfl ?_ | refine ys rfl ?_ | refine ye rfl ?_ | refine yn rfl ?_ | refine zw ?_ | refine zdt ?_ | refine zdf ?_ | refine znt ?_ | refine znf ?_ | refine zcd ?_ | refine zci ?_ | refine zc3 ?_) <;> (conv => whnf)))
    exact hR (R.length - (m + 1)) _ _ (by omega) ⟨m + 1, h'.set c (.arr 4 (movE e R J (m + 1))), _, by omega, rfl, Heap.get_set_self hc', hn', fun i hi => (Heap.get_set_ne hi).trans (hs' i hi), (by repeat (first | exact Fr.le_nil | refine Fr.le_cons rfl ?_)), rfl⟩
  · have hmR : m = R.length := by omega
    subst hmR
    have hW : ∀ a b d : Nat, a = R.length → b = 1 → d = R.length + 1 → List.take a (movE e R J R.length) ++ List.replicate b zeroE ++ List.drop d (movE e R J R.length) = R.map evL ++ [zeroE] ++ J := by
      rintro a b d rfl rfl rfl
      have hd : ∃ y, (e :: R).drop R.length = [y] := by
        have : ((e :: R).drop R.length).length = 1 := by rw [List.length_drop, List.length_cons]; omega
        exact List.length_eq_one_iff.1 this
      obtain ⟨y, hy⟩ := hd
      unfold movE
      rw [hy, List.take_of_length_le (Nat.le_refl _)]
      exact cut_mid (by rw [List.length_map]) rfl zeroE
    generalize movE e R J R.length = W at hc' hwl hW
    have hE := hW (0 + ((R.length : Nat) : Int).toNat) ((((R.length + 1 : Nat)) : Int).toNat - ((R.length : Nat) : Int).toNat) (0 + ((R.length : Nat) : Int).toNat + ((((R.length + 1 : Nat)) : Int).toNat - ((R.length : Nat) : Int).toNat)) (by omega) (by omega) (by omega)
    have hK2 := hK (h'.set c (.arr 4 (R.map evL ++ [zeroE] ++ J))) (Heap.get_set_self hc') hn' (fun i hi => (Heap.get_set_ne hi).trans (hs' i hi))
    rw [← hE] at hK2
    ((conv => whnf); repeat ((first | refine SChk.d3 (by omega) (by omega) (by omega) ?_ | refine SChk.mk (decide_eq_true (by omega)) ?_ | refine SChk.d3 (by omega) (by omega) (by erw [hE]; simp; omega) ?_ | refine SEx.of (hc') ?_ | refine SEx.of (Heap.get_set_self hc') ?_ | refine yf rfl ?_ | refine yt rfl ?_ | refine yo rfl ?_ | refine yc rfl ?_ | refine ys rfl ?_ | refine ye rfl ?_ | refine yn rfl ?_ | refine zw ?_ | refine zdt ?_ | refine zdf ?_ | refine znt ?_ | refine znf ?_ | refine zcd ?_ | refine zci ?_ | refine zc3 ?_) <;> (conv => whnf)))
    exact hK2
end
end Go.Eng
