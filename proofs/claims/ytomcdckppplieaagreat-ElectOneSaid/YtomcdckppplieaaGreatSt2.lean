/-
The store of one key: what a txn of one guard and one write does.
-/
import Derived.Test.YtomcdckppplieaaGreatSt1
import Derived.Test.YtomcdckppplieaaGreatEngC
set_option linter.unusedVariables false
set_option linter.unusedSimpArgs false
namespace Go.Eng
open Go
abbrev CurD := Option (Int × List Int)
def curRev : CurD → Int
  | none => 0
  | some (r, _) => r
def mapL : CurD → List (V × V)
  | none => []
  | some (r, b) => [(.s lS, .agg [.s lS, .i .i64 r, lb b])]
def mapT : Option Int → List (V × V)
  | none => []
  | some r => [(.s lS, .i .i64 r)]
/-- The store at `a`: at which revision, what the key bears, how long its log is. -/
structure StoreAt (h : Heap) (a m0 m1 g c : Nat) (rev : Int) (cur : CurD) (n : Nat) : Prop where
  lt : a < h.next ∧ m0 < h.next ∧ m1 < h.next
  ne : a ≠ m0 ∧ a ≠ m1 ∧ m0 ≠ m1 ∧ a ≠ g ∧ m0 ≠ g ∧ m1 ≠ g ∧ a ≠ c ∧ m0 ≠ c ∧ m1 ≠ c
  ga : ∃ rd wr, h.get a = some (.cs [.i .i64 rev, .m (.g m0), .m (.g m1), .p (.g g) 0, .i .i64 rd, .i .i64 wr])
  g0 : h.get m0 = some (.mp none (mapL cur))
  g1 : ∃ x, h.get m1 = some (.mp none (mapT x))
  log : ∃ last, last ≤ rev ∧ LogAt h g c n last
def guR (g : Int) : List V := [.s lS, .i .i64 g, .b false]
def wrR (b : List Int) : List V := [.s lS, lb b, .b false]
def txnV (g : Int) (b : List Int) : V := .agg [.sl none 3 [guR g], .sl none 3 [wrR b]]
abbrev AddAt (P : Program) : Prop := ∀ (args : List V) (h : Heap) (r : V) (h' : Heap), addRun args h = some (r, h') → ∀ K : V → Heap → Prop, K r h' → ACall P 46 args h K
section
variable {P : Program} (hG : FnsOk P AF.fns.get)
include hG
theorem skey_ok : Pure P 130 [.s lS] (· = .b true) := by
  refine pure_fn (hG _ AF.f130 rfl) rfl ?_
  ((conv => whnf); repeat ((first | refine yf rfl ?_ | refine yt rfl ?_ | refine yo rfl ?_ | refine yc rfl ?_ | refine ys rfl ?_ | refine ye rfl ?_ | refine yn rfl ?_ | refine zw ?_ | refine zdt ?_ | refine zdf ?_ | refine znt ?_ | refine znf ?_ | refine zcd ?_ | refine zci ?_ | refine zc3 ?_) <;> (conv => whnf)))
  exact pure_free rfl rfl
set_option maxHeartbeats 4000000 in
theorem may_ok (g : Int) (b : List Int) (hg : 0 ≤ g) (hb : b.length ≤ 4000) : Pure P 92 [txnV g b] (· = .b true) := by
  have hk := skey_ok hG
  have hbl : (b.map byR).length = b.length := List.length_map _
  refine pure_fn (hG _ AF.f92 rfl) rfl ?_
  ((conv => whnf); repeat ((first | refine SCall.app (Pure.go hk rfl) ?_ | refine yf rfl ?_ | refine yt rfl ?_ | refine yo rfl ?_ | refine yc rfl ?_ | refine ys rfl ?_ | refine ye rfl ?_ | refine yn rfl ?_ | refine zw ?_ | refine zdt ?_ | refine zdf ?_ | refine znt ?_ | refine znf ?_ | refine zcd ?_ | refine zci ?_ | refine zc3 ?_ | refine SLoopZ.un rfl ?_) <;> (conv => whnf)))
  exact pure_free rfl rfl
set_option maxHeartbeats 4000000 in
theorem holds_at {h : Heap} {a m0 m1 lg c n : Nat} {rev : Int} {cur : CurD} (hs : StoreAt h a m0 m1 lg c rev cur n) (g : Int) {K : V → Heap → Prop} (hK : K (.b (decide (curRev cur = g))) h) : ACall P 93 [.p (.g a) 0, .agg (guR g)] h K := by
  obtain ⟨rd, wr, ha⟩ := hs.ga
  have h0 := hs.g0
  cases cur with
  | none =>
    refine fn_sp (hG _ AF.f93 rfl) rfl ?_
    ((conv => whnf); repeat ((first | refine SEx.of (ha) ?_ | refine SEx.of (h0) ?_ | refine yf rfl ?_ | refine yt rfl ?_ | refine yo rfl ?_ | refine yc rfl ?_ | refine ys rfl ?_ | refine ye rfl ?_ | refine yn rfl ?_ | refine zw ?_ | refine zdt ?_ | refine zdf ?_ | refine znt ?_ | refine znf ?_ | refine zcd ?_ | refine zci ?_ | refine zc3 ?_) <;> (conv => whnf)))
    exact hK
  | some x =>
    obtain ⟨r, b⟩ := x
    refine fn_sp (hG _ AF.f93 rfl) rfl ?_
    ((conv => whnf); repeat ((first | refine SEx.of (ha) ?_ | refine SEx.of (h0) ?_ | refine yf rfl ?_ | refine yt rfl ?_ | refine yo rfl ?_ | refine yc rfl ?_ | refine ys rfl ?_ | refine ye rfl ?_ | refine yn rfl ?_ | refine zw ?_ | refine zdt ?_ | refine zdf ?_ | refine znt ?_ | refine znf ?_ | refine zcd ?_ | refine zci ?_ | refine zc3 ?_) <;> (conv => whnf)))
    exact hK
set_option maxHeartbeats 4000000 in
theorem can_at {h : Heap} {a m0 m1 lg c n : Nat} {rev : Int} {cur : CurD} (hs : StoreAt h a m0 m1 lg c rev cur n) (g : Int) (b : List Int) (hg : 0 ≤ g) (hb : b.length ≤ 4000) {K : V → Heap → Prop} (hK : K (.i .i64 (if curRev cur = g then 0 else 6)) h) : ACall P 56 [.p (.g a) 0, txnV g b] h K := by
  obtain ⟨rd, wr, ha⟩ := hs.ga
  have h0 := hs.g0
  have hm := may_ok hG g b hg hb
  have hh := fun K => holds_at hG hs g (K := K)
  by_cases hc : curRev cur = g
  · rw [if_pos hc] at hK
    rw [decide_eq_true hc] at hh
    cases cur with
    | none =>
      refine fn_sp (hG _ AF.f56 rfl) rfl ?_
      ((conv => whnf); repeat ((first | refine SLoop.un ?_ | refine SCall.app (Pure.go hm rfl) ?_ | refine SCall.app (hh _) ?_ | refine SEx.of (ha) ?_ | refine SEx.of (h0) ?_ | refine yf rfl ?_ | refine yt rfl ?_ | refine yo rfl ?_ | refine yc rfl ?_ | refine ys rfl ?_ | refine ye rfl ?_ | refine yn rfl ?_ | refine zw ?_ | refine zdt ?_ | refine zdf ?_ | refine znt ?_ | refine znf ?_ | refine zcd ?_ | refine zci ?_ | refine zc3 ?_) <;> (conv => whnf)))
      exact hK
    | some x =>
      obtain ⟨r, b⟩ := x
      refine fn_sp (hG _ AF.f56 rfl) rfl ?_
      ((conv => whnf); repeat ((first | refine SLoop.un ?_ | refine SCall.app (Pure.go hm rfl) ?_ | refine SCall.app (hh _) ?_ | refine SEx.of (ha) ?_ | refine SEx.of (h0) ?_ | refine yf rfl ?_ | refine yt rfl ?_ | refine yo rfl ?_ | refine yc rfl ?_ | refine ys rfl ?_ | refine ye rfl ?_ | refine yn rfl ?_ | refine zw ?_ | refine zdt ?_ | refine zdf ?_ | refine znt ?_ | refine znf ?_ | refine zcd ?_ | refine zci ?_ | refine zc3 ?_) <;> (conv => whnf)))
      exact hK
  · rw [if_neg hc] at hK
    rw [decide_eq_false hc] at hh
    refine fn_sp (hG _ AF.f56 rfl) rfl ?_
    ((conv => whnf); repeat ((first | refine SLoop.un ?_ | refine SCall.app (Pure.go hm rfl) ?_ | refine SCall.app (hh _) ?_ | refine SEx.of (ha) ?_ | refine SEx.of (h0) ?_ | refine yf rfl ?_ | refine yt rfl ?_ | refine yo rfl ?_ | refine yc rfl ?_ | refine ys rfl ?_ | refine ye rfl ?_ | refine yn rfl ?_ | refine zw ?_ | refine zdt ?_ | refine zdf ?_ | refine znt ?_ | refine znf ?_ | refine zcd ?_ | refine zci ?_ | refine zc3 ?_) <;> (conv => whnf)))
    exact hK
end
end Go.Eng
