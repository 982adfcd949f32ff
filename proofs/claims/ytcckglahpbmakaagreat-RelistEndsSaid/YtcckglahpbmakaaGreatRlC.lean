/-
A store's answer.
-/
import Derived.Test.YtcckglahpbmakaaGreatRlB
set_option linter.unusedVariables false
set_option linter.unusedSimpArgs false
namespace Go.Eng
open Go
section
variable {P : Program} (hG : FnsOk P AF.fns.get)
include hG
set_option maxHeartbeats 4000000 in
theorem ofl_at (hA : AddAt P) (hS : SortedOk P) {h : Heap} {a m0 m1 lg : Nat} {rl : Option Nat} {R : Int} {D Ls : List EnD} {T : List (Str × Int)} {L : List EvD} {base : Int} (hs : StG h a m0 m1 lg rl R D T L base) (hD : ∀ e ∈ D, EnOk e) (hn : D.length ≤ 100000) (hr : CaRel D Ls) {k : CallD} (hk : k.kind = 2) {K : V → Heap → Prop}
    (hK : ∀ ens h', EnsV ens Ls → StG h' a m0 m1 lg rl R D T L base → Heap.Keeps (ownsG a m0 m1 lg rl) h h' → K (.agg (ansR k.from_ k.id 2 0 R ens .nils)) h') :
    ACall P 18 [.p (.g a) 0, .agg (callR k)] h K := by
  have hli := fun (K : V → Heap → Prop) hK => slist_at (K := K) hG hA hS hs hD hn hr hK
  refine fn_sv (hG _ AF.f18 rfl) rfl ?_
  ((conv => whnf); repeat ((first | refine SIf.dt hk ?_ | refine SCall.app (hli _) ?_ | refine yf rfl ?_ | refine yt rfl ?_ | refine yo rfl ?_ | refine yc rfl ?_ | refine ys rfl ?_ | refine ye rfl ?_ | refine yn rfl ?_ | refine zw ?_ | refine zdt ?_ | refine zdf ?_ | refine znt ?_ | refine znf ?_ | refine zcd ?_ | refine zci ?_ | refine zc3 ?_) <;> (conv => whnf)))
  intro lv h1 hlv hs1 k1
  have hrv := fun (K : V → Heap → Prop) hK => srev_at (K := K) hG hs1 hK
  have hlv' := hlv.sl
  have hfin := hK lv h1 hlv hs1 k1
  clear hlv hK
  rcases hlv' with rfl | ⟨rows, rfl⟩
  all_goals
    ((conv => whnf); repeat ((first | refine SCall.app (hrv _) ?_ | refine yf rfl ?_ | refine yt rfl ?_ | refine yo rfl ?_ | refine yc rfl ?_ | refine ys rfl ?_ | refine ye rfl ?_ | refine yn rfl ?_ | refine zw ?_ | refine zdt ?_ | refine zdf ?_ | refine znt ?_ | refine znf ?_ | refine zcd ?_ | refine zci ?_ | refine zc3 ?_) <;> (conv => whnf)))
    rw [hk]
    exact hfin
set_option maxHeartbeats 4000000 in
theorem ofw_at (hA : AddAt P) {h : Heap} {a m0 m1 lg : Nat} {rl : Option Nat} {R : Int} {D : List EnD} {T : List (Str × Int)} {L : List EvD} {base : Int} (hs : StG h a m0 m1 lg rl R D T L base) (hok : ∀ x ∈ L, EnOk x.e) (hn : L.length ≤ 1000) {k : CallD} (hk : k.kind = 3) {K : V → Heap → Prop}
    (hK : ∀ evs err h', StG h' a m0 m1 lg rl R D T L base → Heap.Keeps (ownsG a m0 m1 lg rl) h h' →
      ((k.rev < base ∧ evs = .nils ∧ err = 7) ∨ (base ≤ k.rev ∧ R < k.rev ∧ evs = .nils ∧ err = 2) ∨ (base ≤ k.rev ∧ k.rev ≤ R ∧ EvsV evs (L.filter fun x => decide (k.rev < x.e.rev)) ∧ err = 0)) → K (.agg (ansR k.from_ k.id 3 err R .nils evs)) h') :
    ACall P 18 [.p (.g a) 0, .agg (callR k)] h K := by
  have hwa := fun (K : V → Heap → Prop) hK => swatch_at (K := K) hG hA hs hok hn k.rev hK
  refine fn_sv (hG _ AF.f18 rfl) rfl ?_
  ((conv => whnf); repeat ((first | refine SIf.df (show ¬ k.kind = 2 by omega) ?_ | refine SCall.app (hwa _) ?_ | refine yf rfl ?_ | refine yt rfl ?_ | refine yo rfl ?_ | refine yc rfl ?_ | refine ys rfl ?_ | refine ye rfl ?_ | refine yn rfl ?_ | refine zw ?_ | refine zdt ?_ | refine zdf ?_ | refine znt ?_ | refine znf ?_ | refine zcd ?_ | refine zci ?_ | refine zc3 ?_) <;> (conv => whnf)))
  intro h1 lv err hs1 k1 hc
  have hrv := fun (K : V → Heap → Prop) hK => srev_at (K := K) hG hs1 hK
  have hfin := hK lv err h1 hs1 k1 hc
  have hsl : SlV 4 lv := by
    rcases hc with ⟨_, h, _⟩ | ⟨_, _, h, _⟩ | ⟨_, _, h, _⟩
    · exact .inl h
    · exact .inl h
    · exact h.sl
  clear hc hK
  rcases hsl with rfl | ⟨rows, rfl⟩
  all_goals
    ((conv => whnf); repeat ((first | refine SCall.app (hrv _) ?_ | refine yf rfl ?_ | refine yt rfl ?_ | refine yo rfl ?_ | refine yc rfl ?_ | refine ys rfl ?_ | refine ye rfl ?_ | refine yn rfl ?_ | refine zw ?_ | refine zdt ?_ | refine zdf ?_ | refine znt ?_ | refine znf ?_ | refine zcd ?_ | refine zci ?_ | refine zc3 ?_) <;> (conv => whnf)))
    rw [hk]
    exact hfin
end
end Go.Eng
