/-
Rows of entries, compared.
-/
import Derived.Test.YtcckglahpbmakaaGreatCa2
set_option linter.unusedVariables false
set_option linter.unusedSimpArgs false
namespace Go.Eng
open Go
def strC (b : List Int) : List UInt8 := b.map fun n => UInt8.ofNat n.toNat
theorem bytes_mapC : ∀ b : List Int, bytesOf (b.map byR) = some (strC b)
  | [] => rfl
  | x :: r => by
    have h := bytes_mapC r
    show bytesOf ([V.i .u8 x] :: r.map byR) = _
    simp only [bytesOf, h]
    rfl
section
variable {P : Program} (hG : FnsOk P AF.fns.get)
include hG
theorem bytesS_at {h : Heap} (b : List Int) {K : V → Heap → Prop} (hK : K (.b true) h) : ACall P 108 [.sl none 1 (b.map byR), .sl none 1 (b.map byR)] h K := by
  have hbb := bytes_mapC b
  have ht : (strC b == strC b) = true := by simp
  refine fn_sp (hG _ AF.f108 rfl) rfl ?_
  ((conv => whnf); repeat ((first | refine SEx.of (hbb) ?_ | refine SEx.of (hbb) ?_ | refine yf rfl ?_ | refine yt rfl ?_ | refine yo rfl ?_ | refine yc rfl ?_ | refine ys rfl ?_ | refine ye rfl ?_ | refine yn rfl ?_ | refine zw ?_ | refine zdt ?_ | refine zdf ?_ | refine znt ?_ | refine znf ?_ | refine zcd ?_ | refine zci ?_ | refine zc3 ?_) <;> (conv => whnf)))
  rw [ht]
  exact hK
theorem eqEn_at {h : Heap} (e : EnD) {K : V → Heap → Prop} (hK : K (.b true) h) : ACall P 64 [.agg (enR e), .agg (enR e)] h K := by
  have hb := fun K => bytesS_at (K := K) hG (h := h) e.val
  refine fn_sp (hG _ AF.f64 rfl) rfl ?_
  ((conv => whnf); repeat ((first | refine SCall.app (hb _) ?_ | refine SIf.tt (by simp; done) ?_ | refine yf rfl ?_ | refine yt rfl ?_ | refine yo rfl ?_ | refine yc rfl ?_ | refine ys rfl ?_ | refine ye rfl ?_ | refine yn rfl ?_ | refine zw ?_ | refine zdt ?_ | refine zdf ?_ | refine znt ?_ | refine znf ?_ | refine zcd ?_ | refine zci ?_ | refine zc3 ?_) <;> (conv => whnf)))
  exact hK
theorem eqEns_at {h : Heap} {lv lw : V} {L : List EnD} (h1 : EnsV lv L) (h2 : EnsV lw L) (hn : L.length ≤ 100000) {K : V → Heap → Prop} (hK : K (.b true) h) : ACall P 20 [lv, lw] h K := by
  by_cases hL : L = []
  · subst hL
    refine fn_sv (hG _ AF.f20 rfl) rfl ?_
    rcases h1 with ⟨rfl, _⟩ | rfl <;> rcases h2 with ⟨rfl, _⟩ | rfl
    all_goals
      ((conv => whnf); repeat ((first | refine SLoopV.un rfl ?_ | refine yf rfl ?_ | refine yt rfl ?_ | refine yo rfl ?_ | refine yc rfl ?_ | refine ys rfl ?_ | refine ye rfl ?_ | refine yn rfl ?_ | refine zw ?_ | refine zdt ?_ | refine zdf ?_ | refine znt ?_ | refine znf ?_ | refine zcd ?_ | refine zci ?_ | refine zc3 ?_) <;> (conv => whnf)))
      exact hK
  · have e1 : lv = .sl none 3 (L.map enR) := by rcases h1 with ⟨_, h⟩ | h; exact absurd h hL; exact h
    have e2 : lw = .sl none 3 (L.map enR) := by rcases h2 with ⟨_, h⟩ | h; exact absurd h hL; exact h
    subst e1 e2
    have hlm : (L.map enR).length = L.length := List.length_map _
    refine fn_sv (hG _ AF.f20 rfl) rfl ?_
    ((conv => whnf); repeat ((first | refine yf rfl ?_ | refine yt rfl ?_ | refine yo rfl ?_ | refine yc rfl ?_ | refine ys rfl ?_ | refine ye rfl ?_ | refine yn rfl ?_ | refine zw ?_ | refine zdt ?_ | refine zdf ?_ | refine znt ?_ | refine znf ?_ | refine zcd ?_ | refine zci ?_ | refine zc3 ?_) <;> (conv => whnf)))
    refine SLoopV.by (fun q fr st => ∃ (i : Nat) (lo : Heap), i ≤ L.length ∧ q = L.length - i ∧ Fr.le [(13, .i .i64 i), (12, .i .i64 (L.map enR).length), (1, .sl none 3 (L.map enR)), (0, .sl none 3 (L.map enR))] fr ∧ st = ⟨h, lo⟩)
      L.length ⟨0, _, Nat.zero_le _, rfl, (by repeat (first | exact Fr.le_nil | refine Fr.le_cons rfl ?_)), rfl⟩ ?_
    rintro q fr st ⟨i, lo, hi, rfl, hle0, rfl⟩
    refine ⟨_, hle0, fun R hR => ?_⟩
    by_cases hin : i < L.length
    · have he := List.getElem?_eq_getElem hin
      generalize L[i] = e at he
      have hb := fun K => eqEn_at (K := K) hG (h := h) e
      ((conv => whnf); repeat ((first | refine SIf.dt (by omega) ?_ | refine SChk.ix (by omega) (by omega) ?_ | refine SCall.app (hb _) ?_ | refine SWrap.w64 (by omega) (by omega) ?_ | refine SEx.of (map_get' (by omega) he) ?_ | refine yf rfl ?_ | refine yt rfl ?_ | refine yo rfl ?_ | refine yc rfl ?_ | refine ys rfl ?_ | refine ye rfl ?_ | refine yn rfl ?_ | refine zw ?_ | refine zdt ?_ | refine zdf ?_ | refine znt ?_ | refine znf ?_ | refine zcd ?_ | refine zci ?_ | refine zc3 ?_) <;> (conv => whnf)))
      exact hR (L.length - (i + 1)) _ _ (by omega) ⟨i + 1, _, by omega, rfl, (by repeat (first | exact Fr.le_nil | refine Fr.le_cons rfl ?_)), rfl⟩
    · ((conv => whnf); repeat ((first | refine SIf.df (by omega) ?_ | refine yf rfl ?_ | refine yt rfl ?_ | refine yo rfl ?_ | refine yc rfl ?_ | refine ys rfl ?_ | refine ye rfl ?_ | refine yn rfl ?_ | refine zw ?_ | refine zdt ?_ | refine zdf ?_ | refine znt ?_ | refine znf ?_ | refine zcd ?_ | refine zci ?_ | refine zc3 ?_) <;> (conv => whnf)))
      exact hK
end
end Go.Eng
