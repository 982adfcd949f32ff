/-
Arguments that are rows of rows of integers.
-/
import Derived.Test.YtaddlnjgamlleaaGreatArgs1
import Derived.Test.YtaddlnjgamlleaaGreatLaw8
namespace Go.Eng
open Go
theorem arg_intss {v : V} (h : ArgSh.Is (false, [.sl [.sl [.i .i64]]]) v) : ∃ n ln f, v = .sl none 1 (arrR n ln f) ∧ n ≤ 9223372036854775807 ∧ ∀ j, j < n → ln j ≤ 9223372036854775807 := by
  obtain ⟨es, rfl, h1, h2⟩ := arg_sl h
  have hx : ∀ j, j < es.length → ∃ q : Nat × (Nat → Int), es[j]? = some [V.sl none 1 (arrI q.1 q.2)] ∧ q.1 ≤ 9223372036854775807 := fun j hj => by
    obtain ⟨v, e1, e2⟩ := isL_one (h2 es[j] (List.getElem_mem hj))
    obtain ⟨n, f, rfl, hn, _⟩ := arg_ints (v := v) (by simpa [ArgSh.Is, Sh.isL] using e2)
    exact ⟨(n, f), by rw [List.getElem?_eq_getElem hj, e1], hn⟩
  obtain ⟨f, hf⟩ := Go.Deep.choose_lt hx
  refine ⟨es.length, fun j => (f j).1, fun j => (f j).2, ?_, h1, fun j hj => (hf j hj).2⟩
  congr 1
  apply List.ext_getElem?
  intro j
  by_cases hj : j < es.length
  · rw [(hf j hj).1, arrR_get rfl hj]
  · rw [List.getElem?_eq_none (by omega), List.getElem?_eq_none (by rw [arrR_len]; omega)]
end Go.Eng
