/-
Arguments that are rows of bytes.
-/
import Derived.Test.YtjoaahnmbonboaaGreatArgs1
import Derived.Test.YtjoaahnmbonboaaGreatCOwn
namespace Go.Eng
open Go
theorem arg_bytes {v : V} (h : ArgSh.Is (false, [.sl [.i .u8]]) v) : ∃ l, v = .sl none 1 (bytesR l) := by
  obtain ⟨es, rfl, _, h2⟩ := arg_sl h
  have hx : ∀ j, j < es.length → ∃ n : Int, es[j]? = some [V.i .u8 n] := fun j hj => by
    obtain ⟨v, e1, e2⟩ := isL_one (h2 es[j] (List.getElem_mem hj))
    simp only [Sh.is] at e2
    obtain ⟨n, rfl, _⟩ := e2
    exact ⟨n, by rw [List.getElem?_eq_getElem hj, e1]⟩
  obtain ⟨f, hf⟩ := Go.Deep.choose_lt hx
  refine ⟨(List.range es.length).map f, ?_⟩
  congr 1
  apply List.ext_getElem?
  intro j
  by_cases hj : j < es.length
  · rw [hf j hj]
    simp [bytesR, hj]
  · rw [List.getElem?_eq_none (by omega), List.getElem?_eq_none (by simp [bytesR]; omega)]
end Go.Eng
