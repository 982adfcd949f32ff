/-
Arguments that are steps of a store and of one who comes to know it: bounded in bytes.
-/
import Derived.Test.YtcckglahpbmakaaGreatArgsK
import Derived.Test.YtcckglahpbmakaaGreatRe1
set_option linter.unusedVariables false
set_option linter.unusedSimpArgs false
namespace Go.Eng
open Go
abbrev shRop : List Sh := [.i .i64, .sl [.s, .i .i64, .b], .sl [.s, .sl [.i .u8], .b], .i .i64, .i .i64, .b, .b]
theorem rowM_gu (e : List V) (h : Sh.isLM reachBytes [.s, .i .i64, .b] e) : ∃ x : GuD, e = guR x ∧ True := by
  obtain ⟨v1, q, rfl, h1, h⟩ := isLM_cons h
  obtain ⟨v2, q, rfl, h2, h⟩ := isLM_cons h
  obtain ⟨v3, q, rfl, h3, h⟩ := isLM_cons h
  obtain rfl := isLM_nil h
  obtain ⟨a, rfl, _⟩ := strM h1
  obtain ⟨b, rfl⟩ := intM h2
  obtain ⟨c, rfl⟩ := boolM h3
  exact ⟨⟨a, b, c⟩, rfl, trivial⟩
theorem rowM_wr (e : List V) (h : Sh.isLM reachBytes [.s, .sl [.i .u8], .b] e) : ∃ x : WrD, e = wrR x ∧ WrOk x := by
  obtain ⟨v1, q, rfl, h1, h⟩ := isLM_cons h
  obtain ⟨v2, q, rfl, h2, h⟩ := isLM_cons h
  obtain ⟨v3, q, rfl, h3, h⟩ := isLM_cons h
  obtain rfl := isLM_nil h
  obtain ⟨a, rfl, ha⟩ := strM h1
  obtain ⟨b, rfl, hb⟩ := valM h2
  obtain ⟨c, rfl⟩ := boolM h3
  exact ⟨⟨a, b, c⟩, rfl, ha, by show b.length ≤ _; omega⟩
theorem rowM_rop (e : List V) (h : Sh.isLM reachBytes shRop e) : ∃ x : OpT, e = opT x ∧ OpTOk x := by
  obtain ⟨v1, q, rfl, h1, h⟩ := isLM_cons h
  obtain ⟨v2, q, rfl, h2, h⟩ := isLM_cons h
  obtain ⟨v3, q, rfl, h3, h⟩ := isLM_cons h
  obtain ⟨v4, q, rfl, h4, h⟩ := isLM_cons h
  obtain ⟨v5, q, rfl, h5, h⟩ := isLM_cons h
  obtain ⟨v6, q, rfl, h6, h⟩ := isLM_cons h
  obtain ⟨v7, q, rfl, h7, h⟩ := isLM_cons h
  obtain rfl := isLM_nil h
  obtain ⟨kind, rfl⟩ := intM h1
  obtain ⟨gs, rfl, _, _, _⟩ := is_slM rowM_gu h2
  obtain ⟨ws, rfl, hl, _, hw⟩ := is_slM rowM_wr h3
  obtain ⟨rev, rfl⟩ := intM h4
  obtain ⟨now, rfl⟩ := intM h5
  obtain ⟨lost, rfl⟩ := boolM h6
  obtain ⟨late, rfl⟩ := boolM h7
  exact ⟨⟨kind, gs, ws, rev, now, lost, late⟩, rfl, ⟨hl, hw⟩⟩
theorem arg_ropsM {v : V} (h : ArgSh.IsM reachBytes (false, [.sl shRop]) v) : ∃ l : List OpT, v = .sl none 7 (l.map opT) ∧ ∀ e ∈ l, OpTOk e := by
  obtain ⟨w, q, e1, h1, h2⟩ := isLM_cons h
  cases e1
  obtain ⟨l, rfl, _, _, h4⟩ := is_slM rowM_rop h1
  exact ⟨l, rfl, h4⟩
end Go.Eng
