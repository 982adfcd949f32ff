/-
Arguments that are steps of taking for done: bounded in bytes.
-/
import Derived.Test.YtcckglahpbmakaaGreatArgsV
import Derived.Test.YtcckglahpbmakaaGreatAs13
set_option linter.unusedVariables false
set_option linter.unusedSimpArgs false
namespace Go.Eng
open Go
abbrev shAop : List Sh := [.i .i64, .s, .s, .sl [.s], .i .i64, .i .i64, .i .i64, .sl shPodV]
theorem rowM_aop (e : List V) (h : Sh.isLM reachBytes shAop e) : ∃ x : OpA, e = opR x ∧ OpOk x := by
  obtain ⟨v1, q, rfl, h1, h⟩ := isLM_cons h
  obtain ⟨v2, q, rfl, h2, h⟩ := isLM_cons h
  obtain ⟨v3, q, rfl, h3, h⟩ := isLM_cons h
  obtain ⟨v4, q, rfl, h4, h⟩ := isLM_cons h
  obtain ⟨v5, q, rfl, h5, h⟩ := isLM_cons h
  obtain ⟨v6, q, rfl, h6, h⟩ := isLM_cons h
  obtain ⟨v7, q, rfl, h7, h⟩ := isLM_cons h
  obtain ⟨v8, q, rfl, h8, h⟩ := isLM_cons h
  obtain rfl := isLM_nil h
  obtain ⟨kind, rfl⟩ := intM h1
  obtain ⟨pod, rfl, hp⟩ := strM h2
  obtain ⟨node, rfl, _⟩ := strM h3
  obtain ⟨vic, rfl, hv, _, _⟩ := is_slM rowM_str h4
  obtain ⟨uid, rfl⟩ := intM h5
  obtain ⟨term, rfl⟩ := intM h6
  obtain ⟨until_, rfl⟩ := intM h7
  obtain ⟨pods, rfl, hl, _, hx⟩ := is_slM rowM_pod h8
  exact ⟨⟨kind, ⟨pod, node, vic, uid, term, until_⟩, pods⟩, rfl, ⟨hp, hv, hl, hx⟩⟩
theorem arg_aopsM {v : V} (h : ArgSh.IsM reachBytes (false, [.sl shAop]) v) : ∃ l : List OpA, v = .sl none 8 (l.map opR) ∧ ∀ e ∈ l, OpOk e := by
  obtain ⟨w, q, e1, h1, h2⟩ := isLM_cons h
  cases e1
  obtain ⟨l, rfl, _, _, h4⟩ := is_slM rowM_aop h1
  exact ⟨l, rfl, h4⟩
end Go.Eng
