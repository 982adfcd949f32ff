/-
Arguments that are pods: bounded in bytes.
-/
import Derived.Test.YtcckglahpbmakaaGreatArgsK
import Derived.Test.YtcckglahpbmakaaGreatObA
set_option linter.unusedVariables false
set_option linter.unusedSimpArgs false
namespace Go.Eng
open Go
abbrev shTermV : List Sh := [.s, .i .i64, .sl [.s]]
abbrev shPodV : List Sh := [.s, .i .i64, .i .i64, .i .i64, .i .i64, .i .i64, .sl [.i .i64], .sl [.s, .s], .sl shTermV, .sl [.s, .s, .b], .s, .sl shTermV, .i .i64, .sl shTermV, .s, .i .i64]
theorem intM2 {v : V} (h : Sh.isM reachBytes (.i .i64) v) : ∃ n : Int, v = .i .i64 n ∧ n ≤ 9223372036854775807 := by
  simp only [Sh.isM] at h
  obtain ⟨n, rfl, _, h2⟩ := h
  exact ⟨n, rfl, by simpa [IntKind.max, IntKind.bits, IntKind.signed] using h2⟩
theorem rowM_int (e : List V) (h : Sh.isLM reachBytes [.i .i64] e) : ∃ x : Int, e = intR x ∧ True := by
  obtain ⟨v, q, rfl, h1, h⟩ := isLM_cons h
  obtain rfl := isLM_nil h
  obtain ⟨n, rfl⟩ := intM h1
  exact ⟨n, rfl, trivial⟩
theorem rowM_str (e : List V) (h : Sh.isLM reachBytes [.s] e) : ∃ x : Str, e = strR x ∧ x.length ≤ 9223372036854775807 := by
  obtain ⟨v, q, rfl, h1, h⟩ := isLM_cons h
  obtain rfl := isLM_nil h
  obtain ⟨n, rfl, hn⟩ := strM h1
  exact ⟨n, rfl, hn⟩
theorem rowM_pair (e : List V) (h : Sh.isLM reachBytes [.s, .s] e) : ∃ x : PairD, e = pairR x ∧ (x.key.length ≤ 9223372036854775807 ∧ x.val.length ≤ 9223372036854775807) := by
  obtain ⟨v, q, rfl, h1, h⟩ := isLM_cons h
  obtain ⟨u, q, rfl, h2, h⟩ := isLM_cons h
  obtain rfl := isLM_nil h
  obtain ⟨a, rfl, ha⟩ := strM h1
  obtain ⟨b, rfl, hb⟩ := strM h2
  exact ⟨⟨a, b⟩, rfl, ha, hb⟩
theorem rowM_tol (e : List V) (h : Sh.isLM reachBytes [.s, .s, .b] e) : ∃ x : TolD, e = tolR x ∧ (x.key.length ≤ 9223372036854775807 ∧ x.val.length ≤ 9223372036854775807) := by
  obtain ⟨v, q, rfl, h1, h⟩ := isLM_cons h
  obtain ⟨u, q, rfl, h2, h⟩ := isLM_cons h
  obtain ⟨w, q, rfl, h3, h⟩ := isLM_cons h
  obtain rfl := isLM_nil h
  obtain ⟨a, rfl, ha⟩ := strM h1
  obtain ⟨b, rfl, hb⟩ := strM h2
  obtain ⟨c, rfl⟩ := boolM h3
  exact ⟨⟨a, b, c⟩, rfl, ha, hb⟩
theorem rowM_term (e : List V) (h : Sh.isLM reachBytes shTermV e) : ∃ x : TermD, e = termR x ∧ TermLen x := by
  obtain ⟨v, q, rfl, h1, h⟩ := isLM_cons h
  obtain ⟨u, q, rfl, h2, h⟩ := isLM_cons h
  obtain ⟨w, q, rfl, h3, h⟩ := isLM_cons h
  obtain rfl := isLM_nil h
  obtain ⟨a, rfl, ha⟩ := strM h1
  obtain ⟨b, rfl⟩ := intM h2
  obtain ⟨c, rfl, hc, _, hd⟩ := is_slM rowM_str h3
  exact ⟨⟨a, b, c⟩, rfl, ha, hc, hd⟩
theorem rowM_pod (e : List V) (h : Sh.isLM reachBytes shPodV e) : ∃ x : PodD, e = podR x ∧ (PodLen x ∧ x.term ≤ 9223372036854775807) := by
  obtain ⟨v1, q, rfl, h1, h⟩ := isLM_cons h
  obtain ⟨v2, q, rfl, h2, h⟩ := isLM_cons h
  obtain ⟨v3, q, rfl, h3, h⟩ := isLM_cons h
  obtain ⟨v4, q, rfl, h4, h⟩ := isLM_cons h
  obtain ⟨v5, q, rfl, h5, h⟩ := isLM_cons h
  obtain ⟨v6, q, rfl, h6, h⟩ := isLM_cons h
  obtain ⟨v7, q, rfl, h7, h⟩ := isLM_cons h
  obtain ⟨v8, q, rfl, h8, h⟩ := isLM_cons h
  obtain ⟨v9, q, rfl, h9, h⟩ := isLM_cons h
  obtain ⟨v10, q, rfl, h10, h⟩ := isLM_cons h
  obtain ⟨v11, q, rfl, h11, h⟩ := isLM_cons h
  obtain ⟨v12, q, rfl, h12, h⟩ := isLM_cons h
  obtain ⟨v13, q, rfl, h13, h⟩ := isLM_cons h
  obtain ⟨v14, q, rfl, h14, h⟩ := isLM_cons h
  obtain ⟨v15, q, rfl, h15, h⟩ := isLM_cons h
  obtain ⟨v16, q, rfl, h16, h⟩ := isLM_cons h
  obtain rfl := isLM_nil h
  obtain ⟨name, rfl, hn⟩ := strM h1
  obtain ⟨uid, rfl⟩ := intM h2
  obtain ⟨prio, rfl⟩ := intM h3
  obtain ⟨a, rfl⟩ := intM h4
  obtain ⟨b, rfl⟩ := intM h5
  obtain ⟨c, rfl⟩ := intM h6
  obtain ⟨ports, rfl, hp, _, _⟩ := is_slM rowM_int h7
  obtain ⟨labels, rfl, hl, _, hl2⟩ := is_slM rowM_pair h8
  obtain ⟨sel, rfl, hs, _, hs2⟩ := is_slM rowM_term h9
  obtain ⟨tols, rfl, ht, _, ht2⟩ := is_slM rowM_tol h10
  obtain ⟨topo, rfl, ho⟩ := strM h11
  obtain ⟨anti, rfl, hA, _, hA2⟩ := is_slM rowM_term h12
  obtain ⟨skew, rfl⟩ := intM h13
  obtain ⟨even, rfl, hE, _, hE2⟩ := is_slM rowM_term h14
  obtain ⟨node, rfl, hN⟩ := strM h15
  obtain ⟨term, rfl, hT⟩ := intM2 h16
  exact ⟨⟨name, uid, prio, ⟨a, b, c⟩, ports, labels, sel, tols, topo, anti, skew, even, node, term⟩, rfl, ⟨hn, hp, hl, hl2, ⟨hs, hs2⟩, ht, ht2, ho, ⟨hA, hA2⟩, ⟨hE, hE2⟩, hN⟩, hT⟩
end Go.Eng
