/-
Arguments that are pods, nodes, states, by their shapes.
-/
import Derived.Test.YtllgfkpmblhbmaaGreatArgX
import Derived.Test.YtllgfkpmblhbmaaGreatFit10q
namespace Go.Eng
open Go
theorem rows_of {α : Type} {R : α → List V} {sh : List Sh} {ok : α → Prop} (h : ∀ e, Sh.isL sh e → ∃ x, e = R x ∧ ok x) : ∀ {es : List (List V)}, (∀ e ∈ es, Sh.isL sh e) → ∃ l : List α, es = l.map R ∧ ∀ x ∈ l, ok x
  | [], _ => ⟨[], rfl, fun _ h => by cases h⟩
  | e :: r, he => by
    obtain ⟨x, rfl, hx⟩ := h e (he e (.head _))
    obtain ⟨l, rfl, hl⟩ := rows_of h fun e h => he e (.tail _ h)
    exact ⟨x :: l, rfl, fun y hy => by
      cases hy with
      | head => exact hx
      | tail _ hy => exact hl y hy⟩
theorem isL_cons {a : Sh} {r : List Sh} {e : List V} (h : Sh.isL (a :: r) e) : ∃ v q, e = v :: q ∧ a.is v ∧ Sh.isL r q := by
  cases e with
  | nil => simp [Sh.isL] at h
  | cons v q => exact ⟨v, q, rfl, by simpa [Sh.isL] using h⟩
theorem isL_nil {e : List V} (h : Sh.isL [] e) : e = [] := by
  cases e with
  | nil => rfl
  | cons v q => simp [Sh.isL] at h
theorem is_s {v : V} (h : Sh.is .s v) : ∃ l : Str, v = .s l ∧ LenOk l := by
  simp only [Sh.is] at h
  obtain ⟨l, rfl, hl⟩ := h
  exact ⟨l, rfl, hl⟩
theorem is_b {v : V} (h : Sh.is .b v) : ∃ b : Bool, v = .b b := by
  simpa only [Sh.is] using h
theorem is_i {v : V} (h : Sh.is (.i .i64) v) : ∃ n : Int, v = .i .i64 n ∧ in64 n := by
  simp only [Sh.is] at h
  obtain ⟨n, rfl, h1, h2⟩ := h
  exact ⟨n, rfl, by simpa [IntKind.min, IntKind.bits, IntKind.signed] using h1, by simpa [IntKind.max, IntKind.bits, IntKind.signed] using h2⟩
theorem is_sl {α : Type} {R : α → List V} {sh : List Sh} {ok : α → Prop} (h : ∀ e, Sh.isL sh e → ∃ x, e = R x ∧ ok x) {v : V} (hv : Sh.is (.sl sh) v) : ∃ l : List α, v = .sl none sh.length (l.map R) ∧ LenOk l ∧ ∀ x ∈ l, ok x := by
  simp only [Sh.is] at hv
  obtain ⟨es, rfl, h1, h2⟩ := hv
  obtain ⟨l, rfl, h3⟩ := rows_of h h2
  exact ⟨l, rfl, by simpa [LenOk] using h1, h3⟩
theorem row_str (e : List V) (h : Sh.isL [.s] e) : ∃ x : Str, e = strR x ∧ LenOk x := by
  obtain ⟨v, q, rfl, h1, h⟩ := isL_cons h
  obtain rfl := isL_nil h
  obtain ⟨l, rfl, hl⟩ := is_s h1
  exact ⟨l, rfl, hl⟩
theorem row_int (e : List V) (h : Sh.isL [.i .i64] e) : ∃ x : Int, e = intR x ∧ in64 x := by
  obtain ⟨v, q, rfl, h1, h⟩ := isL_cons h
  obtain rfl := isL_nil h
  obtain ⟨n, rfl, hn⟩ := is_i h1
  exact ⟨n, rfl, hn⟩
theorem row_pair (e : List V) (h : Sh.isL [.s, .s] e) : ∃ x : PairD, e = pairR x ∧ x.sok := by
  obtain ⟨v, q, rfl, h1, h⟩ := isL_cons h
  obtain ⟨u, q, rfl, h2, h⟩ := isL_cons h
  obtain rfl := isL_nil h
  obtain ⟨a, rfl, ha⟩ := is_s h1
  obtain ⟨b, rfl, hb⟩ := is_s h2
  exact ⟨⟨a, b⟩, rfl, ha, hb⟩
abbrev shTerm : List Sh := [.s, .i .i64, .sl [.s]]
theorem row_term (e : List V) (h : Sh.isL shTerm e) : ∃ x : TermD, e = termR x ∧ x.ok ∧ x.sok := by
  obtain ⟨v, q, rfl, h1, h⟩ := isL_cons h
  obtain ⟨u, q, rfl, h2, h⟩ := isL_cons h
  obtain ⟨w, q, rfl, h3, h⟩ := isL_cons h
  obtain rfl := isL_nil h
  obtain ⟨a, rfl, ha⟩ := is_s h1
  obtain ⟨b, rfl, _⟩ := is_i h2
  obtain ⟨c, rfl, hc, hs⟩ := is_sl row_str h3
  exact ⟨⟨a, b, c⟩, rfl, hc, ha, hs⟩
theorem row_tol (e : List V) (h : Sh.isL [.s, .s, .b] e) : ∃ x : TolD, e = tolR x ∧ x.sok := by
  obtain ⟨v, q, rfl, h1, h⟩ := isL_cons h
  obtain ⟨u, q, rfl, h2, h⟩ := isL_cons h
  obtain ⟨w, q, rfl, h3, h⟩ := isL_cons h
  obtain rfl := isL_nil h
  obtain ⟨a, rfl, ha⟩ := is_s h1
  obtain ⟨b, rfl, hb⟩ := is_s h2
  obtain ⟨c, rfl⟩ := is_b h3
  exact ⟨⟨a, b, c⟩, rfl, ha, hb⟩
abbrev shNode : List Sh := [.s, .i .i64, .i .i64, .i .i64, .sl [.s, .s], .sl [.s, .s]]
structure NodeD.fit (n : NodeD) : Prop extends toOk : n.ok where
  cap : n.cap.ok
theorem row_node (e : List V) (h : Sh.isL shNode e) : ∃ x : NodeD, e = nodeR x ∧ x.fit ∧ x.sok := by
  obtain ⟨v1, q, rfl, h1, h⟩ := isL_cons h
  obtain ⟨v2, q, rfl, h2, h⟩ := isL_cons h
  obtain ⟨v3, q, rfl, h3, h⟩ := isL_cons h
  obtain ⟨v4, q, rfl, h4, h⟩ := isL_cons h
  obtain ⟨v5, q, rfl, h5, h⟩ := isL_cons h
  obtain ⟨v6, q, rfl, h6, h⟩ := isL_cons h
  obtain rfl := isL_nil h
  obtain ⟨a, rfl, ha⟩ := is_s h1
  obtain ⟨c1, rfl, k1⟩ := is_i h2
  obtain ⟨c2, rfl, k2⟩ := is_i h3
  obtain ⟨c3, rfl, k3⟩ := is_i h4
  obtain ⟨l1, rfl, k4, s4⟩ := is_sl row_pair h5
  obtain ⟨l2, rfl, k5, s5⟩ := is_sl row_pair h6
  exact ⟨⟨a, ⟨c1, c2, c3⟩, l1, l2⟩, rfl, ⟨⟨k4, k5⟩, k1, k2, k3⟩, ha, s4, s5⟩
abbrev shPod : List Sh := [.s, .i .i64, .i .i64, .i .i64, .i .i64, .i .i64, .sl [.i .i64], .sl [.s, .s], .sl shTerm, .sl [.s, .s, .b], .s, .sl shTerm, .i .i64, .sl shTerm, .s, .i .i64]
theorem row_pod (e : List V) (h : Sh.isL shPod e) : ∃ x : PodD, e = podR x ∧ x.fit ∧ x.sok := by
  obtain ⟨v1, q, rfl, h1, h⟩ := isL_cons h
  obtain ⟨v2, q, rfl, h2, h⟩ := isL_cons h
  obtain ⟨v3, q, rfl, h3, h⟩ := isL_cons h
  obtain ⟨v4, q, rfl, h4, h⟩ := isL_cons h
  obtain ⟨v5, q, rfl, h5, h⟩ := isL_cons h
  obtain ⟨v6, q, rfl, h6, h⟩ := isL_cons h
  obtain ⟨v7, q, rfl, h7, h⟩ := isL_cons h
  obtain ⟨v8, q, rfl, h8, h⟩ := isL_cons h
  obtain ⟨v9, q, rfl, h9, h⟩ := isL_cons h
  obtain ⟨v10, q, rfl, h10, h⟩ := isL_cons h
  obtain ⟨v11, q, rfl, h11, h⟩ := isL_cons h
  obtain ⟨v12, q, rfl, h12, h⟩ := isL_cons h
  obtain ⟨v13, q, rfl, h13, h⟩ := isL_cons h
  obtain ⟨v14, q, rfl, h14, h⟩ := isL_cons h
  obtain ⟨v15, q, rfl, h15, h⟩ := isL_cons h
  obtain ⟨v16, q, rfl, h16, h⟩ := isL_cons h
  obtain rfl := isL_nil h
  obtain ⟨a1, rfl, s1⟩ := is_s h1
  obtain ⟨a2, rfl, _⟩ := is_i h2
  obtain ⟨a3, rfl, _⟩ := is_i h3
  obtain ⟨a4, rfl, k4⟩ := is_i h4
  obtain ⟨a5, rfl, k5⟩ := is_i h5
  obtain ⟨a6, rfl, k6⟩ := is_i h6
  obtain ⟨a7, rfl, k7, _⟩ := is_sl row_int h7
  obtain ⟨a8, rfl, k8, s8⟩ := is_sl row_pair h8
  obtain ⟨a9, rfl, k9, m9⟩ := is_sl row_term h9
  obtain ⟨a10, rfl, k10, s10⟩ := is_sl row_tol h10
  obtain ⟨a11, rfl, s11⟩ := is_s h11
  obtain ⟨a12, rfl, k12, m12⟩ := is_sl row_term h12
  obtain ⟨a13, rfl, _⟩ := is_i h13
  obtain ⟨a14, rfl, k14, m14⟩ := is_sl row_term h14
  obtain ⟨a15, rfl, s15⟩ := is_s h15
  obtain ⟨a16, rfl, _⟩ := is_i h16
  exact ⟨⟨a1, a2, a3, ⟨a4, a5, a6⟩, a7, a8, a9, a10, a11, a12, a13, a14, a15, a16⟩, rfl, ⟨⟨k7, k8, k10, ⟨k9, fun x h => (m9 x h).1⟩, ⟨k12, fun x h => (m12 x h).1⟩, ⟨k14, fun x h => (m14 x h).1⟩⟩, k4, k5, k6⟩, ⟨s1, s11, s15, s8, fun x h => (m9 x h).2, s10, fun x h => (m12 x h).2, fun x h => (m14 x h).2⟩⟩
theorem arg_intl {v : V} (h : ArgSh.Is (false, [.sl [.i .i64]]) v) : ∃ l : List Int, v = .sl none 1 (l.map intR) ∧ LenOk l := by
  obtain ⟨l, h1, h2, _⟩ := is_sl row_int (show Sh.is (.sl [.i .i64]) v by simpa [ArgSh.Is, Sh.isL] using h)
  exact ⟨l, h1, h2⟩
theorem arg_strs {v : V} (h : ArgSh.Is (false, [.sl [.s]]) v) : ∃ l : List Str, v = .sl none 1 (l.map strR) ∧ LenOk l := by
  obtain ⟨l, h1, h2, _⟩ := is_sl row_str (show Sh.is (.sl [.s]) v by simpa [ArgSh.Is, Sh.isL] using h)
  exact ⟨l, h1, h2⟩
theorem arg_str {v : V} (h : ArgSh.Is (false, [.s]) v) : ∃ l : Str, v = .s l ∧ LenOk l := is_s (by simpa [ArgSh.Is, Sh.isL] using h)
theorem arg_bool {v : V} (h : ArgSh.Is (false, [.b]) v) : ∃ b : Bool, v = .b b := is_b (by simpa [ArgSh.Is, Sh.isL] using h)
theorem arg_terms {v : V} (h : ArgSh.Is (false, [.sl shTerm]) v) : ∃ l : List TermD, v = .sl none 3 (l.map termR) ∧ TermsOk l := by
  obtain ⟨l, h1, h2, h3⟩ := is_sl row_term (show Sh.is (.sl shTerm) v by simpa [ArgSh.Is, Sh.isL] using h)
  exact ⟨l, h1, h2, fun x h => (h3 x h).1⟩
theorem arg_pod {v : V} (h : ArgSh.Is (true, shPod) v) : ∃ p : PodD, v = .agg (podR p) ∧ p.fit ∧ p.sok := by
  obtain ⟨row, rfl, h⟩ := h
  obtain ⟨p, rfl, hp⟩ := row_pod row h
  exact ⟨p, rfl, hp⟩
theorem arg_node {v : V} (h : ArgSh.Is (true, shNode) v) : ∃ n : NodeD, v = .agg (nodeR n) ∧ n.fit ∧ n.sok := by
  obtain ⟨row, rfl, h⟩ := h
  obtain ⟨p, rfl, hp⟩ := row_node row h
  exact ⟨p, rfl, hp⟩
/-- A state that was handed in. -/
structure StD.arg (s : StD) : Prop where
  nodes : LenOk s.nodes
  pods : LenOk s.pods
  node : ∀ n ∈ s.nodes, n.fit ∧ n.sok
  pod : ∀ p ∈ s.pods, p.fit ∧ p.sok
theorem arg_state {v : V} (h : ArgSh.Is (true, [.sl shNode, .sl shPod]) v) : ∃ s : StD, v = stV s ∧ s.arg := by
  obtain ⟨row, rfl, h⟩ := h
  obtain ⟨v1, q, rfl, h1, h⟩ := isL_cons h
  obtain ⟨v2, q, rfl, h2, h⟩ := isL_cons h
  obtain rfl := isL_nil h
  obtain ⟨a1, rfl, k1, m1⟩ := is_sl row_node h1
  obtain ⟨a2, rfl, k2, m2⟩ := is_sl row_pod h2
  exact ⟨⟨a1, a2⟩, rfl, k1, k2, m1, m2⟩
end Go.Eng
