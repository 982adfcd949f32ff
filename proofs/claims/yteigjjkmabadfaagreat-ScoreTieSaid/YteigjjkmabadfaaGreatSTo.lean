/-
ScoreTie, as the abstract run has it.
-/
import Derived.Test.YteigjjkmabadfaaGreatSc4p
import Derived.Test.YteigjjkmabadfaaGreatFit10p
namespace Go.Eng
open Go
theorem nd_refl : ∀ l : List V, NdL l l
  | [] => .nil
  | _ :: r => .cons (.refl _) (nd_refl r)
theorem ndLL_refl : ∀ l : List (List V), NdLL l l
  | [] => .nil
  | x :: r => .cons (nd_refl x) (ndLL_refl r)
theorem ndLL_append : ∀ {l q l' q' : List (List V)}, NdLL l q → NdLL l' q' → NdLL (l ++ l') (q ++ q')
  | [], _, _, _, .nil, h => h
  | _ :: _, _, _, _, .cons h t, h' => .cons h (ndLL_append t h')
/-- A node's row, its lists not made yet. -/
abbrev rawR (nm : Str) (cap : ResD) : List V := [.s nm, .i .i64 cap.a, .i .i64 cap.b, .i .i64 cap.c, .nils, .nils]
theorem nd_raw (nm : Str) (cap : ResD) : NdLL [rawR nm cap] [nodeR ⟨nm, cap, [], []⟩] :=
  .cons (.cons (.refl _) (.cons (.refl _) (.cons (.refl _) (.cons (.refl _) (.cons (.nil 2) (.cons (.nil 2) .nil)))))) .nil
theorem nd_tie (A B : List NodeD) (nm : Str) (cap : ResD) : NdLL (A.map nodeR ++ [rawR nm cap] ++ B.map nodeR) ((A ++ [(⟨nm, cap, [], []⟩ : NodeD)] ++ B).map nodeR) := by
  rw [List.map_append, List.map_append]
  exact ndLL_append (ndLL_append (ndLL_refl _) (nd_raw nm cap)) (ndLL_refl _)
theorem nd_tieA (A : List NodeD) (nm : Str) (cap : ResD) : NdLL (A.map nodeR ++ [rawR nm cap]) ((A ++ [(⟨nm, cap, [], []⟩ : NodeD)] ++ []).map nodeR) := by
  rw [List.append_nil, List.map_append]
  exact ndLL_append (ndLL_refl _) (nd_raw nm cap)
theorem Pure.str {P : Program} {f : Nat} {args : List V} {φ : Str → Prop} (h0 : Pure P f args (fun u => ∃ t : Str, u = .s t ∧ φ t)) (ha : args.all V.free1 = true) {h : Heap} {K : V → Heap → Prop} (hK : ∀ t, φ t → K (.s t) h) : ACall P f args h K :=
  h0.use (all_free ha) fun _ _ ⟨t, hu, ht⟩ => hu ▸ hK t ht
theorem bestGo_tie {s : StD} {p : PodD} {pack : Bool} {X : Int} {a : Str} : ∀ {L : List Str}, (∀ x ∈ L, scoreD s p x pack = X) → bestGo s p pack L X a = (X, a)
  | [], _ => rfl
  | n :: r, h => by
    rw [bestGo, h n (.head _), if_neg (by omega)]
    exact bestGo_tie fun x hx => h x (.tail _ hx)
/-- Nodes alike but for their names, in order. -/
structure TieOf (cap : ResD) (ns : List NodeD) : Prop where
  len : ns.length ≤ 6
  so : ns.Pairwise fun a b => lessS a.name b.name
  form : ∀ n ∈ ns, n = ⟨n.name, cap, [], []⟩
  ne : ∀ n ∈ ns, n.name ≠ []
def headD (ns : List NodeD) : Str :=
  match ns with
  | [] => []
  | n :: _ => n.name
def tieP (need : ResD) : PodD := ⟨[112], 1, 0, need, [], [], [], [], [], [], 0, [], [], 0⟩
def canD (need cap : ResD) : Bool := fitsD need cap && decide ((0 ≤ need.a ∧ need.a ≤ 4611686018427387904) ∧ (0 ≤ need.b ∧ need.b ≤ 4611686018427387904) ∧ 0 ≤ need.c ∧ need.c ≤ 4611686018427387904)
theorem find_tie {l : List NodeD} (h : l.Pairwise fun a b => lessS a.name b.name) {e : NodeD} (he : e ∈ l) : l.find? (fun n => n.name == e.name) = some e := by
  induction l with
  | nil => cases he
  | cons x r ih =>
    rw [List.pairwise_cons] at h
    rw [List.find?_cons]
    cases he with
    | head => simp
    | tail _ he =>
      have hl := h.1 e he
      have : (x.name == e.name) = false := by
        refine beq_false_of_ne fun e2 => ?_
        rw [e2, lessS, less_irr] at hl
        cases hl
      rw [this]
      exact ih h.2 he
theorem tie_feas {cap need : ResD} {ns : List NodeD} (h : TieOf cap ns) {n : NodeD} (hn : n ∈ ns) : feasD ⟨ns, []⟩ (tieP need) n.name = canD need cap := by
  have hf : (StD.nodes ⟨ns, []⟩).find? (fun m => m.name == n.name) = some n := find_tie h.so hn
  have hfm := h.form n hn
  unfold feasD
  rw [hf]
  dsimp only
  have hroom : roomD ⟨ns, []⟩ (tieP need) n = canD need cap := by
    have hu : usedD ⟨ns, []⟩ n.name = some ⟨0, 0, 0⟩ := rfl
    have hcap : n.cap = cap := by rw [hfm]
    unfold roomD
    rw [hu]
    dsimp only
    by_cases hc : (0 ≤ need.a ∧ need.a ≤ 4611686018427387904) ∧ (0 ≤ need.b ∧ need.b ≤ 4611686018427387904) ∧ 0 ≤ need.c ∧ need.c ≤ 4611686018427387904
    · have ha : addD ⟨0, 0, 0⟩ (tieP need).req = some need := by
        have : (tieP need).req = need := rfl
        rw [this, addD_t (by dsimp only; omega)]
        simp
      rw [ha, canD, decide_eq_true hc, Bool.and_true, hcap]
    · have ha : addD ⟨0, 0, 0⟩ (tieP need).req = none := by
        have : (tieP need).req = need := rfl
        rw [this]
        exact addD_f (by dsimp only; omega)
      rw [ha, canD, decide_eq_false hc, Bool.and_false]
  have hb : borneD (tieP need) n = true := by
    rw [borneD, hfm]
    rfl
  unfold eachD
  rw [hroom, hb]
  have e1 : portsD ⟨ns, []⟩ (tieP need) n = true := rfl
  have e2 : wantsD (tieP need) n = true := rfl
  have e3 : apartD ⟨ns, []⟩ (tieP need) n.name = true := rfl
  have e4 : evenD ⟨ns, []⟩ (tieP need) n.name = true := rfl
  rw [e1, e2, e3, e4]
  cases canD need cap <;> rfl
theorem tie_best {cap need : ResD} {ns : List NodeD} (pack : Bool) (h : TieOf cap ns) :
    decide ((bestD ⟨ns, []⟩ (tieP need) pack).1 ≥ 0) = (canD need cap && !(headD ns == [])) ∧ (0 ≤ (bestD ⟨ns, []⟩ (tieP need) pack).1 → (bestD ⟨ns, []⟩ (tieP need) pack).2 = headD ns) := by
  cases hc : canD need cap
  · have hw : whereD ⟨ns, []⟩ (tieP need) = [] := by
      unfold whereD
      rw [List.filter_eq_nil_iff.2 fun n hn => by rw [tie_feas h hn, hc]; decide]
      rfl
    have hb : bestD ⟨ns, []⟩ (tieP need) pack = (-1, []) := by rw [bestD, hw]; rfl
    rw [hb]
    exact ⟨rfl, fun h => absurd h (by decide)⟩
  · have hw : whereD ⟨ns, []⟩ (tieP need) = ns.map (·.name) := by
      unfold whereD
      rw [List.filter_eq_self.2 fun n hn => by rw [tie_feas h hn, hc]]
    cases ns with
    | nil =>
      have hb : bestD ⟨[], []⟩ (tieP need) pack = (-1, []) := rfl
      rw [hb]
      exact ⟨rfl, fun h => absurd h (by decide)⟩
    | cons n r =>
      have hsame : ∀ m ∈ n :: r, scoreD ⟨n :: r, []⟩ (tieP need) m.name pack = scoreD ⟨n :: r, []⟩ (tieP need) n.name pack := by
        have key : ∀ m ∈ n :: r, scoreD ⟨n :: r, []⟩ (tieP need) m.name pack = match addD ⟨0, 0, 0⟩ need with
            | some t => scoreV (accD pack cap t 3) 0
            | none => -1 := fun m hm => by
          have hfe : feasD ⟨n :: r, []⟩ (tieP need) m.name = true := by rw [tie_feas h hm, hc]
          have hfi : (StD.nodes ⟨n :: r, []⟩).find? (fun x => x.name == m.name) = some m := find_tie h.so hm
          have hu : usedD ⟨n :: r, []⟩ m.name = some ⟨0, 0, 0⟩ := rfl
          have hcap : m.cap = cap := by rw [h.form m hm]
          unfold scoreD
          rw [if_pos hfe, hfi, hu]
          dsimp only
          rw [hcap]
          rfl
        intro m hm
        rw [key m hm, key n (.head _)]
      have hin := score_in (s := ⟨n :: r, []⟩) (p := tieP need) (node := n.name) (pack := pack) (by rw [tie_feas h (.head _), hc])
      have hb : bestD ⟨n :: r, []⟩ (tieP need) pack = (scoreD ⟨n :: r, []⟩ (tieP need) n.name pack, n.name) := by
        rw [bestD, hw, List.map_cons, bestGo, if_pos (by omega)]
        refine bestGo_tie fun x hx => ?_
        obtain ⟨m, hm, rfl⟩ := List.mem_map.1 hx
        exact hsame m (.tail _ hm)
      have hne : (n.name == []) = false := beq_false_of_ne (h.ne n (.head _))
      rw [hb]
      exact ⟨by rw [headD, hne, decide_eq_true hin.1]; rfl, fun _ => rfl⟩
theorem TieOf.ins {cap : ResD} {A B : List NodeD} {nm : Str} (h : TieOf cap (A ++ B)) (hl : (A ++ B).length < 6) (hne : nm ≠ []) (hA : ∀ x ∈ A, lessS x.name nm) (hB : ∀ x ∈ B, lessS nm x.name) : TieOf cap (A ++ [⟨nm, cap, [], []⟩] ++ B) := by
  have hp := h.so
  rw [List.pairwise_append] at hp
  have mem : ∀ n ∈ A ++ [⟨nm, cap, [], []⟩] ++ B, n ∈ A ++ B ∨ n = ⟨nm, cap, [], []⟩ := fun n hn => by
    simp only [List.append_assoc, List.mem_append, List.mem_singleton] at hn ⊢
    rcases hn with hn | hn | hn
    · exact .inl (.inl hn)
    · exact .inr hn
    · exact .inl (.inr hn)
  refine ⟨by simp at hl ⊢; omega, ?_, fun n hn => ?_, fun n hn => ?_⟩
  · rw [List.append_assoc, List.pairwise_append]
    refine ⟨hp.1, ?_, ?_⟩
    · show List.Pairwise _ (_ :: B)
      rw [List.pairwise_cons]
      exact ⟨hB, hp.2.1⟩
    · intro a ha b hb
      simp only [List.mem_append, List.mem_singleton] at hb
      rcases hb with hb | hb
      · rw [hb]; exact hA a ha
      · exact hp.2.2 a ha b hb
  · rcases mem n hn with hn | rfl
    · exact h.form n hn
    · rfl
  · rcases mem n hn with hn | rfl
    · exact h.ne n hn
    · exact hne
end Go.Eng
