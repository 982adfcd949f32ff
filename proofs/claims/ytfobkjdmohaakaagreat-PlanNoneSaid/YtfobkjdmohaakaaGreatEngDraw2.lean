/-
Regions whose order is drawn: one order serves for all.
-/
import Derived.Test.YtfobkjdmohaakaaGreatEngRun
import Derived.Test.YtfobkjdmohaakaaGreatEngDraw
import Derived.Orders
namespace Go.Eng
open Go

/-! Who waits for whom. -/
inductive Anc (ops : Array Oper) : Nat → Nat → Prop
  | edge {i : Nat} {o : Oper} {e : Edge} (ho : ops[i]? = some o) (he : e ∈ o.after) (hb : Region.binds .any e = true) : Anc ops i e.on
  | far {i j : Nat} {o : Oper} {e : Edge} (ho : ops[i]? = some o) (he : e ∈ o.after) (hb : Region.binds .any e = true) (h : Anc ops e.on j) : Anc ops i j

/-- Sets of numbers, as masks. -/
def look : List (Nat × Nat) → Nat → Nat
  | [], _ => 0
  | (k, l) :: r, n => match Nat.beq k n with
    | true => l
    | false => look r n
def edgesOf (o : Oper) : List Nat := (o.after.toList.filter (Region.binds .any)).map (·.on)
def inMask (j m : Nat) : Bool := Nat.testBit m j
def joinMask (tab : List (Nat × Nat)) : List Nat → Nat → Nat
  | [], m => m
  | j :: r, m => joinMask tab r (Nat.lor m (Nat.lor (Nat.shiftLeft 1 j) (look tab j)))
theorem inMask_join (tab : List (Nat × Nat)) (j : Nat) : ∀ (l : List Nat) (m : Nat), inMask j (joinMask tab l m) = true → inMask j m = true ∨ ∃ k, k ∈ l ∧ (j = k ∨ inMask j (look tab k) = true)
  | [], m, h => .inl h
  | k :: r, m, h => by
    rcases inMask_join tab j r _ h with h | ⟨q, hq, h⟩
    · simp only [inMask] at h ⊢
      have h : (m ||| ((1 <<< k) ||| look tab k)).testBit j = true := h
      rw [Nat.testBit_or, Nat.testBit_or] at h
      simp only [Bool.or_eq_true] at h
      rcases h with h | h | h
      · exact .inl h
      · refine .inr ⟨k, by simp, .inl ?_⟩
        rw [Nat.testBit_shiftLeft] at h
        simp only [ge_iff_le, Bool.and_eq_true, decide_eq_true_eq] at h
        have := Nat.testBit_one_eq_true_iff_self_eq_zero.1 h.2
        omega
      · exact .inr ⟨k, by simp, .inr h⟩
    · exact .inr ⟨q, by simp [hq], h⟩
def ancStep (ops : Array Oper) (tab : List (Nat × Nat)) (i : Nat) : List (Nat × Nat) :=
  match ops[i]? with
  | some o => (i, joinMask tab (edgesOf o) 0) :: tab
  | none => tab
def ancTab (ops : Array Oper) : List Nat → List (Nat × Nat) → List (Nat × Nat)
  | [], tab => tab
  | i :: r, tab => ancTab ops r (ancStep ops tab i)

def TabOk (ops : Array Oper) (tab : List (Nat × Nat)) : Prop := ∀ i j, inMask j (look tab i) = true → Anc ops i j
theorem ancStep_ok {ops : Array Oper} {tab : List (Nat × Nat)} (h : TabOk ops tab) (i : Nat) : TabOk ops (ancStep ops tab i) := by
  unfold ancStep
  split
  · rename_i o ho
    intro i' j hj
    simp only [look] at hj
    split at hj
    · rename_i hb
      have := Nat.eq_of_beq_eq_true hb
      subst this
      rcases inMask_join _ _ _ _ hj with hj | ⟨k, hk, hj⟩
      · simp [inMask] at hj
      simp only [edgesOf, List.mem_map, List.mem_filter] at hk
      obtain ⟨e, ⟨he, hb⟩, rfl⟩ := hk
      have he : e ∈ o.after := by simpa using he
      rcases hj with rfl | hj
      · exact .edge ho he hb
      · exact .far ho he hb (h _ _ hj)
    · exact h i' j hj
  · exact h
theorem ancTab_ok {ops : Array Oper} : ∀ (l : List Nat) {tab : List (Nat × Nat)}, TabOk ops tab → TabOk ops (ancTab ops l tab)
  | [], _, h => h
  | i :: r, _, h => ancTab_ok r (ancStep_ok h i)
def allAncs (ops : Array Oper) (l : List Nat) : List (Nat × Nat) := ancTab ops l []
theorem allAncs_ok (ops : Array Oper) (l : List Nat) : TabOk ops (allAncs ops l) := ancTab_ok l (fun i j h => by simp [look, inMask] at h)

/-! The check of a region. -/
def gSlots (g : Option (Nat × Bool)) : List Nat :=
  match g with
  | some (t, _) => [t]
  | none => []
def DOper.reads (d : DOper) : List Nat := gSlots d.o.guard ++ d.o.op.slots
def DOper.is (d : DOper) (t : Nat) : Bool :=
  match d.o.dst with
  | some n => Nat.beq n t
  | none => false
/-- An earlier one against a later one. -/
def okPair (anc : List (Nat × Nat)) (d e : DOper) : Bool :=
  -- nobody writes what an earlier one looks at, or wrote
  (match e.o.dst with
  | some n => (!memNat n d.reads && !d.is n) || (e.loud && inMask d.ix (look anc e.ix))
  | none => true) &&
  -- what one looks at of the region's own comes from an ancestor
  (match d.o.dst with
  | some n => !memNat n e.reads || inMask d.ix (look anc e.ix)
  | none => true) &&
  -- behind a loud one all are its descendants
  (!d.loud || inMask d.ix (look anc e.ix)) &&
  -- a loud one: what was before it, and it does not wait for, is pure or looked at again
  (!e.loud || d.loud || inMask d.ix (look anc e.ix) || pureOp d.o.op || memNat d.ix e.re) &&
  (!memNat d.ix e.re || (e.loud && !d.loud))
def okPairs (anc : List (Nat × Nat)) : List DOper → Bool
  | [] => true
  | d :: r => r.all (okPair anc d) && okPairs anc r

/-- The check of a whole region: the order 'ds' takes each operation once, fits the edges, and each stands for the model's. -/
def okOne (P : Program) (N : Nat) (ops : Array Oper) (d : DOper) : Bool :=
  match ops[d.ix]? with
  | some o => okOp P o.op d.o.op && decide (d.o.dst = o.dst) && dstOk N o.dst && guardOk ops o.guard d.o.guard && (d.loud || quietOp d.o.op) &&
      (match d.o.dst with
      | some n => !memNat n d.reads
      | none => true)
  | none => false
/-- Each edge leads to an earlier one. -/
def okEdges (ops : Array Oper) : List Nat → List DOper → Bool
  | _, [] => true
  | seen, d :: r => (match ops[d.ix]? with
    | some o => (edgesOf o).all fun j => memNat j seen
    | none => false) && !memNat d.ix seen && okEdges ops (d.ix :: seen) r
def okDraw (P : Program) (N : Nat) (ops : Array Oper) (ds : List DOper) : Bool :=
  P.follows .mixedOrders && decide (ds.length = ops.size) && ds.all (okOne P N ops) && okPairs (allAncs ops (ds.map (·.ix))) ds && okEdges ops [] ds

/-! The moves. -/
theorem get_lit {fr : Fr} {t : Nat} {v : V} (h : fr.get t = v) (t' : Nat) : Fr.get ((t, v) :: fr.cutL [t]) t' = fr.get t' := by
  simp only [Fr.get]
  by_cases ht : t = t'
  · subst ht; rw [if_pos rfl, h]
  · rw [if_neg ht, Fr.get_cutL]
    rw [if_neg]
    simp only [memNat_iff, List.mem_singleton]
    exact fun e => ht e.symm
theorem get_next (fr : Fr) (dst : Option Nat) (v : V) (t : Nat) : (fr.next dst v []).get t = if dst = some t then v else fr.get t := by
  rw [Fr.get_next, if_neg (by simp [memNat])]
theorem gated_wp {A : CallP} {β : Type} {g : Option (Nat × Bool)} {fr : Fr} {yes no : Fr → T β} {K : β → Prop} (h : (gated g fr yes no).wp A K) :
    ∃ fr', (∀ t, fr'.get t = fr.get t) ∧ ((gateNow g fr = some true ∧ (yes fr').wp A K) ∨ (gateNow g fr = some false ∧ (no fr').wp A K)) := by
  unfold gated at h
  split at h
  · exact ⟨fr, fun _ => rfl, .inl ⟨rfl, h⟩⟩
  · rename_i t want
    split at h
    · rename_i x hx
      split at h
      · cases x with
        | true =>
          have h := h.1 rfl
          rw [Fr.cut_eq] at h
          exact ⟨_, get_lit hx, .inl ⟨by simp [gateNow, hx], h⟩⟩
        | false =>
          have h := h.2 rfl
          rw [Fr.cut_eq] at h
          exact ⟨_, get_lit hx, .inr ⟨by simp [gateNow, hx], h⟩⟩
      · cases x with
        | true =>
          have h := h.1 rfl
          rw [Fr.cut_eq] at h
          exact ⟨_, get_lit hx, .inr ⟨by simp [gateNow, hx], h⟩⟩
        | false =>
          have h := h.2 rfl
          rw [Fr.cut_eq] at h
          exact ⟨_, get_lit hx, .inl ⟨by simp [gateNow, hx], h⟩⟩
    · rename_i cs hx
      exact ⟨fr, fun _ => rfl, .inr ⟨by simp [gateNow, hx], h⟩⟩
    · exact h.elim
theorem gateNow_congr {g : Option (Nat × Bool)} {fr fr' : Fr} (h : ∀ t ∈ gSlots g, fr.get t = fr'.get t) : gateNow g fr = gateNow g fr' := by
  unfold gateNow
  cases g with
  | none => rfl
  | some q =>
    obtain ⟨t, w⟩ := q
    have ht : fr.get t = fr'.get t := h t (.head _)
    simp only [ht]
theorem gate_wanted {N : Nat} {ops : Array Oper} {E : Env} {fr : Fr} {a : Act} {o : Oper} {g : Option (Nat × Bool)} (hg : guardOk ops o.guard g = true) (hf : FrRel E N fr a) {b : Bool} (h : gateNow g fr = some b) :
    Region.wanted o (yielded ops a.tmps) = b := by
  unfold gateNow at h
  cases hgo : o.guard with
  | none =>
    cases g with
    | none => simp at h; subst h; simp [Region.wanted, hgo]
    | some q => rw [hgo] at hg; simp [guardOk] at hg
  | some q =>
    obtain ⟨j, w⟩ := q
    cases g with
    | none => rw [hgo] at hg; simp [guardOk] at hg
    | some q =>
      obtain ⟨t, w'⟩ := q
      rw [hgo] at hg
      simp only [guardOk, Bool.and_eq_true, decide_eq_true_eq] at hg
      obtain ⟨rfl, hg⟩ := hg
      split at hg
      case h_2 => cases hg
      rename_i oj hoj
      simp only [decide_eq_true_eq] at hg
      simp only at h
      split at h
      · rename_i x hx
        simp only [Option.some.injEq] at h
        have hy := yielded_b hf hoj hg hx
        subst h
        simp [Region.wanted, hgo, hy]
      · rename_i cs hx
        simp only [Option.some.injEq] at h
        have hy := yielded_t hf hoj hg hx
        subst h
        simp [Region.wanted, hgo, hy]
      · cases h

/-- It would yield now what the frame says that it yields. -/
def Virt (A : CallP) (d : DOper) (fr : Fr) (st : St) : Prop :=
  (gateNow d.o.guard fr = some true ∧ ∃ v, (step d.o.op fr st).Yields A st v ∧ ∀ n, d.o.dst = some n → fr.get n = v) ∨
  (gateNow d.o.guard fr = some false ∧ ∀ n, d.o.dst = some n → fr.get n = .tup [])
theorem Virt.congr {A : CallP} {d : DOper} {fr fr' : Fr} {st : St} (h : ∀ t, t ∈ d.reads ∨ d.o.dst = some t → fr.get t = fr'.get t) (hv : Virt A d fr st) : Virt A d fr' st := by
  have hg : gateNow d.o.guard fr = gateNow d.o.guard fr' := gateNow_congr fun t ht => h t (.inl (List.mem_append_left _ ht))
  have hs : step d.o.op fr st = step d.o.op fr' st := step_congr (fun t ht => h t (.inl (List.mem_append_right _ ht))) st
  rcases hv with ⟨h1, v, h2, h3⟩ | ⟨h1, h2⟩
  · exact .inl ⟨hg ▸ h1, v, hs ▸ h2, fun n hn => by rw [← h n (.inr hn)]; exact h3 n hn⟩
  · exact .inr ⟨hg ▸ h1, fun n hn => by rw [← h n (.inr hn)]; exact h2 n hn⟩
theorem Virt.pure {A : CallP} {d : DOper} {fr : Fr} {st : St} (hp : pureOp d.o.op = true) (st' : St) (hv : Virt A d fr st) : Virt A d fr st' := by
  rcases hv with ⟨h1, v, h2, h3⟩ | h
  · refine .inl ⟨h1, v, fun K hK => pure_step hp A fr st st' K (h2 _ hK), h3⟩
  · exact .inr h
theorem recheck_wp {A : CallP} {β : Type} {re : List Nat} {fr : Fr} {st : St} {k : T β} {K : β → Prop} : ∀ {done : List DOper}, (∀ p ∈ done, memNat p.ix re = true → quietOp p.o.op = true) → (recheck re done fr st k).wp A K →
    k.wp A K ∧ ∀ p ∈ done, memNat p.ix re = true → gateNow p.o.guard fr = some true → ∃ v, (step p.o.op fr st).Yields A st v ∧ ∀ n, p.o.dst = some n → fr.get n = v
  | [], _, h => ⟨h, fun p hp => by cases hp⟩
  | p :: ps, hq, h => by
    have hq' : ∀ q ∈ ps, memNat q.ix re = true → quietOp q.o.op = true := fun q hm => hq q (.tail _ hm)
    simp only [recheck] at h
    split at h
    · rename_i hm
      split at h
      · rename_i hg
        rw [T.wp_bind] at h
        obtain ⟨v, hy, h⟩ := T.quiet_run (quiet_step (hq p (.head _) hm) fr st) h
        dsimp only at h
        have key : (∀ n, p.o.dst = some n → fr.get n = v) ∧ (recheck re ps fr st k).wp A K := by
          split at h
          · rename_i n hn
            exact ⟨fun n' hn' => (by rw [hn] at hn'; cases hn'; exact h.1), h.2⟩
          · rename_i hn
            exact ⟨fun n' hn' => (by rw [hn] at hn'; cases hn'), h⟩
        obtain ⟨i1, i2⟩ := recheck_wp hq' key.2
        refine ⟨i1, fun q hqm => ?_⟩
        rcases List.mem_cons.1 hqm with rfl | hqm
        · exact fun _ _ => ⟨v, hy, key.1⟩
        · exact i2 q hqm
      · rename_i hg
        obtain ⟨i1, i2⟩ := recheck_wp hq' h
        refine ⟨i1, fun q hqm => ?_⟩
        rcases List.mem_cons.1 hqm with rfl | hqm
        · intro _ h3; rw [hg] at h3; cases h3
        · exact i2 q hqm
      · exact h.elim
    · rename_i hm
      obtain ⟨i1, i2⟩ := recheck_wp hq' h
      refine ⟨i1, fun q hqm => ?_⟩
      rcases List.mem_cons.1 hqm with rfl | hqm
      · intro h1; rw [hm] at h1; cases h1
      · exact i2 q hqm

/-! What holds in the midst of a region. -/
def Un (listed : Array Bool) (d : DOper) : Prop := listed.getD d.ix true = false
structure DInv (A : CallP) (N : Nat) (K : Fr × St → Prop) (pre suf : List DOper) (listed : Array Bool) (E : Env) (st : St) (w : World) (fr : Fr) (a : Act) : Prop where
  sim : Sim E st w
  size : a.tmps.size = N
  rel : ∀ t, (∀ d ∈ pre, Un listed d → d.o.dst ≠ some t) → Rel E (fr.get t) (a.tmps.getD t undef)
  un : ∀ d ∈ suf, Un listed d
  virt : ∀ d ∈ pre, Un listed d → d.loud = false ∧ Virt A d fr st
  run : ∃ done, (∀ x, x ∈ done → x ∈ pre) ∧ (∀ x, x ∈ pre → x ∈ done) ∧ (runD done suf fr st).wp A K

/-- One against another of an order. -/
structure PairOk (ops : Array Oper) (d e : DOper) : Prop where
  w : ∀ n, e.o.dst = some n → (n ∉ d.reads ∧ d.o.dst ≠ some n) ∨ (e.loud = true ∧ Anc ops e.ix d.ix)
  r : ∀ n, d.o.dst = some n → n ∈ e.reads → Anc ops e.ix d.ix
  l : d.loud = true → Anc ops e.ix d.ix
  s : e.loud = true → d.loud = false → Anc ops e.ix d.ix ∨ pureOp d.o.op = true ∨ memNat d.ix e.re = true
  q : memNat d.ix e.re = true → e.loud = true ∧ d.loud = false
theorem okPair_spec {ops : Array Oper} {anc : List (Nat × Nat)} (ht : TabOk ops anc) {d e : DOper} (h : okPair anc d e = true) : PairOk ops d e := by
  unfold okPair at h
  simp only [Bool.and_eq_true, Bool.or_eq_true, Bool.not_eq_true'] at h
  obtain ⟨⟨⟨⟨h1, h2⟩, h3⟩, h4⟩, h5⟩ := h
  have hA : inMask d.ix (look anc e.ix) = true → Anc ops e.ix d.ix := fun hm => ht _ _ hm
  refine ⟨fun n hn => ?_, fun n hn hm => ?_, fun hl => ?_, fun hl hd => ?_, fun hm => ?_⟩
  · rw [hn] at h1
    simp only [Bool.or_eq_true, Bool.and_eq_true, Bool.not_eq_true'] at h1
    rcases h1 with h1 | h1
    · refine .inl ⟨fun hm => ?_, fun hd => ?_⟩
      · rw [memNat_iff.2 hm] at h1; exact absurd h1.1 (by simp)
      · have := h1.2
        simp [DOper.is, hd] at this
    · exact .inr ⟨h1.1, hA h1.2⟩
  · rw [hn] at h2
    simp only [Bool.or_eq_true, Bool.not_eq_true'] at h2
    rcases h2 with h2 | h2
    · rw [memNat_iff.2 hm] at h2; cases h2
    · exact hA h2
  · rcases h3 with h3 | h3
    · rw [hl] at h3; cases h3
    · exact hA h3
  · rcases h4 with (((h4 | h4) | h4) | h4) | h4
    · rw [hl] at h4; cases h4
    · rw [hd] at h4; cases h4
    · exact .inl (hA h4)
    · exact .inr (.inl h4)
    · exact .inr (.inr h4)
  · rcases h5 with h5 | h5
    · rw [hm] at h5; cases h5
    · exact h5

theorem DInv.advance {P : Program} {ops : Array Oper} {N : Nat} {K : Fr × St → Prop} {pre suf : List DOper} {q : DOper} {listed : Array Bool} {E : Env} {st : St} {w : World} {fr : Fr} {a : Act}
    (h : DInv (ACall P) N K pre (q :: suf) listed E st w fr a) (hp : ∀ d ∈ pre, PairOk ops d q) (hq : q.loud = false) (hqq : quietOp q.o.op = true) (hself : ∀ n, q.o.dst = some n → n ∉ q.reads) :
    ∃ fr', DInv (ACall P) N K (pre ++ [q]) suf listed E st w fr' a := by
  obtain ⟨done, hd1, hd2, hrun⟩ := h.run
  simp only [runD] at hrun
  obtain ⟨fr1, hfr1, hcase⟩ := gated_wp hrun
  -- what is known of the frame behind it
  have main : ∀ (v : V), ((gateNow q.o.guard fr = some true ∧ (step q.o.op fr st).Yields (ACall P) st v) ∨ (gateNow q.o.guard fr = some false ∧ v = .tup [])) →
      (runD (q :: done) suf (fr1.next q.o.dst v []) st).wp (ACall P) K → ∃ fr', DInv (ACall P) N K (pre ++ [q]) suf listed E st w fr' a := by
    intro v hv hr
    have hget : ∀ t, (fr1.next q.o.dst v []).get t = if q.o.dst = some t then v else fr.get t := fun t => by rw [get_next, hfr1]
    refine ⟨fr1.next q.o.dst v [], h.sim, h.size, fun t ht => ?_, fun d hd => h.un d (.tail _ hd), fun d hd hun => ?_, q :: done, ?_, ?_, hr⟩
    · rw [hget]
      have hne : q.o.dst ≠ some t := ht q (by simp) (h.un q (.head _))
      rw [if_neg hne]
      exact h.rel t fun d hd => ht d (List.mem_append_left _ hd)
    · rw [List.mem_append, List.mem_singleton] at hd
      rcases hd with hd | rfl
      · obtain ⟨h1, h2⟩ := h.virt d hd hun
        refine ⟨h1, h2.congr fun t ht => ?_⟩
        rw [hget, if_neg]
        intro hqt
        have := (hp d hd).w t hqt
        rcases this with this | this
        · rcases ht with ht | ht
          · exact this.1 ht
          · exact this.2 ht
        · rw [hq] at this; cases this.1
      · refine ⟨hq, ?_⟩
        have hg : gateNow d.o.guard (fr1.next d.o.dst v []) = gateNow d.o.guard fr := gateNow_congr fun t ht => by
          rw [hget, if_neg]
          intro hqt
          exact hself t hqt (List.mem_append_left _ ht)
        have hs : step d.o.op (fr1.next d.o.dst v []) st = step d.o.op fr st := step_congr (fun t ht => by
          rw [hget, if_neg]
          intro hqt
          exact hself t hqt (List.mem_append_right _ ht)) st
        have hdst : ∀ n, d.o.dst = some n → (fr1.next d.o.dst v []).get n = v := fun n hn => by rw [hget, if_pos hn]
        rcases hv with ⟨h1, h2⟩ | ⟨h1, rfl⟩
        · exact .inl ⟨by rw [hg]; exact h1, v, by rw [hs]; exact h2, hdst⟩
        · exact .inr ⟨by rw [hg]; exact h1, hdst⟩
    · intro x hx
      rcases List.mem_cons.1 hx with rfl | hx
      · simp
      · simp [hd1 x hx]
    · intro x hx
      rw [List.mem_append, List.mem_singleton] at hx
      rcases hx with hx | rfl
      · exact .tail _ (hd2 x hx)
      · exact .head _
  rcases hcase with ⟨hg, hw⟩ | ⟨hg, hw⟩
  · rw [T.wp_bind] at hw
    have hs : step q.o.op fr1 st = step q.o.op fr st := step_congr (fun t _ => hfr1 t) st
    rw [hs] at hw
    obtain ⟨v, hy, hw⟩ := T.quiet_run (quiet_step hqq fr st) hw
    dsimp only at hw
    rw [Fr.after_eq] at hw
    have hno : ∀ p ∈ done, memNat p.ix q.re = true → quietOp p.o.op = true := fun p hp' hm => by
      have := ((hp p (hd1 p hp')).q hm).1
      rw [hq] at this; cases this
    exact main v (.inl ⟨hg, hy⟩) (recheck_wp hno hw).1
  · rw [Fr.after_eq] at hw
    exact main (.tup []) (.inr ⟨hg, rfl⟩) hw

/-- The frame as far as it is true of the model's: without what is still to come. -/
def unDsts (listed : Array Bool) : List DOper → List Nat
  | [] => []
  | d :: r => match listed.getD d.ix true, d.o.dst with
    | false, some n => n :: unDsts listed r
    | _, _ => unDsts listed r
theorem mem_unDsts {listed : Array Bool} {n : Nat} : ∀ {l : List DOper}, n ∈ unDsts listed l ↔ ∃ d ∈ l, Un listed d ∧ d.o.dst = some n
  | [] => by simp [unDsts]
  | d :: r => by
    have ih := mem_unDsts (listed := listed) (n := n) (l := r)
    cases h1 : listed.getD d.ix true with
    | true =>
      have hu : ¬ Un listed d := by simp only [Un]; rw [h1]; simp
      simp only [unDsts, h1, ih]
      constructor
      · rintro ⟨e, he, h⟩; exact ⟨e, .tail _ he, h⟩
      · rintro ⟨e, he, h⟩
        rcases List.mem_cons.1 he with rfl | he
        · exact absurd h.1 hu
        · exact ⟨e, he, h⟩
    | false =>
      have hu : Un listed d := h1
      cases h2 : d.o.dst with
      | none =>
        simp only [unDsts, h1, h2, ih]
        constructor
        · rintro ⟨e, he, h⟩; exact ⟨e, .tail _ he, h⟩
        · rintro ⟨e, he, h⟩
          rcases List.mem_cons.1 he with rfl | he
          · rw [h2] at h; cases h.2
          · exact ⟨e, he, h⟩
      | some m =>
        simp only [unDsts, h1, h2, List.mem_cons, ih]
        constructor
        · rintro (rfl | ⟨e, he, h⟩)
          · exact ⟨d, .inl rfl, hu, h2⟩
          · exact ⟨e, .inr he, h⟩
        · rintro ⟨e, he | he, h⟩
          · subst he; rw [h2] at h; left; exact (Option.some.inj h.2).symm
          · exact .inr ⟨e, he, h⟩
theorem DInv.frame {A : CallP} {N : Nat} {K : Fr × St → Prop} {pre suf : List DOper} {listed : Array Bool} {E : Env} {st : St} {w : World} {fr : Fr} {a : Act} (h : DInv A N K pre suf listed E st w fr a) :
    FrRel E N (fr.cutL (unDsts listed pre)) a := by
  refine ⟨h.size, fun t => ?_⟩
  rw [Fr.get_cutL]
  split
  · exact .junk _
  · rename_i hm
    refine h.rel t fun d hd hu hdst => hm (memNat_iff.2 (mem_unDsts.2 ⟨d, hd, hu, hdst⟩))

/-- What the check comes to. -/
structure OneOk (P : Program) (N : Nat) (ops : Array Oper) (d : DOper) (o : Oper) : Prop where
  at_ : ops[d.ix]? = some o
  op : okOp P o.op d.o.op = true
  dst : d.o.dst = o.dst
  lt : ∀ n, o.dst = some n → n < N
  gd : guardOk ops o.guard d.o.guard = true
  quiet : d.loud = false → quietOp d.o.op = true
  self : ∀ n, d.o.dst = some n → n ∉ d.reads
structure DrawOk (P : Program) (N : Nat) (ops : Array Oper) (ds : List DOper) : Prop where
  md : P.follows .mixedOrders = true
  one : ∀ d ∈ ds, ∃ o, OneOk P N ops d o
  pair : ds.Pairwise (PairOk ops)
  edges : ∀ pre d suf, ds = pre ++ d :: suf → ∀ o, ops[d.ix]? = some o → ∀ e ∈ o.after, Region.binds .any e = true → ∃ p ∈ pre, p.ix = e.on
  nodup : (ds.map (·.ix)).Nodup
  all : ∀ i, i < ops.size → ∃ d ∈ ds, d.ix = i

/-- Who is ready: all that it waits for is listed. -/
theorem anc_listed {ops : Array Oper} {listed : Array Bool} (hcl : ∀ i o, listed.getD i false = true → ops[i]? = some o → ∀ e ∈ o.after, Region.binds .any e = true → listed.getD e.on false = true)
    {i j : Nat} (h : Anc ops i j) (hr : ∀ o, ops[i]? = some o → ∀ e ∈ o.after, Region.binds .any e = true → listed.getD e.on false = true) : listed.getD j false = true := by
  induction h with
  | edge ho he hb => exact hr _ ho _ he hb
  | far ho he hb _ ih => exact ih fun o' ho' => hcl _ o' (hr _ ho _ he hb) ho'
theorem un_not {listed : Array Bool} {d : DOper} (h : Un listed d) : listed.getD d.ix false = false := by
  simp only [Un, Array.getD_eq_getD_getElem?] at h ⊢
  cases hq : listed[d.ix]? with
  | none => rw [hq] at h; simp at h
  | some b => rw [hq] at h; simpa using h

/-- Up to the next loud one. -/
theorem DInv.normal {P : Program} {ops : Array Oper} {N : Nat} {K : Fr × St → Prop} {listed : Array Bool} {E : Env} {st : St} {w : World} {a : Act} : ∀ {suf pre : List DOper} {fr : Fr},
    DInv (ACall P) N K pre suf listed E st w fr a → (pre ++ suf).Pairwise (PairOk ops) → (∀ d ∈ pre ++ suf, ∃ o, OneOk P N ops d o) →
    ∃ pre' suf' fr', pre' ++ suf' = pre ++ suf ∧ DInv (ACall P) N K pre' suf' listed E st w fr' a ∧ ∀ d r, suf' = d :: r → d.loud = true
  | [], pre, fr, h, _, _ => ⟨pre, [], fr, rfl, h, fun d r hd => by cases hd⟩
  | q :: suf, pre, fr, h, hp, ho => by
    cases hl : q.loud with
    | true => exact ⟨pre, q :: suf, fr, rfl, h, fun d r hd => by cases hd; exact hl⟩
    | false =>
      obtain ⟨o, hq⟩ := ho q (by simp)
      have hpq : ∀ d ∈ pre, PairOk ops d q := fun d hd => (List.pairwise_append.1 hp).2.2 d hd q (.head _)
      obtain ⟨fr', h'⟩ := h.advance hpq hl (hq.quiet hl) hq.self
      have e : pre ++ [q] ++ suf = pre ++ q :: suf := by simp
      obtain ⟨pre', suf', fr2, e2, h2, h3⟩ := DInv.normal h' (by rw [e]; exact hp) (by rw [e]; exact ho)
      exact ⟨pre', suf', fr2, e2.trans e, h2, h3⟩

section
variable {P : Program} {ops : Array Oper} {N : Nat} {K : Fr × St → Prop} {Q : Exit → Act → World → Prop}

theorem un_set {listed : Array Bool} {d e : DOper} (h : Un (listed.setIfInBounds d.ix true) e) (hd : d.ix < listed.size) : Un listed e ∧ e.ix ≠ d.ix := by
  simp only [Un, Array.getD_eq_getD_getElem?] at h ⊢
  by_cases hi : d.ix = e.ix
  · rw [hi] at h hd
    simp [hd] at h
  · rw [Array.getElem?_setIfInBounds_ne hi] at h
    exact ⟨h, fun e => hi e.symm⟩
theorem un_set' {listed : Array Bool} {d e : DOper} (h : Un listed e) (hi : e.ix ≠ d.ix) : Un (listed.setIfInBounds d.ix true) e := by
  simp only [Un, Array.getD_eq_getD_getElem?] at h ⊢
  rw [Array.getElem?_setIfInBounds_ne (fun e => hi e.symm)]
  exact h
theorem getD_put {a : Act} {dst : Option Nat} {x : Value} {t : Nat} (h : dst ≠ some t) : (a.put dst x).tmps.getD t undef = a.tmps.getD t undef := by
  cases dst with
  | none => rfl
  | some d =>
    have : d ≠ t := fun e => h (by rw [e])
    simp only [Act.put, Array.getD_eq_getD_getElem?]
    rw [Array.getElem?_setIfInBounds_ne this]
theorem getD_put_self {a : Act} {d : Nat} {x : Value} (h : d < a.tmps.size) : (a.put (some d) x).tmps.getD d undef = x := by
  simp [Act.put, Array.getD_eq_getD_getElem?, h]
theorem put_size (a : Act) (dst : Option Nat) (x : Value) : (a.put dst x).tmps.size = a.tmps.size := by cases dst <;> simp [Act.put]
end

section
variable {P : Program} {ops : Array Oper} {N : Nat} {K : Fr × St → Prop} {Q : Exit → Act → World → Prop}

/-- What is so behind a step. -/
structure After (P : Program) (N : Nat) (K : Fr × St → Prop) (ds : List DOper) (listed : Array Bool) (E : Env) (st : St) (w : World) (a : Act) (a' : Act) (w' : World) : Prop where
  ex : ∃ pre suf fr' st' E', pre ++ suf = ds ∧ DInv (ACall P) N K pre suf listed E' st' w' fr' a' ∧ Ext E st w E' st' w' ∧ a'.defers = a.defers

theorem draw_step {ds pre suf : List DOper} {listed : Array Bool} {E : Env} {st : St} {w : World} {fr : Fr} {a : Act} (hd : DrawOk P N ops ds) (hds : pre ++ suf = ds) (h : DInv (ACall P) N K pre suf listed E st w fr a)
    (hhead : ∀ d r, suf = d :: r → d.loud = true) (hls : listed.size = ops.size)
    (hcl : ∀ i o, listed.getD i false = true → ops[i]? = some o → ∀ e ∈ o.after, Region.binds .any e = true → listed.getD e.on false = true)
    {i : Nat} (hr : i ∈ Region.ready .any ops listed) : wpOp P ops Q i (After P N K ds (listed.setIfInBounds i true) E st w a) a w := by
  obtain ⟨hun, o, ho, hdeps⟩ := mem_ready.1 hr
  have hlt : i < ops.size := (Array.getElem?_eq_some_iff.1 ho).1
  obtain ⟨d, hdm, rfl⟩ := hd.all i hlt
  obtain ⟨o', hone⟩ := hd.one d hdm
  have : o' = o := by have := hone.at_; rw [ho] at this; exact (Option.some.inj this).symm
  subst this
  have hanc : ∀ j, Anc ops d.ix j → listed.getD j false = true := fun j hj => anc_listed hcl hj (fun o1 h1 => by rw [ho] at h1; cases h1; exact hdeps)
  -- what it looks at is there
  have hreads : ∀ n ∈ d.reads, n ∉ unDsts listed pre := by
    intro n hn hm
    obtain ⟨e, hep, heu, hed⟩ := mem_unDsts.1 hm
    have he : e ∈ ds := by rw [← hds]; exact List.mem_append_left _ hep
    by_cases hde : e = d
    · subst hde; exact hone.self n hed hn
    · rcases List.pairwise_iff_getElem.1 hd.pair with hpw
      obtain ⟨x, hx, hxe⟩ := List.getElem_of_mem he
      obtain ⟨y, hy, hyd⟩ := List.getElem_of_mem hdm
      rcases Nat.lt_trichotomy x y with hxy | hxy | hxy
      · have := hpw x y hx hy hxy
        rw [hxe, hyd] at this
        have h1 := hanc _ (this.r n hed hn)
        rw [un_not heu] at h1; cases h1
      · subst hxy; exact hde (hxe.symm.trans hyd)
      · have := hpw y x hy hx hxy
        rw [hxe, hyd] at this
        rcases this.w n hed with h1 | h1
        · exact h1.1 hn
        · rw [(h.virt e hep heu).1] at h1; cases h1.1
  have hf0 := h.frame
  have hsame : ∀ t ∈ d.reads, (fr.cutL (unDsts listed pre)).get t = fr.get t := fun t ht => by
    rw [Fr.get_cutL, if_neg (fun hm => hreads t ht (memNat_iff.1 hm))]
  have hgate : gateNow d.o.guard (fr.cutL (unDsts listed pre)) = gateNow d.o.guard fr := gateNow_congr fun t ht => hsame t (List.mem_append_left _ ht)
  have hstep : ∀ s, step d.o.op (fr.cutL (unDsts listed pre)) s = step d.o.op fr s := fun s => step_congr (fun t ht => hsame t (List.mem_append_right _ ht)) s
  have hdu : Un listed d := hun
  have hinj : ∀ e ∈ ds, e.ix = d.ix → e = d := by
    intro e he hix
    obtain ⟨x, hx, hxe⟩ := List.getElem_of_mem he
    obtain ⟨y, hy, hyd⟩ := List.getElem_of_mem hdm
    have hpw := List.pairwise_iff_getElem.1 (List.pairwise_map.1 hd.nodup)
    rcases Nat.lt_trichotomy x y with hxy | hxy | hxy
    · have := hpw x y hx hy hxy
      rw [hxe, hyd] at this
      exact absurd hix this
    · subst hxy
      exact hxe.symm.trans hyd
    · have := hpw y x hy hx hxy
      rw [hxe, hyd] at this
      exact absurd hix.symm this
  have hdlt : ∀ n, d.o.dst = some n → n < a.tmps.size := fun n hn => by rw [h.size]; exact hone.lt n (hone.dst ▸ hn)
  -- the slots behind it
  have hrel : ∀ {E' : Env} {v : V} {x : Value} {fr' : Fr} {pp : List DOper}, (∀ e ∈ pre, e ∈ pp) → E.Le E' → Rel E' v x → (∀ t, fr'.get t = if d.o.dst = some t then v else fr.get t) →
      ∀ t, (∀ e ∈ pp, Un (listed.setIfInBounds d.ix true) e → e.o.dst ≠ some t) → Rel E' (fr'.get t) ((a.put o'.dst x).tmps.getD t undef) := by
    intro E' v x fr' pp hpp hle hrx hget t ht
    rw [hget, ← hone.dst]
    by_cases hdt : d.o.dst = some t
    · rw [if_pos hdt, hdt, getD_put_self (hdlt t hdt)]
      exact hrx
    · rw [if_neg hdt, getD_put hdt]
      refine (h.rel t fun e he heu hee => ?_).mono hle
      have heds : e ∈ ds := by rw [← hds]; exact List.mem_append_left _ he
      by_cases hix : e.ix = d.ix
      · exact hdt (hinj e heds hix ▸ hee)
      · exact ht e (hpp e he) (un_set' heu hix) hee
  have hunset : ∀ e, Un (listed.setIfInBounds d.ix true) e → Un listed e ∧ e.ix ≠ d.ix := fun e he => un_set he (by rw [hls]; exact hlt)
  have hmem : d ∈ pre ∨ d ∈ suf := by rw [← hds] at hdm; exact List.mem_append.1 hdm
  rcases hmem with hp | hp
  · -- a quiet one, that the frame knows already
    obtain ⟨hl, hv⟩ := h.virt d hp hdu
    have build : ∀ {E' : Env} {w' : World} {v : V} {x : Value}, Sim E' st w' → Ext E st w E' st w' → Rel E' v x → (∀ n, d.o.dst = some n → fr.get n = v) → After P N K ds (listed.setIfInBounds d.ix true) E st w a (a.put o'.dst x) w' := by
      intro E' w' v x s1 s2 hr hn
      refine ⟨pre, suf, fr, st, E', hds, ⟨s1, by rw [put_size]; exact h.size, ?_, ?_, ?_, h.run⟩, s2, put_defers _ _ _⟩
      · refine hrel (fun e he => he) s2.le hr fun t => ?_
        by_cases ht : d.o.dst = some t
        · rw [if_pos ht]; exact hn t ht
        · rw [if_neg ht]
      · intro e he
        refine un_set' (h.un e he) fun hix => ?_
        have hed := hinj e (by rw [← hds]; exact List.mem_append_right _ he) hix
        subst hed
        have hnd := hd.nodup
        rw [← hds, List.map_append, List.nodup_append] at hnd
        exact hnd.2.2 _ (List.mem_map_of_mem hp) _ (List.mem_map_of_mem he) rfl
      · intro e he hu
        exact h.virt e he (hunset e hu).1
    unfold wpOp
    simp only [ho]
    rcases hv with ⟨h1, v, hy, hn⟩ | ⟨h1, hn⟩
    · rw [if_pos (gate_wanted hone.gd hf0 (hgate.trans h1))]
      refine .inl (step_ok hone.op h.sim hf0 (K := fun r => r = (v, st)) (by rw [hstep]; exact hy _ rfl) ?_)
      intro v' st' E' w' x hk s1 s2 hr
      cases hk
      exact build s1 s2 hr hn
    · rw [if_neg (by rw [gate_wanted hone.gd hf0 (hgate.trans h1)]; simp)]
      exact build h.sim (.refl _ _ _) undef_rel hn
  · -- the next loud one
    obtain ⟨L, r, hsuf⟩ : ∃ L r, suf = L :: r := by
      cases suf with
      | nil => cases hp
      | cons L r => exact ⟨L, r, rfl⟩
    subst hsuf
    have hL := hhead L r rfl
    have hLd : L = d := by
      rcases List.mem_cons.1 hp with hp | hp
      · exact hp.symm
      · have hpw := hd.pair
        rw [← hds] at hpw
        have := ((List.pairwise_cons.1 (List.pairwise_append.1 hpw).2.1).1 d hp).l hL
        have h1 := hanc _ this
        rw [un_not (h.un L (.head _))] at h1; cases h1
    subst hLd
    have hpair : ∀ e ∈ pre, PairOk ops e L := fun e he => by
      have hpw := hd.pair
      rw [← hds] at hpw
      exact (List.pairwise_append.1 hpw).2.2 e he L (.head _)
    obtain ⟨done, hd1, hd2, hrun⟩ := h.run
    simp only [runD] at hrun
    obtain ⟨fr1, hfr1, hcase⟩ := gated_wp hrun
    have build : ∀ {E' : Env} {st' : St} {w' : World} {v : V} {x : Value}, Sim E' st' w' → Ext E st w E' st' w' → Rel E' v x → (∀ e ∈ pre, Un listed e → Virt (ACall P) e (fr1.next L.o.dst v []) st') →
        (runD (L :: done) r (fr1.next L.o.dst v []) st').wp (ACall P) K → After P N K ds (listed.setIfInBounds L.ix true) E st w a (a.put o'.dst x) w' := by
      intro E' st' w' v x s1 s2 hr hv hw
      have happ : pre ++ [L] ++ r = ds := by rw [← hds]; simp
      have hget : ∀ t, (fr1.next L.o.dst v []).get t = if L.o.dst = some t then v else fr.get t := fun t => by rw [get_next, hfr1]
      refine ⟨pre ++ [L], r, fr1.next L.o.dst v [], st', E', happ, ⟨s1, by rw [put_size]; exact h.size, ?_, ?_, ?_, L :: done, ?_, ?_, hw⟩, s2, put_defers _ _ _⟩
      · exact hrel (fun e he => List.mem_append_left _ he) s2.le hr hget
      · intro e he
        refine un_set' (h.un e (.tail _ he)) fun hix => ?_
        have hed := hinj e (by rw [← hds]; exact List.mem_append_right _ (.tail _ he)) hix
        subst hed
        have hnd := hd.nodup
        rw [← hds, List.map_append, List.nodup_append] at hnd
        have := hnd.2.1
        rw [List.map_cons, List.nodup_cons] at this
        exact this.1 (List.mem_map_of_mem he)
      · intro e he hu
        obtain ⟨hu1, hu2⟩ := hunset e hu
        rw [List.mem_append, List.mem_singleton] at he
        rcases he with he | rfl
        · exact ⟨(h.virt e he hu1).1, hv e he hu1⟩
        · exact absurd rfl hu2
      · intro y hy
        rcases List.mem_cons.1 hy with rfl | hy
        · simp
        · simp [hd1 y hy]
      · intro y hy
        rw [List.mem_append, List.mem_singleton] at hy
        rcases hy with hy | rfl
        · exact .tail _ (hd2 y hy)
        · exact .head _
    -- what is known of the frame holds on behind it
    have keepF : ∀ (v : V) (e : DOper), e ∈ pre → Un listed e → ∀ t, t ∈ e.reads ∨ e.o.dst = some t → fr.get t = (fr1.next L.o.dst v []).get t := by
      intro v e he heu t ht
      rw [get_next, hfr1, if_neg]
      intro hLt
      rcases (hpair e he).w t hLt with this | this
      · rcases ht with ht | ht
        · exact this.1 ht
        · exact this.2 ht
      · have h1 := hanc _ this.2
        rw [un_not heu] at h1; cases h1
    unfold wpOp
    simp only [ho]
    rcases hcase with ⟨hg, hw⟩ | ⟨hg, hw⟩
    · rw [if_pos (gate_wanted hone.gd hf0 (hgate.trans hg))]
      rw [T.wp_bind] at hw
      have hs1 : step L.o.op fr1 st = step L.o.op fr st := step_congr (fun t _ => hfr1 t) st
      rw [hs1, ← hstep] at hw
      refine .inl (step_ok hone.op h.sim hf0 hw ?_)
      intro v st' E' w' x hk s1 s2 hr
      dsimp only at hk
      rw [Fr.after_eq] at hk
      have hquiet : ∀ p ∈ done, memNat p.ix L.re = true → quietOp p.o.op = true := fun p hp' hm => by
        have hpp := hd1 p hp'
        obtain ⟨op, hop⟩ := hd.one p (by rw [← hds]; exact List.mem_append_left _ hpp)
        exact hop.quiet ((hpair p hpp).q hm).2
      obtain ⟨hk1, hk2⟩ := recheck_wp hquiet hk
      refine build s1 s2 hr (fun e he hu => ?_) hk1
      obtain ⟨hl, hv⟩ := h.virt e he hu
      have hv' := hv.congr (keepF v e he hu)
      rcases (hpair e he).s hL hl with hA | hA | hA
      · have h1 := hanc _ hA
        rw [un_not hu] at h1; cases h1
      · exact hv'.pure hA st'
      · rcases hv' with ⟨g1, _⟩ | g
        · exact .inl ⟨g1, hk2 e (hd2 e he) hA g1⟩
        · exact .inr g
    · rw [if_neg (by rw [gate_wanted hone.gd hf0 (hgate.trans hg)]; simp)]
      rw [Fr.after_eq] at hw
      exact build h.sim (.refl _ _ _) undef_rel (fun e he hu => (h.virt e he hu).2.congr (keepF _ e he hu)) hw
end

section
variable {P : Program} {ops : Array Oper} {N : Nat} {K : Fr × St → Prop} {Q : Exit → Act → World → Prop}

def unCount (listed : Array Bool) : List DOper → Nat
  | [] => 0
  | d :: r => (match listed.getD d.ix true with | false => 1 | true => 0) + unCount listed r
theorem unCount_zero {listed : Array Bool} : ∀ {l : List DOper}, unCount listed l = 0 → ∀ d ∈ l, ¬ Un listed d
  | [], _, d, hd => by cases hd
  | e :: r, h, d, hd => by
    simp only [unCount] at h
    have h1 : (match listed.getD e.ix true with | false => 1 | true => 0) = 0 := by omega
    rcases List.mem_cons.1 hd with rfl | hd
    · intro hu
      simp only [Un] at hu
      rw [hu] at h1; simp at h1
    · exact unCount_zero (by omega) d hd
end

section
variable {P : Program} {ops : Array Oper} {N : Nat} {K : Fr × St → Prop} {Q : Exit → Act → World → Prop}

theorem unCount_other {listed : Array Bool} {i : Nat} : ∀ {l : List DOper}, (∀ d ∈ l, d.ix ≠ i) → unCount (listed.setIfInBounds i true) l = unCount listed l
  | [], _ => rfl
  | d :: r, h => by
    have hd : (listed.setIfInBounds i true).getD d.ix true = listed.getD d.ix true := by
      simp only [Array.getD_eq_getD_getElem?]
      rw [Array.getElem?_setIfInBounds_ne (fun e => h d (.head _) e.symm)]
    simp only [unCount, hd, unCount_other (fun e he => h e (.tail _ he))]
theorem unCount_set {listed : Array Bool} {d : DOper} (hlt : d.ix < listed.size) (hu : Un listed d) : ∀ {l : List DOper}, (l.map (·.ix)).Nodup → d ∈ l → unCount (listed.setIfInBounds d.ix true) l + 1 = unCount listed l
  | [], _, h => by cases h
  | e :: r, hn, h => by
    rw [List.map_cons, List.nodup_cons] at hn
    rcases List.mem_cons.1 h with rfl | h
    · have hs : (listed.setIfInBounds d.ix true).getD d.ix true = true := by simp [Array.getD_eq_getD_getElem?, hlt]
      have ho : unCount (listed.setIfInBounds d.ix true) r = unCount listed r := unCount_other fun e he hix => hn.1 (hix ▸ List.mem_map_of_mem he)
      simp only [Un] at hu
      simp only [unCount, hs, hu, ho]
      omega
    · have hne : e.ix ≠ d.ix := fun hix => hn.1 (hix ▸ List.mem_map_of_mem h)
      have he : (listed.setIfInBounds d.ix true).getD e.ix true = listed.getD e.ix true := by
        simp only [Array.getD_eq_getD_getElem?]
        rw [Array.getElem?_setIfInBounds_ne (fun q => hne q.symm)]
      have ih := unCount_set hlt hu hn.2 h
      simp only [unCount, he]
      omega

/-- Who is first of those that are not listed waits for nobody. -/
theorem first_ready {ds : List DOper} (hd : DrawOk P N ops ds) {listed : Array Bool} (hls : listed.size = ops.size) (hr : Region.ready .any ops listed = []) : ∀ (pre suf : List DOper), ds = pre ++ suf → (∀ d ∈ pre, ¬ Un listed d) → ∀ d ∈ ds, ¬ Un listed d
  | pre, [], h, hp => fun d hdm => hp d (by rw [h] at hdm; simpa using hdm)
  | pre, d :: suf, h, hp => by
    refine first_ready hd hls hr (pre ++ [d]) suf (by rw [h]; simp) fun e he => ?_
    rw [List.mem_append, List.mem_singleton] at he
    rcases he with he | rfl
    · exact hp e he
    · intro hu
      obtain ⟨o, ho⟩ := hd.one e (by rw [h]; simp)
      have : e.ix ∈ Region.ready .any ops listed := mem_ready.2 ⟨hu, o, ho.at_, fun ed hed hb => by
        obtain ⟨p, hpm, hpi⟩ := hd.edges pre e suf h o ho.at_ ed hed hb
        have := hp p hpm
        rw [← hpi]
        simp only [Un, Array.getD_eq_getD_getElem?] at this ⊢
        cases hq : listed[p.ix]? with
        | none =>
          obtain ⟨op, hop⟩ := hd.one p (by rw [h]; exact List.mem_append_left _ hpm)
          have h1 := (Array.getElem?_eq_some_iff.1 hop.at_).1
          have h2 := Array.getElem?_eq_none_iff.1 hq
          omega
        | some b => rw [hq] at this; simp at this ⊢; exact this⟩
      rw [hr] at this; cases this
end

section
variable {P : Program} {ops : Array Oper} {N : Nat} {K : Fr × St → Prop} {Q : Exit → Act → World → Prop}

/-- (DRAW) One order serves for all. -/
theorem draw_any {ds : List DOper} (hd : DrawOk P N ops ds) {E0 : Env} {st0 : St} {w0 : World} {a0 : Act}
    (hQ : ∀ fr st E a w, K (fr, st) → Sim E st w → Ext E0 st0 w0 E st w → FrRel E N fr a → a.defers = a0.defers → Q .normal a w) :
    ∀ (fuel : Nat) {pre suf : List DOper} {listed : Array Bool} {E : Env} {st : St} {w : World} {fr : Fr} {a : Act}, pre ++ suf = ds → DInv (ACall P) N K pre suf listed E st w fr a → Ext E0 st0 w0 E st w → a.defers = a0.defers → listed.size = ops.size →
      (∀ i o, listed.getD i false = true → ops[i]? = some o → ∀ e ∈ o.after, Region.binds .any e = true → listed.getD e.on false = true) → unCount listed ds ≤ fuel → wpAny P .any ops Q fuel listed a w := by
  have fin : ∀ {pre suf : List DOper} {listed : Array Bool} {E : Env} {st : St} {w : World} {fr : Fr} {a : Act}, pre ++ suf = ds → DInv (ACall P) N K pre suf listed E st w fr a → Ext E0 st0 w0 E st w → a.defers = a0.defers → listed.size = ops.size →
      Region.ready .any ops listed = [] → Q .normal a w := by
    intro pre suf listed E st w fr a hds h he hdf hls hr
    have hall := first_ready hd hls hr [] ds rfl (fun d hd => by cases hd)
    have hsuf : suf = [] := by
      cases suf with
      | nil => rfl
      | cons d r => exact absurd (h.un d (.head _)) (hall d (by rw [← hds]; simp))
    subst hsuf
    obtain ⟨done, _, _, hrun⟩ := h.run
    refine hQ fr st E a w hrun h.sim he ⟨h.size, fun t => h.rel t fun d hdm hu => ?_⟩ hdf
    exact absurd hu (hall d (by rw [← hds]; exact List.mem_append_left _ hdm))
  intro fuel
  induction fuel with
  | zero =>
    intro pre suf listed E st w fr a hds h he hdf hls hcl hc
    have hnone := unCount_zero (listed := listed) (l := ds) (by omega)
    have hr : Region.ready .any ops listed = [] := by
      rw [List.eq_nil_iff_forall_not_mem]
      intro i hi
      obtain ⟨hun, o, ho, _⟩ := mem_ready.1 hi
      obtain ⟨d, hdm, rfl⟩ := hd.all i (Array.getElem?_eq_some_iff.1 ho).1
      exact hnone d hdm hun
    exact ⟨hr, fin hds h he hdf hls hr⟩
  | succ fuel ih =>
    intro pre suf listed E st w fr a hds h he hdf hls hcl hc
    obtain ⟨pre', suf', fr', hds', h', hhead⟩ := h.normal (ops := ops) (by rw [hds]; exact hd.pair) (by rw [hds]; exact hd.one)
    rw [hds] at hds'
    refine ⟨fun hr => fin hds h he hdf hls hr, fun i hi => ?_⟩
    refine wpOp_mono ?_ (draw_step hd hds' h' hhead hls hcl hi)
    rintro a1 w1 ⟨p1, s1, f1, st1, E1, hds1, hi1, hext1, hdf1⟩
    obtain ⟨hun, o, ho, hdeps⟩ := mem_ready.1 hi
    have hilt := (Array.getElem?_eq_some_iff.1 ho).1
    obtain ⟨d, hdm, rfl⟩ := hd.all i hilt
    refine ih hds1 hi1 (he.trans hext1) (hdf1.trans hdf) (by simpa using hls) ?_ ?_
    · intro j o' hj ho' e hee hb
      have key : listed.getD e.on false = true := by
        by_cases hji : j = d.ix
        · subst hji
          rw [ho] at ho'; cases ho'
          exact hdeps e hee hb
        · refine hcl j o' ?_ ho' e hee hb
          simp only [Array.getD_eq_getD_getElem?] at hj ⊢
          rw [Array.getElem?_setIfInBounds_ne (fun q => hji q.symm)] at hj
          exact hj
      exact getD_set_true key
    · have := unCount_set (listed := listed) (d := d) (by omega) hun hd.nodup hdm
      omega
end

section
variable {P : Program} {ops : Array Oper} {N : Nat} {K : Fr × St → Prop} {Q : Exit → Act → World → Prop}

theorem okPairs_spec {anc : List (Nat × Nat)} (ht : TabOk ops anc) : ∀ {ds : List DOper}, okPairs anc ds = true → ds.Pairwise (PairOk ops)
  | [], _ => .nil
  | d :: r, h => by
    simp only [okPairs, Bool.and_eq_true, List.all_eq_true] at h
    exact .cons (fun e he => okPair_spec ht (h.1 e he)) (okPairs_spec ht h.2)
theorem okEdges_spec : ∀ {ds : List DOper} {seen : List Nat}, okEdges ops seen ds = true →
    (∀ pre d suf, ds = pre ++ d :: suf → ∀ o, ops[d.ix]? = some o → ∀ e ∈ o.after, Region.binds .any e = true → e.on ∈ seen ∨ ∃ p ∈ pre, p.ix = e.on) ∧ (ds.map (·.ix)).Nodup ∧ ∀ d ∈ ds, d.ix ∉ seen
  | [], seen, _ => ⟨fun pre d suf h => by simp at h, by simp, fun d hd => by cases hd⟩
  | q :: r, seen, h => by
    simp only [okEdges, Bool.and_eq_true, Bool.not_eq_true'] at h
    obtain ⟨⟨h1, h2⟩, h3⟩ := h
    obtain ⟨i1, i2, i3⟩ := okEdges_spec h3
    have hq : q.ix ∉ seen := fun hm => by rw [memNat_iff.2 hm] at h2; cases h2
    refine ⟨fun pre d suf hds o ho e he hb => ?_, ?_, ?_⟩
    · cases pre with
      | nil =>
        simp only [List.nil_append, List.cons.injEq] at hds
        obtain ⟨rfl, rfl⟩ := hds
        rw [ho] at h1
        simp only [List.all_eq_true] at h1
        left
        refine memNat_iff.1 (h1 e.on ?_)
        simp only [edgesOf, List.mem_map, List.mem_filter]
        exact ⟨e, ⟨by simpa using he, hb⟩, rfl⟩
      | cons p pre =>
        simp only [List.cons_append, List.cons.injEq] at hds
        obtain ⟨rfl, rfl⟩ := hds
        rcases i1 pre d suf rfl o ho e he hb with hm | ⟨p, hp, hpi⟩
        · rcases List.mem_cons.1 hm with hm | hm
          · exact .inr ⟨q, .head _, hm.symm⟩
          · exact .inl hm
        · exact .inr ⟨p, .tail _ hp, hpi⟩
    · rw [List.map_cons, List.nodup_cons]
      refine ⟨fun hm => ?_, i2⟩
      obtain ⟨d, hd, hdi⟩ := List.mem_map.1 hm
      exact i3 d hd (by rw [hdi]; exact .head _)
    · intro d hd
      rcases List.mem_cons.1 hd with rfl | hd
      · exact hq
      · exact fun hm => i3 d hd (.tail _ hm)
end
end Go.Eng
