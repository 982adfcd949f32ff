/-
Each operation of the model does what the abstract step says (part ten: lengths, slicing, elements' places, copy, clear, min, max, nil).
-/
import Derived.Test.YtfobkjdmohaakaaGreatEngOps9
import Derived.Laws.Slices
namespace Go.Eng
open Go

section
variable {P : Program} {o : Oper} {a : Act} {E : Env} {N : Nat} {st : St} {w : World} {fr : Fr} {next : Act → World → Prop} {Q : Exit → Act → World → Prop} {K : R → Prop}

theorem Rel.nilsv {y : Value} (h : Rel E .nils y) : y = .slice none 0 0 := by cases h with | deep h => cases h; rfl

/-- What a slice's value is, whatever bears its elements. -/
theorem Rel.slv {tok : Option Key} {sz : Nat} {es : List (List V)} {y : Value} (h : Rel E (.sl tok sz es) y) : ∃ p cap, y = .slice p es.length cap ∧ es.length ≤ cap ∧ ((es = [] ∧ cap = 0 ∧ tok = none) ∨
    ∃ (blk off : Nat) (val : Nat → Value), p = some ⟨blk, off, none⟩ ∧ (∀ e ∈ es, e.length = sz) ∧ (∀ j d, es.flatten[j]? = some d → E.I blk (off + j) = some (val j)) ∧ (∀ j d, es.flatten[j]? = some d → RelD E.I d (val j)) ∧
      (∀ k, tok = some k → E.has k ∧ blk = (E.μ k).blk ∧ (cap = es.length ∨ (off + es.length * sz = (E.μ k).base ∧ off + cap * sz = (E.μ k).fin)))) := by
  cases h with
  | deep hd =>
    cases hd with
    | slNil => exact ⟨none, 0, rfl, Nat.le_refl _, .inl ⟨rfl, rfl, rfl⟩⟩
    | slE _ a hs => exact ⟨some a, 0, rfl, Nat.le_refl _, .inl ⟨rfl, rfl, rfl⟩⟩
    | sl _ _ blk off cap val hc hl hv hr => exact ⟨_, _, rfl, hc, .inr ⟨blk, off, val, rfl, hl, hv, hr, fun k hk => by cases hk⟩⟩
  | tsl k _ _ ad cap hk hd hb hs =>
    cases hd with
    | slE _ _ hn => exact absurd hb.2 hn
    | sl _ _ blk off _ val hc hl hv hr =>
      exact ⟨_, _, rfl, hc, .inr ⟨blk, off, val, rfl, hl, hv, hr, fun k' hk' => by cases hk'; exact ⟨hk, hb.1, hs⟩⟩⟩

/-! Lengths. -/
theorem exec_len {x : Operand} {ts : Array TypeId} {v : Value} (ho : o.op = .call { callee := .builtin .len, args := #[x], argTypes := ts })
    (h : (Builtin.len_ ts o.type #[a.eval x]).run P w = .ok v w) : (execOp a.eval o).run P w = .ok (.value v) w := by
  simp [execOp, ho, resolve, invoke, builtin, h, Result.andThen]

theorem step_lenS {x : Operand} {d : Opd} {ts : Array TypeId} {t : TypeId} (ho : o.op = .call { callee := .builtin .len, args := #[x], argTypes := ts }) (ht : ts[0]? = some t) (hu : P.underlying t = some .string) (hx : okX x d = true)
    (hs : Sim E st w) (hf : FrRel E N fr a) (hw : (step (.lenS d) fr st).wp (ACall P) K) (hc : Cont E st w o a next K) : o.wp P a w next Q := by
  have r1 := okX_rel hx hf
  simp only [step] at hw
  split at hw
  case h_2 => exact hw.elim
  rename_i l e1
  rw [e1] at r1
  have r1 := r1.strv
  have hsz : (str l).size = l.length := by simp [str, ByteArray.size]
  exact wp_val (x := goInt l.length) (exec_len ho (by simp [Builtin.len_, ht, r1, run_underlying hu, hsz])) (hc.same hs hw (.deep (.i _ _)))

theorem step_lenL {x : Operand} {d : Opd} {ts : Array TypeId} {t el : TypeId} (ho : o.op = .call { callee := .builtin .len, args := #[x], argTypes := ts }) (ht : ts[0]? = some t) (hu : P.underlying t = some (.slice el)) (hx : okX x d = true)
    (hs : Sim E st w) (hf : FrRel E N fr a) (hw : (step (.lenL d) fr st).wp (ACall P) K) (hc : Cont E st w o a next K) : o.wp P a w next Q := by
  have r1 := okX_rel hx hf
  have hrun : ∀ p (n c : Nat), a.eval x = .slice p n c → (execOp a.eval o).run P w = .ok (.value (goInt n)) w := fun p n c h => exec_len ho (by simp [Builtin.len_, ht, h, run_underlying hu])
  simp only [step] at hw
  split at hw
  · rename_i e1
    rw [e1] at r1
    exact wp_val (hrun _ _ _ r1.nilsv) (hc.same hs hw (.deep (.i _ _)))
  · rename_i tok sz es e1
    rw [e1] at r1
    obtain ⟨p, cap, hv, _⟩ := r1.slv
    exact wp_val (hrun _ _ _ hv) (hc.same hs hw (.deep (.i _ _)))
  · rename_i k sz off n e1
    rw [e1] at r1
    generalize hv : a.eval x = y at r1
    cases r1 with
    | deep hd => cases hd
    | ms => exact wp_val (hrun _ _ _ hv) (hc.same hs hw (.deep (.i _ _)))
  · exact hw.elim

theorem step_lenA {x : Operand} {n : Nat} {ts : Array TypeId} {t el : TypeId} (ho : o.op = .call { callee := .builtin .len, args := #[x], argTypes := ts }) (ht : ts[0]? = some t) (hu : P.underlying t = some (.array n el))
    (hs : Sim E st w) (hw : (step (.lenA n) fr st).wp (ACall P) K) (hc : Cont E st w o a next K) : o.wp P a w next Q :=
  wp_val (x := goInt n) (exec_len ho (by simp [Builtin.len_, ht, run_underlying hu])) (hc.same hs hw (.deep (.i _ _)))

theorem step_lenM {x : Operand} {d : Opd} {ts : Array TypeId} {t kt el : TypeId} (ho : o.op = .call { callee := .builtin .len, args := #[x], argTypes := ts }) (ht : ts[0]? = some t) (hu : P.underlying t = some (.map kt el)) (hx : okX x d = true)
    (hs : Sim E st w) (hf : FrRel E N fr a) (hw : (step (.lenM d) fr st).wp (ACall P) K) (hc : Cont E st w o a next K) : o.wp P a w next Q := by
  have r1 := okX_rel hx hf
  simp only [step] at hw
  split at hw
  · rename_i e1
    rw [e1] at r1
    generalize hv : a.eval x = y at r1
    cases r1 with
    | deep hd => cases hd
    | nilm => exact wp_val (x := goInt (0 : Nat)) (exec_len ho (by simp [Builtin.len_, ht, hv, run_underlying hu])) (hc.same hs hw (.deep (.i _ _)))
  · rename_i k e1
    rw [e1] at r1
    obtain ⟨ob, hob, hw⟩ := hw
    dsimp only at hw
    split at hw
    case h_2 => exact hw.elim
    rename_i kd es
    generalize hv : a.eval x = y at r1
    cases r1 with
    | deep hd => cases hd
    | m _ hk =>
      obtain ⟨ents, clock, q1, q2, _⟩ := hs.obj k _ hob
      refine wp_val (x := goInt es.length) (exec_len ho ?_) (hc.same hs hw (.deep (.i _ _)))
      simp [Builtin.len_, ht, hv, run_underlying hu, getObj, Sem.run, q1, q2]
  · exact hw.elim

/-! Slicing. -/
theorem boundOr_spec {lo : Option Operand} {d : Option Opd} (hl : okXo lo d = true) (hf : FrRel E N fr a) {n l : Int} (h : boundOr (Opd.evo fr d) n = some l) :
    (lo.map a.eval = none ∧ Opd.evo fr d = none ∧ l = n) ∨ ∃ k, lo.map a.eval = some (.int k l) := by
  rcases okXo_rel hf hl with ⟨h1, h2⟩ | ⟨y, v, h1, h2, h3⟩
  · rw [h2] at h
    simp only [boundOr, Option.some.injEq] at h
    exact .inl ⟨by rw [h1]; rfl, h2, h.symm⟩
  · rw [h2] at h
    simp only [boundOr] at h
    cases v <;> simp only [intOf1, Option.some.injEq, reduceCtorEq] at h
    subst h
    have h3 := h3.int
    subst h3
    exact .inr ⟨_, h1⟩
theorem run_bounds (isSlice : Bool) (len cap : Nat) {lo hi : Option Value} {l h : Int} (hh : (hi = none ∧ h = len) ∨ ∃ k, hi = some (.int k h)) (hl : (lo = none ∧ l = 0) ∨ ∃ k, lo = some (.int k l))
    (h0 : 0 ≤ l) (h1 : l ≤ h) (h2 : h ≤ cap) : (Instr.sliceBounds isSlice len cap lo hi none).run P w = .ok (l.toNat, h.toNat, cap) w := by
  have hc1 : l ≤ (h.toNat : Int) := by omega
  have h00 : 0 ≤ h := by omega
  have hmx : max h 0 = h := by omega
  have hnl : ¬ h < l := by omega
  rcases hh with ⟨rfl, rfl⟩ | ⟨k, rfl⟩ <;> rcases hl with ⟨rfl, rfl⟩ | ⟨k', rfl⟩ <;> simp [Instr.sliceBounds, run_sliceBound, h0, h1, h2, h00, hmx]

theorem step_slstr {t : TypeId} {x : Operand} {lo hi : Option Operand} {d : Opd} {l h : Option Opd} (ho : o.op = .slice t x lo hi none) (hu : P.underlying t = some .string) (hx : okX x d = true) (hlo : okXo lo l = true) (hhi : okXo hi h = true)
    (hs : Sim E st w) (hf : FrRel E N fr a) (hw : (step (.slstr d l h) fr st).wp (ACall P) K) (hc : Cont E st w o a next K) : o.wp P a w next Q := by
  have r1 := okX_rel hx hf
  simp only [step] at hw
  split at hw
  case h_2 => exact hw.elim
  rename_i y e1
  rw [e1] at r1
  have r1 := r1.strv
  unfold T.opt at hw
  split at hw
  case h_2 => exact hw.elim
  rename_i h' hh'
  split at hw
  case h_2 => exact hw.elim
  rename_i l' hl'
  obtain ⟨hck, hw⟩ := hw
  simp only [Bool.and_eq_true, decide_eq_true_eq] at hck
  obtain ⟨⟨c1, c2⟩, c3⟩ := hck
  have hsz : (str y).size = y.length := by simp [str, ByteArray.size]
  have b1 := boundOr_spec hhi hf hh'
  have b2 := boundOr_spec hlo hf hl'
  have hb := run_bounds (P := P) (w := w) false y.length y.length (lo := lo.map a.eval) (hi := hi.map a.eval) (l := l') (h := h') (b1.imp (fun q => ⟨q.1, q.2.2⟩) id) (b2.imp (fun q => ⟨q.1, q.2.2⟩) id) c1 c2 c3
  refine wp_val (x := .string (str ((y.take h'.toNat).drop l'.toNat))) ?_ (hc.same hs hw (.deep (.s _)))
  have he : (str y).extract l'.toNat h'.toNat = str ((y.take h'.toNat).drop l'.toNat) := by
    apply ByteArray.ext
    apply Array.ext'
    simp only [ByteArray.data_extract, str, Array.toList_extract]
    simp [List.drop_take]
  simp [execOp, ho, r1, Instr.sliceAt, Instr.slice, run_underlying hu, hsz, hb, he]

theorem step_slsl {t el : TypeId} {x : Operand} {lo hi : Option Operand} {d : Opd} {l h : Option Opd} {sz : Nat} (ho : o.op = .slice t x lo hi none) (hu : P.underlying t = some (.slice el)) (hz : (P.info? el).map (·.size) = some sz) (hszp : 0 < sz)
    (hx : okX x d = true) (hlo : okXo lo l = true) (hhi : okXo hi h = true)
    (hs : Sim E st w) (hf : FrRel E N fr a) (hw : (step (.slsl sz d l h none) fr st).wp (ACall P) K) (hc : Cont E st w o a next K) : o.wp P a w next Q := by
  have r1 := okX_rel hx hf
  cases hq : P.info? el with
  | none => simp [hq] at hz
  | some i =>
  have hi2 : i.size = sz := by simpa [hq] using hz
  have hrun : ∀ {p : Option Addr} {len cap : Nat} {l' h' : Int}, a.eval x = .slice p len cap → (Instr.sliceBounds true len cap (lo.map a.eval) (hi.map a.eval) none).run P w = .ok (l'.toNat, h'.toNat, cap) w →
      (execOp a.eval o).run P w = .ok (.value (.slice (if cap = l'.toNat then p else p.map (·.add (l'.toNat * sz))) (h'.toNat - l'.toNat) (cap - l'.toNat))) w := by
    intro p len cap l' h' hv hb
    simp [execOp, ho, hv, Instr.sliceAt, Instr.slice, run_underlying hu, hb, sizeOf, typeInfo, hq, hi2]
  simp only [step] at hw
  split at hw
  · rename_i e1
    rw [e1] at r1
    have r1 := r1.nilsv
    unfold T.opt at hw
    split at hw
    case h_2 => exact hw.elim
    rename_i h' hh'
    split at hw
    case h_2 => exact hw.elim
    rename_i l' hl'
    obtain ⟨hck, hw⟩ := hw
    simp only [Bool.and_eq_true, decide_eq_true_eq] at hck
    obtain ⟨rfl, rfl⟩ := hck
    have b1 := boundOr_spec hhi hf hh'
    have b2 := boundOr_spec hlo hf hl'
    have hb := run_bounds (P := P) (w := w) true 0 0 (lo := lo.map a.eval) (hi := hi.map a.eval) (l := 0) (h := 0) (b1.imp (fun q => ⟨q.1, q.2.2⟩) id) (b2.imp (fun q => ⟨q.1, q.2.2⟩) id) (by omega) (by omega) (by omega)
    exact wp_val (hrun r1 hb) (hc.same hs hw (by simpa using Rel.deep .nils))
  · rename_i tok sz' es e1
    rw [e1] at r1
    split at hw
    case isFalse => exact hw.elim
    rename_i hz'
    subst hz'
    obtain ⟨p, cap, hv, hcc, hp⟩ := r1.slv
    split at hw
    · -- without an upper bound
      rename_i hnone
      unfold T.opt at hw
      split at hw
      case h_2 => exact hw.elim
      rename_i l' hl'
      obtain ⟨hck, hw⟩ := hw
      simp only [Bool.and_eq_true, decide_eq_true_eq] at hck
      obtain ⟨c1, c2⟩ := hck
      have b2 := boundOr_spec hlo hf hl'
      have hnn : hi.map a.eval = none := by
        rcases okXo_rel hf hhi with ⟨h1, _⟩ | ⟨_, _, _, h2, _⟩
        · rw [h1]; rfl
        · rw [hnone] at h2; cases h2
      have hb := run_bounds (P := P) (w := w) true es.length cap (lo := lo.map a.eval) (hi := hi.map a.eval) (l := l') (h := (es.length : Int)) (.inl ⟨hnn, rfl⟩) (b2.imp (fun q => ⟨q.1, q.2.2⟩) id) c1 c2 (by omega)
      have hln : l'.toNat ≤ es.length := by omega
      have hlen : (es.length : Int).toNat - l'.toNat = (es.drop l'.toNat).length := by simp
      refine wp_val (hrun hv hb) (hc.same hs hw ?_)
      rw [hlen]
      rcases hp with ⟨rfl, rfl, rfl⟩ | ⟨blk, off, val, rfl, hl, hvv, hrr, htk⟩
      · have : l'.toNat = 0 := by simpa using hln
        rw [this]
        exact .deep (.slEmpty _ _)
      · have hl2 : ∀ e ∈ es.drop l'.toNat, e.length = sz' := fun e he => hl e (List.mem_of_mem_drop he)
        by_cases hcl : cap = l'.toNat
        · have hnil : es.drop l'.toNat = [] := List.drop_eq_nil_of_le (by omega)
          rw [if_pos hcl, hcl, Nat.sub_self, hnil]
          have hd : RelD E.I (.sl none sz' []) (.slice (some ⟨blk, off, none⟩) 0 0) := .sl sz' [] blk off 0 (fun _ => default) (Nat.le_refl _) (fun e he => by cases he) (fun j d hj => by simp at hj) (fun j d hj => by simp at hj)
          cases tok with
          | none => exact .deep hd
          | some k =>
            obtain ⟨k1, k2, k3⟩ := htk k rfl
            exact .tsl _ _ _ _ _ k1 hd ⟨k2, rfl⟩ (.inl rfl)
        · rw [if_neg hcl]
          have hfd := flat_drop hl l'.toNat
          have hd : RelD E.I (.sl none sz' (es.drop l'.toNat)) (.slice (some ⟨blk, off + l'.toNat * sz', none⟩) (es.drop l'.toNat).length (cap - l'.toNat)) := by
            refine .sl sz' _ blk (off + l'.toNat * sz') _ (fun j => val (l'.toNat * sz' + j)) (by simp; omega) hl2 (fun j d hj => ?_) (fun j d hj => ?_)
            · rw [hfd, List.getElem?_drop] at hj
              rw [Nat.add_assoc]; exact hvv _ d hj
            · rw [hfd, List.getElem?_drop] at hj
              exact hrr _ d hj
          simp only [Option.map_some, Addr.add_lit]
          cases tok with
          | none => exact .deep hd
          | some k =>
            obtain ⟨k1, k2, k3⟩ := htk k rfl
            refine .tsl _ _ _ _ _ k1 hd ⟨k2, rfl⟩ ?_
            rw [List.length_drop]
            rcases k3 with k3 | ⟨k3, k4⟩
            · exact .inl (by omega)
            · refine .inr ⟨?_, ?_⟩
              · simp only [Nat.sub_mul]
                have : l'.toNat * sz' ≤ es.length * sz' := Nat.mul_le_mul_right _ hln
                omega
              · simp only [Nat.sub_mul]
                have : l'.toNat * sz' ≤ cap * sz' := Nat.mul_le_mul_right _ (by omega)
                omega
    · rename_i v hsome
      unfold T.opt at hw
      split at hw
      case h_2 => exact hw.elim
      rename_i h' hh'
      split at hw
      case h_2 => exact hw.elim
      rename_i l' hl'
      obtain ⟨hck, hw⟩ := hw
      simp only [Bool.and_eq_true, decide_eq_true_eq] at hck
      obtain ⟨⟨c1, c2⟩, c3⟩ := hck
      have b1 := boundOr_spec (n := 0) (l := h') hhi hf (by rw [hsome]; exact hh')
      have b1 : ∃ k, hi.map a.eval = some (.int k h') := by
        rcases b1 with ⟨_, q, _⟩ | q
        · rw [hsome] at q; cases q
        · exact q
      have b2 := boundOr_spec hlo hf hl'
      have hb := run_bounds (P := P) (w := w) true es.length cap (lo := lo.map a.eval) (hi := hi.map a.eval) (l := l') (h := h') (.inr b1) (b2.imp (fun q => ⟨q.1, q.2.2⟩) id) c1 c2 (by omega)
      have hlen : h'.toNat - l'.toNat = ((es.take h'.toNat).drop l'.toNat).length := by simp; omega
      refine wp_val (hrun hv hb) (hc.same hs hw ?_)
      rw [hlen]
      rcases hp with ⟨rfl, rfl, rfl⟩ | ⟨blk, off, val, rfl, hl, hvv, hrr, htk⟩
      · simp only [List.take_nil, List.drop_nil, List.length_nil, Nat.zero_sub]
        exact .deep (.slEmpty _ _)
      · have hlt : ∀ e ∈ es.take h'.toNat, e.length = sz' := fun e he => hl e (List.mem_of_mem_take he)
        have hl2 : ∀ e ∈ (es.take h'.toNat).drop l'.toNat, e.length = sz' := fun e he => hlt e (List.mem_of_mem_drop he)
        by_cases hcl : cap = l'.toNat
        · have hnil : (es.take h'.toNat).drop l'.toNat = [] := List.drop_eq_nil_of_le (by simp; omega)
          rw [if_pos hcl, hcl, Nat.sub_self, hnil]
          exact .deep (.sl sz' [] blk off 0 (fun _ => default) (Nat.le_refl _) (fun e he => by cases he) (fun j d hj => by simp at hj) (fun j d hj => by simp at hj))
        · rw [if_neg hcl]
          have hfd : ∀ j d, ((es.take h'.toNat).drop l'.toNat).flatten[j]? = some d → es.flatten[l'.toNat * sz' + j]? = some d := by
            intro j d hj
            rw [flat_drop hlt, flat_take hl, List.getElem?_drop, List.getElem?_take] at hj
            split at hj
            · exact hj
            · cases hj
          simp only [Option.map_some, Addr.add_lit]
          refine .deep (.sl sz' _ blk (off + l'.toNat * sz') _ (fun j => val (l'.toNat * sz' + j)) (by simp; omega) hl2 (fun j d hj => ?_) (fun j d hj => ?_))
          · rw [Nat.add_assoc]; exact hvv _ d (hfd j d hj)
          · exact hrr _ d (hfd j d hj)
  · rename_i k sz' off len e1
    rw [e1] at r1
    split at hw
    case isFalse => exact hw.elim
    rename_i hz'
    subst hz'
    unfold T.opt at hw
    split at hw
    case h_2 => exact hw.elim
    rename_i h' hh'
    split at hw
    case h_2 => exact hw.elim
    rename_i l' hl'
    obtain ⟨ob, hob, hw⟩ := hw
    dsimp only at hw
    split at hw
    case h_2 => exact hw.elim
    rename_i sz'' es
    split at hw
    case isFalse => exact hw.elim
    rename_i hz'
    subst hz'
    obtain ⟨hck, hw⟩ := hw
    simp only [Bool.and_eq_true, decide_eq_true_eq] at hck
    obtain ⟨⟨c1, c2⟩, c3⟩ := hck
    have b1 := boundOr_spec hhi hf hh'
    have b2 := boundOr_spec hlo hf hl'
    generalize hv : a.eval x = y at r1
    cases r1 with
    | deep hd => cases hd
    | ms _ _ _ _ ad cap hk hcc hh hbk ha =>
      obtain ⟨hl, cells, ty, fz, q1, q2, q3, q4, q5⟩ := hs.obj k _ hob
      have hfe := flat_len hl
      have hcl : es.length ≤ off + cap := by
        have : es.length * sz'' ≤ (off + cap) * sz'' := by omega
        exact Nat.le_of_mul_le_mul_right this hszp
      have hb := run_bounds (P := P) (w := w) true len cap (lo := lo.map a.eval) (hi := hi.map a.eval) (l := l') (h := h') (b1.imp (fun q => ⟨q.1, q.2.2⟩) id) (b2.imp (fun q => ⟨q.1, q.2.2⟩) id) c1 c2 (by omega)
      refine wp_val (hrun hv hb) (hc.same hs hw ?_)
      have e0 : (if cap = l'.toNat then some ad else Option.map (fun x : Addr => x.add (l'.toNat * sz'')) (some ad)) = some (if cap = l'.toNat then ad else ad.add (l'.toNat * sz'')) := by split <;> rfl
      rw [e0]
      refine .ms _ _ _ _ _ _ hk (by omega) ?_ ?_ ?_
      · rw [← hh]
        congr 2
        omega
      · split
        · exact hbk
        · simp only [Addr.add]
          split <;> exact hbk
      · by_cases hcl' : cap = l'.toNat
        · exact .inl (by omega)
        · rw [if_neg hcl']
          refine .inr ?_
          rcases ha with h | h
          · omega
          · rw [h, Addr.add_lit, Nat.add_mul]
            congr 1; omega
  · exact hw.elim

/-! Elements' places. -/
theorem step_iasl {t el : TypeId} {x y : Operand} {d c : Opd} {sz : Nat} (ho : o.op = .indexAddr t x y) (hx : okX x d = true) (hy : okX y c = true)
    (hu : P.underlying t = some (.slice el)) (hz : (P.info? el).map (·.size) = some sz)
    (hs : Sim E st w) (hf : FrRel E N fr a) (hw : (step (.iasl sz d c) fr st).wp (ACall P) K) (hc : Cont E st w o a next K) : o.wp P a w next Q := by
  have r1 := okX_rel hx hf
  have r2 := okX_rel hy hf
  cases hq : P.info? el with
  | none => simp [hq] at hz
  | some i =>
  have hi : i.size = sz := by simpa [hq] using hz
  simp only [step] at hw
  split at hw
  case h_2 => exact hw.elim
  rename_i kd n e2
  rw [e2] at r2
  have r2 := r2.int
  have hrun : ∀ {p : Addr} {len cap : Nat}, a.eval x = .slice (some p) len cap → 0 ≤ n → n < len → (execOp a.eval o).run P w = .ok (.value (.pointer (some (p.add (n.toNat * sz))))) w := by
    intro p len cap hv h0 h1
    simp [execOp, ho, hv, r2, Instr.indexAt, asIntOf, run_underlying hu, sizeOf, typeInfo, hq, hi, h0, h1]
  split at hw
  · rename_i tok sz' es e1
    rw [e1] at r1
    split at hw
    case isFalse => exact hw.elim
    rename_i hz'
    subst hz'
    obtain ⟨hix, e, he, hw⟩ := hw
    rw [idxOk_iff] at hix
    have hlt : n.toNat < es.length := (List.getElem?_eq_some_iff.1 he).1
    obtain ⟨p, cap, hv, hcc, hp⟩ := r1.slv
    rcases hp with ⟨rfl, rfl, rfl⟩ | ⟨blk, off, val, rfl, hl, hvv, hrr, htk⟩
    · simp at hlt
    · refine wp_val (hrun hv hix.1 hix.2) (hc.same hs hw ?_)
      rw [Addr.add_lit]
      have hel : e.length = sz' := hl e (List.mem_of_getElem? he)
      have hfg : ∀ j d, e[j]? = some d → es.flatten[n.toNat * sz' + j]? = some d := by
        intro j d hj
        have hj' : j < sz' := by
          have := (List.getElem?_eq_some_iff.1 hj).1
          omega
        rw [flat_get hl he hj']; exact hj
      exact .pc e 0 blk (off + n.toNat * sz') (fun j => val (n.toNat * sz' + j)) (fun j d hj => by rw [Nat.add_assoc]; exact hvv _ d (hfg j d hj)) (fun j d hj => hrr _ d (hfg j d hj))
  · rename_i k sz' off len e1
    rw [e1] at r1
    split at hw
    case isFalse => exact hw.elim
    rename_i hz'
    subst hz'
    obtain ⟨hix, hw⟩ := hw
    rw [idxOk_iff] at hix
    generalize hv : a.eval x = y at r1
    cases r1 with
    | deep hd => cases hd
    | ms _ _ _ _ ad cap hk hcc hh hbk ha =>
      have ha : ad = ⟨(E.μ k).blk, (E.μ k).base + off * sz', none⟩ := by
        rcases ha with h | h
        · omega
        · exact h
      subst ha
      refine wp_val (hrun hv hix.1 hix.2) (hc.same hs hw ?_)
      rw [Addr.add_lit]
      have := Rel.pa (E := E) k sz' (off + n.toNat) 0 hk
      rw [Nat.add_mul, Nat.add_zero, ← Nat.add_assoc] at this
      exact this
  · exact hw.elim

/-! Nil. -/
def nilOk (P : Program) (t : TypeId) (e : Opd) : Bool :=
  match P.underlying t, e with
  | some (.pointer _), .c .nilp => true
  | some (.slice _), .c .nils => true
  | some (.map _ _), .c .nilm => true
  | some (.func _ _ _), .c .nilf => true
  | _, _ => false

theorem ev_c (v : V) : Opd.ev fr (.c v) = v := rfl
theorem eqIn_ptr (d : Nat) {t el : TypeId} (hu : P.underlying t = some (.pointer el)) (p : Option Addr) (w : World) : (Op.equalIn (d + 1) t (.pointer p) (.pointer none)).run P w = .ok p.isNone w := by
  cases p <;> simp [Op.equalIn, run_underlying hu]
theorem eqIn_map (d : Nat) {t kt el : TypeId} (hu : P.underlying t = some (.map kt el)) (p : Option Nat) (w : World) : (Op.equalIn (d + 1) t (.map p) (.map none)).run P w = .ok p.isNone w := by
  cases p <;> simp [Op.equalIn, run_underlying hu]
theorem eqIn_slice (d : Nat) {t el : TypeId} (hu : P.underlying t = some (.slice el)) (p : Option Addr) (n c : Nat) (w : World) : (Op.equalIn (d + 1) t (.slice p n c) (.slice none 0 0)).run P w = .ok p.isNone w := by
  cases p <;> simp [Op.equalIn, run_underlying hu]
theorem eqIn_func (d : Nat) {t : TypeId} {x1 : Array TypeId} {x2 : Array TypeId} {x3 : Bool} (hu : P.underlying t = some (.func x1 x2 x3)) (x : Value) {b : Bool} (w : World) (hb : (match x with | .nilFunc => some true | .func _ _ _ => some false | _ => none) = some b) : (Op.equalIn (d + 1) t x .nilFunc).run P w = .ok b w := by
  cases x <;> simp at hb <;> subst hb <;> simp [Op.equalIn, run_underlying hu]

theorem run_eqnil {t : TypeId} {x y : Value} {neg b : Bool} {op : BinOp} (hop : op = if neg then .neq else .eql) (hnum : x matches .pointer _ | .slice _ _ _ | .map _ | .func _ _ _ | .nilFunc) (h : (Op.equal t x y).run P w = .ok b w) :
    (binOp op t x y).run P w = .ok (.bool (if neg then !b else b)) w := by
  subst hop
  cases neg <;> cases x <;> simp at hnum <;> simp [binOp, h]

theorem exec_eqn {op : BinOp} {t yt : TypeId} {x y : Operand} {neg b : Bool} (ho : o.op = .binOp op t x y yt) (hop : op = if neg then .neq else .eql) (hnum : a.eval x matches .pointer _ | .slice _ _ _ | .map _ | .func _ _ _ | .nilFunc)
    (hnum2 : a.eval x = .nilFunc → ∀ r, eqGuard op t x y .nilFunc r = pure ())
    (h : (Op.equal t (a.eval x) (a.eval y)).run P w = .ok b w) : (execOp a.eval o).run P w = .ok (.value (.bool (if neg then !b else b))) w := by
  have h1 := run_eqnil hop hnum h
  have hg : eqGuard op t x y (a.eval x) (a.eval y) = pure () := by
    cases hv : a.eval x <;> rw [hv] at hnum <;> simp at hnum
    · exact eqGuard_at_pointer _ _ _ _ _ _
    · exact eqGuard_at_slice _ _ _ _ _ _ _ _
    · exact eqGuard_at_map _ _ _ _ _ _
    · exact eqGuard_at_func _ _ _ _ _ _ _ _
    · exact hnum2 hv _
  exact exec_bin ho hg h1

theorem step_eqn {op : BinOp} {t yt : TypeId} {x y : Operand} {d e : Opd} {neg : Bool} (ho : o.op = .binOp op t x y yt) (hop : op = if neg then .neq else .eql) (hx : okX x d = true) (hy : okX y e = true) (hn : nilOk P t e = true)
    (hs : Sim E st w) (hf : FrRel E N fr a) (hw : (step (.eqn neg d e) fr st).wp (ACall P) K) (hc : Cont E st w o a next K) : o.wp P a w next Q := by
  have r1 := okX_rel hx hf
  have r2 := okX_rel hy hf
  have fin : ∀ b : Bool, (Op.equal t (a.eval x) (a.eval y)).run P w = .ok b w → (a.eval x matches .pointer _ | .slice _ _ _ | .map _ | .func _ _ _ | .nilFunc) → K (.b (if neg then !b else b), st) → o.wp P a w next Q := by
    intro b h hm hk
    exact wp_val (exec_eqn ho hop hm (fun _ r => by cases op <;> rfl) h) (hc.same hs hk (.deep (.b _)))
  have t1 : (if neg then !true else true) = !neg := by cases neg <;> rfl
  have t2 : (if neg then !false else false) = neg := by cases neg <;> rfl
  unfold nilOk at hn
  split at hn
  · rename_i el hu
    have hy2 : a.eval y = .pointer none := by
      generalize a.eval y = z at r2
      cases r2 with
      | deep hd => cases hd
      | nilp => rfl
    simp only [step, stepNil, ev_c] at hw
    split at hw
    · rename_i e1
      rw [e1] at r1
      generalize hv : a.eval x = z at r1
      cases r1 with
      | deep hd => cases hd
      | nilp => exact fin true (by rw [hv, hy2]; exact eqIn_ptr 9999 hu _ w) (by simp [hv]) (by rw [t1]; exact hw)
    · rename_i e1
      rw [e1] at r1
      generalize hv : a.eval x = z at r1
      cases r1 with
      | deep hd => cases hd
      | p => exact fin false (by rw [hv, hy2]; exact eqIn_ptr 9999 hu _ w) (by simp [hv]) (by rw [t2]; exact hw)
    · rename_i e1
      rw [e1] at r1
      generalize hv : a.eval x = z at r1
      cases r1 with
      | deep hd => cases hd
      | pa => exact fin false (by rw [hv, hy2]; exact eqIn_ptr 9999 hu _ w) (by simp [hv]) (by rw [t2]; exact hw)
    · exact hw.elim
  · rename_i el hu
    have hy2 : a.eval y = .slice none 0 0 := r2.nilsv
    have hsl : ∀ p n c, a.eval x = .slice p n c → (Op.equal t (a.eval x) (a.eval y)).run P w = .ok p.isNone w := by
      intro p n c h
      rw [h, hy2]
      exact eqIn_slice 9999 hu _ _ _ w
    simp only [step, stepNil, ev_c] at hw
    split at hw
    · rename_i e1
      rw [e1] at r1
      exact fin true (hsl _ _ _ r1.nilsv) (by simp [r1.nilsv]) (by rw [t1]; exact hw)
    · rename_i tok sz es e1
      rw [e1] at r1
      obtain ⟨p, cap, hv, hcc, hp⟩ := r1.slv
      have hm : a.eval x matches .pointer _ | .slice _ _ _ | .map _ | .func _ _ _ | .nilFunc := by simp [hv]
      split at hw
      · rename_i k
        rcases hp with ⟨_, _, h⟩ | ⟨blk, off, val, rfl, _⟩
        · cases h
        · exact fin false (hsl _ _ _ hv) hm (by rw [t2]; exact hw)
      · by_cases hem : es.isEmpty = true
        · have hw := hw.1 hem
          exact fin _ (hsl _ _ _ hv) hm (hw _)
        · have hw := hw.2 (by simpa using hem)
          rcases hp with ⟨h, _⟩ | ⟨blk, off, val, rfl, _⟩
          · subst h; simp at hem
          · exact fin false (hsl _ _ _ hv) hm (by rw [t2]; exact hw)
    · rename_i k sz off len e1
      rw [e1] at r1
      generalize hv : a.eval x = z at r1
      cases r1 with
      | deep hd => cases hd
      | ms => exact fin false (hsl _ _ _ hv) (by simp [hv]) (by rw [t2]; exact hw)
    · exact hw.elim
  · rename_i kt el hu
    have hy2 : a.eval y = .map none := by
      generalize a.eval y = z at r2
      cases r2 with
      | deep hd => cases hd
      | nilm => rfl
    simp only [step, stepNil, ev_c] at hw
    split at hw
    · rename_i e1
      rw [e1] at r1
      generalize hv : a.eval x = z at r1
      cases r1 with
      | deep hd => cases hd
      | nilm => exact fin true (by rw [hv, hy2]; exact eqIn_map 9999 hu _ w) (by simp [hv]) (by rw [t1]; exact hw)
    · rename_i e1
      rw [e1] at r1
      generalize hv : a.eval x = z at r1
      cases r1 with
      | deep hd => cases hd
      | m => exact fin false (by rw [hv, hy2]; exact eqIn_map 9999 hu _ w) (by simp [hv]) (by rw [t2]; exact hw)
    · exact hw.elim
  · rename_i x1 x2 x3 hu
    have hy2 : a.eval y = .nilFunc := by
      generalize a.eval y = z at r2
      cases r2 with
      | deep hd => cases hd
      | nilf => rfl
    simp only [step, stepNil, ev_c] at hw
    split at hw
    · rename_i e1
      rw [e1] at r1
      generalize hv : a.eval x = z at r1
      cases r1 with
      | deep hd => cases hd
      | nilf => exact fin true (by rw [hv, hy2]; exact eqIn_func 9999 hu _ w rfl) (by simp [hv]) (by rw [t1]; exact hw)
    · rename_i e1
      rw [e1] at r1
      generalize hv : a.eval x = z at r1
      cases r1 with
      | deep hd => cases hd
      | fn => exact fin false (by rw [hv, hy2]; exact eqIn_func 9999 hu _ w rfl) (by simp [hv]) (by rw [t2]; exact hw)
    · exact hw.elim
  · cases hn
end
end Go.Eng
