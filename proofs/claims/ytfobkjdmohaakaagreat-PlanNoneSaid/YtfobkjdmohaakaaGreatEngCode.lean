/-
Code and functions: what the abstract run promises.
-/
import Derived.Test.YtfobkjdmohaakaaGreatEngDraw3
namespace Go.Eng
open Go

def seqK (K : Fr → St → Prop) (Q : Ex → Fr → St → Prop) : Ex → Fr → St → Prop
  | .normal, fr, st => K fr st
  | .exit id, fr, st => Q (.exit id) fr st
  | .ret, fr, st => Q .ret fr st
def blkK (id : Nat) (Q : Ex → Fr → St → Prop) : Ex → Fr → St → Prop
  | .exit id', fr, st => if id' = id then Q .normal fr st else Q (.exit id') fr st
  | .normal, fr, st => Q .normal fr st
  | .ret, fr, st => Q .ret fr st
def regK (Q : Ex → Fr → St → Prop) : Fr × St → Prop
  | (fr, st) => Q .normal fr st

/-- The frame without what is not needed any more. -/
def cutT (kill : List Nat) : Fr × St → T (Fr × St)
  | (fr, st) => fr.cut kill fun fr => .ret (fr, st)

/-- What the one tells the other tells too. -/
def Fr.le (f g : Fr) : Prop := ∀ t, f.get t = g.get t ∨ f.get t = .junk
theorem Fr.le_refl (f : Fr) : Fr.le f f := fun _ => .inl rfl
theorem Fr.le_nil {g : Fr} : Fr.le [] g := fun _ => .inr rfl
theorem Fr.le_cons {n : Nat} {v : V} {r g : Fr} (h : g.get n = v) (hr : Fr.le r g) : Fr.le ((n, v) :: r) g := by
  intro t
  simp only [Fr.get]
  split
  · rename_i hn; subst hn; exact .inl h.symm
  · exact hr t
theorem FrRel.le {E : Env} {N : Nat} {f g : Fr} {a : Act} (h : FrRel E N g a) (hl : Fr.le f g) : FrRel E N f a := by
  refine ⟨h.size, fun t => ?_⟩
  rcases hl t with h1 | h1
  · rw [h1]; exact h.rel t
  · rw [h1]; exact .junk _

def wpC (A : CallP) : AC → (Ex → Fr → St → Prop) → Fr → St → Prop
  | .skip, Q, fr, st => Q .normal fr st
  | .reg ops, Q, fr, st => (runOps ops fr st).wp A (regK Q)
  | .dreg ds kill, Q, fr, st => ((runD [] ds fr st).bind (cutT kill)).wp A (regK Q)
  | .seq a b, Q, fr, st => wpC A a (seqK (wpC A b Q) Q) fr st
  | .cond c a b, Q, fr, st => match c.ev fr with
    | .b x => wIf x (wpC A a Q fr st) (wpC A b Q fr st)
    | _ => False
  | .blk id b, Q, fr, st => wpC A b (blkK id Q) fr st
  | .loop b, Q, fr, st => ∀ R : Fr → St → Prop, (∀ fr fr' st, Fr.le fr' fr → wpC A b (seqK R Q) fr' st → R fr st) → R fr st
  | .exit id, Q, fr, st => Q (.exit id) fr st
  | .ret, Q, fr, st => Q .ret fr st
  | .no, _, _, _ => False

def okC (P : Program) (N : Nat) : Code → AC → Bool
  | .skip, .skip => true
  | .label _, .skip => true
  | .region _ ops draw, .reg as => !draw && okReg P N ops ops.toList as
  | .region _ ops draw, .dreg ds _ => draw && okDraw P N ops ds
  | .seq a b, .seq A B => okC P N a A && okC P N b B
  | .cond c a b, .cond d A B => okX c d && okC P N a A && okC P N b B
  | .block id b, .blk id' B => decide (id = id') && okC P N b B
  | .loop b, .loop B => okC P N b B
  | .exit id, .exit id' => decide (id = id')
  | .ret, .ret => true
  | _, .no => true
  | _, _ => false

section
variable {P : Program} {N : Nat} {E0 : Env} {st0 : St} {w0 : World}

/-- What holds at a way out, of the model. -/
structure Held (N : Nat) (E0 : Env) (st0 : St) (w0 : World) (K : Fr → St → Prop) (a : Act) (w : World) : Prop where
  ex : ∃ fr st E, K fr st ∧ Sim E st w ∧ Ext E0 st0 w0 E st w ∧ FrRel E N fr a ∧ a.defers = []
def Post (N : Nat) (E0 : Env) (st0 : St) (w0 : World) (Q : Ex → Fr → St → Prop) : Exit → Act → World → Prop
  | .normal, a, w => Held N E0 st0 w0 (Q .normal) a w
  | .exit id, a, w => Held N E0 st0 w0 (Q (.exit id)) a w
  | .ret, a, w => Held N E0 st0 w0 (Q .ret) a w
  | _, _, _ => False

def InLoop (P : Program) (c : Code) (Qm : Exit → Act → World → Prop) (a : Act) (w : World) : Prop :=
  ∀ (b : Frame) (k : List Item) (cs : List Frame), ∃ e a' w', Qm e a' w' ∧ Arrives P (lone (b.at a (.code c :: .inLoop c :: k)) cs w) b k cs e a' w'
theorem InLoop.loop {c : Code} {Qm : Exit → Act → World → Prop} {a : Act} {w : World} (h : InLoop P c Qm a w) : (Code.loop c).wp P Qm a w :=
  fun b k cs => let ⟨e, a', w', hq, harr⟩ := h b k cs; ⟨e, a', w', hq, .of_steps (.one step_loop) harr⟩
theorem InLoop.round {c : Code} {Q : Ex → Fr → St → Prop} {R : Fr → St → Prop} {a : Act} {w : World} (h : c.wp P (Post N E0 st0 w0 (seqK R Q)) a w)
    (hR : ∀ a w, Held N E0 st0 w0 R a w → InLoop P c (Post N E0 st0 w0 Q) a w) : InLoop P c (Post N E0 st0 w0 Q) a w := by
  intro b k cs
  obtain ⟨e, a₁, w₁, hq, harr⟩ := h b (.inLoop c :: k) cs
  cases e with
  | normal =>
    obtain ⟨e₂, a₂, w₂, hq₂, harr₂⟩ := hR a₁ w₁ hq b k cs
    exact ⟨e₂, a₂, w₂, hq₂, .of_steps (Steps.trans harr (.one step_inLoop)) harr₂⟩
  | exit id => exact ⟨.exit id, a₁, w₁, hq, .pass (x := .inLoop c) rfl (fun _ _ => .inl (by simp)) harr⟩
  | ret => exact ⟨.ret, a₁, w₁, hq, .pass (x := .inLoop c) rfl (fun _ _ => .inl (by simp)) harr⟩
  | goto l => exact hq.elim
  | panic ch => exact hq.elim
  | outgrown => exact hq.elim

/-- (CODE) -/
theorem code_ok : ∀ (A : AC) (c : Code), okC P N c A = true → ∀ (Q : Ex → Fr → St → Prop) {fr : Fr} {st : St} {E : Env} {w : World} {a : Act},
    Sim E st w → Ext E0 st0 w0 E st w → FrRel E N fr a → a.defers = [] → wpC (ACall P) A Q fr st → c.wp P (Post N E0 st0 w0 Q) a w
  | .skip, c, hk, Q, fr, st, E, w, a, hs, he, hf, hd, hw => by
    cases c <;> simp [okC] at hk
    · exact wp_skip ⟨fr, st, E, hw, hs, he, hf, hd⟩
    · exact wp_label ⟨fr, st, E, hw, hs, he, hf, hd⟩
  | .reg as, c, hk, Q, fr, st, E, w, a, hs, he, hf, hd, hw => by
    cases c <;> simp [okC] at hk
    rename_i id ops draw
    obtain ⟨rfl, hk⟩ := hk
    refine wp_region ?_
    have := ops_ok (K := regK Q) (Q := Post N E0 st0 w0 Q) as ops.toList 0 hk (fun k o h => by simpa using h) hs hf hw (fun fr' st' E' a' w' h1 h2 h3 h4 h5 => ⟨fr', st', E', h1, h2, he.trans h3, h4, h5.trans hd⟩)
    rw [List.range_eq_range']
    simpa using this
  | .dreg ds kill, c, hk, Q, fr, st, E, w, a, hs, he, hf, hd, hw => by
    cases c <;> simp [okC] at hk
    rename_i id ops draw
    obtain ⟨rfl, hk⟩ := hk
    simp only [wpC] at hw
    rw [T.wp_bind] at hw
    refine draw_ok hk hs hf hw fun fr' st' E' a' w' h1 h2 h3 h4 h5 => ?_
    simp only [cutT] at h1
    rw [Fr.cut_eq] at h1
    refine ⟨fr'.cutL kill, st', E', h1, h2, he.trans h3, ⟨h4.size, fun t => ?_⟩, h5.trans hd⟩
    rw [Fr.get_cutL]
    split
    · exact .junk _
    · exact h4.rel t
  | .seq A B, c, hk, Q, fr, st, E, w, a, hs, he, hf, hd, hw => by
    cases c <;> simp [okC] at hk
    rename_i x y
    refine wp_seq ?_
    refine wp_mono (code_ok A x hk.1 _ hs he hf hd hw) ?_
    intro e a' w' h
    cases e with
    | normal =>
      obtain ⟨fr', st', E', h1, h2, h3, h4, h5⟩ := h
      exact code_ok B y hk.2 Q h2 h3 h4 h5 h1
    | exit id => exact h
    | ret => exact h
    | goto l => exact h
    | panic ch => exact h
    | outgrown => exact h
  | .cond d A B, c, hk, Q, fr, st, E, w, a, hs, he, hf, hd, hw => by
    cases c <;> simp [okC] at hk
    rename_i x y z
    have r1 := okX_rel hk.1.1 hf
    simp only [wpC] at hw
    split at hw
    · rename_i b hb
      rw [hb] at r1
      exact wp_cond_split r1.bool (fun hb => code_ok A y hk.1.2 Q hs he hf hd (hw.1 hb)) (fun hb => code_ok B z hk.2 Q hs he hf hd (hw.2 hb))
    · exact hw.elim
  | .blk id B, c, hk, Q, fr, st, E, w, a, hs, he, hf, hd, hw => by
    cases c <;> simp [okC] at hk
    rename_i id' x
    obtain ⟨rfl, hk⟩ := hk
    refine wp_block (wp_mono (code_ok B x hk _ hs he hf hd hw) ?_)
    intro e a' w' h
    cases e with
    | normal => exact h
    | exit id =>
      obtain ⟨fr', st', E', h1, h2⟩ := h
      simp only [blkK] at h1
      simp only [Exit.inBlock]
      split
      · rename_i hid; rw [if_pos hid] at h1; exact ⟨fr', st', E', h1, h2⟩
      · rename_i hid; rw [if_neg hid] at h1; exact ⟨fr', st', E', h1, h2⟩
    | ret => exact h
    | goto l => exact h
    | panic ch => exact h
    | outgrown => exact h
  | .loop B, c, hk, Q, fr, st, E, w, a, hs, he, hf, hd, hw => by
    cases c <;> simp [okC] at hk
    rename_i x
    have key := hw (fun fr st => ∀ (E : Env) (w : World) (a : Act), Sim E st w → Ext E0 st0 w0 E st w → FrRel E N fr a → a.defers = [] → InLoop P x (Post N E0 st0 w0 Q) a w) (by
      intro fr' fr0 st' hle h' E' w' a' s1 s2 s3 s4
      refine InLoop.round (code_ok B x hk _ s1 s2 (s3.le hle) s4 h') ?_
      rintro a2 w2 ⟨fr2, st2, E2, h1, h2, h3, h4, h5⟩
      exact h1 E2 w2 a2 h2 h3 h4 h5)
    exact (key E w a hs he hf hd).loop
  | .exit id, c, hk, Q, fr, st, E, w, a, hs, he, hf, hd, hw => by
    cases c <;> simp [okC] at hk
    subst hk
    exact wp_exit ⟨fr, st, E, hw, hs, he, hf, hd⟩
  | .ret, c, hk, Q, fr, st, E, w, a, hs, he, hf, hd, hw => by
    cases c <;> simp [okC] at hk
    exact wp_ret ⟨fr, st, E, hw, hs, he, hf, hd⟩
  | .no, c, hk, Q, fr, st, E, w, a, hs, he, hf, hd, hw => hw.elim
end

/-! Functions. -/
def okRes (P : Program) : List ResultVar → List RV → Bool
  | [], [] => true
  | .tmp t :: r, .t n :: q => decide (t = n) && okRes P r q
  | .cell x t :: r, .cell n sz :: q => decide (x = n) && szOk P t sz && okRes P r q
  | _, _ => false
/-- A function of the program, and its abstract text. -/
def okFn (P : Program) (f : Nat) (F : AFn) : Bool :=
  match P.funcs[f]? with
  | some fn => match fn.body with
    | some c => bodyOk P f && okC P fn.ntmps c F.body && okRes P fn.results.toList F.results && decide (F.nparams ≤ fn.ntmps)
    | none => false
  | none => false
/-- What holds at a function's end. -/
def retK (rs : List RV) (K : V → Heap → Prop) : Ex → Fr → St → Prop
  | .exit _, _, _ => False
  | .normal, fr, st => match resOf fr st rs with
    | some v => K v st.g
    | none => False
  | .ret, fr, st => match resOf fr st rs with
    | some v => K v st.g
    | none => False

section
variable {P : Program}
theorem paramFrame_get : ∀ (args : List V) (n t : Nat), (paramFrame n args).get t = if n ≤ t then args.getD (t - n) .junk else .junk
  | [], n, t => by simp [paramFrame, Fr.get]
  | v :: r, n, t => by
    simp only [paramFrame, Fr.get]
    by_cases h : n = t
    · subst h; simp
    · rw [if_neg h, paramFrame_get r (n + 1) t]
      by_cases h1 : n ≤ t
      · rw [if_pos h1, if_pos (by omega), show t - n = (t - (n + 1)) + 1 by omega]
        simp
      · rw [if_neg h1, if_neg (by omega)]

theorem mapM_rel {E : Env} {w : World} {a : Act} {N : Nat} {fr : Fr} {st : St} (hf : FrRel E N fr a) (hs : Sim E st w) : ∀ (rs : List ResultVar) (qs : List RV) (vs : List V), okRes P rs qs = true → resVals fr st qs = some vs →
    ∃ xs : List Value, (rs.mapM (fun
      | .tmp t => pure (a.tmps.getD t undef)
      | .cell x t => do loadVar t (← asAddr (a.tmps.getD x undef)) : ResultVar → Sem Value)).run P w = .ok xs w ∧ RelL E.cut vs xs.toArray
  | [], [], vs, _, h => by
    simp only [resVals, Option.some.injEq] at h
    subst h
    exact ⟨[], rfl, rfl, fun j v x hj => by simp at hj⟩
  | r :: rs, [], vs, hk, h => by cases r <;> simp [okRes] at hk
  | [], q :: qs, vs, hk, h => by simp [okRes] at hk
  | r :: rs, q :: qs, vs, hk, h => by
    simp only [resVals] at h
    split at h
    case h_2 => cases h
    rename_i v vr hv hvr
    simp only [Option.some.injEq] at h
    subst h
    have one : ∃ x, ((match r with
      | .tmp t => pure (a.tmps.getD t undef)
      | .cell x t => do loadVar t (← asAddr (a.tmps.getD x undef)) : Sem Value)).run P w = .ok x w ∧ Rel E.cut v x := by
      cases r with
      | tmp t =>
        cases q with
        | cell => simp [okRes] at hk
        | t n =>
          simp only [okRes, Bool.and_eq_true, decide_eq_true_eq] at hk
          obtain ⟨rfl, _⟩ := hk
          exact ⟨_, rfl, pass_rel hv (hf.rel t)⟩
      | cell y t =>
        cases q with
        | t n => simp [okRes] at hk
        | cell n sz =>
          simp only [okRes, Bool.and_eq_true, decide_eq_true_eq] at hk
          obtain ⟨⟨rfl, hz⟩, _⟩ := hk
          simp only [resVal] at hv
          split at hv
          case h_2 => cases hv
          rename_i k off hp
          split at hv
          case h_2 => cases hv
          rename_i c hob
          split at hv
          case h_2 => cases hv
          rename_i u hu
          have hr := hf.rel y
          rw [hp] at hr
          generalize hyy : a.tmps.getD y undef = yy at hr
          cases hr with
          | deep hd => cases hd
          | p _ _ hk' =>
            obtain ⟨x, hx, hrx⟩ := run_load_cells (P := P) hz ((hs.cs hob).cellsAt.mono (E.at_le k)) hu
            exact ⟨x, by simp only [hyy, asAddr, Sem.run_bind, Sem.run_pure, Result.andThen_ok]; exact hx, pass_rel hv hrx⟩
    obtain ⟨x, hx, hrx⟩ := one
    have hk2 : okRes P rs qs = true := by
      cases r <;> cases q <;> simp [okRes] at hk
      · exact hk.2
      · exact hk.2
    obtain ⟨xs, hxs, hl⟩ := mapM_rel hf hs rs qs vr hk2 hvr
    refine ⟨x :: xs, ?_, ?_⟩
    · rw [List.mapM_cons]
      simp only [Sem.run_bind]
      rw [hx]
      simp only [Result.andThen_ok]
      rw [hxs]
      rfl
    · refine ⟨by simpa using hl.1, fun j u y hj hy => ?_⟩
      cases j with
      | zero => simp at hj hy; subst hj; subst hy; exact hrx
      | succ j => exact hl.2 j u y (by simpa using hj) (by simpa using hy)

/-- (FN) A function's contract, from the run of its abstract text. -/
theorem fn_ok {f : Nat} {F : AFn} (hk : okFn P f F = true) {args : List V} (hn : args.length = F.nparams) {h : Heap} {K : V → Heap → Prop}
    (hw : wpC (ACall P) F.body (retK F.results K) (paramFrame 0 args) (gst h)) : ACall P f args h K := by
  unfold okFn at hk
  split at hk
  case h_2 => cases hk
  rename_i fn hfn
  split at hk
  case h_2 => cases hk
  rename_i c hb
  simp only [Bool.and_eq_true, decide_eq_true_eq] at hk
  obtain ⟨⟨⟨k1, k2⟩, k3⟩, k4⟩ := hk
  refine ⟨k1, fun E w vs hnl hs hv => ?_⟩
  refine calls_of_wp hfn hb ?_
  have hvl := hv.1
  have hfr : FrRel E fn.ntmps (paramFrame 0 args) { tmps := vs ++ Array.replicate (fn.ntmps - vs.size) undef, defers := [] } := by
    refine ⟨by simp; omega, fun t => ?_⟩
    rw [paramFrame_get, if_pos (Nat.zero_le _), Nat.sub_zero]
    by_cases ht : t < args.length
    · have h1 : args[t]? = some args[t] := by simp [ht]
      obtain ⟨x, hx, hr⟩ := hv.get h1
      have : (vs ++ Array.replicate (fn.ntmps - vs.size) undef).getD t undef = x := by
        rw [Array.getD_eq_getD_getElem?, Array.getElem?_append_left (by omega), hx]; rfl
      rw [this]
      simp only [List.getD_eq_getElem?_getD, h1, Option.getD_some]
      exact hr
    · simp only [List.getD_eq_getElem?_getD, List.getElem?_eq_none (Nat.le_of_not_lt ht), Option.getD_none]
      exact .junk _
  refine wp_mono (code_ok (E0 := E) (st0 := gst h) (w0 := w) F.body c k2 _ hs (.refl _ _ _) hfr rfl hw) ?_
  have fin : ∀ (a : Act) (w' : World), Held fn.ntmps E (gst h) w (fun fr st => match resOf fr st F.results with | some v => K v st.g | none => False) a w' →
      a.defers = [] ∧ ∃ v, (results fn a.tmps).run P w' = .ok v w' ∧ ∃ v' x h' E', K v' h' ∧ Ending.returned v = .returned x ∧ E'.nl = 0 ∧ Sim E' (gst h') w' ∧ Ext E (gst h) w E' (gst h') w' ∧ Rel E' v' x := by
    rintro a w' ⟨fr, st, E', hr, s1, s2, s3, s4⟩
    refine ⟨s4, ?_⟩
    have hext : Ext E (gst h) w E'.cut (gst st.g) w' := by
      have hl : ∀ k, (gst st.g).live k → st.live k := by
        intro k hk
        obtain ⟨n, rfl, o, ho⟩ := gst_live hk
        exact ⟨o, ho⟩
      refine ⟨⟨s2.le.imm, s2.le.ng, by rw [hnl]; exact Nat.zero_le _, s2.le.loc⟩, s2.size, s2.immNew, fun k hk he => s2.keyOld k (hl k hk) he, fun k hk he => s2.keyNew k (hl k hk) he, s2.same, s2.os, s2.out, s2.tape⟩
    unfold resOf at hr
    cases hrv : resVals fr st F.results with
    | none => rw [hrv] at hr; exact hr.elim
    | some us =>
      obtain ⟨xs, hx1, hx2⟩ := mapM_rel (P := P) s3 s1 fn.results.toList F.results us k3 hrv
      have hm : (fn.results.mapM (fun
        | .tmp t => pure (a.tmps.getD t undef)
        | .cell x t => do loadVar t (← asAddr (a.tmps.getD x undef)) : ResultVar → Sem Value)).run P w' = .ok xs.toArray w' := by
        have e : fn.results = fn.results.toList.toArray := by simp
        rw [e, List.mapM_toArray, map_eq_pure_bind]
        simp only [Sem.run_bind, hx1, Result.andThen_ok, Sem.run_pure]
      have hlen := hx2.1
      rw [hrv] at hr
      match us, xs, hlen, hx2, hr, hm with
      | [v], [x], _, hx2, hr, hm =>
        refine ⟨x, ?_, v, x, st.g, E'.cut, hr, rfl, rfl, s1.cut, hext, hx2.2 0 v x rfl (by simp)⟩
        simp only [results, Sem.run_bind]
        exact andThen_eq hm (by simp)
      | [], [], _, hx2, hr, hm =>
        refine ⟨.tuple #[], ?_, .tup [], .tuple #[], st.g, E'.cut, hr, rfl, rfl, s1.cut, hext, undef_rel⟩
        simp only [results, Sem.run_bind]
        exact andThen_eq hm (by simp)
      | v1 :: v2 :: vr, x1 :: x2 :: xr, _, hx2, hr, hm =>
        refine ⟨.tuple (x1 :: x2 :: xr).toArray, ?_, .tup (v1 :: v2 :: vr), _, st.g, E'.cut, hr, rfl, rfl, s1.cut, hext, .tup _ _ hx2.1 hx2.2⟩
        simp only [results, Sem.run_bind]
        exact andThen_eq hm (by simp)
  intro e a w' hq
  cases e with
  | normal => exact fin a w' hq
  | ret => exact fin a w' hq
  | exit id => obtain ⟨fr, st, E', h1, _⟩ := hq; exact h1.elim
  | goto l => exact hq.elim
  | panic ch => exact hq.elim
  | outgrown => exact hq.elim
end
end Go.Eng
