/-
A run of so much fuel, and what it promises.
-/
import Derived.Test.YtfobkjdmohaakaaGreatEngCode
namespace Go.Eng
open Go

abbrev Orc := Nat → List V → Heap → Option (V × Heap)

/-- What (*sync.Once).Do does where one goroutine runs. 'run': what a callee does. -/
def onceRun (run : Orc) (args : List V) (h : Heap) : Option (V × Heap) :=
  match args with
  | [.p (.g k) off, .fn g first cap] => match h.get k with
    | some (.cs c) => match c[off]? with
      | some (.i .u32 d) => match decide (d = 0) with
        | true => match c[off + 1]? with
          | some (.i .i32 m) => match decide (m = 0) with
            | true => match run g (first ++ cap) (h.set k (.cs (c.set (off + 1) (.i .i32 1)))) with
              | some (_, h2) => match h2.get k with
                | some (.cs c2) => match c2[off]?, c2[off + 1]? with
                  | some (.i .u32 d2), some (.i .i32 m2) => match decide (d2 = 0) && decide (m2 = 1) with
                    | true => some (.tup [], h2.set k (.cs ((c2.set off (.i .u32 1)).set (off + 1) (.i .i32 0))))
                    | false => none
                  | _, _ => none
                | _ => none
              | none => none
            | false => none
          | _ => none
        | false => some (.tup [], h)
      | _ => none
    | _ => none
  | _ => none
structure OnceOk (P : Program) (once : Nat) : Prop where
  done : ∀ (k off g : Nat) (first cap c : List V) (d : Int) (h : Heap) (K : V → Heap → Prop), h.get k = some (.cs c) → c[off]? = some (.i .u32 d) → d ≠ 0 → K (.tup []) h → ACall P once [.p (.g k) off, .fn g first cap] h K
  first : ∀ (k off g : Nat) (first cap c : List V) (h : Heap) (K : V → Heap → Prop), h.get k = some (.cs c) → c[off]? = some (.i .u32 0) → c[off + 1]? = some (.i .i32 0) →
    ACall P g (first ++ cap) (h.set k (.cs (c.set (off + 1) (.i .i32 1)))) (fun _ h2 => ∃ c2, h2.get k = some (.cs c2) ∧ c2[off]? = some (.i .u32 0) ∧ c2[off + 1]? = some (.i .i32 1) ∧
      K (.tup []) (h2.set k (.cs ((c2.set off (.i .u32 1)).set (off + 1) (.i .i32 0))))) → ACall P once [.p (.g k) off, .fn g first cap] h K
def RunOk (P : Program) (run : Orc) : Prop := ∀ f args h r h', run f args h = some (r, h') → ∀ K : V → Heap → Prop, K r h' → ACall P f args h K
theorem onceRun_ok {P : Program} {once : Nat} (ho : OnceOk P once) {run : Orc} (hr : RunOk P run) {args : List V} {h : Heap} {r : V} {h' : Heap} (hx : onceRun run args h = some (r, h')) {K : V → Heap → Prop} (hK : K r h') : ACall P once args h K := by
  unfold onceRun at hx
  split at hx
  case h_2 => cases hx
  rename_i k off g first cap
  split at hx
  case h_2 => cases hx
  rename_i c hc
  split at hx
  case h_2 => cases hx
  rename_i d hd
  split at hx
  · rename_i d0
    have d0 := of_decide_eq_true d0
    subst d0
    split at hx
    case h_2 => cases hx
    rename_i m hm
    split at hx
    case h_2 => cases hx
    rename_i m0
    have m0 := of_decide_eq_true m0
    subst m0
    split at hx
    case h_2 => cases hx
    rename_i v h2 hrun
    split at hx
    case h_2 => cases hx
    rename_i c2 hc2
    split at hx
    case h_2 => cases hx
    rename_i d2 m2 e1 e2
    split at hx
    case h_2 => cases hx
    rename_i hdm
    simp only [Bool.and_eq_true, decide_eq_true_eq] at hdm
    obtain ⟨rfl, rfl⟩ := hdm
    cases hx
    exact ho.first k off g first cap c h K hc hd hm (hr _ _ _ _ _ hrun _ ⟨c2, hc2, e1, e2, hK⟩)
  · rename_i d0
    have d0 := of_decide_eq_false d0
    cases hx
    exact ho.done k off g first cap c d h K hc hd d0 hK

def exec (fns : Nat → Option AFn) (once : Nat) (orc : Orc) : Nat → AC → Fr → St → Option (Ex × Fr × St)
  | 0, _, _, _ => none
  | n + 1, c, fr, st =>
    let run (f : Nat) (args : List V) (h : Heap) : Option (V × Heap) := match fns f with
      | none => none
      | some fn => match Nat.beq args.length fn.nparams with
        | false => none
        | true => match exec fns once orc n fn.body (paramFrame 0 args) ⟨h, noL⟩ with
          | some (.normal, fr, st) => match resOf fr st fn.results with
            | some v => some (v, st.g)
            | none => none
          | some (.ret, fr, st) => match resOf fr st fn.results with
            | some v => some (v, st.g)
            | none => none
          | _ => none
    let rf (f : Nat) (args : List V) (h : Heap) : Option (V × Heap) :=
      match orc f args h with
      | some r => some r
      | none => match Nat.beq f once with
        | true => onceRun run args h
        | false => run f args h
    match c with
    | .skip => some (.normal, fr, st)
    | .reg ops => match (runOps ops fr st).run rf with
      | some (fr, st) => some (.normal, fr, st)
      | none => none
    | .dreg ds kill => match (runD [] ds fr st).run rf with
      | some (fr, st) => fr.cut kill fun fr => some (.normal, fr, st)
      | none => none
    | .seq a b => match exec fns once orc n a fr st with
      | some (.normal, fr, st) => exec fns once orc n b fr st
      | r => r
    | .cond c a b => match c.ev fr with
      | .b true => exec fns once orc n a fr st
      | .b false => exec fns once orc n b fr st
      | _ => none
    | .blk id b => match exec fns once orc n b fr st with
      | some (.exit id', fr, st) => match Nat.beq id' id with
        | true => some (.normal, fr, st)
        | false => some (.exit id', fr, st)
      | r => r
    | .loop b => match exec fns once orc n b fr st with
      | some (.normal, fr, st) => exec fns once orc n (.loop b) fr st
      | r => r
    | .exit id => some (.exit id, fr, st)
    | .ret => some (.ret, fr, st)
    | .no => none

theorem run_wp {A : CallP} {α : Type} {rf : Orc} (hr : ∀ f args h r h', rf f args h = some (r, h') → ∀ K : V → Heap → Prop, K r h' → A f args h K) : ∀ {t : T α} {a : α}, t.run rf = some a → ∀ K : α → Prop, K a → t.wp A K
  | .ret x, a, h, K, hk => by simp only [T.run, Option.some.injEq] at h; subst h; exact hk
  | .ite c t e, a, h, K, hk => by
    cases c with
    | true => exact wIf_t rfl (run_wp hr (t := t) h K hk)
    | false => exact wIf_f rfl (run_wp hr (t := e) h K hk)
  | .elem o k, a, h, K, hk => by
    cases o with
    | none => simp [T.run] at h
    | some x => exact ⟨x, rfl, run_wp hr (t := k x) h K hk⟩
  | .byte o k, a, h, K, hk => by
    cases o with
    | none => simp [T.run] at h
    | some x => exact ⟨x, rfl, run_wp hr (t := k x) h K hk⟩
  | .els o k, a, h, K, hk => by
    cases o with
    | none => simp [T.run] at h
    | some x => exact ⟨x, rfl, run_wp hr (t := k x) h K hk⟩
  | .bys o k, a, h, K, hk => by
    cases o with
    | none => simp [T.run] at h
    | some x => exact ⟨x, rfl, run_wp hr (t := k x) h K hk⟩
  | .obj o k, a, h, K, hk => by
    cases o with
    | none => simp [T.run] at h
    | some x => exact ⟨x, rfl, run_wp hr (t := k x) h K hk⟩
  | .optc o n k, a, h, K, hk => by
    cases o with
    | none => exact wOpt_n rfl (run_wp hr (t := n) h K hk)
    | some x => exact wOpt_i rfl (run_wp hr (t := k x) h K hk)
  | .chk c k, a, h, K, hk => by
    cases c with
    | true => exact ⟨rfl, run_wp hr (t := k) h K hk⟩
    | false => simp [T.run] at h
  | .wrap kd n k, a, h, K, hk => .inl (run_wp hr (t := k (kd.wrap n)) h K hk)
  | .any k, a, h, K, hk => by simp [T.run] at h
  | .same v u k, a, h, K, hk => by
    simp only [T.run] at h
    cases hb : v.beq u with
    | true => rw [hb] at h; exact ⟨V.beq_eq hb, run_wp hr (t := k) h K hk⟩
    | false => rw [hb] at h; simp at h
  | .call f args hh k, a, h, K, hk => by
    simp only [T.run] at h
    cases hq : rf f args hh with
    | none => rw [hq] at h; simp at h
    | some p =>
      obtain ⟨r, h'⟩ := p
      rw [hq] at h
      exact hr f args hh r h' hq _ (run_wp hr (t := k r h') h K hk)
  | .fail, a, h, K, hk => by simp [T.run] at h

/-- An oracle that tells the truth. -/
abbrev OrcOk (P : Program) (orc : Orc) : Prop := RunOk P orc
def FnsOk (P : Program) (fns : Nat → Option AFn) : Prop := ∀ f F, fns f = some F → okFn P f F = true

theorem exec_ok {P : Program} {fns : Nat → Option AFn} {once : Nat} {orc : Orc} (hf : FnsOk P fns) (hon : OnceOk P once) (ho : OrcOk P orc) : ∀ (n : Nat) (c : AC) (fr : Fr) (st : St) (e : Ex) (fr' : Fr) (st' : St),
    exec fns once orc n c fr st = some (e, fr', st') → ∀ Q : Ex → Fr → St → Prop, Q e fr' st' → wpC (ACall P) c Q fr st
  | 0, c, fr, st, e, fr', st', h, Q, hq => by simp [exec] at h
  | n + 1, c, fr, st, e, fr', st', h, Q, hq => by
    have ih := exec_ok hf hon ho n
    have hrun : RunOk P (fun (f : Nat) (args : List V) (h : Heap) => (match fns f with
      | none => none
      | some fn => match Nat.beq args.length fn.nparams with
        | false => none
        | true => match exec fns once orc n fn.body (paramFrame 0 args) ⟨h, noL⟩ with
          | some (.normal, fr, st) => match resOf fr st fn.results with
            | some v => some (v, st.g)
            | none => none
          | some (.ret, fr, st) => match resOf fr st fn.results with
            | some v => some (v, st.g)
            | none => none
          | _ => none : Option (V × Heap))) := by
      intro f args hh r h' hr K hK
      dsimp only at hr
      split at hr
      · cases hr
      · rename_i fn hfn
        split at hr
        · cases hr
        · rename_i hn
          have hn := Nat.eq_of_beq_eq_true hn
          split at hr
          · rename_i fr1 st1 hx
            split at hr
            · rename_i v hv
              cases hr
              exact fn_ok (hf f fn hfn) hn (ih _ _ _ _ _ _ hx _ (by simp only [retK, hv]; exact hK))
            · cases hr
          · rename_i fr1 st1 hx
            split at hr
            · rename_i v hv
              cases hr
              exact fn_ok (hf f fn hfn) hn (ih _ _ _ _ _ _ hx _ (by simp only [retK, hv]; exact hK))
            · cases hr
          · cases hr
    have hrf : RunOk P (fun (f : Nat) (args : List V) (h : Heap) => (match orc f args h with
      | some r => some r
      | none => match Nat.beq f once with
        | true => onceRun (fun (f : Nat) (args : List V) (h : Heap) => (match fns f with
          | none => none
          | some fn => match Nat.beq args.length fn.nparams with
            | false => none
            | true => match exec fns once orc n fn.body (paramFrame 0 args) ⟨h, noL⟩ with
              | some (.normal, fr, st) => match resOf fr st fn.results with
                | some v => some (v, st.g)
                | none => none
              | some (.ret, fr, st) => match resOf fr st fn.results with
                | some v => some (v, st.g)
                | none => none
              | _ => none : Option (V × Heap))) args h
        | false => (match fns f with
          | none => none
          | some fn => match Nat.beq args.length fn.nparams with
            | false => none
            | true => match exec fns once orc n fn.body (paramFrame 0 args) ⟨h, noL⟩ with
              | some (.normal, fr, st) => match resOf fr st fn.results with
                | some v => some (v, st.g)
                | none => none
              | some (.ret, fr, st) => match resOf fr st fn.results with
                | some v => some (v, st.g)
                | none => none
              | _ => none : Option (V × Heap)) : Option (V × Heap))) := by
      intro f args hh r h' hr K hK
      dsimp only at hr
      split at hr
      · rename_i r0 h0
        cases hr
        exact ho f args hh r h' h0 K hK
      · split at hr
        · rename_i hb
          have hb := Nat.eq_of_beq_eq_true hb
          subst hb
          exact onceRun_ok hon hrun hr hK
        · exact hrun f args hh r h' hr K hK
    simp only [exec] at h
    split at h
    · cases h; exact hq
    · split at h
      · rename_i fr1 st1 hx
        cases h
        exact run_wp hrf hx _ hq
      · cases h
    · split at h
      · rename_i fr1 st1 hx
        rw [Fr.cut_eq] at h
        cases h
        simp only [wpC]
        rw [T.wp_bind]
        refine run_wp hrf hx _ ?_
        simp only [cutT]
        rw [Fr.cut_eq]
        exact hq
      · cases h
    · rename_i a b
      split at h
      · rename_i fr1 st1 hx
        exact ih _ _ _ _ _ _ hx _ (ih _ _ _ _ _ _ h _ hq)
      · rename_i hno
        refine ih _ _ _ _ _ _ h _ ?_
        cases e with
        | normal => exact (hno _ _ h).elim
        | exit id => exact hq
        | ret => exact hq
    · rename_i c a b
      simp only [wpC]
      split at h
      · rename_i hb
        rw [hb]
        exact wIf_t rfl (ih _ _ _ _ _ _ h _ hq)
      · rename_i hb
        rw [hb]
        exact wIf_f rfl (ih _ _ _ _ _ _ h _ hq)
      · cases h
    · rename_i id b
      split at h
      · rename_i id' fr1 st1 hx
        split at h
        · rename_i hid
          have hid := Nat.eq_of_beq_eq_true hid
          cases h
          refine ih _ _ _ _ _ _ hx _ ?_
          simp only [blkK, if_pos hid]; exact hq
        · rename_i hid
          have hid := Nat.ne_of_beq_eq_false hid
          cases h
          refine ih _ _ _ _ _ _ hx _ ?_
          simp only [blkK, if_neg hid]; exact hq
      · rename_i hno
        refine ih _ _ _ _ _ _ h _ ?_
        cases e with
        | normal => exact hq
        | exit id => exact (hno _ _ _ h).elim
        | ret => exact hq
    · rename_i b
      intro R hR
      split at h
      · rename_i fr1 st1 hx
        exact hR _ _ _ (Fr.le_refl _) (ih _ _ _ _ _ _ hx _ (ih _ _ _ _ _ _ h Q hq R hR))
      · rename_i hno
        refine hR _ _ _ (Fr.le_refl _) (ih _ _ _ _ _ _ h _ ?_)
        cases e with
        | normal => exact (hno _ _ h).elim
        | exit id => exact hq
        | ret => exact hq
    · cases h; exact hq
    · cases h; exact hq
    · cases h

/-- The functions' texts, by their numbers. -/
inductive FT where
  | nil
  | node (l : FT) (k : Nat) (F : AFn) (r : FT)
def FT.get : FT → Nat → Option AFn
  | .nil, _ => none
  | .node l k F r, f => match Nat.beq f k with
    | true => some F
    | false => match Nat.ble f k with
      | true => l.get f
      | false => r.get f
def FT.ok (P : Program) : FT → Bool
  | .nil => true
  | .node l k F r => okFn P k F && (l.ok P && r.ok P)
theorem FT.get_ok {P : Program} : ∀ {t : FT}, t.ok P = true → FnsOk P t.get
  | .nil, _, f, F, h => by simp [FT.get] at h
  | .node l k G r, hk, f, F, h => by
    simp only [FT.ok, Bool.and_eq_true] at hk
    simp only [FT.get] at h
    split at h
    · rename_i hb
      have := Nat.eq_of_beq_eq_true hb
      subst this
      cases h
      exact hk.1
    · split at h
      · exact FT.get_ok hk.2.1 f F h
      · exact FT.get_ok hk.2.2 f F h

theorem FT.node_ok {P : Program} {l r : FT} {k : Nat} {F : AFn} (a : okFn P k F = true) (b : l.ok P = true) (c : r.ok P = true) : (FT.node l k F r).ok P = true := by simp [FT.ok, a, b, c]
theorem FT.nil_ok {P : Program} : FT.nil.ok P = true := rfl

/-- A call that is run. -/
def runFn (fns : Nat → Option AFn) (once : Nat) (orc : Orc) (n : Nat) (f : Nat) (args : List V) (h : Heap) : Option (V × Heap) :=
  match fns f with
  | none => none
  | some fn => match Nat.beq args.length fn.nparams with
    | false => none
    | true => match exec fns once orc n fn.body (paramFrame 0 args) ⟨h, noL⟩ with
      | some (.normal, fr, st) => match resOf fr st fn.results with
        | some v => some (v, st.g)
        | none => none
      | some (.ret, fr, st) => match resOf fr st fn.results with
        | some v => some (v, st.g)
        | none => none
      | _ => none
theorem runFn_ok {P : Program} {fns : Nat → Option AFn} {once : Nat} {orc : Orc} (hf : FnsOk P fns) (hon : OnceOk P once) (ho : OrcOk P orc) {n f : Nat} {args : List V} {h : Heap} {r : V} {h' : Heap}
    (hr : runFn fns once orc n f args h = some (r, h')) {K : V → Heap → Prop} (hK : K r h') : ACall P f args h K := by
  unfold runFn at hr
  split at hr
  · cases hr
  · rename_i fn hfn
    split at hr
    · cases hr
    · rename_i hn
      have hn := Nat.eq_of_beq_eq_true hn
      split at hr
      · rename_i fr1 st1 hx
        split at hr
        · rename_i v hv
          cases hr
          exact fn_ok (hf f fn hfn) hn (exec_ok hf hon ho _ _ _ _ _ _ _ hx _ (by simp only [retK, hv]; exact hK))
        · cases hr
      · rename_i fr1 st1 hx
        split at hr
        · rename_i v hv
          cases hr
          exact fn_ok (hf f fn hfn) hn (exec_ok hf hon ho _ _ _ _ _ _ _ hx _ (by simp only [retK, hv]; exact hK))
        · cases hr
      · cases hr
end Go.Eng
