/-
Each operation of the model does what the abstract step says (part eleven: copy, clear, min and max, maps, calls).
-/
import Derived.Test.YtfobkjdmohaakaaGreatEngOps10
namespace Go.Eng
open Go

section
variable {P : Program} {o : Oper} {a : Act} {E : Env} {N : Nat} {st : St} {w : World} {fr : Fr} {next : Act → World → Prop} {Q : Exit → Act → World → Prop} {K : R → Prop}

theorem InRow.take {cs : List V} {xs : List Value} (hr : InRow E cs xs) (n : Nat) : InRow E (cs.take n) (xs.take n) := by
  intro j v hj
  rw [List.getElem?_take] at hj ⊢
  split at hj
  · rename_i h
    rw [if_pos h]
    exact hr j v hj
  · cases hj

theorem undef_rel : Rel E (.tup []) (.tuple #[]) := .tup _ _ rfl (fun j v x hj => by simp at hj)

/-- Elements of a row are written over. -/
theorem Sim.over (hs : Sim E st w) {k : Key} {sz : Nat} {es ds : List (List V)} (hob : st.get k = some (.arr sz es)) {xs : List Value} {off : Nat} (hd : ∀ e ∈ ds, e.length = sz) (hin : off + ds.length ≤ es.length)
    (hxl : xs.length = ds.length * sz) (hr : InRow (E.ofG k.isG) ds.flatten xs) (h1 : ∀ x ∈ xs, x.oneCell' = true) :
    Sim E (st.set k (.arr sz (es.take off ++ ds ++ es.drop (off + ds.length)))) (w.setCells (E.μ k).blk ((E.μ k).base + off * sz) xs) ∧
    Ext E st w E (st.set k (.arr sz (es.take off ++ ds ++ es.drop (off + ds.length)))) (w.setCells (E.μ k).blk ((E.μ k).base + off * sz) xs) ∧
    w.there (E.μ k).blk ((E.μ k).base + off * sz) xs.length := by
  obtain ⟨hl, cells, ty, fz, r1, r2, r3, r4, r5⟩ := hs.obj k _ hob
  have hfe := flat_len hl
  have hfd := flat_len hd
  have hm1 : (off + ds.length) * sz ≤ es.length * sz := Nat.mul_le_mul_right _ hin
  rw [Nat.add_mul] at hm1
  have hset := set_els hl hd hin
  have hrow := RowOf.written r1 r2 r3 r4 r5 (off := off * sz) (vs := ds.flatten) (xs := xs) (by rw [Env.at_isG]; exact hr.relL (by rw [hxl, hfd])) h1 (by omega)
  rw [← hset] at hrow
  have hl2 : ∀ e ∈ es.take off ++ ds ++ es.drop (off + ds.length), e.length = sz := by
    intro e he
    rcases List.mem_append.1 he with h | h
    · rcases List.mem_append.1 h with h | h
      · exact hl e (List.mem_of_mem_take h)
      · exact hd e h
    · exact hl e (List.mem_of_mem_drop h)
  obtain ⟨s1, s2⟩ := hs.write hob r1 r4 (pos := (E.μ k).base + off * sz) (xs := xs) (by omega) (by omega) (.arr sz (es.take off ++ ds ++ es.drop (off + ds.length))) ⟨hl2, hrow⟩
  exact ⟨s1, s2, Row.there r1 r2 (by omega)⟩

theorem run_storeCells {b c : Nat} {xs : List Value} (ht : w.there b c xs.length) (h1 : ∀ y ∈ xs, y.oneCell' = true) : (storeCells ⟨b, c, none⟩ xs).run P w = .ok () (w.setCells b c xs) := by
  have := run_storeCells_cells (P := P) b c xs 0 w (fun j hj => by simpa using (ht j hj).1) (fun j hj => by simpa using (ht j hj).2) h1
  simpa using this

theorem step_copy {x y : Operand} {d e : Opd} {ts : Array TypeId} {t el : TypeId} {sz : Nat} (ho : o.op = .call { callee := .builtin .copy, args := #[x, y], argTypes := ts }) (ht : ts[0]? = some t) (hu : P.underlying t = some (.slice el))
    (hz : (P.info? el).map (·.size) = some sz) (hx : okX x d = true) (hy : okX y e = true)
    (hs : Sim E st w) (hf : FrRel E N fr a) (hw : (step (.copy sz d e) fr st).wp (ACall P) K) (hc : Cont E st w o a next K) : o.wp P a w next Q := by
  have r1 := okX_rel hx hf
  have r2 := okX_rel hy hf
  cases hq : P.info? el with
  | none => simp [hq] at hz
  | some i =>
  have hi : i.size = sz := by simpa [hq] using hz
  simp only [step] at hw
  obtain ⟨src, xs, hw, hsh⟩ := elems_ok (P := P) hs r2 hw
  split at hw
  case h_2 => exact hw.elim
  rename_i k sz' off len e1
  rw [e1] at r1
  split at hw
  case isFalse => exact hw.elim
  rename_i hz'
  subst hz'
  obtain ⟨ds, hds, ob, hob, hw⟩ := hw
  dsimp only at hw
  split at hw
  case h_2 => exact hw.elim
  rename_i sz'' es
  split at hw
  case isFalse => exact hw.elim
  rename_i hz'
  subst hz'
  obtain ⟨hin, hw⟩ := hw
  have hin : off + len ≤ es.length := by simpa using hin
  obtain ⟨hd1, hd2, hd3⟩ := ownElems_spec hds
  have hlt : ∀ e ∈ src.take len, e.length = sz'' := fun e he => hsh.elen e (List.mem_of_mem_take he)
  have hd3 := hd3 hlt
  have hn : ds.length = min len src.length := by rw [hd2, List.length_take]
  have hxl : (xs.take (ds.length * sz'')).length = ds.length * sz'' := by
    rw [List.length_take, hsh.xlen]
    have : ds.length * sz'' ≤ src.length * sz'' := Nat.mul_le_mul_right _ (by omega)
    omega
  have htk : src.take len = src.take ds.length := by rw [hn, Nat.min_comm, List.take_eq_take_iff]; omega
  have hrr : InRow E (src.take len).flatten (xs.take (ds.length * sz'')) := by
    rw [htk, flat_take hsh.elen]
    exact hsh.rel.take _
  have hrd := hrr.own hd1 (by rw [hxl, flat_len hlt, List.length_take, hn])
  have h1 : ∀ y ∈ xs.take (ds.length * sz''), y.oneCell' = true := fun y hy => hsh.one y (List.mem_of_mem_take hy)
  obtain ⟨s1, s2, s3⟩ := hs.over hob hd3 (off := off) (by omega) hxl hrd h1
  have hfc := hsh.first w rfl ds.length (by omega)
  have hlen := hsh.len w
  generalize hv : a.eval x = y at r1
  cases r1 with
  | deep hd => cases hd
  | ms _ _ _ _ ad cap hk hcc hh hbk ha =>
  refine wp_val (x := goInt ds.length) ?_ (hc _ _ E _ _ hw s1 s2 (.deep (.i _ _)))
  have hmin : Nat.min src.length len = ds.length := by rw [hn]; exact Nat.min_comm _ _
  have hst : (storeCells ad (xs.take (ds.length * sz''))).run P w = .ok () (w.setCells (E.μ k).blk ((E.μ k).base + off * sz'') (xs.take (ds.length * sz''))) := by
    rcases ha with h | h
    · have hn0 : ds.length = 0 := by omega
      have h0 : xs.take (ds.length * sz'') = [] := by simp [hn0]
      rw [h0]; rfl
    · subst h
      exact run_storeCells s3 h1
  simp [execOp, ho, resolve, invoke, builtin, Builtin.copy_, ht, hv, run_underlying hu, hlen, sizeOf, typeInfo, hq, hi, hmin, hfc, hst, Result.andThen]

theorem step_clear {x : Operand} {d : Opd} {ts : Array TypeId} {t el : TypeId} {sz bytes : Nat} {zero : List V} (ho : o.op = .call { callee := .builtin .clear, args := #[x], argTypes := ts }) (ht : ts[0]? = some t) (hu : P.underlying t = some (.slice el))
    (hel : elOk P el sz bytes = true) (hzo : zeroOk P el zero = true) (hx : okX x d = true)
    (hs : Sim E st w) (hf : FrRel E N fr a) (hw : (step (.clear sz zero d) fr st).wp (ACall P) K) (hc : Cont E st w o a next K) : o.wp P a w next Q := by
  obtain ⟨i, z, hi, hz0, hsz, hby, hszp, hbyp, hzs⟩ := elOk_spec hel
  obtain ⟨i', z', hi', hz0', hsz', hr, hl, h1⟩ := zeroOk_spec hzo
  rw [hi] at hi'; cases hi'
  rw [hz0] at hz0'; cases hz0'
  have hzl : zero.length = sz := by omega
  have r1 := okX_rel hx hf
  simp only [step] at hw
  split at hw
  · rename_i e1
    rw [e1] at r1
    have hv := r1.nilsv
    exact wp_val (x := .tuple #[]) (by simp [execOp, ho, resolve, invoke, builtin, Builtin.clear_, ht, hv, run_underlying hu, Result.andThen]) (hc.same hs hw undef_rel)
  · rename_i k sz' off len e1
    rw [e1] at r1
    split at hw
    case isFalse => exact hw.elim
    rename_i hz'
    subst hz'
    obtain ⟨ob, hob, hw⟩ := hw
    dsimp only at hw
    split at hw
    case h_2 => exact hw.elim
    rename_i sz'' es
    split at hw
    case isFalse => exact hw.elim
    rename_i hz'
    subst hz'
    obtain ⟨hin, hw⟩ := hw
    have hin : off + len ≤ es.length := by simpa using hin
    have hlr : ∀ e ∈ List.replicate len zero, e.length = sz'' := fun e he => by rw [(List.mem_replicate.1 he).2]; exact hzl
    have hmr := made_rel (len := len) (hr (E.ofG k.isG)) (by omega)
    have hmo := made_one (n := len * zero.length) h1 (by omega)
    rw [hzl] at hmr hmo
    have hrow := hmr.inRow hmo
    have hms : (madeCells z.cells (len * sz'')).toList.length = (List.replicate len zero).length * sz'' := by simp [size_madeCells]
    have hm1 : ∀ y ∈ (madeCells z.cells (len * sz'')).toList, y.oneCell' = true := fun y hy => by
      obtain ⟨j, hj⟩ := List.getElem?_of_mem hy
      rw [Array.getElem?_toList] at hj
      exact hmo j y hj
    obtain ⟨s1, s2, s3⟩ := hs.over hob hlr (off := off) (by rw [List.length_replicate]; exact hin) hms hrow hm1
    rw [List.length_replicate] at s1 s2
    generalize hv : a.eval x = y at r1
    cases r1 with
    | deep hd => cases hd
    | ms _ _ _ _ ad cap hk hcc hh hbk ha =>
    refine wp_val (x := .tuple #[]) ?_ (hc _ _ E _ _ hw s1 s2 undef_rel)
    cases len with
    | zero =>
      have h0 : (madeCells z.cells (0 * sz'')).toList = [] := by simp [madeCells, Array.range_zero']
      rw [h0]
      simp [execOp, ho, resolve, invoke, builtin, Builtin.clear_, ht, hv, run_underlying hu, Result.andThen, World.setCells]
    | succ n =>
      have ha : ad = ⟨(E.μ k).blk, (E.μ k).base + off * sz'', none⟩ := by
        rcases ha with h | h
        · omega
        · exact h
      subst ha
      have hst := run_storeCells (P := P) s3 hm1
      have hzc : Builtin.zeroCells z.cells (n + 1) = madeCells z.cells ((n + 1) * sz'') := by simp only [Builtin.zeroCells, madeCells, hzs]
      simp [execOp, ho, resolve, invoke, builtin, Builtin.clear_, ht, hv, run_underlying hu, Result.andThen, zeroValue, typeInfo, hi, hz0, hzc, hst]
  · exact hw.elim

/-! Least and greatest. -/
theorem mnmx_spec {max : Bool} : ∀ {vs : List V} {xs : List Value} {v u : V} {x : Value}, RelL E vs xs.toArray → Rel E v x → mnmxFold max v vs = some u →
    ∃ y, (match max with | true => xs.foldlM Builtin.max2 x | false => xs.foldlM Builtin.min2 x : Sem Value).run P w = .ok y w ∧ Rel E u y
  | [], xs, v, u, x, hr, hv, h => by
    have : xs = [] := by
      have := hr.1
      simpa using this
    subst this
    have hu : u = v := by simp [mnmxFold] at h; exact h.symm
    subst hu
    refine ⟨x, ?_, hv⟩
    cases max <;> rfl
  | v1 :: vr, xs, v, u, x, hr, hv, h => by
    have hlen := hr.1
    cases xs with
    | nil => simp at hlen
    | cons x1 xr =>
    have h1 : Rel E v1 x1 := hr.2 0 v1 x1 rfl (by simp)
    have htl : RelL E vr xr.toArray := ⟨by simpa using hlen, fun j q y hq hy => hr.2 (j + 1) q y (by simpa using hq) (by simpa using hy)⟩
    unfold mnmxFold at h
    split at h
    · cases ‹_ = []›
    · rename_i k p k' q r' heq
      cases heq
      have hv := hv.int
      have h1 := h1.int
      subst hv; subst h1
      cases max with
      | true =>
        simp only at h
        obtain ⟨y, hy, hry⟩ := mnmx_spec (x := .int k (if p < q then q else p)) htl (.deep (.i _ _)) h
        refine ⟨y, ?_, hry⟩
        simp only [List.foldlM_cons, Sem.run_bind, Builtin.max2, Sem.run_pure, Result.andThen_ok]
        exact hy
      | false =>
        simp only at h
        obtain ⟨y, hy, hry⟩ := mnmx_spec (x := .int k (if q < p then q else p)) htl (.deep (.i _ _)) h
        refine ⟨y, ?_, hry⟩
        simp only [List.foldlM_cons, Sem.run_bind, Builtin.min2, Sem.run_pure, Result.andThen_ok]
        exact hy
    · cases h

theorem step_mnmx {max : Bool} {xs : Array Operand} {ds : List Opd} {ts : Array TypeId} (ho : o.op = .call { callee := .builtin (if max then .max else .min), args := xs, argTypes := ts }) (hx : okXs xs.toList ds = true)
    (hs : Sim E st w) (hf : FrRel E N fr a) (hw : (step (.mnmx max ds) fr st).wp (ACall P) K) (hc : Cont E st w o a next K) : o.wp P a w next Q := by
  have r1 := okXs_rel hf hx
  simp only [step] at hw
  split at hw
  case h_2 => exact hw.elim
  rename_i v r e1
  rw [e1] at r1
  unfold T.opt at hw
  split at hw
  case h_2 => exact hw.elim
  rename_i u hu
  have hlen := r1.1
  cases hl : xs.toList.map a.eval with
  | nil => rw [hl] at hlen; simp at hlen
  | cons y ys =>
    rw [hl] at r1
    have h1 : Rel E v y := r1.2 0 v y rfl (by simp)
    have htl : RelL E r ys.toArray := ⟨by have := r1.1; simpa using this, fun j q z hq hz => r1.2 (j + 1) q z (by simpa using hq) (by simpa using hz)⟩
    obtain ⟨z, hz, hrz⟩ := mnmx_spec (P := P) (w := w) htl h1 hu
    have hm : (xs.map a.eval).toList = y :: ys := by rw [Array.toList_map, hl]
    refine wp_val (x := z) ?_ (hc.same hs hw hrz)
    cases max with
    | true => simp only at hz; simp [execOp, ho, resolve, invoke, builtin, Builtin.max_, hl, hz, Result.andThen]
    | false => simp only at hz; simp [execOp, ho, resolve, invoke, builtin, Builtin.min_, hl, hz, Result.andThen]

/-! Maps. -/
def keyTy (P : Program) (kt : TypeId) (kd : Option IntKind) : Bool :=
  match P.underlying kt, kd with
  | some .string, none => true
  | some (.int q), some k => decide (q = k)
  | _, _ => false
theorem keyTy_spec {kt : TypeId} {kd : Option IntKind} (h : keyTy P kt kd = true) : ∃ d, P.underlying kt = some d ∧
    ∀ {I : Imm} {v : V} {x : Value}, v.isKeyOf kd = true → RelD I v x → MapKept.IsKey d x := by
  unfold keyTy at h
  split at h
  · rename_i hu
    refine ⟨_, hu, fun {I v x} hk hr => ?_⟩
    unfold V.isKeyOf at hk
    split at hk
    · cases hr; trivial
    · rename_i e1; cases e1
    · cases hk
  · rename_i q k hu
    refine ⟨_, hu, fun {I v x} hk hr => ?_⟩
    simp only [decide_eq_true_eq] at h
    subst h
    unfold V.isKeyOf at hk
    split at hk
    · rename_i e1; cases e1
    · rename_i e1
      cases e1
      simp only [decide_eq_true_eq] at hk
      subst hk
      cases hr; rfl
    · cases hk
  · cases h
theorem Rel.key {kd : Option IntKind} {v : V} {x : Value} (hk : v.isKeyOf kd = true) (h : Rel E v x) : RelD E.I v x := by
  unfold V.isKeyOf at hk
  split at hk
  · cases h; assumption
  · cases h; assumption
  · cases hk
theorem keyEq_iff {I : Imm} {kd : Option IntKind} {v u : V} {x y : Value} (hv : v.isKeyOf kd = true) (hu : u.isKeyOf kd = true) (h1 : RelD I v x) (h2 : RelD I u y) : keyEq v u = true ↔ x = y := by
  unfold V.isKeyOf at hv hu
  split at hv
  · split at hu
    · cases h1; cases h2
      simp only [keyEq, beq_iff_eq, Value.string.injEq]
      constructor
      · rintro rfl; rfl
      · intro h
        have := congrArg (fun b => b.data.toList) h
        simpa [str] using this
    · rename_i e1; cases e1
    · cases hu
  · split at hu
    · rename_i e1; cases e1
    · rename_i e1
      cases e1
      simp only [decide_eq_true_eq] at hv hu
      subst hv; subst hu
      cases h1; cases h2
      simp [keyEq]
    · cases hu
  · cases hv

def PairRel (E : Env) (kd : Option IntKind) (es : List (V × V)) (l : List MapEntry) : Prop :=
  l.length = es.length ∧ ∀ (j : Nat) (q : V × V) (e : MapEntry), es[j]? = some q → l[j]? = some e → RelD E.I q.1 e.key ∧ q.1.isKeyOf kd = true ∧ Rel E q.2 e.val
theorem find_spec {kd : Option IntKind} {d : TypeDesc} (hd : ∀ {I : Imm} {v : V} {x : Value}, v.isKeyOf kd = true → RelD I v x → MapKept.IsKey d x) {kv : V} {k : Value} (hkv : kv.isKeyOf kd = true) (hk : RelD E.I kv k) (u : V) :
    ∀ (es : List (V × V)) (l : List MapEntry) (i : Nat), PairRel E kd es l →
      (Instr.findNow d k l i = some none ∧ mfind es kv = none ∧ mput es kv u = es ++ [(kv, u)] ∧ mdel es kv = es) ∨
      ∃ j e q, Instr.findNow d k l i = some (some (i + j, e.val)) ∧ l[j]? = some e ∧ es[j]? = some q ∧ e.key = k ∧ mfind es kv = some q.2 ∧ mput es kv u = es.set j (kv, u) ∧ mdel es kv = es.eraseIdx j
  | [], l, i, h => by
    have : l = [] := List.eq_nil_of_length_eq_zero h.1
    subst this
    exact .inl ⟨rfl, rfl, rfl, rfl⟩
  | q :: es, l, i, h => by
    obtain ⟨q1, q2⟩ := q
    cases l with
    | nil => have := h.1; simp at this
    | cons e l =>
    obtain ⟨h1, h2, h3⟩ := h.2 0 _ e rfl rfl
    have hkd := hd hkv hk
    have hed := hd h2 h1
    obtain ⟨r, hr, hiff⟩ := MapKept.sameNow_of_keys hkd hed
    have hq := keyEq_iff hkv h2 hk h1
    cases r with
    | true =>
      have he := hiff.1 rfl
      have hke : keyEq kv q1 = true := hq.2 he
      exact .inr ⟨0, e, (q1, q2), by simp [Instr.findNow, hr], rfl, rfl, he.symm, by simp [mfind, hke], by simp [mput, hke], by simp [mdel, hke]⟩
    | false =>
      have hke : keyEq kv q1 = false := by
        cases hb : keyEq kv q1 with
        | false => rfl
        | true => have := hiff.2 (hq.1 hb); cases this
      have hp : PairRel E kd es l := ⟨by have := h.1; simpa using this, fun j p e' hp he => h.2 (j + 1) p e' (by simpa using hp) (by simpa using he)⟩
      rcases find_spec hd hkv hk u es l (i + 1) hp with ⟨a1, a2, a3, a4⟩ | ⟨j, e', q', a1, a2, a3, a4, a5, a6, a7⟩
      · exact .inl ⟨by simp [Instr.findNow, hr, a1], by simp [mfind, hke, a2], by simp [mput, hke, a3], by simp [mdel, hke, a4]⟩
      · exact .inr ⟨j + 1, e', q', by simp [Instr.findNow, hr, a1]; omega, by simpa using a2, by simpa using a3, a4, by simp [mfind, hke, a5], by simp [mput, hke, a6], by simp [mdel, hke, a7]⟩

theorem Sim.mapAt (hs : Sim E st w) {k : Key} {kd : Option IntKind} {es : List (V × V)} (hob : st.get k = some (.mp kd es)) : ∃ ents clock, w.heap[(E.μ k).blk]? = some (.map ents clock) ∧ PairRel (E.at k) kd es ents.toList := by
  obtain ⟨ents, clock, h1, h2, h3, _⟩ := hs.obj k _ hob
  exact ⟨ents, clock, h1, by simpa using h2, fun j q e hq he => h3 j q e hq (by simpa using he)⟩

theorem Sim.mapBorn (hs : Sim E st w) {k : Key} {kd : Option IntKind} {es : List (V × V)} (hob : st.get k = some (.mp kd es)) {ents : Array MapEntry} {clock : Nat} (hb : w.heap[(E.μ k).blk]? = some (.map ents clock)) : ∀ x ∈ ents.toList, x.born < clock := by
  obtain ⟨ents', clock', h1, _, _, h4⟩ := hs.obj k _ hob
  rw [hb] at h1
  cases h1
  exact h4
theorem born_push {ents : Array MapEntry} {clock : Nat} (h : ∀ x ∈ ents.toList, x.born < clock) (k v : Value) : ∀ x ∈ (ents.push { key := k, val := v, born := clock }).toList, x.born < clock + 1 := by
  intro x hx
  rw [Array.toList_push, List.mem_append, List.mem_singleton] at hx
  rcases hx with hx | rfl
  · have := h x hx; omega
  · exact Nat.lt_succ_self _
theorem born_modify {ents : Array MapEntry} {clock : Nat} (h : ∀ x ∈ ents.toList, x.born < clock) (j : Nat) (k v : Value) : ∀ x ∈ (ents.modify j fun e' => { e' with key := k, val := v }).toList, x.born < clock := by
  intro x hx
  obtain ⟨i, hi⟩ := List.getElem?_of_mem hx
  rw [Array.getElem?_toList, Array.getElem?_modify] at hi
  split at hi
  · cases hq : ents[i]? with
    | none => rename_i hji; subst hji; rw [hq] at hi; cases hi
    | some e => rename_i hji; subst hji; rw [hq] at hi; simp at hi; subst hi; exact h e (by simpa using Array.mem_of_getElem? hq)
  · exact h x (by simpa using Array.mem_of_getElem? hi)
theorem born_erase {ents : Array MapEntry} {clock : Nat} (h : ∀ x ∈ ents.toList, x.born < clock) (j : Nat) : ∀ x ∈ (ents.eraseIdxIfInBounds j).toList, x.born < clock := by
  intro x hx
  unfold Array.eraseIdxIfInBounds at hx
  split at hx
  · rw [Array.toList_eraseIdx] at hx
    exact h x (List.mem_of_mem_eraseIdx hx)
  · exact h x hx

theorem Env.at_I (E : Env) (k : Key) : (E.at k).I = E.I := by cases k <;> rfl

/-- A map's block is set anew. -/
theorem Sim.setMap (hs : Sim E st w) {k : Key} {kd : Option IntKind} {es : List (V × V)} (hob : st.get k = some (.mp kd es)) {ents : Array MapEntry} {clock : Nat} (hb : w.heap[(E.μ k).blk]? = some (.map ents clock))
    (ents' : Array MapEntry) (clock' : Nat) (es' : List (V × V)) (hbn : ∀ x ∈ ents'.toList, x.born < clock') (hp : PairRel (E.at k) kd es' ents'.toList) :
    Sim E (st.set k (.mp kd es')) { w with heap := w.heap.setIfInBounds (E.μ k).blk (.map ents' clock') } ∧ Ext E st w E (st.set k (.mp kd es')) { w with heap := w.heap.setIfInBounds (E.μ k).blk (.map ents' clock') } := by
  obtain ⟨q1, q2⟩ := MapKept.heap_set (o' := .map ents' clock') hb
  refine hs.set hob _ (by simp) (fun b hne => q2 b hne) rfl rfl rfl (fun j x hx => ?_) ⟨ents', clock', q1, by simpa using hp.1, fun j q e hq he => hp.2 j q e hq (by simpa using he), hbn⟩
  have := hs.imm _ _ _ hx
  simp [cellIn, hb] at this

theorem step_lkp {t kt el : TypeId} {x y : Operand} {d e : Opd} {kd : Option IntKind} {zero : V} {ok : Bool} {i : TypeInfo} {z : Value} (ho : o.op = .lookup t x y ok) (hu : P.underlying t = some (.map kt el)) (hk : keyTy P kt kd = true)
    (hi : P.info? el = some i) (hz : i.zero = some z) (hzo : constOk 4 z zero = true) (hx : okX x d = true) (hy : okX y e = true)
    (hs : Sim E st w) (hf : FrRel E N fr a) (hw : (step (.lkp kd zero d e ok) fr st).wp (ACall P) K) (hc : Cont E st w o a next K) : o.wp P a w next Q := by
  have r1 := okX_rel hx hf
  have r2 := okX_rel hy hf
  obtain ⟨dd, hdd, hkey⟩ := keyTy_spec hk
  simp only [step] at hw
  split at hw
  case h_2 => exact hw.elim
  rename_i hisk
  have r2d := r2.key hisk
  have hik := hkey hisk r2d
  have pair : ∀ {v : V} {b : Bool} {u : Value}, Rel E v u → Rel E (.tup [v, .b b]) (.tuple #[u, .bool b]) := by
    intro v b u hr
    refine .tup _ _ rfl fun j v' x' h1 h2 => ?_
    match j with
    | 0 => simp at h1 h2; subst h1; subst h2; exact hr
    | 1 => simp at h1 h2; subst h1; subst h2; exact .deep (.b _)
    | j + 2 => simp at h1
  split at hw
  · rename_i e1
    rw [e1] at r1
    generalize hv : a.eval x = y' at r1
    cases r1 with
    | deep hd => cases hd
    | nilm =>
      have hck := MapKept.run_checkKey (w := w) (P := P) hdd hik true 9999
      have hfk : (Instr.findKey kt (a.eval y) []).run P w = .ok none w := MapKept.run_findKey hdd (by rfl)
      unfold lkpRes at hw
      cases ok with
      | true =>
        refine wp_val (x := .tuple #[z, .bool false]) ?_ (hc.same hs (hw.1 rfl) (pair (constOk_rel hzo E)))
        simp [execOp, ho, hv, Instr.lookup, run_underlying hu, hck, hfk, zeroValue, typeInfo, hi, hz]
      | false =>
        refine wp_val (x := z) ?_ (hc.same hs (hw.1 rfl) (constOk_rel hzo E))
        simp [execOp, ho, hv, Instr.lookup, run_underlying hu, hck, hfk, zeroValue, typeInfo, hi, hz]
  · rename_i k e1
    rw [e1] at r1
    obtain ⟨ob, hob, hw⟩ := hw
    dsimp only at hw
    split at hw
    case h_2 => exact hw.elim
    rename_i kd' es
    split at hw
    case isFalse => exact hw.elim
    rename_i hkk
    subst hkk
    generalize hv : a.eval x = y' at r1
    cases r1 with
    | deep hd => cases hd
    | m _ hhk =>
      obtain ⟨ents, clock, hb, hp⟩ := hs.mapAt hob
      have hck := fun b => MapKept.run_checkKey (w := w) (P := P) hdd hik b 9999
      have hg := MapKept.run_getObj_map (P := P) hb
      rcases find_spec (E := E.at k) hkey hisk (by rw [Env.at_I]; exact r2d) .junk es ents.toList 0 hp with ⟨a1, a2, _, _⟩ | ⟨j, en, q, a1, a2, a3, a4, a5, _, _⟩
      · have hfk := MapKept.run_findKey (P := P) (w := w) hdd a1
        unfold lkpRes at hw
        rw [a2] at hw
        cases ok with
        | true =>
          refine wp_val (x := .tuple #[z, .bool false]) ?_ (hc.same hs (hw.1 rfl) (pair (constOk_rel hzo E)))
          simp [execOp, ho, hv, Instr.lookup, run_underlying hu, hg, hck, hfk, zeroValue, typeInfo, hi, hz]
        | false =>
          refine wp_val (x := z) ?_ (hc.same hs (hw.1 rfl) (constOk_rel hzo E))
          simp [execOp, ho, hv, Instr.lookup, run_underlying hu, hg, hck, hfk, zeroValue, typeInfo, hi, hz]
      · have hfk := MapKept.run_findKey (P := P) (w := w) hdd a1
        have hrv := (hp.2 j q en a3 a2).2.2.mono (E.at_le k)
        unfold lkpRes at hw
        rw [a5] at hw
        cases ok with
        | true =>
          refine wp_val (x := .tuple #[en.val, .bool true]) ?_ (hc.same hs (hw.2 _ rfl) (pair hrv))
          simp [execOp, ho, hv, Instr.lookup, run_underlying hu, hg, hck, hfk]
        | false =>
          refine wp_val (x := en.val) ?_ (hc.same hs (hw.2 _ rfl) hrv)
          simp [execOp, ho, hv, Instr.lookup, run_underlying hu, hg, hck, hfk]
  · exact hw.elim

theorem ownV_rel {g : Bool} {v u : V} {x : Value} (h : ownV g v = some u) (hr : Rel E v x) : Rel (E.ofG g) u x := by
  cases g with
  | true => exact pass_rel h hr
  | false => simp only [ownV, Option.some.injEq] at h; subst h; exact hr

theorem step_mupd {t kt el : TypeId} {x y v : Operand} {d e c : Opd} {kd : Option IntKind} (ho : o.op = .mapUpdate t x y v) (hu : P.underlying t = some (.map kt el)) (hk : keyTy P kt kd = true)
    (hx : okX x d = true) (hy : okX y e = true) (hv : okX v c = true)
    (hs : Sim E st w) (hf : FrRel E N fr a) (hw : (step (.mupd kd d e c) fr st).wp (ACall P) K) (hc : Cont E st w o a next K) : o.wp P a w next Q := by
  have r1 := okX_rel hx hf
  have r2 := okX_rel hy hf
  have r3 := okX_rel hv hf
  obtain ⟨dd, hdd, hkey⟩ := keyTy_spec hk
  simp only [step] at hw
  split at hw
  case h_2 => exact hw.elim
  rename_i hisk
  have r2d := r2.key hisk
  have hik := hkey hisk r2d
  split at hw
  case h_2 => exact hw.elim
  rename_i k e1
  rw [e1] at r1
  obtain ⟨ob, hob, hw⟩ := hw
  dsimp only at hw
  split at hw
  case h_2 => exact hw.elim
  rename_i kd' es
  split at hw
  case isFalse => exact hw.elim
  rename_i hkk
  subst hkk
  unfold T.opt at hw
  split at hw
  case h_2 => exact hw.elim
  rename_i u hu2
  have hru := ownV_rel hu2 r3
  rw [← Env.at_isG] at hru
  generalize hvv : a.eval x = y' at r1
  cases r1 with
  | deep hd => cases hd
  | m _ hhk =>
    obtain ⟨ents, clock, hb, hp⟩ := hs.mapAt hob
    have hck := fun b => MapKept.run_checkKey (w := w) (P := P) hdd hik b 9999
    have hg := MapKept.run_getObj_map (P := P) hb
    have r2a : RelD (E.at k).I (e.ev fr) (a.eval y) := by rw [Env.at_I]; exact r2d
    rcases find_spec (E := E.at k) hkey hisk r2a u es ents.toList 0 hp with ⟨a1, a2, a3, _⟩ | ⟨j, en, q, a1, a2, a3, a4, a5, a6, _⟩
    · have hfk := MapKept.run_findKey (P := P) (w := w) hdd a1
      dsimp only at hw
      rw [a3] at hw
      obtain ⟨s1, s2⟩ := hs.setMap hob hb (ents.push { key := a.eval y, val := a.eval v, born := clock }) (clock + 1) (es ++ [(e.ev fr, u)]) (born_push (hs.mapBorn hob hb) _ _) ⟨by simp [← hp.1], fun j q en hq hen => by
        rw [Array.toList_push] at hen
        rw [List.getElem?_append] at hq hen
        have hlen := hp.1
        split at hq
        · rename_i hlt
          rw [if_pos (by omega)] at hen
          exact hp.2 j q en hq hen
        · rename_i hlt
          rw [if_neg (by omega)] at hen
          have h0 : j - es.length = 0 := by
            have := (List.getElem?_eq_some_iff.1 hq).1
            simp at this; omega
          rw [h0] at hq
          rw [hlen, h0] at hen
          simp at hq hen
          subst hq; subst hen
          exact ⟨r2a, hisk, hru⟩⟩
      refine wp_skp ?_ (hc _ _ E _ _ hw s1 s2 undef_rel)
      simp [execOp, ho, hvv, Instr.mapUpdate, run_underlying hu, hg, hck, hfk, MapKept.run_setObj_map _ hb]
    · have hfk := MapKept.run_findKey (P := P) (w := w) hdd a1
      have hj : ents[j]? = some en := by simpa using a2
      dsimp only at hw
      rw [a6] at hw
      obtain ⟨s1, s2⟩ := hs.setMap hob hb (ents.modify j fun e' => { e' with key := a.eval y, val := a.eval v }) clock (es.set j (e.ev fr, u)) (born_modify (hs.mapBorn hob hb) _ _ _) ⟨by simp [← hp.1], fun i q' en' hq hen => by
        rw [Array.getElem?_toList, Array.getElem?_modify] at hen
        by_cases hij : j = i
        · subst hij
          rw [if_pos rfl, hj] at hen
          simp only [Option.map_some, Option.some.injEq] at hen
          have hlt := (List.getElem?_eq_some_iff.1 a3).1
          rw [List.getElem?_set_self hlt] at hq
          simp only [Option.some.injEq] at hq
          subst hq; subst hen
          exact ⟨r2a, hisk, hru⟩
        · rw [if_neg hij] at hen
          rw [List.getElem?_set_ne hij] at hq
          exact hp.2 i q' en' hq (by simpa using hen)⟩
      refine wp_skp ?_ (hc _ _ E _ _ hw s1 s2 undef_rel)
      simp [execOp, ho, hvv, Instr.mapUpdate, run_underlying hu, hg, hck, hfk, hj, a4, MapKept.run_keyThatStays hik, MapKept.run_setObj_map _ hb]

theorem erase_rel {kd : Option IntKind} {es : List (V × V)} {l : List MapEntry} (hp : PairRel E kd es l) {j : Nat} (_hj : j < l.length) : PairRel E kd (es.eraseIdx j) (l.eraseIdx j) := by
  have hlen := hp.1
  refine ⟨by rw [List.length_eraseIdx, List.length_eraseIdx, hlen], fun i q e hq he => ?_⟩
  rw [List.getElem?_eraseIdx] at hq he
  split at hq
  · rename_i h
    rw [if_pos h] at he
    exact hp.2 _ q e hq he
  · rename_i h
    rw [if_neg h] at he
    exact hp.2 _ q e hq he

theorem step_delete {ts : Array TypeId} {t kt el : TypeId} {x y : Operand} {d e : Opd} {kd : Option IntKind} (ho : o.op = .call { callee := .builtin .delete, args := #[x, y], argTypes := ts }) (ht : ts[0]? = some t) (hu : P.underlying t = some (.map kt el)) (hk : keyTy P kt kd = true)
    (hx : okX x d = true) (hy : okX y e = true)
    (hs : Sim E st w) (hf : FrRel E N fr a) (hw : (step (.delete kd d e) fr st).wp (ACall P) K) (hc : Cont E st w o a next K) : o.wp P a w next Q := by
  have r1 := okX_rel hx hf
  have r2 := okX_rel hy hf
  obtain ⟨dd, hdd, hkey⟩ := keyTy_spec hk
  simp only [step] at hw
  split at hw
  case h_2 => exact hw.elim
  rename_i hisk
  have r2d := r2.key hisk
  have hik := hkey hisk r2d
  split at hw
  · rename_i e1
    rw [e1] at r1
    generalize hv : a.eval x = y' at r1
    cases r1 with
    | deep hd => cases hd
    | nilm =>
      have hck := MapKept.run_checkKey (w := w) (P := P) hdd hik true 9999
      exact wp_val (x := .tuple #[]) (by simp [execOp, ho, resolve, invoke, builtin, Builtin.delete_, ht, hv, run_underlying hu, hck, Result.andThen]) (hc.same hs hw undef_rel)
  · rename_i k e1
    rw [e1] at r1
    obtain ⟨ob, hob, hw⟩ := hw
    dsimp only at hw
    split at hw
    case h_2 => exact hw.elim
    rename_i kd' es
    split at hw
    case isFalse => exact hw.elim
    rename_i hkk
    subst hkk
    generalize hvv : a.eval x = y' at r1
    cases r1 with
    | deep hd => cases hd
    | m _ hhk =>
      obtain ⟨ents, clock, hb, hp⟩ := hs.mapAt hob
      have hck := fun b => MapKept.run_checkKey (w := w) (P := P) hdd hik b 9999
      have hg := MapKept.run_getObj_map (P := P) hb
      have r2a : RelD (E.at k).I (e.ev fr) (a.eval y) := by rw [Env.at_I]; exact r2d
      rcases find_spec (E := E.at k) hkey hisk r2a .junk es ents.toList 0 hp with ⟨a1, a2, _, a4⟩ | ⟨j, en, q, a1, a2, a3, a4, a5, _, a7⟩
      · have hfk := MapKept.run_findKey (P := P) (w := w) hdd a1
        rw [a4] at hw
        obtain ⟨s1, s2⟩ := hs.setMap hob hb ents clock es (hs.mapBorn hob hb) hp
        refine wp_val (x := .tuple #[]) ?_ (hc _ _ E _ _ hw s1 s2 undef_rel)
        simp [execOp, ho, resolve, invoke, builtin, Builtin.delete_, ht, hvv, run_underlying hu, hg, hck, hfk, MapKept.run_setObj_map _ hb, Result.andThen]
      · have hfk := MapKept.run_findKey (P := P) (w := w) hdd a1
        rw [a7] at hw
        have hlt := (List.getElem?_eq_some_iff.1 a2).1
        have hlt' : j < ents.size := by simpa using hlt
        have hpe := erase_rel hp hlt
        have hee : (ents.eraseIdxIfInBounds j).toList = ents.toList.eraseIdx j := by
          unfold Array.eraseIdxIfInBounds
          rw [dif_pos hlt']
          simp
        rw [← hee] at hpe
        obtain ⟨s1, s2⟩ := hs.setMap hob hb (ents.eraseIdxIfInBounds j) clock (es.eraseIdx j) (born_erase (hs.mapBorn hob hb) _) hpe
        refine wp_val (x := .tuple #[]) ?_ (hc _ _ E _ _ hw s1 s2 undef_rel)
        simp [execOp, ho, resolve, invoke, builtin, Builtin.delete_, ht, hvv, run_underlying hu, hg, hck, hfk, MapKept.run_setObj_map _ hb, Result.andThen]
  · exact hw.elim

/-! Calls. -/
theorem run_callFunc {f : Nat} {args : Array Value} (h : bodyOk P f = true) : (callFunc f args).run P w = .ok (.enter f args) w := by
  unfold bodyOk at h
  split at h
  · rename_i fn hfn
    simp only [Bool.and_eq_true, Bool.not_eq_true', beq_eq_false_iff_ne] at h
    obtain ⟨h1, h2⟩ := h
    have h3 : fn.body.isNone = false := by cases hb : fn.body <;> simp [hb] at h1 ⊢
    have h4 : ¬ fn.body = none := by intro h; rw [h] at h1; cases h1
    simp [callFunc, hfn, h2, h4]
  · cases h

theorem wp_enter {f : Nat} {args : Array Value} (h : (execOp a.eval o).run P w = .ok (.enter f args) w) (hc : Calls P f args w fun
    | .returned v, w'' => next (a.put o.dst v) w''
    | .panicked chain, w'' => Q (.panic chain) a w''
    | .outgrown, _ => LetsOut Q) : o.wp P a w next Q := by
  unfold Oper.wp
  rw [h, Oper.upon_enter]
  exact hc

theorem step_call {f : Nat} {xs : Array Operand} {ds : List Opd} {ts : Array TypeId} (ho : o.op = .call { callee := .value (.func f), args := xs, argTypes := ts }) (hx : okXs xs.toList ds = true)
    (hs : Sim E st w) (hf : FrRel E N fr a) (hw : (step (.call f ds) fr st).wp (ACall P) K) (hc : Cont E st w o a next K) : o.wp P a w next Q := by
  have r1 := okXs_rel hf hx
  simp only [step] at hw
  unfold T.opt at hw
  split at hw
  case h_2 => exact hw.elim
  rename_i vs hvs
  have hb : bodyOk P f = true := hw.1
  have e : (xs.toList.map a.eval).toArray = xs.map a.eval := by
    apply Array.ext'
    simp
  rw [e] at r1
  refine wp_enter (f := f) (args := xs.map a.eval) ?_ (ACall.use hs hvs r1 hw (fun v h' E' w' x hk s1 s2 hr => hc v _ E' w' x hk s1 s2 hr))
  simp [execOp, ho, resolve, Act.eval, Deferred.ofValue, invoke, run_callFunc hb]

theorem step_callv {f : Operand} {g : Opd} {xs : Array Operand} {ds : List Opd} {ts : Array TypeId} (ho : o.op = .call { callee := .value f, args := xs, argTypes := ts }) (hg : okX f g = true) (hx : okXs xs.toList ds = true)
    (hs : Sim E st w) (hf : FrRel E N fr a) (hw : (step (.callv g ds) fr st).wp (ACall P) K) (hc : Cont E st w o a next K) : o.wp P a w next Q := by
  have r0 := okX_rel hg hf
  have r1 := okXs_rel hf hx
  simp only [step] at hw
  split at hw
  case h_2 => exact hw.elim
  rename_i n first cap e1
  rw [e1] at r0
  unfold T.opt at hw
  split at hw
  case h_2 => exact hw.elim
  rename_i vs hvs
  have hb : bodyOk P n = true := hw.1
  have e : (xs.toList.map a.eval).toArray = xs.map a.eval := by
    apply Array.ext'
    simp
  rw [e] at r1
  generalize hv : a.eval f = y at r0
  cases r0 with
  | deep hd => cases hd
  | fn _ _ _ fa ca h1 h2 h3 h4 =>
    have hall : RelL E (first ++ Opd.evs fr ds ++ cap) (fa ++ xs.map a.eval ++ ca) := (RelL.append (RelL.append ⟨h1, h3⟩ r1) ⟨h2, h4⟩)
    refine wp_enter (f := n) (args := fa ++ xs.map a.eval ++ ca) ?_ (ACall.use hs hvs hall hw (fun v h' E' w' x hk s1 s2 hr => hc v _ E' w' x hk s1 s2 hr))
    simp [execOp, ho, resolve, hv, Deferred.ofValue, invoke, run_callFunc hb]
end
end Go.Eng
