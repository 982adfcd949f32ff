/-
Arguments of plain data: what is read of them, with a bound on the bytes of each slice; a law whose contract wants it.
-/
import Derived.Test.YtcckglahpbmakaaGreatEngD
import Derived.SizedLaws
namespace Go.Eng
open Go Go.ChangeShapes Go.WideShapes Go.ChangeAt Go.RowKit
def Sh.by : Sh → Nat
  | .b => 1
  | .i k => k.bits / 8
  | .s => 16
  | .sl _ => 24
def rowBy (r : List Sh) : Nat :=
  let n := r.foldl (fun n a => n + a.by) 0
  if n < 8 then n else (n + 7) / 8 * 8
mutual
def Sh.isM (M : Nat) : Sh → V → Prop
  | .b, v => ∃ x, v = .b x
  | .i k, v => ∃ n, v = .i k n ∧ k.min ≤ n ∧ n ≤ k.max
  | .s, v => ∃ l, v = .s l ∧ l.length ≤ M
  | .sl row, v => ∃ es, v = .sl none row.length es ∧ es.length ≤ 9223372036854775807 ∧ es.length * rowBy row ≤ M ∧ ∀ e ∈ es, Sh.isLM M row e
def Sh.isLM (M : Nat) : List Sh → List V → Prop
  | [], [] => True
  | a :: r, v :: q => a.isM M v ∧ Sh.isLM M r q
  | _, _ => False
end
mutual
theorem Sh.is_of {M : Nat} (hM : M ≤ 9223372036854775807) : ∀ (a : Sh) {v : V}, a.isM M v → a.is v
  | .b, v, h => by simpa only [Sh.isM, Sh.is] using h
  | .i k, v, h => by simpa only [Sh.isM, Sh.is] using h
  | .s, v, h => by
    simp only [Sh.isM] at h
    obtain ⟨l, rfl, hl⟩ := h
    simp only [Sh.is]
    exact ⟨l, rfl, Nat.le_trans hl hM⟩
  | .sl row, v, h => by
    simp only [Sh.isM] at h
    obtain ⟨es, rfl, h1, _, h2⟩ := h
    simp only [Sh.is]
    exact ⟨es, rfl, h1, fun e he => Sh.isL_of hM row (h2 e he)⟩
theorem Sh.isL_of {M : Nat} (hM : M ≤ 9223372036854775807) : ∀ (r : List Sh) {q : List V}, Sh.isLM M r q → Sh.isL r q
  | [], [], _ => by simp [Sh.isL]
  | [], _ :: _, h => by simp [Sh.isLM] at h
  | _ :: _, [], h => by simp [Sh.isLM] at h
  | a :: r, v :: q, h => by
    simp only [Sh.isLM] at h
    simp only [Sh.isL]
    exact ⟨Sh.is_of hM a h.1, Sh.isL_of hM r h.2⟩
end
theorem isLM_length {M : Nat} : ∀ {r : List Sh} {q : List V}, Sh.isLM M r q → q.length = r.length
  | [], [], _ => rfl
  | [], _ :: _, h => by simp [Sh.isLM] at h
  | _ :: _, [], h => by simp [Sh.isLM] at h
  | _ :: r, _ :: q, h => by simp only [Sh.isLM] at h; simp [isLM_length h.2]
theorem isLM_append {M : Nat} : ∀ {r : List Sh} {q : List V} {r' : List Sh} {q' : List V}, Sh.isLM M r q → Sh.isLM M r' q' → Sh.isLM M (r ++ r') (q ++ q')
  | [], [], _, _, _, h => h
  | [], _ :: _, _, _, h, _ => by simp [Sh.isLM] at h
  | _ :: _, [], _, _, h, _ => by simp [Sh.isLM] at h
  | _ :: r, _ :: q, _, _, h, h' => by simp only [Sh.isLM, List.cons_append] at h ⊢; exact ⟨h.1, isLM_append h.2 h'⟩
def wideOk (P : Program) : Nat → TypeId → Bool
  | 0, _ => false
  | m + 1, t => match P.underlying t with
    | some (.slice e) => (match shOf P m e with
      | some r => decide (rowBy r ≤ P.bytesOf e)
      | none => false) && wideOk P m e
    | some (.struct fs) => fs.toList.all fun f => wideOk P m f.type
    | some (.array _ e) => wideOk P m e
    | _ => true
def WtOk {H : Type} (P : Program) (M : Nat) (t : TypeId) (d : DataW H) : Prop := ∀ n ∈ d.weights P t, n ≤ M
theorem weights_mem_all {H : Type} {P : Program} {e : TypeId} : ∀ {ds : List (DataW H)} {d : DataW H}, d ∈ ds → ∀ n ∈ d.weights P e, n ∈ DataW.weightsAll P e ds
  | x :: r, d, h, n, hn => by
    simp only [DataW.weightsAll, List.mem_append]
    cases h with
    | head => exact .inl hn
    | tail _ h => exact .inr (weights_mem_all h n hn)
def ArgSh.IsM (M : Nat) : ArgSh → V → Prop
  | (true, r), v => ∃ row, v = .agg row ∧ Sh.isLM M r row
  | (false, r), v => Sh.isLM M r [v]
def ArgsM (M : Nat) : List ArgSh → List V → Prop
  | [], [] => True
  | a :: r, v :: q => a.IsM M v ∧ ArgsM M r q
  | _, _ => False
theorem ArgsM.is {M : Nat} (hM : M ≤ 9223372036854775807) : ∀ {as : List ArgSh} {vs : List V}, ArgsM M as vs → ArgsIs as vs
  | [], [], _ => trivial
  | [], _ :: _, h => h.elim
  | _ :: _, [], h => h.elim
  | (true, _) :: _, _ :: _, ⟨⟨row, h1, h2⟩, h⟩ => ⟨⟨row, h1, Sh.isL_of hM _ h2⟩, ArgsM.is hM h⟩
  | (false, _) :: _, _ :: _, ⟨h1, h⟩ => ⟨Sh.isL_of hM _ h1, ArgsM.is hM h⟩
section
variable {H : Type} {enc : TypeId × Value → H} {P : Program} {W : World} {M : Nat}
def ReadsM (M : Nat) (P : Program) (W : World) (enc : TypeId × Value → H) (fuel m : Nat) : Prop := ∀ (t : TypeId) (cs : List Value) (x : DataW H × List MemPlace) (r : List Sh),
  DataW.trod enc P W 0 (fun _ => true) true fuel t cs = some x → WtOk P M t x.1 → wideOk P m t = true → shOf P m t = some r → ∃ row, Sh.isLM M r row ∧ RowD (cellIn W) row cs

theorem fields_rowM {m n : Nat} (ih : ReadsM M P W enc n m) {cs : List Value} : ∀ (fs : List Field) (acc r : List Sh) (row : List V) , shFields P (shOf P m) fs acc = some r → Sh.isLM M acc row → RowD (cellIn W) row (cs.take acc.length) → acc.length ≤ cs.length →
    (∀ f ∈ fs, ∃ x, DataW.trod enc P W 0 (fun _ => true) true n f.type ((cs.drop f.offset).take (P.cellsOf f.type)) = some x ∧ WtOk P M f.type x.1 ∧ wideOk P m f.type = true) → r.length = cs.length → ∃ row', Sh.isLM M r row' ∧ RowD (cellIn W) row' cs
  | [], acc, r, row, h, h1, h2, h3, h4, h5 => by
    simp only [shFields, Option.some.injEq] at h
    subst h
    rw [h5, List.take_length] at h2
    exact ⟨row, h1, h2⟩
  | f :: fs, acc, r, row, h, h1, h2, h3, h4, h5 => by
    simp only [shFields] at h
    split at h
    case h_2 => cases h
    rename_i s hs
    split at h
    case isFalse => cases h
    rename_i hc
    obtain ⟨x, hx, hxb, hxz⟩ := h4 f (by simp)
    obtain ⟨row2, g1, g2⟩ := ih _ _ _ _ hx hxb hxz hs
    have hl : row2.length = s.length := isLM_length g1
    have hl2 := g2.1
    simp only [List.length_take, List.length_drop] at hl2
    have e : cs.take (acc ++ s).length = cs.take acc.length ++ (cs.drop f.offset).take (P.cellsOf f.type) := by
      rw [List.length_append, List.take_add, hc.1, hc.2]
    refine fields_rowM ih fs (acc ++ s) r (row ++ row2) h (isLM_append h1 g1) ?_ ?_ (fun f hf => h4 f (by simp [hf])) h5
    · rw [e]; exact h2.append g2
    · rw [List.length_append]; omega

theorem times_rowM {m n : Nat} {e : TypeId} {r : List Sh} (ih : ReadsM M P W enc n m) (he : shOf P m e = some r) (hz : wideOk P m e = true) (hr : r.length = P.cellsOf e) : ∀ (k : Nat) (cs : List Value), cs.length = k * r.length →
    (∀ i, i < k → ∃ x, DataW.trod enc P W 0 (fun _ => true) true n e ((cs.drop (i * P.cellsOf e)).take (P.cellsOf e)) = some x ∧ WtOk P M e x.1) → ∃ row, Sh.isLM M (shTimes r k) row ∧ RowD (cellIn W) row cs
  | 0, cs, h1, _ => by
    have : cs = [] := by simpa using h1
    subst this
    exact ⟨[], by simp [shTimes, Sh.isLM], rfl, fun j v x hj => by simp at hj⟩
  | k + 1, cs, h1, h2 => by
    obtain ⟨x, hx, hxb⟩ := h2 0 (by omega)
    obtain ⟨row1, a1, a2⟩ := ih _ _ _ _ hx hxb hz he
    obtain ⟨row2, b1, b2⟩ := times_rowM ih he hz hr k (cs.drop r.length) (by rw [List.length_drop, h1, Nat.add_mul]; omega) (fun i hi => by
      obtain ⟨y, hy, hyb⟩ := h2 (i + 1) (by omega)
      refine ⟨y, ?_, hyb⟩
      rw [List.drop_drop, hr, show P.cellsOf e + i * P.cellsOf e = (i + 1) * P.cellsOf e by rw [Nat.add_mul]; omega]
      exact hy)
    refine ⟨row1 ++ row2, isLM_append a1 b1, ?_⟩
    have := a2.append b2
    rw [Nat.zero_mul, List.drop_zero, ← hr, List.take_append_drop] at this
    exact this

theorem reads_M : ∀ (fuel m : Nat), ReadsM M P W enc fuel m
  | 0, _, t, cs, x, r, h, _, _, _ => by simp [DataW.trod] at h
  | _ + 1, 0, t, cs, x, r, _, _, _, h => by simp [shOf] at h
  | n + 1, m + 1, t, cs, x, r, h, hx, hz, hs => by
    simp only [shOf] at hs
    split at hs
    · rename_i ht
      cases hs
      obtain ⟨b, rfl, _⟩ := DataW.trod_bool ht h
      exact ⟨[.b b], by simp [Sh.isLM, Sh.isM], .one (.b b)⟩
    · rename_i k ht
      cases hs
      obtain ⟨q, rfl, _, hw⟩ := DataW.trod_int ht h
      exact ⟨[.i k q], by simp [Sh.isLM, Sh.isM, wf_range hw], .one (.i k q)⟩
    · rename_i ht
      cases hs
      obtain ⟨s, rfl, hxe, hw⟩ := DataW.trod_string ht h
      refine ⟨[.s s.data.toList], ?_, .one (.s s.data.toList)⟩
      simp only [Sh.isLM, Sh.isM, and_true]
      refine ⟨_, rfl, ?_⟩
      subst hxe
      exact hx _ (by simp [DataW.weights])
    · rename_i e ht
      split at hs
      case h_2 => cases hs
      rename_i r' hr'
      split at hs
      case isFalse => cases hs
      rename_i hsz
      cases hs
      rcases Go.Deep.open_slice ht h with ⟨rfl, _⟩ | ⟨a, len, cap, q, n', D, Pl, rfl, _, hlc, hcm, hq, hxe, hel⟩
      · exact ⟨[.sl none r'.length []], by simp [Sh.isLM, Sh.isM], .one (.slNil _)⟩
      · obtain ⟨hsz, hpos⟩ := hsz
        subst hxe
        have hz2 : wideOk P m e = true ∧ rowBy r' ≤ P.bytesOf e := by
          simp only [wideOk, ht, hr', Bool.and_eq_true, decide_eq_true_eq] at hz
          exact ⟨hz.2, hz.1⟩
        have hlenM : len * rowBy r' ≤ M := by
          have h2 := hx ((((List.range len).map D).length + ((List.range (q - len)).map fun j => D (len + j)).length) * P.bytesOf e) (by simp only [DataW.weights, ht]; exact .head _)
          simp only [List.length_map, List.length_range] at h2
          exact Nat.le_trans (Nat.mul_le_mul (by omega) hz2.2) h2
        have hDM : ∀ i, i < len → WtOk P M e (D i) := fun i hi n hn => hx n (by
          simp only [DataW.weights, ht]
          exact .tail _ (List.mem_append.2 (.inl (weights_mem_all (List.mem_map.2 ⟨i, by simpa using hi, rfl⟩) n hn))))
        have hq' : q = cap := by simpa using hq
        subst hq'
        have hm : q ≤ 2 ^ 63 - 1 := hcm
        obtain ⟨blk, off, spot⟩ := a
        by_cases hq0 : q = 0
        · subst hq0
          obtain rfl : len = 0 := by omega
          exact ⟨[.sl none r'.length []], by simp [Sh.isLM, Sh.isM], .one (.slEmpty _ _)⟩
        · have hspot : spot = none := by
            obtain ⟨cs', hc, _⟩ := hel 0 (by omega)
            obtain ⟨_, hl, hcell⟩ := World.cells?_some hc
            have := hcell 0 (by omega)
            rw [Nat.zero_mul, List.getElem?_eq_getElem (by omega)] at this
            simp only [Addr.add, if_true, World.cell?] at this
            split at this
            · split at this
              · cases this
              · rename_i hs; simpa using hs
            · cases this
          subst hspot
          obtain ⟨f, hf⟩ := Go.Deep.choose_lt (α := List V) (n := len) (p := fun i row => Sh.isLM M r' row ∧ ∀ (j : Nat) (v : V), row[j]? = some v → ∃ y, cellIn W blk (off + (i * r'.length + j)) = some y ∧ RelD (cellIn W) v y) (fun i hi => by
            obtain ⟨cs', hc, ht'⟩ := hel i (by omega)
            obtain ⟨row, g1, g2⟩ := reads_M n' m _ _ _ _ ht' (hDM i hi) hz2.1 hr'
            refine ⟨row, g1, fun j v hj => ?_⟩
            obtain ⟨_, hl, hcell⟩ := World.cells?_some hc
            have hjl : j < cs'.length := by
              have := (List.getElem?_eq_some_iff.1 hj).1
              rw [g2.1] at this; exact this
            have h1 := hcell j (by omega)
            rw [List.getElem?_eq_getElem hjl, Addr.add_lit, Addr.add_lit, cell?_eq, ← hsz] at h1
            exact ⟨cs'[j], by rw [← Nat.add_assoc]; exact h1, g2.2 j v _ hj (List.getElem?_eq_getElem hjl)⟩)
          have hlen : ((List.range len).map f).length = len := by simp
          have hel2 : ∀ e ∈ (List.range len).map f, Sh.isLM M r' e := by
            intro e he
            obtain ⟨i, hi, rfl⟩ := List.mem_map.1 he
            exact (hf i (by simpa using hi)).1
          have hel3 : ∀ e ∈ (List.range len).map f, e.length = r'.length := fun e he => isLM_length (hel2 e he)
          have key : ∀ J d, ((List.range len).map f).flatten[J]? = some d → ∃ y, cellIn W blk (off + J) = some y ∧ RelD (cellIn W) d y := by
            intro J d hJ
            have hJl : J < len * r'.length := by
              have := (List.getElem?_eq_some_iff.1 hJ).1
              rwa [flat_len hel3, hlen] at this
            have hi : J / r'.length < len := Nat.div_lt_of_lt_mul (by rwa [Nat.mul_comm] at hJl)
            have hj : J % r'.length < r'.length := Nat.mod_lt _ hpos
            have e1 : J / r'.length * r'.length + J % r'.length = J := by rw [Nat.mul_comm]; exact Nat.div_add_mod _ _
            have h2 := flat_get hel3 (ix := J / r'.length) (j := J % r'.length) (e := f (J / r'.length)) (by simp [hi]) hj
            rw [e1, hJ] at h2
            have := (hf _ hi).2 _ _ h2.symm
            rwa [e1] at this
          refine ⟨[.sl none r'.length ((List.range len).map f)], ?_, .one ?_⟩
          · simp only [Sh.isLM, Sh.isM, and_true]
            exact ⟨_, rfl, by rw [hlen]; omega, by rw [hlen]; exact hlenM, hel2⟩
          · have := RelD.sl (I := cellIn W) r'.length ((List.range len).map f) blk off q (fun J => (cellIn W blk (off + J)).getD default) (by rw [hlen]; exact hlc) hel3 (fun J d hJ => by
              obtain ⟨y, hy, _⟩ := key J d hJ
              rw [hy]; rfl) (fun J d hJ => by
              obtain ⟨y, hy, hr⟩ := key J d hJ
              rw [hy]; exact hr)
            rw [hlen] at this
            exact this
    · rename_i fs ht
      split at hs
      case h_2 => cases hs
      rename_i r' hr'
      split at hs
      case isFalse => cases hs
      rename_i hsz
      cases hs
      obtain ⟨xs, n', hn, hxe, hl, hxl, hf⟩ := DataW.trod_struct ht h
      have hn : n = n' := by omega
      subst hn
      subst hxe
      refine fields_rowM (reads_M n m) fs.toList [] _ [] hr' (by simp [Sh.isLM]) ⟨by simp, fun j v x hj => by simp at hj⟩ (Nat.zero_le _) (fun f hfm => ?_) (by rw [hsz, hl])
      obtain ⟨i, hi⟩ := List.getElem?_of_mem hfm
      have hi' : fs[i]? = some f := by simpa using hi
      have hlt : i < xs.length := by
        rw [hxl]
        have := (Array.getElem?_eq_some_iff.1 hi').1
        exact this
      exact ⟨xs[i], by rw [hf i f hi', List.getElem?_eq_getElem hlt], fun n hn => hx n (by
        simp only [DataW.weights, ht]
        exact DataW.weights_mem_each (j := i) (by simp [hi']) (by simp [hlt]) n hn), List.all_eq_true.1 (by simpa only [wideOk, ht] using hz) f hfm⟩
    · rename_i k e ht
      split at hs
      case h_2 => cases hs
      rename_i r' hr'
      split at hs
      case isFalse => cases hs
      rename_i hsz
      cases hs
      obtain ⟨xs, n', hn, hxe, hl, hxl, hf⟩ := DataW.trod_array ht h
      have hn : n = n' := by omega
      subst hn
      subst hxe
      refine times_rowM (reads_M n m) hr' (by simpa only [wideOk, ht] using hz) hsz.1 k cs (by rw [hl, hsz.2]) fun i hi => ?_
      exact ⟨xs[i]'(by omega), by rw [hf i hi, List.getElem?_eq_getElem (by omega)], fun n hn => hx n (by
        simp only [DataW.weights, ht]
        exact weights_mem_all (List.mem_map.2 ⟨_, List.getElem_mem (by omega : i < xs.length), rfl⟩) n hn)⟩
    · cases hs
theorem arg_M {t : TypeId} {v : Value} {d : DataW H} {p : List MemPlace} {base : Nat} (h : DataW.Trod enc P W 0 (fun _ => true) true t v d p) (hok : Value.okWide P W .any base t v) {a : ArgSh} (hs : argSh P t = some a) (hd : WtOk P M t d) (hz : wideOk P 40 t = true) :
    ∃ x : V, a.IsM M x ∧ Rel (envOf (cellIn W)) x v := by
  obtain ⟨fuel, h⟩ := h
  have agg : ∀ cs, v = .agg cs → ∀ r, shOf P 40 t = some r → a = (true, r) → ∃ x : V, a.IsM M x ∧ Rel (envOf (cellIn W)) x v := by
    rintro cs rfl r hr rfl
    obtain ⟨row, h1, h2⟩ := reads_M _ _ _ _ _ _ h hd hz hr
    refine ⟨.agg row, ⟨row, rfl, h1⟩, .agg _ _ (by have := h2.1; simpa [Value.cells] using this.symm) (fun j x hx => ?_) (fun j u x hj hx => .deep (h2.2 j u x hj (by simpa [Value.cells] using hx)))⟩
    have hlt : j < row.length := by
      have h3 := h2.1
      simp only [Value.cells, Array.length_toList] at h3
      have := (Array.getElem?_eq_some_iff.1 hx).1
      omega
    exact (h2.2 j row[j] x (List.getElem?_eq_getElem hlt) (by simpa [Value.cells] using hx)).oneC
  have one : v.cells = #[v] → ∀ r, shOf P 40 t = some r → a = (false, r) → ∃ x : V, a.IsM M x ∧ Rel (envOf (cellIn W)) x v := by
    rintro hc r hr rfl
    obtain ⟨row, h1, h2⟩ := reads_M _ _ _ _ _ _ h hd hz hr
    have hl := h2.1
    rw [hc] at hl h2
    match row, hl, h1, h2 with
    | [x], _, h1, h2 => exact ⟨x, h1, .deep (h2.2 0 x v rfl rfl)⟩
  unfold argSh at hs
  split at hs
  · rename_i fs ht
    obtain ⟨r, hr, rfl⟩ := Option.map_eq_some_iff.1 hs
    obtain ⟨cs, rfl, _⟩ := okWide_struct ht hok
    exact agg cs rfl r hr rfl
  · rename_i n e ht
    obtain ⟨r, hr, rfl⟩ := Option.map_eq_some_iff.1 hs
    have : ∃ cs, v = .agg cs := by
      unfold Value.okWide at hok
      rw [ht] at hok
      obtain ⟨cs, h, _⟩ := hok
      exact ⟨cs, h⟩
    obtain ⟨cs, rfl⟩ := this
    exact agg cs rfl r hr rfl
  · rename_i hn1 hn2
    obtain ⟨r, hr, rfl⟩ := Option.map_eq_some_iff.1 hs
    refine one ?_ r hr rfl
    have hr' := hr
    obtain ⟨m, hm⟩ : ∃ m, 40 = m + 1 := ⟨39, rfl⟩
    rw [hm] at hr'
    simp only [shOf] at hr'
    split at hr'
    · rename_i ht; obtain ⟨b, rfl⟩ := okWide_bool ht hok; rfl
    · rename_i k ht; obtain ⟨n, rfl⟩ := okWide_int ht hok; rfl
    · rename_i ht; obtain ⟨s, rfl⟩ := okWide_string ht hok; rfl
    · rename_i e ht; obtain ⟨p, l, c, rfl⟩ := okWide_slice ht hok; rfl
    · rename_i fs ht; exact absurd ht (hn1 fs)
    · rename_i n e ht; exact absurd ht (hn2 n e)
    · cases hr'

theorem args_M {base : Nat} : ∀ {ts : List TypeId} {vs : List Value} {ds : List (DataW H)} {p : List MemPlace} {as : List ArgSh}, DataW.TrodAll enc P W 0 (fun _ => true) true ts vs ds p →
    (∀ (j : Nat) t v, ts[j]? = some t → vs[j]? = some v → Value.okWide P W .any base t v) → (∀ (j : Nat) t d, ts[j]? = some t → ds[j]? = some d → WtOk P M t d) → (∀ t ∈ ts, wideOk P 40 t = true) → argShs P ts = some as → ds.length = ts.length ∧ vs.length = ts.length ∧ ∃ args, ArgsM M as args ∧ RelL (envOf (cellIn W)) args vs.toArray
  | [], [], [], p, as, h, hok, _, _, hs => by
    simp only [argShs, Option.some.injEq] at hs
    subst hs
    exact ⟨rfl, rfl, [], trivial, rfl, fun j v x hj => by simp at hj⟩
  | t :: ts, v :: vs, d :: ds, p, as, h, hok, hm, hz, hs => by
    obtain ⟨p1, q, h1, h2, rfl⟩ := h
    simp only [argShs] at hs
    split at hs
    case h_2 => cases hs
    rename_i a b ha hb
    cases hs
    obtain ⟨x, x1, x2⟩ := arg_M h1 (hok 0 t v rfl rfl) ha (hm 0 t d rfl rfl) (hz t (.head _))
    obtain ⟨l1, l2, xs, y1, y2⟩ := args_M h2 (fun j t v hj hv => hok (j + 1) t v (by simpa using hj) (by simpa using hv)) (fun j t d hj hd => hm (j + 1) t d (by simpa using hj) (by simpa using hd)) (fun t ht => hz t (.tail _ ht)) hb
    refine ⟨by simp [l1], by simp [l2], x :: xs, ⟨x1, y1⟩, by have := y2.1; simpa using this, fun j u y hj hy => ?_⟩
    cases j with
    | zero => simp at hj hy; subst hj; subst hy; exact x2
    | succ j => exact y2.2 j u y (by simpa using hj) (by simpa using hy)
  | [], [], _ :: _, _, _, h, _, _, _, _ => h.elim
  | [], _ :: _, [], _, _, h, _, _, _, _ => h.elim
  | [], _ :: _, _ :: _, _, _, h, _, _, _, _ => h.elim
  | _ :: _, [], [], _, _, h, _, _, _, _ => h.elim
  | _ :: _, [], _ :: _, _, _, h, _, _, _, _ => h.elim
  | _ :: _, _ :: _, [], _, _, h, _, _, _, _ => h.elim

theorem law_sized {C : Checked} {os : Os} {f : FuncId} {fn : Func} {s : ChangeSpec} {conds : List PathCond} {tb : TypeId} {shs : List ArgSh} (own : ownKnob C.prog.godebug = none) (started : os.Started) (noInit : C.prog.inits.idxOf? f = none) (hfn : C.prog.funcs[f]? = some fn)
    (witness : ∃ (w : World) (tape : Tape) (i : Input), w.os = os ∧ (w.forCall tape i).Shaped C.prog ∧ i.vars = [] ∧ Input.okWide C.prog (w.forCall tape i) .any w.heap.size f i ∧
      s.pre6 enc C.prog fn conds false (w.forCall tape i).memory i.args ∧ ({} : Assume).holds C.prog (lone (Frame.enter C.prog f i.args .normal) [] (w.forCall tape i)))
    (hl : laidOutB C.prog = true) (hr : fn.params.toList.all (fun t => C.prog.readableRec t && decide (t < C.prog.types.size)) = true) (hv : s.vars = []) (hsh : argShs C.prog fn.params.toList = some shs) (hz : fn.params.toList.all (wideOk C.prog 40) = true)
    (hres : fn.resultTypes = #[tb]) (hb : C.prog.underlying tb = some .bool)
    (hspec : ∀ ds : List (DataW H), ds.length = fn.params.toList.length → s.fn H ds = { results := [.lit (.bool true)], args := ds })
    (h : ∀ args, ArgsIs shs args → ArgsM reachBytes shs args → ACall C.prog f args noG (fun r _ => r = .b true)) :
    ReturnsInHanded {} C os f .any (s.pre6 enc C.prog fn conds false) (s.post enc C.prog fn false true false false) := by
  refine returnsInHanded_of_change_sized own started noInit hfn witness ?_
  intro W base args ds gs before hval hW _ hwt _
  have hW' := hW
  obtain ⟨p, q, hA, hV, rfl, hfz, hnd⟩ := hW
  rw [hv] at hV
  obtain ⟨rfl, rfl⟩ := trodVars_none hV
  obtain ⟨l1, l2, vs, a1, a2⟩ := args_M (M := reachBytes) hA (fun j t v h1 h2 => hval j t v (by simpa using h1) (by simpa using h2)) (fun j t d hj hd n hn => by
    have hj1 : j < fn.params.toList.length := (List.getElem?_eq_some_iff.1 hj).1
    have hd1 : j < ds.length := (List.getElem?_eq_some_iff.1 hd).1
    have := List.all_eq_true.1 hwt n (DataW.weights_mem_each (j := j) (by rw [List.getElem?_append_left hj1]; exact hj) (by rw [List.getElem?_append_left hd1]; exact hd) n hn)
    exact of_decide_eq_true this) (fun t ht => List.all_eq_true.1 hz t ht) hsh
  simp only [List.append_nil] at hW'
  have hlt : ∀ x ∈ p, x.block < W.heap.size := hW'.lt
  refine (calls_over (h vs (a1.is (by decide)) a1) W (fun b o x hx => hx) (by simpa using a2)).mono ?_
  rintro e W' ⟨rfl, hbl⟩
  refine ⟨_, rfl, ?_⟩
  have hsp := hspec ds l1
  have hr' : ∀ t ∈ fn.params.toList, C.prog.readableRec t = true ∧ t < C.prog.types.size := fun t ht => by
    have := List.all_eq_true.1 hr t ht
    simpa using this
  have hstay : ∀ sp' : Nat → Bool, (∀ x ∈ p, sp' x.block = true) → DataW.TrodAll enc C.prog W' 0 sp' true fn.params.toList args.toList ds p := fun sp' h2 =>
    all_stay hl hr' hA (fun x hx => hbl.same (hlt x hx)) h2
  have hok : ∀ (j : Nat) (t : TypeId) (r : Value), fn.resultTypes[j]? = some t → ((Value.bool true).resultList fn.resultTypes.size)[j]? = some r → Value.okWide C.prog W' .any 0 t r := ok_one hres rfl (okWide_bool_mk hb true)
  refine post_of_below (pa := p) (pv := []) hW' (fun b sp hd => ?_) (fun sp h2 => ?_) (fun sp h2 => ?_) (by simp) hbl hok
  · rw [List.append_nil, hsp, hres]
    exact trodAll_mk1 (shut_bool hb true)
  · rw [List.append_nil, hsp]
    exact hstay sp h2
  · rw [List.append_nil, hsp, hv]
    rfl
end
end Go.Eng
