/-
A law of plain data: from the abstract run to the row's contract.
-/
import Derived.Test.YtfobkjdmohaakaaGreatEngBr
namespace Go.Eng
open Go Go.ChangeShapes Go.WideShapes Go.ChangeAt Go.RowKit

def envOf (I : Imm) : Env := ⟨I, fun _ => ⟨0, 0, 0⟩, 0, 0⟩
theorem calls_over {P : Program} {f : Nat} {args : List V} {vs : Array Value} {I : Imm} (h : ACall P f args noG (fun r _ => r = .b true)) (W : World) (hI : ∀ b o x, I b o = some x → cellIn W b o = some x) (hv : RelL (envOf I) args vs) :
    Calls P f vs W fun e w' => e = .returned (.bool true) ∧ Below W.heap.size W w' := by
  have hs : Sim (envOf I) (gst noG) W := ⟨rfl, rfl, fun k hk => absurd hk noG_live, hI, fun k o hk => absurd ⟨o, hk⟩ noG_live, fun k k' hk => absurd hk noG_live, fun k hk => absurd hk noG_live⟩
  refine (h.2 (envOf I) W vs rfl hs hv).mono ?_
  rintro e w' ⟨v, x, h', E', rfl, rfl, hn, hs', he, hr⟩
  have hx : x = .bool true := by
    cases hr with
    | deep hd => cases hd; rfl
  subst hx
  exact ⟨rfl, he.os, he.tape, he.out, he.size, fun k hk => he.same k hk fun k0 hk0 => absurd hk0 noG_live⟩

/-- Is a value of the type a row of cells? Its cells' shapes. -/
abbrev ArgSh := Bool × List Sh
def argSh (P : Program) (t : TypeId) : Option ArgSh :=
  match P.underlying t with
  | some (.struct _) => (shOf P 40 t).map fun r => (true, r)
  | some (.array _ _) => (shOf P 40 t).map fun r => (true, r)
  | _ => (shOf P 40 t).map fun r => (false, r)
def argShs (P : Program) : List TypeId → Option (List ArgSh)
  | [] => some []
  | t :: r => match argSh P t, argShs P r with
    | some a, some b => some (a :: b)
    | _, _ => none
def ArgSh.Is : ArgSh → V → Prop
  | (true, r), v => ∃ row, v = .agg row ∧ Sh.isL r row
  | (false, r), v => Sh.isL r [v]
def ArgsIs : List ArgSh → List V → Prop
  | [], [] => True
  | a :: r, v :: q => a.Is v ∧ ArgsIs r q
  | _, _ => False

theorem RelD.oneC {I : Imm} {v : V} {x : Value} (h : RelD I v x) : x.oneCell' = true := by cases h <;> rfl

section
variable {H : Type} {enc : TypeId × Value → H} {P : Program} {W : World}
theorem arg_as {t : TypeId} {v : Value} {d : DataW H} {p : List MemPlace} {base : Nat} (h : DataW.Trod enc P W 0 (fun _ => true) true t v d p) (hok : Value.okWide P W .any base t v) {a : ArgSh} (hs : argSh P t = some a) :
    ∃ x : V, a.Is x ∧ Rel (envOf (cellIn W)) x v := by
  obtain ⟨fuel, h⟩ := h
  have agg : ∀ cs, v = .agg cs → ∀ r, shOf P 40 t = some r → a = (true, r) → ∃ x : V, a.Is x ∧ Rel (envOf (cellIn W)) x v := by
    rintro cs rfl r hr rfl
    obtain ⟨row, h1, h2⟩ := reads_as _ _ _ _ _ _ h hr
    refine ⟨.agg row, ⟨row, rfl, h1⟩, .agg _ _ (by have := h2.1; simpa [Value.cells] using this.symm) (fun j x hx => ?_) (fun j u x hj hx => .deep (h2.2 j u x hj (by simpa [Value.cells] using hx)))⟩
    have hlt : j < row.length := by
      have h3 := h2.1
      simp only [Value.cells, Array.length_toList] at h3
      have := (Array.getElem?_eq_some_iff.1 hx).1
      omega
    exact (h2.2 j row[j] x (List.getElem?_eq_getElem hlt) (by simpa [Value.cells] using hx)).oneC
  have one : v.cells = #[v] → ∀ r, shOf P 40 t = some r → a = (false, r) → ∃ x : V, a.Is x ∧ Rel (envOf (cellIn W)) x v := by
    rintro hc r hr rfl
    obtain ⟨row, h1, h2⟩ := reads_as _ _ _ _ _ _ h hr
    have hl := h2.1
    rw [hc] at hl h2
    match row, hl, h1, h2 with
    | [x], _, h1, h2 => exact ⟨x, h1, .deep (h2.2 0 x v rfl rfl)⟩
  unfold argSh at hs
  split at hs
  · rename_i fs ht
    obtain ⟨r, hr, rfl⟩ := Option.map_eq_some_iff.1 hs
    obtain ⟨cs, rfl, _⟩ := okWide_struct ht hok
    exact agg cs rfl r hr rfl
  · rename_i n e ht
    obtain ⟨r, hr, rfl⟩ := Option.map_eq_some_iff.1 hs
    have : ∃ cs, v = .agg cs := by
      unfold Value.okWide at hok
      rw [ht] at hok
      obtain ⟨cs, h, _⟩ := hok
      exact ⟨cs, h⟩
    obtain ⟨cs, rfl⟩ := this
    exact agg cs rfl r hr rfl
  · rename_i hn1 hn2
    obtain ⟨r, hr, rfl⟩ := Option.map_eq_some_iff.1 hs
    refine one ?_ r hr rfl
    have hr' := hr
    obtain ⟨m, hm⟩ : ∃ m, 40 = m + 1 := ⟨39, rfl⟩
    rw [hm] at hr'
    simp only [shOf] at hr'
    split at hr'
    · rename_i ht; obtain ⟨b, rfl⟩ := okWide_bool ht hok; rfl
    · rename_i k ht; obtain ⟨n, rfl⟩ := okWide_int ht hok; rfl
    · rename_i ht; obtain ⟨s, rfl⟩ := okWide_string ht hok; rfl
    · rename_i e ht; obtain ⟨p, l, c, rfl⟩ := okWide_slice ht hok; rfl
    · rename_i fs ht; exact absurd ht (hn1 fs)
    · rename_i n e ht; exact absurd ht (hn2 n e)
    · cases hr'

theorem args_as {base : Nat} : ∀ {ts : List TypeId} {vs : List Value} {ds : List (DataW H)} {p : List MemPlace} {as : List ArgSh}, DataW.TrodAll enc P W 0 (fun _ => true) true ts vs ds p →
    (∀ (j : Nat) t v, ts[j]? = some t → vs[j]? = some v → Value.okWide P W .any base t v) → argShs P ts = some as → ds.length = ts.length ∧ vs.length = ts.length ∧ ∃ args, ArgsIs as args ∧ RelL (envOf (cellIn W)) args vs.toArray
  | [], [], [], p, as, h, hok, hs => by
    simp only [argShs, Option.some.injEq] at hs
    subst hs
    exact ⟨rfl, rfl, [], trivial, rfl, fun j v x hj => by simp at hj⟩
  | t :: ts, v :: vs, d :: ds, p, as, h, hok, hs => by
    obtain ⟨p1, q, h1, h2, rfl⟩ := h
    simp only [argShs] at hs
    split at hs
    case h_2 => cases hs
    rename_i a b ha hb
    cases hs
    obtain ⟨x, x1, x2⟩ := arg_as h1 (hok 0 t v rfl rfl) ha
    obtain ⟨l1, l2, xs, y1, y2⟩ := args_as h2 (fun j t v hj hv => hok (j + 1) t v (by simpa using hj) (by simpa using hv)) hb
    refine ⟨by simp [l1], by simp [l2], x :: xs, ⟨x1, y1⟩, by have := y2.1; simpa using this, fun j u y hj hy => ?_⟩
    cases j with
    | zero => simp at hj hy; subst hj; subst hy; exact x2
    | succ j => exact y2.2 j u y (by simpa using hj) (by simpa using hy)
  | [], [], _ :: _, _, _, h, _, _ => h.elim
  | [], _ :: _, [], _, _, h, _, _ => h.elim
  | [], _ :: _, _ :: _, _, _, h, _, _ => h.elim
  | _ :: _, [], [], _, _, h, _, _ => h.elim
  | _ :: _, [], _ :: _, _, _, h, _, _ => h.elim
  | _ :: _, _ :: _, [], _, _, h, _, _ => h.elim

theorem all_stay (hl : laidOutB P = true) {W' : World} {sp' : Nat → Bool} : ∀ {ts : List TypeId} {vs : List Value} {ds : List (DataW H)} {p : List MemPlace}, (∀ t ∈ ts, P.readableRec t = true ∧ t < P.types.size) →
    DataW.TrodAll enc P W 0 (fun _ => true) true ts vs ds p → (∀ x ∈ p, W.sameAt W' x) → (∀ x ∈ p, sp' x.block = true) → DataW.TrodAll enc P W' 0 sp' true ts vs ds p
  | [], [], [], p, _, h, _, _ => h
  | t :: ts, v :: vs, d :: ds, p, hr, h, h1, h2 => by
    obtain ⟨p1, q, a1, a2, rfl⟩ := h
    exact ⟨p1, q, WideElems.Trod_stays hl (hr t (by simp)).1 (hr t (by simp)).2 a1 (fun x hx => h1 x (by simp [hx])) (fun x hx => h2 x (by simp [hx])),
      all_stay hl (fun t ht => hr t (by simp [ht])) a2 (fun x hx => h1 x (by simp [hx])) (fun x hx => h2 x (by simp [hx])), rfl⟩
  | [], [], _ :: _, _, _, h, _, _ => h.elim
  | [], _ :: _, [], _, _, h, _, _ => h.elim
  | [], _ :: _, _ :: _, _, _, h, _, _ => h.elim
  | _ :: _, [], [], _, _, h, _, _ => h.elim
  | _ :: _, [], _ :: _, _, _, h, _, _ => h.elim
  | _ :: _, _ :: _, [], _, _, h, _, _ => h.elim

theorem post_of_below {f : Func} {s : ChangeSpec} {apart fresh handsOn again : Bool} {W W' : World} {args : Array Value} {v : Value} {ds gs : List (DataW H)} {before pa pv : List MemPlace}
    (hW : DataW.Whole enc P f.params.toList s.vars apart W args.toList ds gs before)
    (hres : ∀ (b : Nat) (sp : Nat → Bool) (hd : Bool), DataW.TrodAll enc P W' b sp hd f.resultTypes.toList (v.resultList f.resultTypes.size) (s.fn H (ds ++ gs)).results [])
    (hargs : ∀ sp : Nat → Bool, (∀ p ∈ before, sp p.block = true) → DataW.TrodAll enc P W' 0 sp true f.params.toList args.toList (s.fn H (ds ++ gs)).args pa)
    (hvars : ∀ sp : Nat → Bool, (∀ p ∈ before, sp p.block = true) → DataW.TrodVars enc P W' sp s.vars (s.fn H (ds ++ gs)).vars pv)
    (hps : before = pa ++ pv) (hb : Below W.heap.size W W')
    (hok : ∀ (j : Nat) (t : TypeId) (r : Value), f.resultTypes[j]? = some t → (v.resultList f.resultTypes.size)[j]? = some r → Value.okWide P W' .any 0 t r) :
    s.post enc P f apart fresh handsOn again W args v W' := by
  have hold : ∀ p ∈ before, (fun b => decide (b < W.heap.size)) p.block = true := fun p hp => by simpa using hW.lt p hp
  have hk : W.keptBut W' (· ∈ before) := by
    refine ⟨hb.os, hb.output, fun i hi => ?_⟩
    rw [hb.block i hi]
    cases hq : W.heap[i]? with
    | none => rfl
    | some o => cases o <;> simp
  refine ⟨ds, gs, before, [], pa, pv, hW, hres _ _ _, hargs _ hold, hvars _ hold, World.keptBut_mono (fun p hp => ⟨hp, ?_⟩) hk, fun _ => ?_⟩
  · rw [hps, List.mem_append] at hp
    exact Or.inr hp
  · have hlt := hW.lt
    obtain ⟨_, _, _, _, _, hz, hn⟩ := hW
    refine ⟨hok, _, _, ([] ++ pa) ++ pv, ⟨[] ++ pa, pv, trodAll_append (hargs _ (fun _ _ => rfl)) (hres _ _ _), hvars _ (fun _ _ => rfl), rfl, ?_, ?_⟩, ?_⟩
    · intro b off hp
      have hp' : MemPlace.cell b off ∈ before := by rw [hps]; simpa using hp
      have := hz b off hp'
      have hbl := hlt _ hp'
      simp only [World.frozen?] at this ⊢
      rw [hb.block b hbl]
      exact this
    · intro ha
      have := hn ha
      rw [hps] at this
      simpa using this
    · intro p hp _
      rw [hps]
      simpa using hp

/-- THE ROW'S CONTRACT of a law: whatever the input, it returns true, and the input reads as it did. -/
theorem law_lifted {C : Checked} {os : Os} {f : FuncId} {fn : Func} {s : ChangeSpec} {conds : List PathCond} {tb : TypeId} {shs : List ArgSh} (own : ownKnob C.prog.godebug = none) (started : os.Started) (noInit : C.prog.inits.idxOf? f = none) (hfn : C.prog.funcs[f]? = some fn)
    (witness : ∃ (w : World) (tape : Tape) (i : Input), w.os = os ∧ (w.forCall tape i).Shaped C.prog ∧ i.vars = [] ∧ Input.okWide C.prog (w.forCall tape i) .any w.heap.size f i ∧
      s.pre6 enc C.prog fn conds false (w.forCall tape i).memory i.args ∧ ({} : Assume).holds C.prog (lone (Frame.enter C.prog f i.args .normal) [] (w.forCall tape i)))
    (hl : laidOutB C.prog = true) (hr : fn.params.toList.all (fun t => C.prog.readableRec t && decide (t < C.prog.types.size)) = true) (hv : s.vars = []) (hsh : argShs C.prog fn.params.toList = some shs)
    (hres : fn.resultTypes = #[tb]) (hb : C.prog.underlying tb = some .bool)
    (hspec : ∀ ds : List (DataW H), ds.length = fn.params.toList.length → s.fn H ds = { results := [.lit (.bool true)], args := ds })
    (h : ∀ args, ArgsIs shs args → ACall C.prog f args noG (fun r _ => r = .b true)) :
    ReturnsInHanded {} C os f .any (s.pre6 enc C.prog fn conds false) (s.post enc C.prog fn false true false false) := by
  refine returnsInHanded_of_change own started noInit hfn witness ?_
  intro W base args ds gs before hval hW _ _
  have hW' := hW
  obtain ⟨p, q, hA, hV, rfl, hfz, hnd⟩ := hW
  rw [hv] at hV
  obtain ⟨rfl, rfl⟩ := trodVars_none hV
  obtain ⟨l1, l2, vs, a1, a2⟩ := args_as hA (fun j t v h1 h2 => hval j t v (by simpa using h1) (by simpa using h2)) hsh
  simp only [List.append_nil] at hW'
  have hlt : ∀ x ∈ p, x.block < W.heap.size := hW'.lt
  refine (calls_over (h vs a1) W (fun b o x hx => hx) (by simpa using a2)).mono ?_
  rintro e W' ⟨rfl, hbl⟩
  refine ⟨_, rfl, ?_⟩
  have hsp := hspec ds l1
  have hr' : ∀ t ∈ fn.params.toList, C.prog.readableRec t = true ∧ t < C.prog.types.size := fun t ht => by
    have := List.all_eq_true.1 hr t ht
    simpa using this
  have hstay : ∀ sp' : Nat → Bool, (∀ x ∈ p, sp' x.block = true) → DataW.TrodAll enc C.prog W' 0 sp' true fn.params.toList args.toList ds p := fun sp' h2 =>
    all_stay hl hr' hA (fun x hx => hbl.same (hlt x hx)) h2
  have hok : ∀ (j : Nat) (t : TypeId) (r : Value), fn.resultTypes[j]? = some t → ((Value.bool true).resultList fn.resultTypes.size)[j]? = some r → Value.okWide C.prog W' .any 0 t r := ok_one hres rfl (okWide_bool_mk hb true)
  refine post_of_below (pa := p) (pv := []) hW' (fun b sp hd => ?_) (fun sp h2 => ?_) (fun sp h2 => ?_) (by simp) hbl hok
  · rw [List.append_nil, hsp, hres]
    exact trodAll_mk1 (shut_bool hb true)
  · rw [List.append_nil, hsp]
    exact hstay sp h2
  · rw [List.append_nil, hsp, hv]
    rfl
end
end Go.Eng
