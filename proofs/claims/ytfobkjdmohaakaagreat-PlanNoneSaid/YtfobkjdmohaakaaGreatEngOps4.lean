/-
Each operation of the model does what the abstract step says (part four: stores, new objects, lengths, nil, calls).
-/
import Derived.Test.YtfobkjdmohaakaaGreatEngOps3
namespace Go.Eng
open Go
section
variable {P : Program} {o : Oper} {a : Act} {E : Env} {N : Nat} {st : St} {w : World} {fr : Fr} {next : Act → World → Prop} {Q : Exit → Act → World → Prop} {K : R → Prop}

theorem V.cells_of_not_agg {v : V} (h : ∀ cs, v ≠ .agg cs) : v.cells = [v] := by
  cases v <;> first | rfl | exact absurd rfl (h _)
/-- A value that may be laid into cells, cell by cell. -/
theorem sto_cells {v : V} {x : Value} (hs : v.sto = true) (hr : Rel E v x) : RelL E v.cells x.cells ∧ ∀ y ∈ x.cells.toList, y.oneCell' = true := by
  cases hr with
  | agg cs b hb h1 hrb =>
    refine ⟨⟨hb, hrb⟩, fun y hy => ?_⟩
    obtain ⟨j, hj⟩ := List.getElem?_of_mem hy
    have hj' : b.toList[j]? = some y := hj
    rw [Array.getElem?_toList] at hj'
    exact h1 j y hj'
  | junk => cases hs
  | tup => cases hs
  | pc => cases hs
  | deep hd =>
    have h1 := hd.one
    have hc : x.cells = #[x] := by cases x <;> first | rfl | (simp [Value.oneCell'] at h1)
    have hv : v.cells = [v] := by cases hd <;> rfl
    rw [hc, hv]
    refine ⟨⟨rfl, fun j u y hj hy => ?_⟩, fun y hy => by simp at hy; subst hy; exact h1⟩
    cases j with
    | zero => simp at hj hy; subst hj; subst hy; exact .deep hd
    | succ j => simp at hj
  | nilp => exact ⟨⟨rfl, fun j u y hj hy => by cases j <;> simp [V.cells, Value.cells] at hj hy; subst hj; subst hy; exact .nilp⟩, fun y hy => by simp [Value.cells] at hy; subst hy; rfl⟩
  | p k off hk => exact ⟨⟨rfl, fun j u y hj hy => by cases j <;> simp [V.cells, Value.cells] at hj hy; subst hj; subst hy; exact .p _ _ hk⟩, fun y hy => by simp [Value.cells] at hy; subst hy; rfl⟩
  | pa k sz ix off hk => exact ⟨⟨rfl, fun j u y hj hy => by cases j <;> simp [V.cells, Value.cells] at hj hy; subst hj; subst hy; exact .pa _ _ _ _ hk⟩, fun y hy => by simp [Value.cells] at hy; subst hy; rfl⟩
  | tsl k sz es a cap hk hd hb' hs' => exact ⟨⟨rfl, fun j u y hj hy => by cases j <;> simp [V.cells, Value.cells] at hj hy; subst hj; subst hy; exact .tsl _ _ _ _ _ hk hd hb' hs'⟩, fun y hy => by simp [Value.cells] at hy; subst hy; rfl⟩
  | ms k sz st len a cap hk h1 h2 h4 h3 => exact ⟨⟨rfl, fun j u y hj hy => by cases j <;> simp [V.cells, Value.cells] at hj hy; subst hj; subst hy; exact .ms _ _ _ _ _ _ hk h1 h2 h4 h3⟩, fun y hy => by simp [Value.cells] at hy; subst hy; rfl⟩
  | nilm => exact ⟨⟨rfl, fun j u y hj hy => by cases j <;> simp [V.cells, Value.cells] at hj hy; subst hj; subst hy; exact .nilm⟩, fun y hy => by simp [Value.cells] at hy; subst hy; rfl⟩
  | m k hk => exact ⟨⟨rfl, fun j u y hj hy => by cases j <;> simp [V.cells, Value.cells] at hj hy; subst hj; subst hy; exact .m _ hk⟩, fun y hy => by simp [Value.cells] at hy; subst hy; rfl⟩
  | fn f p q p' q' h1 h2 h3 h4 => exact ⟨⟨rfl, fun j u y hj hy => by cases j <;> simp [V.cells, Value.cells] at hj hy; subst hj; subst hy; exact .fn _ _ _ _ _ h1 h2 h3 h4⟩, fun y hy => by simp [Value.cells] at hy; subst hy; rfl⟩
  | nilf => exact ⟨⟨rfl, fun j u y hj hy => by cases j <;> simp [V.cells, Value.cells] at hj hy; subst hj; subst hy; exact .nilf⟩, fun y hy => by simp [Value.cells] at hy; subst hy; rfl⟩

def Env.ofG (E : Env) (g : Bool) : Env :=
  match g with
  | true => E.cut
  | false => E
theorem Env.ofG_le (E : Env) (g : Bool) : (E.ofG g).Le E := by
  cases g with
  | true => exact E.cut_le
  | false => exact .refl E
theorem ownG_rel {g : Bool} {l l' : List V} {xs : Array Value} (h : ownG g l = some l') (hr : RelL E l xs) : RelL (E.ofG g) l' xs := by
  cases g with
  | true => exact passes_rel h hr
  | false => simp only [ownG, Option.some.injEq] at h; subst h; exact hr
theorem Env.at_isG (E : Env) (k : Key) : E.at k = E.ofG k.isG := by cases k <;> rfl

theorem run_store_cells {t : TypeId} {x : Value} {b c : Nat} (hi : (P.info? t).map (·.size) = some x.cells.size) (ht : w.there b c x.cells.size) (h1 : ∀ y ∈ x.cells.toList, y.oneCell' = true) :
    (storeVar t ⟨b, c, none⟩ x).run P w = .ok () (w.setCells b c x.cells.toList) := by
  have := run_storeCells_cells (P := P) b c x.cells.toList 0 w (fun j hj => by simpa using (ht j (by simpa using hj)).1) (fun j hj => by simpa using (ht j (by simpa using hj)).2) h1
  cases hq : P.info? t with
  | none => simp [hq] at hi
  | some i =>
    have hs : x.cells.size = i.size := by simp [hq] at hi; omega
    simp only [Nat.add_zero] at this
    simp [storeVar, sizeOf, typeInfo, hq, hs, this]

theorem set_flat {sz : Nat} : ∀ {es : List (List V)}, (∀ e ∈ es, e.length = sz) → ∀ {ix : Nat} {e : List V}, es[ix]? = some e → ∀ (off : Nat) (vs : List V), off + vs.length ≤ sz →
    (es.set ix (stCells e off vs)).flatten = stCells es.flatten (ix * sz + off) vs := by
  intro es hl ix e he off vs hin
  have hlt : ix < es.length := (List.getElem?_eq_some_iff.1 he).1
  have hle : e.length = sz := hl e (List.mem_of_getElem? he)
  have hl' : ∀ d ∈ es.set ix (stCells e off vs), d.length = sz := by
    intro d hd
    rcases List.mem_or_eq_of_mem_set hd with h | h
    · exact hl d h
    · rw [h, stCells_length]; exact hle
  have hmul : (ix + 1) * sz ≤ es.length * sz := Nat.mul_le_mul_right _ hlt
  rw [Nat.succ_mul] at hmul
  apply List.ext_getElem?
  intro j
  have hlenL := flat_len hl'
  have hlenR := flat_len hl
  rw [stCells_get _ _ _ _ (by rw [hlenR]; omega)]
  by_cases hj : j < es.length * sz
  · have hsz : 0 < sz := by
      rcases Nat.eq_zero_or_pos sz with h | h
      · subst h; simp at hj
      · exact h
    have hd : j = j / sz * sz + j % sz := by rw [Nat.mul_comm]; exact (Nat.div_add_mod j sz).symm
    have hm : j % sz < sz := Nat.mod_lt _ hsz
    have hq : j / sz < es.length := (Nat.div_lt_iff_lt_mul hsz).2 hj
    generalize j / sz = q at hd hq
    generalize j % sz = m at hd hm
    subst hd
    obtain ⟨d, hdq⟩ : ∃ d, es[q]? = some d := ⟨es[q], by simp [hq]⟩
    rw [flat_get hl hdq hm]
    by_cases hqi : q = ix
    · subst hqi
      rw [he] at hdq
      cases hdq
      rw [flat_get hl' (e := stCells e off vs) (by simp [hq]) hm, stCells_get _ _ _ _ (by omega)]
      by_cases hc : off ≤ m ∧ m < off + vs.length
      · rw [if_pos hc, if_pos (by omega)]
        congr 1; omega
      · rw [if_neg hc, if_neg (by omega)]
    · rw [flat_get hl' (e := d) (by rw [List.getElem?_set_ne (fun e => hqi e.symm)]; exact hdq) hm]
      rw [if_neg]
      rintro ⟨h1, h2⟩
      have : q = ix := by
        rcases Nat.lt_trichotomy q ix with h | h | h
        · have : (q + 1) * sz ≤ ix * sz := Nat.mul_le_mul_right _ h
          rw [Nat.succ_mul] at this; omega
        · exact h
        · have : (ix + 1) * sz ≤ q * sz := Nat.mul_le_mul_right _ h
          rw [Nat.succ_mul] at this; omega
      exact hqi this
  · rw [List.getElem?_eq_none (by rw [hlenL]; simp; omega), if_neg (by omega), List.getElem?_eq_none (by rw [hlenR]; omega)]

theorem step_store {t : TypeId} {x y : Operand} {d e : Opd} {n : Nat} (ho : o.op = .store t x y) (hx : okX x d = true) (hy : okX y e = true) (hn : (P.info? t).map (·.size) = some n)
    (hs : Sim E st w) (hf : FrRel E N fr a) (hw : (step (.store n d e) fr st).wp (ACall P) K) (hc : Cont E st w o a next K) : o.wp P a w next Q := by
  have h1 := okX_rel hx hf
  have h2 := okX_rel hy hf
  simp only [step] at hw
  split at hw
  case isFalse => exact hw.elim
  rename_i hst
  obtain ⟨hsto, hlen⟩ := hst
  obtain ⟨hcl, hone⟩ := sto_cells hsto h2
  have hsz : (a.eval y).cells.size = n := by rw [hcl.1]; exact hlen
  have hrun : ∀ {b c : Nat}, a.eval x = .pointer (some ⟨b, c, none⟩) → w.there b c (a.eval y).cells.size → (execOp a.eval o).run P w = .ok .skip (w.setCells b c (a.eval y).cells.toList) := by
    intro b c hp ht
    have := run_store_cells (P := P) (t := t) (x := a.eval y) (by rw [hn, hsz]) ht hone
    simp [execOp, ho, hp, Instr.storeAt, Instr.sureAddr, this]
  have hundef : Rel E (.tup []) undef := .tup _ _ rfl (fun j v x hj => by simp at hj)
  split at hw
  · rename_i k off e1
    rw [e1] at h1
    generalize hp : a.eval x = z at h1
    cases h1 with
    | deep hd => cases hd
    | p _ _ hk =>
      unfold T.opt at hw
      split at hw
      case h_2 => exact hw.elim
      rename_i vs hvs
      obtain ⟨ob, hob, hw⟩ := hw
      dsimp only at hw
      split at hw
      case h_2 => exact hw.elim
      rename_i c
      split at hw
      case h_2 => exact hw.elim
      rename_i hfit
      have hfit : off + vs.length ≤ c.length := by simpa [stFits] using hfit
      have hrv := ownG_rel hvs hcl
      rw [← Env.at_isG] at hrv
      obtain ⟨cells, ty, fz, r1, r2, r3, r4, r5⟩ := hs.cs hob
      have hvl : (a.eval y).cells.size = vs.length := hrv.1
      have hrow := RowOf.written r1 r2 r3 r4 r5 (vs := vs) (xs := (a.eval y).cells.toList) hrv hone hfit
      obtain ⟨s1, s2⟩ := hs.write hob r1 r4 (pos := (E.μ k).base + off) (xs := (a.eval y).cells.toList) (by omega) (by simp [hvl]; omega) (.cs (stCells c off vs)) ⟨hs.csBase hob, hrow⟩
      exact wp_skp (hrun hp (Row.there r1 r2 (by rw [hvl]; omega))) (hc _ _ _ _ _ hw s1 s2 hundef)
  · rename_i k sz ix off e1
    rw [e1] at h1
    generalize hp : a.eval x = z at h1
    cases h1 with
    | deep hd => cases hd
    | pa _ _ _ _ hk =>
      unfold T.opt at hw
      split at hw
      case h_2 => exact hw.elim
      rename_i vs hvs
      obtain ⟨ob, hob, hw⟩ := hw
      dsimp only at hw
      split at hw
      case h_2 => exact hw.elim
      rename_i sz' es
      split at hw
      case isFalse => exact hw.elim
      rename_i hz
      subst hz
      obtain ⟨el, hel, hw⟩ := hw
      dsimp only at hw
      split at hw
      case h_2 => exact hw.elim
      rename_i hfit
      have hfit : off + vs.length ≤ el.length := by simpa [stFits] using hfit
      have hrv := ownG_rel hvs hcl
      rw [← Env.at_isG] at hrv
      have hobj := hs.obj k _ hob
      obtain ⟨hl, hrow0⟩ := hobj
      obtain ⟨cells, ty, fz, r1, r2, r3, r4, r5⟩ := hrow0
      have hvl : (a.eval y).cells.size = vs.length := hrv.1
      have hell : el.length = sz' := hl el (List.mem_of_getElem? hel)
      have hlt : ix < es.length := (List.getElem?_eq_some_iff.1 hel).1
      have hmul : (ix + 1) * sz' ≤ es.length * sz' := Nat.mul_le_mul_right _ hlt
      rw [Nat.succ_mul] at hmul
      have hfl := flat_len hl
      have hset := set_flat hl hel off vs (by omega)
      have hrow := RowOf.written r1 r2 r3 r4 r5 (off := ix * sz' + off) (vs := vs) (xs := (a.eval y).cells.toList) hrv hone (by omega)
      rw [← hset, ← Nat.add_assoc] at hrow
      have hl' : ∀ d ∈ es.set ix (stCells el off vs), d.length = sz' := by
        intro d hd
        rcases List.mem_or_eq_of_mem_set hd with h | h
        · exact hl d h
        · rw [h, stCells_length]; exact hell
      obtain ⟨s1, s2⟩ := hs.write hob r1 r4 (pos := (E.μ k).base + ix * sz' + off) (xs := (a.eval y).cells.toList) (by omega) (by simp [hvl]; omega) (.arr sz' (es.set ix (stCells el off vs))) ⟨hl', hrow⟩
      exact wp_skp (hrun hp (Row.there r1 r2 (by rw [hvl]; omega))) (hc _ _ _ _ _ hw s1 s2 hundef)
  · exact hw.elim
end
end Go.Eng
