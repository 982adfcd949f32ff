/-
How a call of the abstract run answers for the model's: over arguments without objects.
-/
import Derived.Test.YtaddlnjgamlleaaGreatEngFrame
import Derived.Test.YtaddlnjgamlleaaGreatRows
import Derived.ProofKit
namespace Go.Proofs.YtaddlnjgamlleaaGreat
open Go.ChangeShapes Go.WideShapes Go.ChangeAt Go.RowKit Go.Eng

theorem Tryz.own : ownKnob Tryz.prog.godebug = none := by kernel_rfl
def envOf (I : Imm) : Env := ⟨I, fun _ => ⟨0, 0, 0⟩, 0, 0⟩

/-- A call whose arguments name no object: the memory that was there stays as it was. -/
theorem calls_over {f : Nat} {args : List V} {vs : Array Value} {I : Imm} (h : ACall Tryz.prog f args noG (fun r _ => r = .b true)) (W : World) (hI : ∀ b o x, I b o = some x → cellIn W b o = some x) (hv : RelL (envOf I) args vs) :
    Calls Tryz.prog f vs W fun e w' => e = .returned (.bool true) ∧ Below W.heap.size W w' := by
  have hs : Sim (envOf I) (gst noG) W := ⟨rfl, rfl, fun k hk => absurd hk noG_live, hI, fun k o hk => absurd ⟨o, hk⟩ noG_live, fun k k' hk => absurd hk noG_live, fun k hk => absurd hk noG_live⟩
  refine (h.2 (envOf I) W vs rfl hs hv).mono ?_
  rintro e w' ⟨v, x, h', E', rfl, rfl, hn, hs', he, hr⟩
  have hx : x = .bool true := by
    cases hr with
    | deep hd => cases hd; rfl
  subst hx
  exact ⟨rfl, he.os, he.tape, he.out, he.size, fun k hk => he.same k hk fun k0 hk0 => absurd hk0 noG_live⟩
def noI : Imm := fun _ _ => none
theorem calls_flat {f : Nat} {args : List V} {vs : Array Value} (h : ACall Tryz.prog f args noG (fun r _ => r = .b true)) (W : World) (hv : RelL (envOf noI) args vs) :
    Calls Tryz.prog f vs W fun e w' => e = .returned (.bool true) ∧ Below W.heap.size W w' := calls_over h W (fun b o x hx => by cases hx) hv
theorem relL_nil {E : Env} : RelL E [] #[] := ⟨rfl, fun j v x hj => by simp at hj⟩
theorem relL_int {E : Env} {k : IntKind} {n : Int} {l : List V} {a : List Value} (h : RelL E l a.toArray) : RelL E (.i k n :: l) (.int k n :: a).toArray := by
  refine ⟨by have := h.1; simpa using this, fun j v x hj hx => ?_⟩
  cases j with
  | zero => simp at hj hx; subst hj; subst hx; exact .deep (.i _ _)
  | succ j => exact h.2 j v x (by simpa using hj) (by simpa using hx)

section
variable {H : Type} {enc : TypeId × Value → H} {P : Program}
theorem post_of_below {f : Func} {s : ChangeSpec} {apart fresh handsOn again : Bool} {W W' : World} {args : Array Value} {v : Value} {ds gs : List (DataW H)} {before pa pv : List MemPlace}
    (hW : DataW.Whole enc P f.params.toList s.vars apart W args.toList ds gs before)
    (hres : ∀ (b : Nat) (sp : Nat → Bool) (hd : Bool), DataW.TrodAll enc P W' b sp hd f.resultTypes.toList (v.resultList f.resultTypes.size) (s.fn H (ds ++ gs)).results [])
    (hargs : ∀ sp : Nat → Bool, (∀ p ∈ before, sp p.block = true) → DataW.TrodAll enc P W' 0 sp true f.params.toList args.toList (s.fn H (ds ++ gs)).args pa)
    (hvars : ∀ sp : Nat → Bool, (∀ p ∈ before, sp p.block = true) → DataW.TrodVars enc P W' sp s.vars (s.fn H (ds ++ gs)).vars pv)
    (hps : before = pa ++ pv) (hb : Below W.heap.size W W')
    (hok : ∀ (j : Nat) (t : TypeId) (r : Value), f.resultTypes[j]? = some t → (v.resultList f.resultTypes.size)[j]? = some r → Value.okWide P W' .any 0 t r) :
    s.post enc P f apart fresh handsOn again W args v W' := by
  have hold : ∀ p ∈ before, (fun b => decide (b < W.heap.size)) p.block = true := fun p hp => by simpa using hW.lt p hp
  have hk : W.keptBut W' (· ∈ before) := by
    refine ⟨hb.os, hb.output, fun i hi => ?_⟩
    rw [hb.block i hi]
    cases hq : W.heap[i]? with
    | none => rfl
    | some o => cases o <;> simp
  refine ⟨ds, gs, before, [], pa, pv, hW, hres _ _ _, hargs _ hold, hvars _ hold, World.keptBut_mono (fun p hp => ⟨hp, ?_⟩) hk, fun _ => ?_⟩
  · rw [hps, List.mem_append] at hp
    exact Or.inr hp
  · have hlt := hW.lt
    obtain ⟨_, _, _, _, _, hz, hn⟩ := hW
    refine ⟨hok, _, _, ([] ++ pa) ++ pv, ⟨[] ++ pa, pv, trodAll_append (hargs _ (fun _ _ => rfl)) (hres _ _ _), hvars _ (fun _ _ => rfl), rfl, ?_, ?_⟩, ?_⟩
    · intro b off hp
      have hp' : MemPlace.cell b off ∈ before := by rw [hps]; simpa using hp
      have := hz b off hp'
      have hbl := hlt _ hp'
      simp only [World.frozen?] at this ⊢
      rw [hb.block b hbl]
      exact this
    · intro ha
      have := hn ha
      rw [hps] at this
      simpa using this
    · intro p hp _
      rw [hps]
      simpa using hp
end

end Go.Proofs.YtaddlnjgamlleaaGreat
