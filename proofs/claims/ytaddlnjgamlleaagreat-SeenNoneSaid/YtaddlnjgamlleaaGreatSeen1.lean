/-
SeenNone, for every input (it takes none): it returns true, and the memory that was there stays as it was.
-/
import Derived.Test.YtaddlnjgamlleaaGreatCalls1
import Derived.Test.YtaddlnjgamlleaaGreatRunC
import Derived.Test.YtaddlnjgamlleaaGreatJoinS
import Derived.Test.YtaddlnjgamlleaaGreatRows
import Derived.ProofKit
namespace Go.Proofs.YtaddlnjgamlleaaGreat
open Go.ChangeShapes Go.WideShapes Go.ChangeAt Go.RowKit Go.Eng

theorem Tryz.own : ownKnob Tryz.prog.godebug = none := by kernel_rfl

/-- A call that takes nothing: the memory that was there stays as it was. -/
theorem closed_calls {f : Nat} (h : ACall Tryz.prog f [] noG (fun r _ => r = .b true)) (W : World) : Calls Tryz.prog f #[] W fun e w' => e = .returned (.bool true) ∧ Below W.heap.size W w' := by
  let E : Env := ⟨fun _ _ => none, fun _ => ⟨0, 0, 0⟩, 0, 0⟩
  have hs : Sim E (gst noG) W := ⟨rfl, rfl, fun k hk => absurd hk noG_live, fun b o x hx => (by cases hx), fun k o hk => absurd ⟨o, hk⟩ noG_live, fun k k' hk => absurd hk noG_live, fun k hk => absurd hk noG_live⟩
  refine (h.2 E W #[] rfl hs ⟨rfl, fun j v x hj => by simp at hj⟩).mono ?_
  rintro e w' ⟨v, x, h', E', rfl, rfl, hn, hs', he, hr⟩
  have hx : x = .bool true := by
    cases hr with
    | deep hd => cases hd; rfl
  subst hx
  exact ⟨rfl, he.os, he.tape, he.out, he.size, fun k hk => he.same k hk fun k0 hk0 => absurd hk0 noG_live⟩

section
variable {H : Type} {enc : TypeId × Value → H} {P : Program}
theorem post_of_below {f : Func} {s : ChangeSpec} {apart fresh handsOn again : Bool} {W W' : World} {args : Array Value} {v : Value} {ds gs : List (DataW H)} {before pa pv : List MemPlace}
    (hW : DataW.Whole enc P f.params.toList s.vars apart W args.toList ds gs before)
    (hres : ∀ (b : Nat) (sp : Nat → Bool) (hd : Bool), DataW.TrodAll enc P W' b sp hd f.resultTypes.toList (v.resultList f.resultTypes.size) (s.fn H (ds ++ gs)).results [])
    (hargs : ∀ sp : Nat → Bool, (∀ p ∈ before, sp p.block = true) → DataW.TrodAll enc P W' 0 sp true f.params.toList args.toList (s.fn H (ds ++ gs)).args pa)
    (hvars : ∀ sp : Nat → Bool, (∀ p ∈ before, sp p.block = true) → DataW.TrodVars enc P W' sp s.vars (s.fn H (ds ++ gs)).vars pv)
    (hps : before = pa ++ pv) (hb : Below W.heap.size W W')
    (hok : ∀ (j : Nat) (t : TypeId) (r : Value), f.resultTypes[j]? = some t → (v.resultList f.resultTypes.size)[j]? = some r → Value.okWide P W' .any 0 t r) :
    s.post enc P f apart fresh handsOn again W args v W' := by
  have hold : ∀ p ∈ before, (fun b => decide (b < W.heap.size)) p.block = true := fun p hp => by simpa using hW.lt p hp
  have hk : W.keptBut W' (· ∈ before) := by
    refine ⟨hb.os, hb.output, fun i hi => ?_⟩
    rw [hb.block i hi]
    cases hq : W.heap[i]? with
    | none => rfl
    | some o => cases o <;> simp
  refine ⟨ds, gs, before, [], pa, pv, hW, hres _ _ _, hargs _ hold, hvars _ hold, World.keptBut_mono (fun p hp => ⟨hp, ?_⟩) hk, fun _ => ?_⟩
  · rw [hps, List.mem_append] at hp
    exact Or.inr hp
  · have hlt := hW.lt
    obtain ⟨_, _, _, _, _, hz, hn⟩ := hW
    refine ⟨hok, _, _, ([] ++ pa) ++ pv, ⟨[] ++ pa, pv, trodAll_append (hargs _ (fun _ _ => rfl)) (hres _ _ _), hvars _ (fun _ _ => rfl), rfl, ?_, ?_⟩, ?_⟩
    · intro b off hp
      have hp' : MemPlace.cell b off ∈ before := by rw [hps]; simpa using hp
      have := hz b off hp'
      have hbl := hlt _ hp'
      simp only [World.frozen?] at this ⊢
      rw [hb.block b hbl]
      exact this
    · intro ha
      have := hn ha
      rw [hps] at this
      simpa using this
    · intro p hp _
      rw [hps]
      simpa using hp
end

theorem seen_call : ACall Tryz.prog 3 [] noG (fun r _ => r = .b true) := of_run orcC_ok AF.runC

set_option maxRecDepth 100000 in
theorem seenNone_lifted (os : Os) (started : os.Started) (H : Type) (enc : TypeId × Value → H) :
    ReturnsInHanded {} Tryz.checked os 3 .any (Rows.seenNoneSpec.pre6 enc Tryz.prog Tryz.f3 Rows.seenNoneRow.domain false) (Rows.seenNoneSpec.post enc Tryz.prog Tryz.f3 false true false false) := by
  refine returnsInHanded_of_change (C := Tryz.checked) Tryz.own started (by kernel_rfl) Tryz.func3
    (ChangeSpec.witness6 (enc := enc) (C := Tryz.checked) false ⟨#[], #[], []⟩ 8 (by kernel_rfl) (by kernel_rfl) (by kernel_rfl) (by kernel_rfl)) ?_
  intro W base args ds gs before hval0 hW hcnd _
  have hW' := hW
  obtain ⟨p, q, hA0, hV, rfl, hfz, hnd⟩ := hW
  have hA : DataW.TrodAll enc Tryz.prog W 0 (fun _ => true) true Tryz.f3.params.toList args.toList ds p := hA0
  rw [Tryz.params3] at hA
  obtain ⟨ha, rfl, rfl⟩ := trodAll_nil hA
  have ha : args = #[] := by simpa using ha
  subst ha
  obtain ⟨rfl, rfl⟩ := trodVars_none hV
  simp only [List.append_nil] at hW'
  refine (closed_calls seen_call W).mono ?_
  rintro e W' ⟨rfl, hb⟩
  refine ⟨_, rfl, post_of_below (pa := []) (pv := []) hW' (fun _ _ _ => trodAll_mk1 (shut_bool Tryz.underlying4 _)) (fun sp _ => ?_) (fun _ _ => rfl) rfl hb (ok_one (by kernel_rfl) rfl (okWide_bool_mk Tryz.underlying4 _))⟩
  rfl

theorem seenNone_holds : Rows.SeenNoneSaid :=
  OpenClaim.holds_of_wide 3 Tryz.f3 rfl rfl rfl rfl rfl rfl rfl ⟨rfl, rfl, rfl, rfl, rfl⟩ rfl rfl rfl rfl rfl (by kernel_rfl) Tryz.func3 joined3
    (of_decide_eq_true (by kernel_rfl)) (by unfold Func.isWrapper; first | (rw [if_pos (by decide +kernel)]; kernel_rfl) | (rw [if_neg (by decide +kernel)]; exact ⟨rfl, rfl⟩))
    (fun os started H enc _ => seenNone_lifted os started H enc)
end Go.Proofs.YtaddlnjgamlleaaGreat
