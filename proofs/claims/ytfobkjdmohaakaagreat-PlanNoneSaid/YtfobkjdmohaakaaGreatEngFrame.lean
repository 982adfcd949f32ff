/-
What is promised in an empty heap holds in every heap, where no object's name goes in or comes out.
-/
import Derived.Test.YtfobkjdmohaakaaGreatEngExec
namespace Go.Eng
open Go

def V.flat : V → Bool
  | .b _ => true
  | .i _ _ => true
  | .s _ => true
  | .nilp => true
  | .nils => true
  | .nilm => true
  | .nilf => true
  | .sl none _ _ => true
  | _ => false
def V.free1 : V → Bool
  | .agg cs => cs.all V.flat
  | .fn _ a c => a.all V.flat && c.all V.flat
  | v => v.flat
def V.free : V → Bool
  | .tup cs => cs.all V.free1
  | v => v.free1

def ImmLe (I J : Imm) : Prop := ∀ b o x, I b o = some x → J b o = some x
theorem flat_rel {E F : Env} (h : ImmLe E.I F.I) {v : V} {x : Value} (hv : v.flat = true) (hr : Rel E v x) : Rel F v x := by
  cases v <;> simp [V.flat] at hv
  case b => cases hr with | deep hd => exact .deep (hd.mono h)
  case i => cases hr with | deep hd => exact .deep (hd.mono h)
  case s => cases hr with | deep hd => exact .deep (hd.mono h)
  case nilp => cases hr with
    | deep hd => exact .deep (hd.mono h)
    | nilp => exact .nilp
  case nils => cases hr with | deep hd => exact .deep (hd.mono h)
  case nilm => cases hr with
    | deep hd => exact .deep (hd.mono h)
    | nilm => exact .nilm
  case nilf => cases hr with
    | deep hd => exact .deep (hd.mono h)
    | nilf => exact .nilf
  case sl tok sz es =>
    cases tok with
    | none => cases hr with | deep hd => exact .deep (hd.mono h)
    | some k => simp at hv
theorem free1_rel {E F : Env} (h : ImmLe E.I F.I) {v : V} {x : Value} (hv : v.free1 = true) (hr : Rel E v x) : Rel F v x := by
  cases v
  case agg cs =>
    simp only [V.free1, List.all_eq_true] at hv
    cases hr with
    | deep hd => cases hd
    | agg _ a ha h1 hra => exact .agg _ _ ha h1 fun j v x hj hx => flat_rel h (hv v (List.mem_of_getElem? hj)) (hra j v x hj hx)
  case fn f a c =>
    simp only [V.free1, Bool.and_eq_true, List.all_eq_true] at hv
    cases hr with
    | deep hd => cases hd
    | fn _ _ _ a' c' ha hc hra hrc => exact .fn _ _ _ _ _ ha hc (fun j v x hj hx => flat_rel h (hv.1 v (List.mem_of_getElem? hj)) (hra j v x hj hx)) (fun j v x hj hx => flat_rel h (hv.2 v (List.mem_of_getElem? hj)) (hrc j v x hj hx))
  all_goals exact flat_rel h hv hr
theorem free_rel {E F : Env} (h : ImmLe E.I F.I) {v : V} {x : Value} (hv : v.free = true) (hr : Rel E v x) : Rel F v x := by
  cases v
  case tup cs =>
    simp only [V.free, List.all_eq_true] at hv
    cases hr with
    | deep hd => cases hd
    | tup _ a ha hra => exact .tup _ _ ha fun j v x hj hx => free1_rel h (hv v (List.mem_of_getElem? hj)) (hra j v x hj hx)
  all_goals exact free1_rel h hv hr

def noG : Heap := ⟨0, []⟩
theorem noG_live {k : Key} : ¬ (gst noG).live k := by
  rintro ⟨o, ho⟩
  cases k with
  | g n => simp [St.get, noG, Heap.get, Heap.find] at ho
  | l n => simp [St.get, noL, Heap.get, Heap.find] at ho

/-- (FRAME) -/
theorem ACall.frame {P : Program} {f : Nat} {args : List V} {K0 : V → Heap → Prop} (h0 : ACall P f args noG K0) (ha : args.all V.free = true) {h : Heap} {K : V → Heap → Prop}
    (hK : ∀ v h', K0 v h' → v.free = true ∧ K v h) : ACall P f args h K := by
  refine ⟨h0.1, fun E w vs hnl hs hv => ?_⟩
  simp only [List.all_eq_true] at ha
  let E0 : Env := { I := E.I, μ := E.μ, ng := 0, nl := 0 }
  have hs0 : Sim E0 (gst noG) w := ⟨rfl, rfl, fun k hk => absurd hk noG_live, hs.imm, fun k o hk => absurd ⟨o, hk⟩ noG_live, fun k k' hk => absurd hk noG_live, fun k hk => absurd hk noG_live⟩
  have hv0 : RelL E0 args vs := ⟨hv.1, fun j v x hj hx => free_rel (E := E) (F := E0) (fun b o x h => h) (ha v (List.mem_of_getElem? hj)) (hv.2 j v x hj hx)⟩
  refine (h0.2 E0 w vs rfl hs0 hv0).mono ?_
  rintro e w' ⟨v, x, h', E', hk, rfl, hn, hs', he, hr⟩
  obtain ⟨hfree, hkk⟩ := hK v h' hk
  have himm : ImmLe E.I E'.I := he.le.imm
  have hsame : ∀ k, (gst h).live k → w'.heap[(E.μ k).blk]? = w.heap[(E.μ k).blk]? := fun k hk => he.same _ (hs.lt hk) fun k0 hk0 => absurd hk0 noG_live
  have hle : E.Le { E with I := E'.I } := ⟨himm, Nat.le_refl _, Nat.le_refl _, fun _ _ => rfl⟩
  refine ⟨v, x, h, { E with I := E'.I }, hkk, rfl, hnl, ⟨hs.ng, hs.nl, fun k hk => hs.dom k hk, hs'.imm, fun k o hk => ?_, fun k k' hk hk' hne => hs.sep k k' hk hk' hne, fun k hk j h1 h2 => ?_⟩,
    ⟨hle, he.size, fun b o x hx => ?_, fun k hk _ => hk, fun k hk hn => absurd (hs.dom k hk) hn, fun b hb _ => he.same b hb fun k hk => absurd hk noG_live, he.os, he.out, he.tape⟩, free_rel (E := E') (F := { E with I := E'.I }) (fun b o x h => h) hfree hr⟩
  · exact (hs.obj k o hk).keep (Env.at_mono hle k) (hsame k ⟨o, hk⟩)
  · show E'.I (E.μ k).blk j = none
    cases hx : E'.I (E.μ k).blk j with
    | none => rfl
    | some y =>
      rcases he.immNew _ _ _ hx with h3 | h3 | ⟨k0, h3, _⟩
      · have := hs.own k hk j h1 h2
        rw [show E0.I = E.I from rfl, this] at h3
        cases h3
      · have := hs.lt hk
        omega
      · exact absurd h3 noG_live
  · rcases he.immNew b o x hx with h1 | h1 | ⟨k0, h1, _⟩
    · exact .inl h1
    · exact .inr (.inl h1)
    · exact absurd h1 noG_live
end Go.Eng
