/-
slices.Sorted of the one key of a map: by the shelf's contracts, laid in plain words.
-/
import Derived.Shelf.SlIter.Nil
import Derived.Shelf.SortM.Plain
import Derived.Shelf.SortM.SortNone
import Derived.Ground.GgzProg
import Derived.Ground.SlgmProg
import Derived.Test.YtkkpkcjcaogceaaGreatSync
namespace Go.Proofs
open Go.RowKit Go.Maps Go.Sort Go.Shelf
def Tryz.keys72_ren : Go.Shelf.Ren := ⟨fun | 7 => 331 | 10 => 349 | n => n, fun | 23 => 243 | 26 => 9 | 3 => 185 | 28 => 402 | 0 => 0 | 27 => 401 | 33 => 90 | 4 => 4 | n => n, fun | n => n⟩
theorem Tryz.keys72 : Go.Proofs.SlLaysZ.n7 Tryz.prog Tryz.keys72_ren := {
  mixed := by kernel_rfl
  f7 := ⟨Tryz.f331.name, by decide, Tryz.func331.trans (congrArg some (by kernel_rfl))⟩
  f10 := ⟨Tryz.f349.name, by decide, Tryz.func349.trans (congrArg some (by kernel_rfl))⟩
  t0 := Tryz.underlying0
  a0 := Tryz.isAgg0
  z0 := Tryz.sizeOf0
  v0 := Tryz.zeroValue0
  t4 := Tryz.underlying4
  a4 := Tryz.isAgg4
  z4 := Tryz.sizeOf4
  v4 := Tryz.zeroValue4
  t23 := Tryz.underlying243
  a23 := Tryz.isAgg243
  z23 := Tryz.sizeOf243
  v23 := Tryz.zeroValue243
  t26 := Tryz.underlying9
  a26 := Tryz.isAgg9
  z26 := Tryz.sizeOf9
  v26 := Tryz.zeroValue9
  t27 := Tryz.underlying401
  a27 := Tryz.isAgg401
  z27 := Tryz.sizeOf401
  v27 := Tryz.zeroValue401
  t28 := Tryz.underlying402
  a28 := Tryz.isAgg402
  z28 := Tryz.sizeOf402
  v28 := Tryz.zeroValue402
  t33 := Tryz.underlying90
  a33 := Tryz.isAgg90
  z33 := Tryz.sizeOf90
  v33 := Tryz.zeroValue90 }
def Tryz.sorted71_ren : Go.Shelf.Ren := ⟨fun | 6 => 330 | 8 => 347 | 9 => 348 | 11 => 356 | 13 => 89 | 12 => 357 | 23 => 157 | 24 => 158 | 14 => 366 | 15 => 367 | 16 => 368 | 17 => 369 | 18 => 370 | 19 => 371 | 20 => 372 | 21 => 373 | 22 => 374 | 25 => 382 | 26 => 208 | 27 => 209 | 28 => 383 | 29 => 384 | 30 => 385 | 31 => 386 | n => n, fun | 26 => 9 | 28 => 402 | 24 => 39 | 0 => 0 | 3 => 3 | 37 => 132 | 48 => 221 | 50 => 223 | 4 => 4 | 40 => 214 | 39 => 213 | 45 => 218 | 5 => 5 | 9 => 9 | 51 => 296 | 55 => 300 | 57 => 346 | 58 => 347 | 33 => 90 | n => n, fun | n => n⟩
theorem Tryz.sorted71 : Go.Proofs.SlLaysZ.n6 Tryz.prog Tryz.sorted71_ren := {
  mixed := by kernel_rfl
  f6 := ⟨Tryz.f330.name, by decide, Tryz.func330.trans (congrArg some (by kernel_rfl))⟩
  f8 := ⟨Tryz.f347.name, by decide, Tryz.func347.trans (congrArg some (by kernel_rfl))⟩
  f11 := ⟨Tryz.f356.name, by decide, Tryz.func356.trans (congrArg some (by kernel_rfl))⟩
  t0 := Tryz.underlying0
  a0 := Tryz.isAgg0
  z0 := Tryz.sizeOf0
  v0 := Tryz.zeroValue0
  t24 := Tryz.underlying39
  a24 := Tryz.isAgg39
  z24 := Tryz.sizeOf39
  v24 := Tryz.zeroValue39
  t26 := Tryz.underlying9
  a26 := Tryz.isAgg9
  z26 := Tryz.sizeOf9
  v26 := Tryz.zeroValue9
  t28 := Tryz.underlying402
  a28 := Tryz.isAgg402
  z28 := Tryz.sizeOf402
  v28 := Tryz.zeroValue402
  i26 := by kernel_rfl }
def Tryz.sort104_ren : Go.Shelf.Ren := ⟨fun | 6 => 348 | 8 => 89 | 9 => 357 | 19 => 157 | 20 => 158 | 21 => 366 | 22 => 367 | 23 => 368 | 24 => 369 | 25 => 370 | 26 => 371 | 27 => 372 | 28 => 373 | 29 => 374 | 36 => 382 | 31 => 208 | 32 => 209 | 37 => 383 | 38 => 384 | 39 => 385 | 41 => 386 | n => n, fun | 27 => 39 | 29 => 9 | 3 => 3 | 32 => 132 | 26 => 39 | 0 => 0 | 44 => 221 | 46 => 223 | 4 => 4 | 36 => 214 | 35 => 213 | 41 => 218 | 5 => 5 | 9 => 9 | 53 => 296 | 57 => 300 | 63 => 346 | 64 => 347 | n => n, fun | n => n⟩
theorem Tryz.sort104 : Go.Proofs.SlLaysM.n6 Tryz.prog Tryz.sort104_ren := {
  mixed := by kernel_rfl
  f6 := ⟨Tryz.f348.name, by decide, Tryz.func348.trans (congrArg some (by kernel_rfl))⟩
  f8 := Tryz.func89.trans (congrArg some (by kernel_rfl))
  f9 := ⟨Tryz.f357.name, by decide, Tryz.func357.trans (congrArg some (by kernel_rfl))⟩
  f19 := Tryz.func157.trans (congrArg some (by kernel_rfl))
  f20 := Tryz.func158.trans (congrArg some (by kernel_rfl))
  f21 := ⟨Tryz.f366.name, by decide, Tryz.func366.trans (congrArg some (by kernel_rfl))⟩
  f22 := ⟨Tryz.f367.name, by decide, Tryz.func367.trans (congrArg some (by kernel_rfl))⟩
  f23 := ⟨Tryz.f368.name, by decide, Tryz.func368.trans (congrArg some (by kernel_rfl))⟩
  f24 := ⟨Tryz.f369.name, by decide, Tryz.func369.trans (congrArg some (by kernel_rfl))⟩
  f25 := ⟨Tryz.f370.name, by decide, Tryz.func370.trans (congrArg some (by kernel_rfl))⟩
  f26 := ⟨Tryz.f371.name, by decide, Tryz.func371.trans (congrArg some (by kernel_rfl))⟩
  f27 := ⟨Tryz.f372.name, by decide, Tryz.func372.trans (congrArg some (by kernel_rfl))⟩
  f28 := ⟨Tryz.f373.name, by decide, Tryz.func373.trans (congrArg some (by kernel_rfl))⟩
  f29 := ⟨Tryz.f374.name, by decide, Tryz.func374.trans (congrArg some (by kernel_rfl))⟩
  f31 := Tryz.func208.trans (congrArg some (by kernel_rfl))
  f32 := Tryz.func209.trans (congrArg some (by kernel_rfl))
  f36 := ⟨Tryz.f382.name, by decide, Tryz.func382.trans (congrArg some (by kernel_rfl))⟩
  f37 := ⟨Tryz.f383.name, by decide, Tryz.func383.trans (congrArg some (by kernel_rfl))⟩
  f38 := ⟨Tryz.f384.name, by decide, Tryz.func384.trans (congrArg some (by kernel_rfl))⟩
  f39 := ⟨Tryz.f385.name, by decide, Tryz.func385.trans (congrArg some (by kernel_rfl))⟩
  f41 := ⟨Tryz.f386.name, by decide, Tryz.func386.trans (congrArg some (by kernel_rfl))⟩
  t0 := Tryz.underlying0
  a0 := Tryz.isAgg0
  z0 := Tryz.sizeOf0
  v0 := Tryz.zeroValue0
  t3 := Tryz.underlying3
  a3 := Tryz.isAgg3
  z3 := Tryz.sizeOf3
  v3 := Tryz.zeroValue3
  t4 := Tryz.underlying4
  a4 := Tryz.isAgg4
  z4 := Tryz.sizeOf4
  v4 := Tryz.zeroValue4
  t5 := Tryz.underlying5
  a5 := Tryz.isAgg5
  z5 := Tryz.sizeOf5
  v5 := Tryz.zeroValue5
  t9 := Tryz.underlying9
  a9 := Tryz.isAgg9
  z9 := Tryz.sizeOf9
  v9 := Tryz.zeroValue9
  t26 := Tryz.underlying39
  a26 := Tryz.isAgg39
  z26 := Tryz.sizeOf39
  v26 := Tryz.zeroValue39
  t27 := Tryz.underlying39
  a27 := Tryz.isAgg39
  z27 := Tryz.sizeOf39
  v27 := Tryz.zeroValue39
  t29 := Tryz.underlying9
  a29 := Tryz.isAgg9
  z29 := Tryz.sizeOf9
  v29 := Tryz.zeroValue9
  t32 := Tryz.underlying132
  a32 := Tryz.isAgg132
  z32 := Tryz.sizeOf132
  v32 := Tryz.zeroValue132
  t35 := Tryz.underlying213
  a35 := Tryz.isAgg213
  z35 := Tryz.sizeOf213
  v35 := Tryz.zeroValue213
  t36 := Tryz.underlying214
  a36 := Tryz.isAgg214
  z36 := Tryz.sizeOf214
  v36 := Tryz.zeroValue214
  t41 := Tryz.underlying218
  a41 := Tryz.isAgg218
  z41 := Tryz.sizeOf218
  v41 := Tryz.zeroValue218
  t44 := Tryz.underlying221
  a44 := Tryz.isAgg221
  z44 := Tryz.sizeOf221
  v44 := Tryz.zeroValue221
  t46 := Tryz.underlying223
  a46 := Tryz.isAgg223
  z46 := Tryz.sizeOf223
  v46 := Tryz.zeroValue223
  t53 := Tryz.underlying296
  a53 := Tryz.isAgg296
  z53 := Tryz.sizeOf296
  v53 := Tryz.zeroValue296
  t57 := Tryz.underlying300
  a57 := Tryz.isAgg300
  z57 := Tryz.sizeOf300
  v57 := Tryz.zeroValue300
  t63 := Tryz.underlying346
  a63 := Tryz.isAgg346
  z63 := Tryz.sizeOf346
  v63 := Tryz.zeroValue346
  t64 := Tryz.underlying347
  a64 := Tryz.isAgg347
  z64 := Tryz.sizeOf347
  v64 := Tryz.zeroValue347 }

theorem Tryz.sorts71 (m : Nat) : AnyZ.SortsIn Tryz.prog Tryz.sorted71_ren Fence.wide m :=
  ⟨fun blk off cap ss W hH hblk hsz => callsIn_wide.2 (AnyM.slices_Sort_string Tryz.sort104 blk off cap ss W hH hblk hsz),
   fun p cap W => callsIn_wide.2 (AnyM.slices_Sort_string_none Tryz.sort104 p cap W)⟩

set_option maxHeartbeats 1000000 in
/-- slices.Sorted at a function value over a block that holds a map that is not nil. -/
theorem Tryz.sorted_over {H : Type} (Bm b nn : Nat) (D0 : DataW H) (R : Value → Option (DataW H × List MemPlace)) (w : World) (hBm : Bm < w.heap.size) (hm : w.cell? ⟨Bm, 0, none⟩ = some (.map (some b))) (hown : w.ownsMap Tryz.prog 9 R b nn D0)
    (hmax : Maps.size D0 ≤ maxLen) (hbytes : Maps.size D0 * 16 ≤ 140737488355328) :
    Calls Tryz.prog 330 #[.func (.func 349) #[] #[.pointer (some ⟨Bm, 0, none⟩)]] w fun e w' => ∃ (v : Value) (ss : List (List UInt8)), e = .returned v ∧ ss.Perm (strKeys D0) ∧
      w'.ownsRow w.heap.size 9 1 v ss.length ((ss.mergeSort (fun x y => decide (x ≤ y))).map encStr) ∧ (v = .slice none 0 0 ↔ ss = []) ∧ Below w.heap.size w w' := by
  refine (callsIn_wide (n := 5)).1 ?_
  have hseq : SeqGives Fence.wide 2 Tryz.prog 349 #[.pointer (some ⟨Bm, 0, none⟩)] encStr (fun ss => ss.Perm (strKeys D0)) (Maps.size D0) w :=
    AnyZ.keys_gives (ρ := Tryz.keys72_ren) { Tryz.keys72 with } Fence.wide _ trivial rfl (by omega) Bm b nn D0 w hBm hm hown
  exact AnyZ.sorted_in Tryz.sorted71 Fence.wide 5 trivial trivial trivial trivial rfl (by omega) (Tryz.sorts71 _) (enters_of Tryz.func348 (by kernel_rfl) rfl) 349 #[.pointer (some ⟨Bm, 0, none⟩)] trivial (enters_of Tryz.func349 (by kernel_rfl) rfl) _ _ hmax hbytes w hseq
end Go.Proofs
namespace Go.Eng
open Go

/-- New blocks, in which some cells are never written again. -/
theorem Sim.grown {E : Env} {st : St} {w w' : World} (hs : Sim E st w) (hb : Go.RowKit.Below w.heap.size w w') (J : Imm) (hJ : ∀ b o x, J b o = some x → w.heap.size ≤ b ∧ cellIn w' b o = some x) :
    ∃ E', Sim E' st w' ∧ Ext E st w E' st w' ∧ (∀ b o x, w.heap.size ≤ b → J b o = some x → E'.I b o = some x) ∧ E'.nl = E.nl := by
  have hold : ∀ b o x, E.I b o = some x → b < w.heap.size := by
    intro b o x hx
    have := hs.imm b o x hx
    simp only [cellIn] at this
    rcases Nat.lt_or_ge b w.heap.size with h | h
    · exact h
    · simp [Array.getElem?_eq_none h] at this
  let E' : Env := { E with I := fun b o => match E.I b o with
    | some x => some x
    | none => J b o }
  have hle : E.Le E' := ⟨fun b o x hx => by simp [E', hx], Nat.le_refl _, Nat.le_refl _, fun _ _ => rfl⟩
  refine ⟨E', ⟨hs.ng, hs.nl, fun k hk => hs.dom k hk, fun b o x hx => ?_, fun k o hk => ?_, fun k k' h1 h2 h3 => hs.sep k k' h1 h2 h3, fun k hk j h1 h2 => ?_⟩,
    ⟨hle, hb.size, fun b o x hx => ?_, fun k hk _ => hk, fun k hk hn => absurd (hs.dom k hk) hn, fun b hlt _ => hb.block b hlt, hb.os, hb.output, hb.tape⟩, fun b o x hge hx => ?_, rfl⟩
  · cases hI : E.I b o with
    | some y =>
      simp only [E', hI] at hx
      have h1 := hs.imm b o y hI
      have h2 := hold b o y hI
      cases hx
      simp only [cellIn, hb.block b h2]
      exact h1
    | none =>
      simp only [E', hI] at hx
      exact (hJ b o x hx).2
  · exact (hs.obj k o hk).keep (Env.at_mono hle k) (hb.block _ (hs.lt ⟨o, hk⟩))
  · have h3 := hs.own k hk j h1 h2
    show (match E.I (E.μ k).blk j with | some x => some x | none => J (E.μ k).blk j) = none
    rw [h3]
    cases hj : J (E.μ k).blk j with
    | none => rfl
    | some x =>
      have := (hJ _ _ _ hj).1
      have := hs.lt hk
      omega
  · cases hI : E.I b o with
    | some y => simp only [E', hI] at hx; left; exact hx
    | none => simp only [E', hI] at hx; exact .inr (.inl (hJ b o x hx).1)
  · show (match E.I b o with | some x => some x | none => J b o) = some x
    cases hI : E.I b o with
    | some y => have := hold b o y hI; omega
    | none => exact hx
theorem rel_m {E : Env} {k : Key} {x : Value} (h : Rel E (.m k) x) : x = .map (some (E.μ k).blk) := by
  cases h with
  | deep hd => cases hd
  | m _ hk => rfl
end Go.Eng
namespace Go.Proofs.YtkkpkcjcaogceaaGreat
open Go.Eng

theorem sorted_ok : ∀ (args : List V) (h : Heap) (r : V) (h' : Heap), sortedRun 349 args h = some (r, h') → ∀ K : V → Heap → Prop, K r h' → ACall Tryz.prog 330 args h K := by
  intro args h r h' hx K hK
  unfold sortedRun at hx
  split at hx
  case h_2 => cases hx
  rename_i f k off
  split at hx
  case h_2 => cases hx
  rename_i hfo
  simp only [Bool.and_eq_true] at hfo
  have hf := Nat.eq_of_beq_eq_true hfo.1
  have ho := Nat.eq_of_beq_eq_true hfo.2
  subst hf; subst ho
  split at hx
  case h_2 => cases hx
  rename_i c hc
  split at hx
  case h_2 => cases hx
  rename_i mk hm
  split at hx
  case h_2 => cases hx
  rename_i x v hmp
  split at hx
  case h_2 => cases hx
  rename_i hlen
  have hlen := of_decide_eq_true hlen
  cases hx
  refine ⟨by kernel_rfl, fun E w vs hnl hs hv => ?_⟩
  obtain ⟨x0, rfl, r0⟩ := args1 hv
  cases r0 with
  | deep hd => cases hd
  | fn _ _ _ fa ca h1 h2 h3 h4 =>
  have hfa : fa = #[] := by simpa using h1
  subst hfa
  obtain ⟨p, rfl, rp⟩ := args1 (E := E) (a0 := .p (.g k) 0) (vs := ca) ⟨h2, h4⟩
  obtain ⟨hk, rfl⟩ := rel_p rp
  have hob : (gst h).get (.g k) = some (.cs c) := hc
  have hbase := hs.csBase hob
  obtain ⟨y, hy, ry, fy⟩ := hs.cellOf hob hm
  have := rel_m ry
  subst this
  rw [hbase] at hy
  have hmo : (gst h).get (.g mk) = some (.mp none [(.s x, v)]) := hmp
  obtain ⟨ents, clock, q1, q2, q3, q4⟩ := hs.obj _ _ hmo
  have hsz : ents.size = 1 := q2
  obtain ⟨en, rfl⟩ : ∃ en, ents = #[en] := ⟨ents[0], by apply Array.ext; simp [hsz]; intro i i1 i2; simp at i2; subst i2; rfl⟩
  obtain ⟨e1, _, _⟩ := q3 0 (.s x, v) en rfl rfl
  have hkey : en.key = .string (str x) := by
    generalize hg : en.key = z at e1
    cases e1; rfl
  have hborn := q4 en (by simp)
  have hss : (str x).size = x.length := by simp [str, ByteArray.size]
  have hko : keyOf Tryz.prog 9 en.key = some (.string x) := by
    rw [hkey, Go.WideMaps.keyOf_string_mk Tryz.underlying9 (by rw [hss]; simpa [maxLen] using hlen)]
    simp [str]
  let R : Value → Option (DataW Unit × List MemPlace) := fun _ => some (.nil, [])
  have hrd : Go.WideElems.rd Tryz.prog 9 R en = some (.string x, .nil) := by simp [Go.WideElems.rd, hko, R]
  have hown : w.ownsMap Tryz.prog 9 R (E.μ (.g mk)).blk 1 (.map [(.string x, .nil)]) := by
    refine ⟨#[en], clock, q1, ⟨by simp [maxLen], ⟨by simpa using hborn, by simp, by simp⟩, fun z hz => ?_⟩, by simp, ?_⟩
    · simp at hz; subst hz; exact ⟨_, hrd⟩
    · simp [Go.WideElems.rg, hrd, DataW.insert]
  have hBm : (E.μ (.g k)).blk < w.heap.size := hs.lt ⟨_, hob⟩
  have hcall := Tryz.sorted_over (E.μ (.g k)).blk (E.μ (.g mk)).blk 1 _ R w hBm hy hown (by simp [Go.Maps.size, maxLen]) (by simp [Go.Maps.size])
  rw [hbase]
  refine hcall.mono ?_
  rintro e w' ⟨z, ss, rfl, hperm, hrow, hnil, hbel⟩
  have hsx : ss = [x] := by
    have : ss.Perm [x] := by simpa [Go.strKeys, Go.strOf] using hperm
    exact List.perm_singleton.1 this
  subst hsx
  obtain ⟨_, hrow⟩ := hrow
  rcases hrow with ⟨_, h0⟩ | ⟨gb, cap, cur, rfl, hge, hgb, hc1, _, hcs, hcur⟩
  · simp at h0
  have h0c : cur[0]? = some (.string (str x)) := by
    have : cur.toList.take 1 = [Value.string (str x)] := by simpa [str] using hcur
    have h1 : (cur.toList.take 1)[0]? = some (Value.string (str x)) := by rw [this]; rfl
    rw [List.getElem?_take] at h1
    simpa using h1
  obtain ⟨E', s1, s2, s3, s4⟩ := hs.grown hbel (fun b o => if b = gb ∧ o = 0 then some (.string (str x)) else none) (fun b o z hz => by
    split at hz
    · rename_i hbo
      obtain ⟨rfl, rfl⟩ := hbo
      cases hz
      exact ⟨hge, by simp [cellIn, hgb, h0c]⟩
    · cases hz)
  refine ⟨_, _, _, E', hK, rfl, s4.trans hnl, s1, s2, .deep ?_⟩
  refine RelD.sl 1 [[.s x]] gb 0 cap (fun _ => .string (str x)) (by simpa using hc1) (by simp) (fun j d hj => ?_) (fun j d hj => ?_)
  · have hj0 : j = 0 := by
      have := (List.getElem?_eq_some_iff.1 hj).1
      simp at this; omega
    subst hj0
    exact s3 gb 0 _ hge (by simp)
  · have hj0 : j = 0 := by
      have := (List.getElem?_eq_some_iff.1 hj).1
      simp at this; omega
    subst hj0
    simp at hj; subst hj; exact .s x
end Go.Proofs.YtkkpkcjcaogceaaGreat
