/-
slices.Sorted of the one key of a map: by the shelf's contracts, laid in plain words.
-/
import Derived.Shelf.SlIter.Nil
import Derived.Shelf.SortM.Plain
import Derived.Shelf.SortM.SortNone
import Derived.Ground.GgzProg
import Derived.Ground.SlgmProg
import Derived.Test.YthhlbhmneabhiaaGreatSync
set_option linter.unusedVariables false
set_option linter.unusedSimpArgs false
namespace Go.Proofs
open Go.RowKit Go.Maps Go.Sort Go.Shelf
def Tryz.keys72_ren : Go.Shelf.Ren := ⟨fun | 7 => 63 | 10 => 108 | n => n, fun | 23 => 134 | 26 => 9 | 3 => 72 | 28 => 140 | 0 => 0 | 27 => 139 | 33 => 93 | 4 => 4 | n => n, fun | n => n⟩
theorem Tryz.keys72 : Go.Proofs.SlLaysZ.n7 Tryz.prog Tryz.keys72_ren := {
  mixed := by kernel_rfl
  f7 := ⟨Tryz.f63.name, by decide, Tryz.func63.trans (congrArg some (by kernel_rfl))⟩
  f10 := ⟨Tryz.f108.name, by decide, Tryz.func108.trans (congrArg some (by kernel_rfl))⟩
  t0 := Tryz.underlying0
  a0 := Tryz.isAgg0
  z0 := Tryz.sizeOf0
  v0 := Tryz.zeroValue0
  t4 := Tryz.underlying4
  a4 := Tryz.isAgg4
  z4 := Tryz.sizeOf4
  v4 := Tryz.zeroValue4
  t23 := Tryz.underlying134
  a23 := Tryz.isAgg134
  z23 := Tryz.sizeOf134
  v23 := Tryz.zeroValue134
  t26 := Tryz.underlying9
  a26 := Tryz.isAgg9
  z26 := Tryz.sizeOf9
  v26 := Tryz.zeroValue9
  t27 := Tryz.underlying139
  a27 := Tryz.isAgg139
  z27 := Tryz.sizeOf139
  v27 := Tryz.zeroValue139
  t28 := Tryz.underlying140
  a28 := Tryz.isAgg140
  z28 := Tryz.sizeOf140
  v28 := Tryz.zeroValue140
  t33 := Tryz.underlying93
  a33 := Tryz.isAgg93
  z33 := Tryz.sizeOf93
  v33 := Tryz.zeroValue93 }
def Tryz.sorted71_ren : Go.Shelf.Ren := ⟨fun | 6 => 62 | 8 => 106 | 9 => 107 | 11 => 155 | 13 => 143 | 12 => 156 | 23 => 182 | 24 => 183 | 14 => 205 | 15 => 206 | 16 => 207 | 17 => 208 | 18 => 209 | 19 => 210 | 20 => 211 | 21 => 212 | 22 => 213 | 25 => 245 | 26 => 223 | 27 => 224 | 28 => 246 | 29 => 247 | 30 => 248 | 31 => 266 | n => n, fun | 26 => 9 | 28 => 140 | 24 => 89 | 0 => 0 | 3 => 3 | 37 => 267 | 48 => 165 | 50 => 174 | 4 => 4 | 40 => 297 | 39 => 296 | 45 => 301 | 5 => 5 | 9 => 9 | 51 => 327 | 55 => 331 | 57 => 354 | 58 => 355 | 33 => 93 | n => n, fun | n => n⟩
theorem Tryz.sorted71 : Go.Proofs.SlLaysZ.n6 Tryz.prog Tryz.sorted71_ren := {
  mixed := by kernel_rfl
  f6 := ⟨Tryz.f62.name, by decide, Tryz.func62.trans (congrArg some (by kernel_rfl))⟩
  f8 := ⟨Tryz.f106.name, by decide, Tryz.func106.trans (congrArg some (by kernel_rfl))⟩
  f11 := ⟨Tryz.f155.name, by decide, Tryz.func155.trans (congrArg some (by kernel_rfl))⟩
  t0 := Tryz.underlying0
  a0 := Tryz.isAgg0
  z0 := Tryz.sizeOf0
  v0 := Tryz.zeroValue0
  t24 := Tryz.underlying89
  a24 := Tryz.isAgg89
  z24 := Tryz.sizeOf89
  v24 := Tryz.zeroValue89
  t26 := Tryz.underlying9
  a26 := Tryz.isAgg9
  z26 := Tryz.sizeOf9
  v26 := Tryz.zeroValue9
  t28 := Tryz.underlying140
  a28 := Tryz.isAgg140
  z28 := Tryz.sizeOf140
  v28 := Tryz.zeroValue140
  i26 := by kernel_rfl }
def Tryz.sort104_ren : Go.Shelf.Ren := ⟨fun | 6 => 107 | 8 => 143 | 9 => 156 | 19 => 182 | 20 => 183 | 21 => 205 | 22 => 206 | 23 => 207 | 24 => 208 | 25 => 209 | 26 => 210 | 27 => 211 | 28 => 212 | 29 => 213 | 36 => 245 | 31 => 223 | 32 => 224 | 37 => 246 | 38 => 247 | 39 => 248 | 41 => 266 | n => n, fun | 27 => 89 | 29 => 9 | 3 => 3 | 32 => 267 | 26 => 89 | 0 => 0 | 44 => 165 | 46 => 174 | 4 => 4 | 36 => 297 | 35 => 296 | 41 => 301 | 5 => 5 | 9 => 9 | 53 => 327 | 57 => 331 | 63 => 354 | 64 => 355 | n => n, fun | n => n⟩
theorem Tryz.sort104 : Go.Proofs.SlLaysM.n6 Tryz.prog Tryz.sort104_ren := {
  mixed := by kernel_rfl
  f6 := ⟨Tryz.f107.name, by decide, Tryz.func107.trans (congrArg some (by kernel_rfl))⟩
  f8 := Tryz.func143.trans (congrArg some (by kernel_rfl))
  f9 := ⟨Tryz.f156.name, by decide, Tryz.func156.trans (congrArg some (by kernel_rfl))⟩
  f19 := Tryz.func182.trans (congrArg some (by kernel_rfl))
  f20 := Tryz.func183.trans (congrArg some (by kernel_rfl))
  f21 := ⟨Tryz.f205.name, by decide, Tryz.func205.trans (congrArg some (by kernel_rfl))⟩
  f22 := ⟨Tryz.f206.name, by decide, Tryz.func206.trans (congrArg some (by kernel_rfl))⟩
  f23 := ⟨Tryz.f207.name, by decide, Tryz.func207.trans (congrArg some (by kernel_rfl))⟩
  f24 := ⟨Tryz.f208.name, by decide, Tryz.func208.trans (congrArg some (by kernel_rfl))⟩
  f25 := ⟨Tryz.f209.name, by decide, Tryz.func209.trans (congrArg some (by kernel_rfl))⟩
  f26 := ⟨Tryz.f210.name, by decide, Tryz.func210.trans (congrArg some (by kernel_rfl))⟩
  f27 := ⟨Tryz.f211.name, by decide, Tryz.func211.trans (congrArg some (by kernel_rfl))⟩
  f28 := ⟨Tryz.f212.name, by decide, Tryz.func212.trans (congrArg some (by kernel_rfl))⟩
  f29 := ⟨Tryz.f213.name, by decide, Tryz.func213.trans (congrArg some (by kernel_rfl))⟩
  f31 := Tryz.func223.trans (congrArg some (by kernel_rfl))
  f32 := Tryz.func224.trans (congrArg some (by kernel_rfl))
  f36 := ⟨Tryz.f245.name, by decide, Tryz.func245.trans (congrArg some (by kernel_rfl))⟩
  f37 := ⟨Tryz.f246.name, by decide, Tryz.func246.trans (congrArg some (by kernel_rfl))⟩
  f38 := ⟨Tryz.f247.name, by decide, Tryz.func247.trans (congrArg some (by kernel_rfl))⟩
  f39 := ⟨Tryz.f248.name, by decide, Tryz.func248.trans (congrArg some (by kernel_rfl))⟩
  f41 := ⟨Tryz.f266.name, by decide, Tryz.func266.trans (congrArg some (by kernel_rfl))⟩
  t0 := Tryz.underlying0
  a0 := Tryz.isAgg0
  z0 := Tryz.sizeOf0
  v0 := Tryz.zeroValue0
  t3 := Tryz.underlying3
  a3 := Tryz.isAgg3
  z3 := Tryz.sizeOf3
  v3 := Tryz.zeroValue3
  t4 := Tryz.underlying4
  a4 := Tryz.isAgg4
  z4 := Tryz.sizeOf4
  v4 := Tryz.zeroValue4
  t5 := Tryz.underlying5
  a5 := Tryz.isAgg5
  z5 := Tryz.sizeOf5
  v5 := Tryz.zeroValue5
  t9 := Tryz.underlying9
  a9 := Tryz.isAgg9
  z9 := Tryz.sizeOf9
  v9 := Tryz.zeroValue9
  t26 := Tryz.underlying89
  a26 := Tryz.isAgg89
  z26 := Tryz.sizeOf89
  v26 := Tryz.zeroValue89
  t27 := Tryz.underlying89
  a27 := Tryz.isAgg89
  z27 := Tryz.sizeOf89
  v27 := Tryz.zeroValue89
  t29 := Tryz.underlying9
  a29 := Tryz.isAgg9
  z29 := Tryz.sizeOf9
  v29 := Tryz.zeroValue9
  t32 := Tryz.underlying267
  a32 := Tryz.isAgg267
  z32 := Tryz.sizeOf267
  v32 := Tryz.zeroValue267
  t35 := Tryz.underlying296
  a35 := Tryz.isAgg296
  z35 := Tryz.sizeOf296
  v35 := Tryz.zeroValue296
  t36 := Tryz.underlying297
  a36 := Tryz.isAgg297
  z36 := Tryz.sizeOf297
  v36 := Tryz.zeroValue297
  t41 := Tryz.underlying301
  a41 := Tryz.isAgg301
  z41 := Tryz.sizeOf301
  v41 := Tryz.zeroValue301
  t44 := Tryz.underlying165
  a44 := Tryz.isAgg165
  z44 := Tryz.sizeOf165
  v44 := Tryz.zeroValue165
  t46 := Tryz.underlying174
  a46 := Tryz.isAgg174
  z46 := Tryz.sizeOf174
  v46 := Tryz.zeroValue174
  t53 := Tryz.underlying327
  a53 := Tryz.isAgg327
  z53 := Tryz.sizeOf327
  v53 := Tryz.zeroValue327
  t57 := Tryz.underlying331
  a57 := Tryz.isAgg331
  z57 := Tryz.sizeOf331
  v57 := Tryz.zeroValue331
  t63 := Tryz.underlying354
  a63 := Tryz.isAgg354
  z63 := Tryz.sizeOf354
  v63 := Tryz.zeroValue354
  t64 := Tryz.underlying355
  a64 := Tryz.isAgg355
  z64 := Tryz.sizeOf355
  v64 := Tryz.zeroValue355 }

theorem Tryz.sorts71 (m : Nat) : AnyZ.SortsIn Tryz.prog Tryz.sorted71_ren Fence.wide m :=
  ⟨fun blk off cap ss W hH hblk hsz => callsIn_wide.2 (AnyM.slices_Sort_string Tryz.sort104 blk off cap ss W hH hblk hsz),
   fun p cap W => callsIn_wide.2 (AnyM.slices_Sort_string_none Tryz.sort104 p cap W)⟩

set_option maxHeartbeats 1000000 in
/-- slices.Sorted at a function value over a block that holds a map that is not nil. -/
theorem Tryz.sorted_over {H : Type} (Bm b nn : Nat) (D0 : DataW H) (R : Value → Option (DataW H × List MemPlace)) (w : World) (hBm : Bm < w.heap.size) (hm : w.cell? ⟨Bm, 0, none⟩ = some (.map (some b))) (hown : w.ownsMap Tryz.prog 9 R b nn D0)
    (hmax : Maps.size D0 ≤ maxLen) (hbytes : Maps.size D0 * 16 ≤ 140737488355328) :
    Calls Tryz.prog 62 #[.func (.func 108) #[] #[.pointer (some ⟨Bm, 0, none⟩)]] w fun e w' => ∃ (v : Value) (ss : List (List UInt8)), e = .returned v ∧ ss.Perm (strKeys D0) ∧
      w'.ownsRow w.heap.size 9 1 v ss.length ((ss.mergeSort (fun x y => decide (x ≤ y))).map encStr) ∧ (v = .slice none 0 0 ↔ ss = []) ∧ Below w.heap.size w w' := by
  refine (callsIn_wide (n := 5)).1 ?_
  have hseq : SeqGives Fence.wide 2 Tryz.prog 108 #[.pointer (some ⟨Bm, 0, none⟩)] encStr (fun ss => ss.Perm (strKeys D0)) (Maps.size D0) w :=
    AnyZ.keys_gives (ρ := Tryz.keys72_ren) { Tryz.keys72 with } Fence.wide _ trivial rfl (by omega) Bm b nn D0 w hBm hm hown
  exact AnyZ.sorted_in Tryz.sorted71 Fence.wide 5 trivial trivial trivial trivial rfl (by omega) (Tryz.sorts71 _) (enters_of Tryz.func107 (by kernel_rfl) rfl) 108 #[.pointer (some ⟨Bm, 0, none⟩)] trivial (enters_of Tryz.func108 (by kernel_rfl) rfl) _ _ hmax hbytes w hseq
end Go.Proofs
namespace Go.Eng
open Go

/-- New blocks, in which some cells are never written again. -/
theorem Sim.grown {E : Env} {st : St} {w w' : World} (hs : Sim E st w) (hb : Go.RowKit.Below w.heap.size w w') (J : Imm) (hJ : ∀ b o x, J b o = some x → w.heap.size ≤ b ∧ cellIn w' b o = some x) :
    ∃ E', Sim E' st w' ∧ Ext E st w E' st w' ∧ (∀ b o x, w.heap.size ≤ b → J b o = some x → E'.I b o = some x) ∧ E'.nl = E.nl := by
  have hold : ∀ b o x, E.I b o = some x → b < w.heap.size := by
    intro b o x hx
    have := hs.imm b o x hx
    simp only [cellIn] at this
    rcases Nat.lt_or_ge b w.heap.size with h | h
    · exact h
    · simp [Array.getElem?_eq_none h] at this
  let E' : Env := { E with I := fun b o => match E.I b o with
    | some x => some x
    | none => J b o }
  have hle : E.Le E' := ⟨fun b o x hx => by simp [E', hx], Nat.le_refl _, Nat.le_refl _, fun _ _ => rfl⟩
  refine ⟨E', ⟨hs.ng, hs.nl, fun k hk => hs.dom k hk, fun b o x hx => ?_, fun k o hk => ?_, fun k k' h1 h2 h3 => hs.sep k k' h1 h2 h3, fun k hk j h1 h2 => ?_⟩,
    ⟨hle, hb.size, fun b o x hx => ?_, fun k hk _ => hk, fun k hk hn => absurd (hs.dom k hk) hn, fun b hlt _ => hb.block b hlt, hb.os, hb.output, hb.tape⟩, fun b o x hge hx => ?_, rfl⟩
  · cases hI : E.I b o with
    | some y =>
      simp only [E', hI] at hx
      have h1 := hs.imm b o y hI
      have h2 := hold b o y hI
      cases hx
      simp only [cellIn, hb.block b h2]
      exact h1
    | none =>
      simp only [E', hI] at hx
      exact (hJ b o x hx).2
  · exact (hs.obj k o hk).keep (Env.at_mono hle k) (hb.block _ (hs.lt ⟨o, hk⟩))
  · have h3 := hs.own k hk j h1 h2
    show (match E.I (E.μ k).blk j with | some x => some x | none => J (E.μ k).blk j) = none
    rw [h3]
    cases hj : J (E.μ k).blk j with
    | none => rfl
    | some x =>
      have := (hJ _ _ _ hj).1
      have := hs.lt hk
      omega
  · cases hI : E.I b o with
    | some y => simp only [E', hI] at hx; left; exact hx
    | none => simp only [E', hI] at hx; exact .inr (.inl (hJ b o x hx).1)
  · show (match E.I b o with | some x => some x | none => J b o) = some x
    cases hI : E.I b o with
    | some y => have := hold b o y hI; omega
    | none => exact hx
theorem rel_m {E : Env} {k : Key} {x : Value} (h : Rel E (.m k) x) : x = .map (some (E.μ k).blk) := by
  cases h with
  | deep hd => cases hd
  | m _ hk => rfl
end Go.Eng
namespace Go.Proofs.YthhlbhmneabhiaaGreat
open Go.Eng

theorem sorted_ok : ∀ (args : List V) (h : Heap) (r : V) (h' : Heap), sortedRun 108 args h = some (r, h') → ∀ K : V → Heap → Prop, K r h' → ACall Tryz.prog 62 args h K := by
  intro args h r h' hx K hK
  unfold sortedRun at hx
  split at hx
  case h_2 => cases hx
  rename_i f k off
  split at hx
  case h_2 => cases hx
  rename_i hfo
  simp only [Bool.and_eq_true] at hfo
  have hf := Nat.eq_of_beq_eq_true hfo.1
  have ho := Nat.eq_of_beq_eq_true hfo.2
  subst hf; subst ho
  split at hx
  case h_2 => cases hx
  rename_i c hc
  split at hx
  case h_2 => cases hx
  rename_i mk hm
  split at hx
  case h_2 => cases hx
  rename_i x v hmp
  split at hx
  case h_2 => cases hx
  rename_i hlen
  have hlen := of_decide_eq_true hlen
  cases hx
  refine ⟨by kernel_rfl, fun E w vs hnl hs hv => ?_⟩
  obtain ⟨x0, rfl, r0⟩ := args1 hv
  cases r0 with
  | deep hd => cases hd
  | fn _ _ _ fa ca h1 h2 h3 h4 =>
  have hfa : fa = #[] := by simpa using h1
  subst hfa
  obtain ⟨p, rfl, rp⟩ := args1 (E := E) (a0 := .p (.g k) 0) (vs := ca) ⟨h2, h4⟩
  obtain ⟨hk, rfl⟩ := rel_p rp
  have hob : (gst h).get (.g k) = some (.cs c) := hc
  have hbase := hs.csBase hob
  obtain ⟨y, hy, ry, fy⟩ := hs.cellOf hob hm
  have := rel_m ry
  subst this
  rw [hbase] at hy
  have hmo : (gst h).get (.g mk) = some (.mp none [(.s x, v)]) := hmp
  obtain ⟨ents, clock, q1, q2, q3, q4⟩ := hs.obj _ _ hmo
  have hsz : ents.size = 1 := q2
  obtain ⟨en, rfl⟩ : ∃ en, ents = #[en] := ⟨ents[0], by apply Array.ext; simp [hsz]; intro i i1 i2; simp at i2; subst i2; rfl⟩
  obtain ⟨e1, _, _⟩ := q3 0 (.s x, v) en rfl rfl
  have hkey : en.key = .string (str x) := by
    generalize hg : en.key = z at e1
    cases e1; rfl
  have hborn := q4.1 en (by simp)
  have hss : (str x).size = x.length := by simp [str, ByteArray.size]
  have hko : keyOf Tryz.prog 9 en.key = some (.string x) := by
    rw [hkey, Go.WideMaps.keyOf_string_mk Tryz.underlying9 (by rw [hss]; simpa [maxLen] using hlen)]
    simp [str]
  let R : Value → Option (DataW Unit × List MemPlace) := fun _ => some (.nil, [])
  have hrd : Go.WideElems.rd Tryz.prog 9 R en = some (.string x, .nil) := by simp [Go.WideElems.rd, hko, R]
  have hown : w.ownsMap Tryz.prog 9 R (E.μ (.g mk)).blk 1 (.map [(.string x, .nil)]) := by
    refine ⟨#[en], clock, q1, ⟨by simp [maxLen], ⟨by simpa using hborn, by simp, by simp⟩, fun z hz => ?_⟩, by simp, ?_⟩
    · simp at hz; subst hz; exact ⟨_, hrd⟩
    · simp [Go.WideElems.rg, hrd, DataW.insert]
  have hBm : (E.μ (.g k)).blk < w.heap.size := hs.lt ⟨_, hob⟩
  have hcall := Tryz.sorted_over (E.μ (.g k)).blk (E.μ (.g mk)).blk 1 _ R w hBm hy hown (by simp [Go.Maps.size, maxLen]) (by simp [Go.Maps.size])
  rw [hbase]
  refine hcall.mono ?_
  rintro e w' ⟨z, ss, rfl, hperm, hrow, hnil, hbel⟩
  have hsx : ss = [x] := by
    have : ss.Perm [x] := by simpa [Go.strKeys, Go.strOf] using hperm
    exact List.perm_singleton.1 this
  subst hsx
  obtain ⟨_, hrow⟩ := hrow
  rcases hrow with ⟨_, h0⟩ | ⟨gb, cap, cur, rfl, hge, hgb, hc1, _, hcs, hcur⟩
  · simp at h0
  have h0c : cur[0]? = some (.string (str x)) := by
    have : cur.toList.take 1 = [Value.string (str x)] := by simpa [str] using hcur
    have h1 : (cur.toList.take 1)[0]? = some (Value.string (str x)) := by rw [this]; rfl
    rw [List.getElem?_take] at h1
    simpa using h1
  obtain ⟨E', s1, s2, s3, s4⟩ := hs.grown hbel (fun b o => if b = gb ∧ o = 0 then some (.string (str x)) else none) (fun b o z hz => by
    split at hz
    · rename_i hbo
      obtain ⟨rfl, rfl⟩ := hbo
      cases hz
      exact ⟨hge, by simp [cellIn, hgb, h0c]⟩
    · cases hz)
  refine ⟨_, _, _, E', hK, rfl, s4.trans hnl, s1, s2, .deep ?_⟩
  refine RelD.sl 1 [[.s x]] gb 0 cap (fun _ => .string (str x)) (by simpa using hc1) (by simp) (fun j d hj => ?_) (fun j d hj => ?_)
  · have hj0 : j = 0 := by
      have := (List.getElem?_eq_some_iff.1 hj).1
      simp at this; omega
    subst hj0
    exact s3 gb 0 _ hge (by simp)
  · have hj0 : j = 0 := by
      have := (List.getElem?_eq_some_iff.1 hj).1
      simp at this; omega
    subst hj0
    simp at hj; subst hj; exact .s x
end Go.Proofs.YthhlbhmneabhiaaGreat
