/-
slices.Sorted of the one key of a map: by the shelf's contracts, laid in plain words.
-/
import Derived.Shelf.SlIter.Nil
import Derived.Shelf.SortM.Plain
import Derived.Shelf.SortM.SortNone
import Derived.Ground.GgzProg
import Derived.Ground.SlgmProg
import Derived.Test.YtcckglahpbmakaaGreatSync
set_option linter.unusedVariables false
set_option linter.unusedSimpArgs false
namespace Go.Proofs
open Go.RowKit Go.Maps Go.Sort Go.Shelf
def Tryz.keys72_ren : Go.Shelf.Ren := ⟨fun | 7 => 58 | 10 => 104 | n => n, fun | 23 => 118 | 26 => 9 | 3 => 74 | 28 => 140 | 0 => 0 | 27 => 139 | 33 => 77 | 4 => 4 | n => n, fun | n => n⟩
theorem Tryz.keys72 : Go.Proofs.SlLaysZ.n7 Tryz.prog Tryz.keys72_ren := {
  mixed := by kernel_rfl
  f7 := ⟨Tryz.f58.name, by decide, Tryz.func58.trans (congrArg some (by kernel_rfl))⟩
  f10 := ⟨Tryz.f104.name, by decide, Tryz.func104.trans (congrArg some (by kernel_rfl))⟩
  t0 := Tryz.underlying0
  a0 := Tryz.isAgg0
  z0 := Tryz.sizeOf0
  v0 := Tryz.zeroValue0
  t4 := Tryz.underlying4
  a4 := Tryz.isAgg4
  z4 := Tryz.sizeOf4
  v4 := Tryz.zeroValue4
  t23 := Tryz.underlying118
  a23 := Tryz.isAgg118
  z23 := Tryz.sizeOf118
  v23 := Tryz.zeroValue118
  t26 := Tryz.underlying9
  a26 := Tryz.isAgg9
  z26 := Tryz.sizeOf9
  v26 := Tryz.zeroValue9
  t27 := Tryz.underlying139
  a27 := Tryz.isAgg139
  z27 := Tryz.sizeOf139
  v27 := Tryz.zeroValue139
  t28 := Tryz.underlying140
  a28 := Tryz.isAgg140
  z28 := Tryz.sizeOf140
  v28 := Tryz.zeroValue140
  t33 := Tryz.underlying77
  a33 := Tryz.isAgg77
  z33 := Tryz.sizeOf77
  v33 := Tryz.zeroValue77 }
def Tryz.sorted71_ren : Go.Shelf.Ren := ⟨fun | 6 => 57 | 8 => 102 | 9 => 103 | 11 => 151 | 13 => 137 | 12 => 152 | 23 => 176 | 24 => 177 | 14 => 200 | 15 => 201 | 16 => 202 | 17 => 203 | 18 => 204 | 19 => 205 | 20 => 206 | 21 => 207 | 22 => 208 | 25 => 239 | 26 => 217 | 27 => 218 | 28 => 240 | 29 => 241 | 30 => 242 | 31 => 260 | n => n, fun | 26 => 9 | 28 => 140 | 24 => 70 | 0 => 0 | 3 => 3 | 37 => 256 | 48 => 151 | 50 => 160 | 4 => 4 | 40 => 286 | 39 => 285 | 45 => 290 | 5 => 5 | 9 => 9 | 51 => 316 | 55 => 320 | 57 => 343 | 58 => 344 | 33 => 77 | n => n, fun | n => n⟩
theorem Tryz.sorted71 : Go.Proofs.SlLaysZ.n6 Tryz.prog Tryz.sorted71_ren := {
  mixed := by kernel_rfl
  f6 := ⟨Tryz.f57.name, by decide, Tryz.func57.trans (congrArg some (by kernel_rfl))⟩
  f8 := ⟨Tryz.f102.name, by decide, Tryz.func102.trans (congrArg some (by kernel_rfl))⟩
  f11 := ⟨Tryz.f151.name, by decide, Tryz.func151.trans (congrArg some (by kernel_rfl))⟩
  t0 := Tryz.underlying0
  a0 := Tryz.isAgg0
  z0 := Tryz.sizeOf0
  v0 := Tryz.zeroValue0
  t24 := Tryz.underlying70
  a24 := Tryz.isAgg70
  z24 := Tryz.sizeOf70
  v24 := Tryz.zeroValue70
  t26 := Tryz.underlying9
  a26 := Tryz.isAgg9
  z26 := Tryz.sizeOf9
  v26 := Tryz.zeroValue9
  t28 := Tryz.underlying140
  a28 := Tryz.isAgg140
  z28 := Tryz.sizeOf140
  v28 := Tryz.zeroValue140
  i26 := by kernel_rfl }
def Tryz.sort104_ren : Go.Shelf.Ren := ⟨fun | 6 => 103 | 8 => 137 | 9 => 152 | 19 => 176 | 20 => 177 | 21 => 200 | 22 => 201 | 23 => 202 | 24 => 203 | 25 => 204 | 26 => 205 | 27 => 206 | 28 => 207 | 29 => 208 | 36 => 239 | 31 => 217 | 32 => 218 | 37 => 240 | 38 => 241 | 39 => 242 | 41 => 260 | n => n, fun | 27 => 70 | 29 => 9 | 3 => 3 | 32 => 256 | 26 => 70 | 0 => 0 | 44 => 151 | 46 => 160 | 4 => 4 | 36 => 286 | 35 => 285 | 41 => 290 | 5 => 5 | 9 => 9 | 53 => 316 | 57 => 320 | 63 => 343 | 64 => 344 | n => n, fun | n => n⟩
theorem Tryz.sort104 : Go.Proofs.SlLaysM.n6 Tryz.prog Tryz.sort104_ren := {
  mixed := by kernel_rfl
  f6 := ⟨Tryz.f103.name, by decide, Tryz.func103.trans (congrArg some (by kernel_rfl))⟩
  f8 := Tryz.func137.trans (congrArg some (by kernel_rfl))
  f9 := ⟨Tryz.f152.name, by decide, Tryz.func152.trans (congrArg some (by kernel_rfl))⟩
  f19 := Tryz.func176.trans (congrArg some (by kernel_rfl))
  f20 := Tryz.func177.trans (congrArg some (by kernel_rfl))
  f21 := ⟨Tryz.f200.name, by decide, Tryz.func200.trans (congrArg some (by kernel_rfl))⟩
  f22 := ⟨Tryz.f201.name, by decide, Tryz.func201.trans (congrArg some (by kernel_rfl))⟩
  f23 := ⟨Tryz.f202.name, by decide, Tryz.func202.trans (congrArg some (by kernel_rfl))⟩
  f24 := ⟨Tryz.f203.name, by decide, Tryz.func203.trans (congrArg some (by kernel_rfl))⟩
  f25 := ⟨Tryz.f204.name, by decide, Tryz.func204.trans (congrArg some (by kernel_rfl))⟩
  f26 := ⟨Tryz.f205.name, by decide, Tryz.func205.trans (congrArg some (by kernel_rfl))⟩
  f27 := ⟨Tryz.f206.name, by decide, Tryz.func206.trans (congrArg some (by kernel_rfl))⟩
  f28 := ⟨Tryz.f207.name, by decide, Tryz.func207.trans (congrArg some (by kernel_rfl))⟩
  f29 := ⟨Tryz.f208.name, by decide, Tryz.func208.trans (congrArg some (by kernel_rfl))⟩
  f31 := Tryz.func217.trans (congrArg some (by kernel_rfl))
  f32 := Tryz.func218.trans (congrArg some (by kernel_rfl))
  f36 := ⟨Tryz.f239.name, by decide, Tryz.func239.trans (congrArg some (by kernel_rfl))⟩
  f37 := ⟨Tryz.f240.name, by decide, Tryz.func240.trans (congrArg some (by kernel_rfl))⟩
  f38 := ⟨Tryz.f241.name, by decide, Tryz.func241.trans (congrArg some (by kernel_rfl))⟩
  f39 := ⟨Tryz.f242.name, by decide, Tryz.func242.trans (congrArg some (by kernel_rfl))⟩
  f41 := ⟨Tryz.f260.name, by decide, Tryz.func260.trans (congrArg some (by kernel_rfl))⟩
  t0 := Tryz.underlying0
  a0 := Tryz.isAgg0
  z0 := Tryz.sizeOf0
  v0 := Tryz.zeroValue0
  t3 := Tryz.underlying3
  a3 := Tryz.isAgg3
  z3 := Tryz.sizeOf3
  v3 := Tryz.zeroValue3
  t4 := Tryz.underlying4
  a4 := Tryz.isAgg4
  z4 := Tryz.sizeOf4
  v4 := Tryz.zeroValue4
  t5 := Tryz.underlying5
  a5 := Tryz.isAgg5
  z5 := Tryz.sizeOf5
  v5 := Tryz.zeroValue5
  t9 := Tryz.underlying9
  a9 := Tryz.isAgg9
  z9 := Tryz.sizeOf9
  v9 := Tryz.zeroValue9
  t26 := Tryz.underlying70
  a26 := Tryz.isAgg70
  z26 := Tryz.sizeOf70
  v26 := Tryz.zeroValue70
  t27 := Tryz.underlying70
  a27 := Tryz.isAgg70
  z27 := Tryz.sizeOf70
  v27 := Tryz.zeroValue70
  t29 := Tryz.underlying9
  a29 := Tryz.isAgg9
  z29 := Tryz.sizeOf9
  v29 := Tryz.zeroValue9
  t32 := Tryz.underlying256
  a32 := Tryz.isAgg256
  z32 := Tryz.sizeOf256
  v32 := Tryz.zeroValue256
  t35 := Tryz.underlying285
  a35 := Tryz.isAgg285
  z35 := Tryz.sizeOf285
  v35 := Tryz.zeroValue285
  t36 := Tryz.underlying286
  a36 := Tryz.isAgg286
  z36 := Tryz.sizeOf286
  v36 := Tryz.zeroValue286
  t41 := Tryz.underlying290
  a41 := Tryz.isAgg290
  z41 := Tryz.sizeOf290
  v41 := Tryz.zeroValue290
  t44 := Tryz.underlying151
  a44 := Tryz.isAgg151
  z44 := Tryz.sizeOf151
  v44 := Tryz.zeroValue151
  t46 := Tryz.underlying160
  a46 := Tryz.isAgg160
  z46 := Tryz.sizeOf160
  v46 := Tryz.zeroValue160
  t53 := Tryz.underlying316
  a53 := Tryz.isAgg316
  z53 := Tryz.sizeOf316
  v53 := Tryz.zeroValue316
  t57 := Tryz.underlying320
  a57 := Tryz.isAgg320
  z57 := Tryz.sizeOf320
  v57 := Tryz.zeroValue320
  t63 := Tryz.underlying343
  a63 := Tryz.isAgg343
  z63 := Tryz.sizeOf343
  v63 := Tryz.zeroValue343
  t64 := Tryz.underlying344
  a64 := Tryz.isAgg344
  z64 := Tryz.sizeOf344
  v64 := Tryz.zeroValue344 }

theorem Tryz.sorts71 (m : Nat) : AnyZ.SortsIn Tryz.prog Tryz.sorted71_ren Fence.wide m :=
  ⟨fun blk off cap ss W hH hblk hsz => callsIn_wide.2 (AnyM.slices_Sort_string Tryz.sort104 blk off cap ss W hH hblk hsz),
   fun p cap W => callsIn_wide.2 (AnyM.slices_Sort_string_none Tryz.sort104 p cap W)⟩

set_option maxHeartbeats 1000000 in
theorem Tryz.sorted_over {H : Type} (Bm b nn : Nat) (D0 : DataW H) (R : Value → Option (DataW H × List MemPlace)) (w : World) (hBm : Bm < w.heap.size) (hm : w.cell? ⟨Bm, 0, none⟩ = some (.map (some b))) (hown : w.ownsMap Tryz.prog 9 R b nn D0)
    (hmax : Maps.size D0 ≤ maxLen) (hbytes : Maps.size D0 * 16 ≤ 140737488355328) :
    Calls Tryz.prog 57 #[.func (.func 104) #[] #[.pointer (some ⟨Bm, 0, none⟩)]] w fun e w' => ∃ (v : Value) (ss : List (List UInt8)), e = .returned v ∧ ss.Perm (strKeys D0) ∧
      w'.ownsRow w.heap.size 9 1 v ss.length ((ss.mergeSort (fun x y => decide (x ≤ y))).map encStr) ∧ (v = .slice none 0 0 ↔ ss = []) ∧ Below w.heap.size w w' := by
  refine (callsIn_wide (n := 5)).1 ?_
  have hseq : SeqGives Fence.wide 2 Tryz.prog 104 #[.pointer (some ⟨Bm, 0, none⟩)] encStr (fun ss => ss.Perm (strKeys D0)) (Maps.size D0) w :=
    AnyZ.keys_gives (ρ := Tryz.keys72_ren) { Tryz.keys72 with } Fence.wide _ trivial rfl (by omega) Bm b nn D0 w hBm hm hown
  exact AnyZ.sorted_in Tryz.sorted71 Fence.wide 5 trivial trivial trivial trivial rfl (by omega) (Tryz.sorts71 _) (enters_of Tryz.func103 (by kernel_rfl) rfl) 104 #[.pointer (some ⟨Bm, 0, none⟩)] trivial (enters_of Tryz.func104 (by kernel_rfl) rfl) _ _ hmax hbytes w hseq
end Go.Proofs
namespace Go.Eng
open Go

theorem Sim.grown {E : Env} {st : St} {w w' : World} (hs : Sim E st w) (hb : Go.RowKit.Below w.heap.size w w') (J : Imm) (hJ : ∀ b o x, J b o = some x → w.heap.size ≤ b ∧ cellIn w' b o = some x) :
    ∃ E', Sim E' st w' ∧ Ext E st w E' st w' ∧ (∀ b o x, w.heap.size ≤ b → J b o = some x → E'.I b o = some x) ∧ E'.nl = E.nl := by
  have hold : ∀ b o x, E.I b o = some x → b < w.heap.size := by
    intro b o x hx
    have := hs.imm b o x hx
    simp only [cellIn] at this
    rcases Nat.lt_or_ge b w.heap.size with h | h
    · exact h
    · simp [Array.getElem?_eq_none h] at this
  let E' : Env := { E with I := fun b o => match E.I b o with
    | some x => some x
    | none => J b o }
  have hle : E.Le E' := ⟨fun b o x hx => by simp [E', hx], Nat.le_refl _, Nat.le_refl _, fun _ _ => rfl⟩
  refine ⟨E', ⟨hs.ng, hs.nl, fun k hk => hs.dom k hk, fun b o x hx => ?_, fun k o hk => ?_, fun k k' h1 h2 h3 => hs.sep k k' h1 h2 h3, fun k hk j h1 h2 => ?_⟩,
    ⟨hle, hb.size, fun b o x hx => ?_, fun k hk _ => hk, fun k hk hn => absurd (hs.dom k hk) hn, fun b hlt _ => hb.block b hlt, hb.os, hb.output, hb.tape⟩, fun b o x hge hx => ?_, rfl⟩
  · cases hI : E.I b o with
    | some y =>
      simp only [E', hI] at hx
      have h1 := hs.imm b o y hI
      have h2 := hold b o y hI
      cases hx
      simp only [cellIn, hb.block b h2]
      exact h1
    | none =>
      simp only [E', hI] at hx
      exact (hJ b o x hx).2
  · exact (hs.obj k o hk).keep (Env.at_mono hle k) (hb.block _ (hs.lt ⟨o, hk⟩))
  · have h3 := hs.own k hk j h1 h2
    show (match E.I (E.μ k).blk j with | some x => some x | none => J (E.μ k).blk j) = none
    rw [h3]
    cases hj : J (E.μ k).blk j with
    | none => rfl
    | some x =>
      have := (hJ _ _ _ hj).1
      have := hs.lt hk
      omega
  · cases hI : E.I b o with
    | some y => simp only [E', hI] at hx; left; exact hx
    | none => simp only [E', hI] at hx; exact .inr (.inl (hJ b o x hx).1)
  · show (match E.I b o with | some x => some x | none => J b o) = some x
    cases hI : E.I b o with
    | some y => have := hold b o y hI; omega
    | none => exact hx
theorem rel_m {E : Env} {k : Key} {x : Value} (h : Rel E (.m k) x) : x = .map (some (E.μ k).blk) := by
  cases h with
  | deep hd => cases hd
  | m _ hk => rfl
end Go.Eng
namespace Go.Proofs.YtcckglahpbmakaaGreat
open Go.Eng

theorem sorted_ok : ∀ (args : List V) (h : Heap) (r : V) (h' : Heap), sortedRun 104 args h = some (r, h') → ∀ K : V → Heap → Prop, K r h' → ACall Tryz.prog 57 args h K := by
  intro args h r h' hx K hK
  unfold sortedRun at hx
  split at hx
  case h_2 => cases hx
  rename_i f k off
  split at hx
  case h_2 => cases hx
  rename_i hfo
  simp only [Bool.and_eq_true] at hfo
  have hf := Nat.eq_of_beq_eq_true hfo.1
  have ho := Nat.eq_of_beq_eq_true hfo.2
  subst hf; subst ho
  split at hx
  case h_2 => cases hx
  rename_i c hc
  split at hx
  case h_2 => cases hx
  rename_i mk hm
  split at hx
  case h_2 => cases hx
  rename_i x v hmp
  split at hx
  case h_2 => cases hx
  rename_i hlen
  have hlen := of_decide_eq_true hlen
  cases hx
  refine ⟨by kernel_rfl, fun E w vs hnl hs hv => ?_⟩
  obtain ⟨x0, rfl, r0⟩ := args1 hv
  cases r0 with
  | deep hd => cases hd
  | fn _ _ _ fa ca h1 h2 h3 h4 =>
  have hfa : fa = #[] := by simpa using h1
  subst hfa
  obtain ⟨p, rfl, rp⟩ := args1 (E := E) (a0 := .p (.g k) 0) (vs := ca) ⟨h2, h4⟩
  obtain ⟨hk, rfl⟩ := rel_p rp
  have hob : (gst h).get (.g k) = some (.cs c) := hc
  have hbase := hs.csBase hob
  obtain ⟨y, hy, ry, fy⟩ := hs.cellOf hob hm
  have := rel_m ry
  subst this
  rw [hbase] at hy
  have hmo : (gst h).get (.g mk) = some (.mp none [(.s x, v)]) := hmp
  obtain ⟨ents, clock, q1, q2, q3, q4⟩ := hs.obj _ _ hmo
  have hsz : ents.size = 1 := q2
  obtain ⟨en, rfl⟩ : ∃ en, ents = #[en] := ⟨ents[0], by apply Array.ext; simp [hsz]; intro i i1 i2; simp at i2; subst i2; rfl⟩
  obtain ⟨e1, _, _⟩ := q3 0 (.s x, v) en rfl rfl
  have hkey : en.key = .string (str x) := by
    generalize hg : en.key = z at e1
    cases e1; rfl
  have hborn := q4.1 en (by simp)
  have hss : (str x).size = x.length := by simp [str, ByteArray.size]
  have hko : keyOf Tryz.prog 9 en.key = some (.string x) := by
    rw [hkey, Go.WideMaps.keyOf_string_mk Tryz.underlying9 (by rw [hss]; simpa [maxLen] using hlen)]
    simp [str]
  let R : Value → Option (DataW Unit × List MemPlace) := fun _ => some (.nil, [])
  have hrd : Go.WideElems.rd Tryz.prog 9 R en = some (.string x, .nil) := by simp [Go.WideElems.rd, hko, R]
  have hown : w.ownsMap Tryz.prog 9 R (E.μ (.g mk)).blk 1 (.map [(.string x, .nil)]) := by
    refine ⟨#[en], clock, q1, ⟨by simp [maxLen], ⟨by simpa using hborn, by simp, by simp⟩, fun z hz => ?_⟩, by simp, ?_⟩
    · simp at hz; subst hz; exact ⟨_, hrd⟩
    · simp [Go.WideElems.rg, hrd, DataW.insert]
  have hBm : (E.μ (.g k)).blk < w.heap.size := hs.lt ⟨_, hob⟩
  have hcall := Tryz.sorted_over (E.μ (.g k)).blk (E.μ (.g mk)).blk 1 _ R w hBm hy hown (by simp [Go.Maps.size, maxLen]) (by simp [Go.Maps.size])
  rw [hbase]
  refine hcall.mono ?_
  rintro e w' ⟨z, ss, rfl, hperm, hrow, hnil, hbel⟩
  have hsx : ss = [x] := by
    have : ss.Perm [x] := by simpa [Go.strKeys, Go.strOf] using hperm
    exact List.perm_singleton.1 this
  subst hsx
  obtain ⟨_, hrow⟩ := hrow
  rcases hrow with ⟨_, h0⟩ | ⟨gb, cap, cur, rfl, hge, hgb, hc1, _, hcs, hcur⟩
  · simp at h0
  have h0c : cur[0]? = some (.string (str x)) := by
    have : cur.toList.take 1 = [Value.string (str x)] := by simpa [str] using hcur
    have h1 : (cur.toList.take 1)[0]? = some (Value.string (str x)) := by rw [this]; rfl
    rw [List.getElem?_take] at h1
    simpa using h1
  obtain ⟨E', s1, s2, s3, s4⟩ := hs.grown hbel (fun b o => if b = gb ∧ o = 0 then some (.string (str x)) else none) (fun b o z hz => by
    split at hz
    · rename_i hbo
      obtain ⟨rfl, rfl⟩ := hbo
      cases hz
      exact ⟨hge, by simp [cellIn, hgb, h0c]⟩
    · cases hz)
  refine ⟨_, _, _, E', hK, rfl, s4.trans hnl, s1, s2, .deep ?_⟩
  refine RelD.sl 1 [[.s x]] gb 0 cap (fun _ => .string (str x)) (by simpa using hc1) (by simp) (fun j d hj => ?_) (fun j d hj => ?_)
  · have hj0 : j = 0 := by
      have := (List.getElem?_eq_some_iff.1 hj).1
      simp at this; omega
    subst hj0
    exact s3 gb 0 _ hge (by simp)
  · have hj0 : j = 0 := by
      have := (List.getElem?_eq_some_iff.1 hj).1
      simp at this; omega
    subst hj0
    simp at hj; subst hj; exact .s x
end Go.Proofs.YtcckglahpbmakaaGreat
