/-
slices.Sorted of the one key of a map: by the shelf's contracts, laid in plain words.
-/
import Derived.Shelf.SlIter.Nil
import Derived.Shelf.SortM.Plain
import Derived.Shelf.SortM.SortNone
import Derived.Ground.GgzProg
import Derived.Ground.SlgmProg
import Derived.Test.YtcmknonnlnobnaaGreatSync
set_option linter.unusedVariables false
set_option linter.unusedSimpArgs false
namespace Go.Proofs
open Go.RowKit Go.Maps Go.Sort Go.Shelf
def Tryz.keys72_ren : Go.Shelf.Ren := ⟨fun | 7 => 81 | 10 => 164 | n => n, fun | 23 => 126 | 26 => 9 | 3 => 68 | 28 => 173 | 0 => 0 | 27 => 172 | 33 => 108 | 4 => 4 | n => n, fun | n => n⟩
theorem Tryz.keys72 : Go.Proofs.SlLaysZ.n7 Tryz.prog Tryz.keys72_ren := {
 mixed := by kernel_rfl
 f7 := ⟨Tryz.f81.name, by decide, Tryz.func81.trans (congrArg some (by kernel_rfl))⟩
 f10 := ⟨Tryz.f164.name, by decide, Tryz.func164.trans (congrArg some (by kernel_rfl))⟩
 t0 := Tryz.underlying0
 a0 := Tryz.isAgg0
 z0 := Tryz.sizeOf0
 v0 := Tryz.zeroValue0
 t4 := Tryz.underlying4
 a4 := Tryz.isAgg4
 z4 := Tryz.sizeOf4
 v4 := Tryz.zeroValue4
 t23 := Tryz.underlying126
 a23 := Tryz.isAgg126
 z23 := Tryz.sizeOf126
 v23 := Tryz.zeroValue126
 t26 := Tryz.underlying9
 a26 := Tryz.isAgg9
 z26 := Tryz.sizeOf9
 v26 := Tryz.zeroValue9
 t27 := Tryz.underlying172
 a27 := Tryz.isAgg172
 z27 := Tryz.sizeOf172
 v27 := Tryz.zeroValue172
 t28 := Tryz.underlying173
 a28 := Tryz.isAgg173
 z28 := Tryz.sizeOf173
 v28 := Tryz.zeroValue173
 t33 := Tryz.underlying108
 a33 := Tryz.isAgg108
 z33 := Tryz.sizeOf108
 v33 := Tryz.zeroValue108 }
def Tryz.sorted71_ren : Go.Shelf.Ren := ⟨fun | 6 => 80 | 8 => 162 | 9 => 163 | 11 => 259 | 13 => 122 | 12 => 260 | 23 => 233 | 24 => 234 | 14 => 324 | 15 => 325 | 16 => 326 | 17 => 327 | 18 => 328 | 19 => 329 | 20 => 330 | 21 => 331 | 22 => 332 | 25 => 366 | 26 => 308 | 27 => 309 | 28 => 367 | 29 => 368 | 30 => 369 | 31 => 389 | n => n, fun | 26 => 9 | 28 => 173 | 24 => 36 | 0 => 0 | 3 => 3 | 37 => 211 | 48 => 145 | 50 => 154 | 4 => 4 | 40 => 308 | 39 => 307 | 45 => 312 | 5 => 5 | 9 => 9 | 51 => 373 | 55 => 377 | 57 => 412 | 58 => 413 | 33 => 108 | n => n, fun | n => n⟩
theorem Tryz.sorted71 : Go.Proofs.SlLaysZ.n6 Tryz.prog Tryz.sorted71_ren := {
 mixed := by kernel_rfl
 f6 := ⟨Tryz.f80.name, by decide, Tryz.func80.trans (congrArg some (by kernel_rfl))⟩
 f8 := ⟨Tryz.f162.name, by decide, Tryz.func162.trans (congrArg some (by kernel_rfl))⟩
 f11 := ⟨Tryz.f259.name, by decide, Tryz.func259.trans (congrArg some (by kernel_rfl))⟩
 t0 := Tryz.underlying0
 a0 := Tryz.isAgg0
 z0 := Tryz.sizeOf0
 v0 := Tryz.zeroValue0
 t24 := Tryz.underlying36
 a24 := Tryz.isAgg36
 z24 := Tryz.sizeOf36
 v24 := Tryz.zeroValue36
 t26 := Tryz.underlying9
 a26 := Tryz.isAgg9
 z26 := Tryz.sizeOf9
 v26 := Tryz.zeroValue9
 t28 := Tryz.underlying173
 a28 := Tryz.isAgg173
 z28 := Tryz.sizeOf173
 v28 := Tryz.zeroValue173
 i26 := by kernel_rfl }
def Tryz.sort104_ren : Go.Shelf.Ren := ⟨fun | 6 => 163 | 8 => 122 | 9 => 260 | 19 => 233 | 20 => 234 | 21 => 324 | 22 => 325 | 23 => 326 | 24 => 327 | 25 => 328 | 26 => 329 | 27 => 330 | 28 => 331 | 29 => 332 | 36 => 366 | 31 => 308 | 32 => 309 | 37 => 367 | 38 => 368 | 39 => 369 | 41 => 389 | n => n, fun | 27 => 36 | 29 => 9 | 3 => 3 | 32 => 211 | 26 => 36 | 0 => 0 | 44 => 145 | 46 => 154 | 4 => 4 | 36 => 308 | 35 => 307 | 41 => 312 | 5 => 5 | 9 => 9 | 53 => 373 | 57 => 377 | 63 => 412 | 64 => 413 | n => n, fun | n => n⟩
theorem Tryz.sort104 : Go.Proofs.SlLaysM.n6 Tryz.prog Tryz.sort104_ren := {
 mixed := by kernel_rfl
 f6 := ⟨Tryz.f163.name, by decide, Tryz.func163.trans (congrArg some (by kernel_rfl))⟩
 f8 := Tryz.func122.trans (congrArg some (by kernel_rfl))
 f9 := ⟨Tryz.f260.name, by decide, Tryz.func260.trans (congrArg some (by kernel_rfl))⟩
 f19 := Tryz.func233.trans (congrArg some (by kernel_rfl))
 f20 := Tryz.func234.trans (congrArg some (by kernel_rfl))
 f21 := ⟨Tryz.f324.name, by decide, Tryz.func324.trans (congrArg some (by kernel_rfl))⟩
 f22 := ⟨Tryz.f325.name, by decide, Tryz.func325.trans (congrArg some (by kernel_rfl))⟩
 f23 := ⟨Tryz.f326.name, by decide, Tryz.func326.trans (congrArg some (by kernel_rfl))⟩
 f24 := ⟨Tryz.f327.name, by decide, Tryz.func327.trans (congrArg some (by kernel_rfl))⟩
 f25 := ⟨Tryz.f328.name, by decide, Tryz.func328.trans (congrArg some (by kernel_rfl))⟩
 f26 := ⟨Tryz.f329.name, by decide, Tryz.func329.trans (congrArg some (by kernel_rfl))⟩
 f27 := ⟨Tryz.f330.name, by decide, Tryz.func330.trans (congrArg some (by kernel_rfl))⟩
 f28 := ⟨Tryz.f331.name, by decide, Tryz.func331.trans (congrArg some (by kernel_rfl))⟩
 f29 := ⟨Tryz.f332.name, by decide, Tryz.func332.trans (congrArg some (by kernel_rfl))⟩
 f31 := Tryz.func308.trans (congrArg some (by kernel_rfl))
 f32 := Tryz.func309.trans (congrArg some (by kernel_rfl))
 f36 := ⟨Tryz.f366.name, by decide, Tryz.func366.trans (congrArg some (by kernel_rfl))⟩
 f37 := ⟨Tryz.f367.name, by decide, Tryz.func367.trans (congrArg some (by kernel_rfl))⟩
 f38 := ⟨Tryz.f368.name, by decide, Tryz.func368.trans (congrArg some (by kernel_rfl))⟩
 f39 := ⟨Tryz.f369.name, by decide, Tryz.func369.trans (congrArg some (by kernel_rfl))⟩
 f41 := ⟨Tryz.f389.name, by decide, Tryz.func389.trans (congrArg some (by kernel_rfl))⟩
 t0 := Tryz.underlying0
 a0 := Tryz.isAgg0
 z0 := Tryz.sizeOf0
 v0 := Tryz.zeroValue0
 t3 := Tryz.underlying3
 a3 := Tryz.isAgg3
 z3 := Tryz.sizeOf3
 v3 := Tryz.zeroValue3
 t4 := Tryz.underlying4
 a4 := Tryz.isAgg4
 z4 := Tryz.sizeOf4
 v4 := Tryz.zeroValue4
 t5 := Tryz.underlying5
 a5 := Tryz.isAgg5
 z5 := Tryz.sizeOf5
 v5 := Tryz.zeroValue5
 t9 := Tryz.underlying9
 a9 := Tryz.isAgg9
 z9 := Tryz.sizeOf9
 v9 := Tryz.zeroValue9
 t26 := Tryz.underlying36
 a26 := Tryz.isAgg36
 z26 := Tryz.sizeOf36
 v26 := Tryz.zeroValue36
 t27 := Tryz.underlying36
 a27 := Tryz.isAgg36
 z27 := Tryz.sizeOf36
 v27 := Tryz.zeroValue36
 t29 := Tryz.underlying9
 a29 := Tryz.isAgg9
 z29 := Tryz.sizeOf9
 v29 := Tryz.zeroValue9
 t32 := Tryz.underlying211
 a32 := Tryz.isAgg211
 z32 := Tryz.sizeOf211
 v32 := Tryz.zeroValue211
 t35 := Tryz.underlying307
 a35 := Tryz.isAgg307
 z35 := Tryz.sizeOf307
 v35 := Tryz.zeroValue307
 t36 := Tryz.underlying308
 a36 := Tryz.isAgg308
 z36 := Tryz.sizeOf308
 v36 := Tryz.zeroValue308
 t41 := Tryz.underlying312
 a41 := Tryz.isAgg312
 z41 := Tryz.sizeOf312
 v41 := Tryz.zeroValue312
 t44 := Tryz.underlying145
 a44 := Tryz.isAgg145
 z44 := Tryz.sizeOf145
 v44 := Tryz.zeroValue145
 t46 := Tryz.underlying154
 a46 := Tryz.isAgg154
 z46 := Tryz.sizeOf154
 v46 := Tryz.zeroValue154
 t53 := Tryz.underlying373
 a53 := Tryz.isAgg373
 z53 := Tryz.sizeOf373
 v53 := Tryz.zeroValue373
 t57 := Tryz.underlying377
 a57 := Tryz.isAgg377
 z57 := Tryz.sizeOf377
 v57 := Tryz.zeroValue377
 t63 := Tryz.underlying412
 a63 := Tryz.isAgg412
 z63 := Tryz.sizeOf412
 v63 := Tryz.zeroValue412
 t64 := Tryz.underlying413
 a64 := Tryz.isAgg413
 z64 := Tryz.sizeOf413
 v64 := Tryz.zeroValue413 }
theorem Tryz.sorts71 (m : Nat) : AnyZ.SortsIn Tryz.prog Tryz.sorted71_ren Fence.wide m :=
 ⟨fun blk off cap ss W hH hblk hsz => callsIn_wide.2 (AnyM.slices_Sort_string Tryz.sort104 blk off cap ss W hH hblk hsz),
  fun p cap W => callsIn_wide.2 (AnyM.slices_Sort_string_none Tryz.sort104 p cap W)⟩
set_option maxHeartbeats 1000000 in
theorem Tryz.sorted_over {H : Type} (Bm b nn : Nat) (D0 : DataW H) (R : Value → Option (DataW H × List MemPlace)) (w : World) (hBm : Bm < w.heap.size) (hm : w.cell? ⟨Bm, 0, none⟩ = some (.map (some b))) (hown : w.ownsMap Tryz.prog 9 R b nn D0)
 (hmax : Maps.size D0 ≤ maxLen) (hbytes : Maps.size D0 * 16 ≤ 140737488355328) :
 Calls Tryz.prog 80 #[.func (.func 164) #[] #[.pointer (some ⟨Bm, 0, none⟩)]] w fun e w' => ∃ (v : Value) (ss : List (List UInt8)), e = .returned v ∧ ss.Perm (strKeys D0) ∧
  w'.ownsRow w.heap.size 9 1 v ss.length ((ss.mergeSort (fun x y => decide (x ≤ y))).map encStr) ∧ (v = .slice none 0 0 ↔ ss = []) ∧ Below w.heap.size w w' := by
 refine (callsIn_wide (n := 5)).1 ?_
 have hseq : SeqGives Fence.wide 2 Tryz.prog 164 #[.pointer (some ⟨Bm, 0, none⟩)] encStr (fun ss => ss.Perm (strKeys D0)) (Maps.size D0) w :=
  AnyZ.keys_gives (ρ := Tryz.keys72_ren) { Tryz.keys72 with } Fence.wide _ trivial rfl (by omega) Bm b nn D0 w hBm hm hown
 exact AnyZ.sorted_in Tryz.sorted71 Fence.wide 5 trivial trivial trivial trivial rfl (by omega) (Tryz.sorts71 _) (enters_of Tryz.func163 (by kernel_rfl) rfl) 164 #[.pointer (some ⟨Bm, 0, none⟩)] trivial (enters_of Tryz.func164 (by kernel_rfl) rfl) _ _ hmax hbytes w hseq
end Go.Proofs
namespace Go.Eng
open Go
theorem Sim.grown {E : Env} {st : St} {w w' : World} (hs : Sim E st w) (hb : Go.RowKit.Below w.heap.size w w') (J : Imm) (hJ : ∀ b o x, J b o = some x → w.heap.size ≤ b ∧ cellIn w' b o = some x) :
 ∃ E', Sim E' st w' ∧ Ext E st w E' st w' ∧ (∀ b o x, w.heap.size ≤ b → J b o = some x → E'.I b o = some x) ∧ E'.nl = E.nl := by
 have hold : ∀ b o x, E.I b o = some x → b < w.heap.size := by
  intro b o x hx
  have := hs.imm b o x hx
  simp only [cellIn] at this
  rcases Nat.lt_or_ge b w.heap.size with h | h
  · exact h
  · simp [Array.getElem?_eq_none h] at this
 let E' : Env := { E with I := fun b o => match E.I b o with
  | some x => some x
  | none => J b o }
 have hle : E.Le E' := ⟨fun b o x hx => by simp [E', hx], Nat.le_refl _, Nat.le_refl _, fun _ _ => rfl⟩
 refine ⟨E', ⟨hs.ng, hs.nl, fun k hk => hs.dom k hk, fun b o x hx => ?_, fun k o hk => ?_, fun k k' h1 h2 h3 => hs.sep k k' h1 h2 h3, fun k hk j h1 h2 => ?_⟩,
  ⟨hle, hb.size, fun b o x hx => ?_, fun k hk _ => hk, fun k hk hn => absurd (hs.dom k hk) hn, fun b hlt _ => hb.block b hlt, hb.os, hb.output, hb.tape⟩, fun b o x hge hx => ?_, rfl⟩
 · cases hI : E.I b o with
   | some y =>
     simp only [E', hI] at hx
     have h1 := hs.imm b o y hI
     have h2 := hold b o y hI
     cases hx
     simp only [cellIn, hb.block b h2]
     exact h1
   | none =>
     simp only [E', hI] at hx
     exact (hJ b o x hx).2
 · exact (hs.obj k o hk).keep (Env.at_mono hle k) (hb.block _ (hs.lt ⟨o, hk⟩))
 · have h3 := hs.own k hk j h1 h2
   show (match E.I (E.μ k).blk j with | some x => some x | none => J (E.μ k).blk j) = none
   rw [h3]
   cases hj : J (E.μ k).blk j with
   | none => rfl
   | some x =>
     have := (hJ _ _ _ hj).1
     have := hs.lt hk
     omega
 · cases hI : E.I b o with
   | some y => simp only [E', hI] at hx; left; exact hx
   | none => simp only [E', hI] at hx; exact .inr (.inl (hJ b o x hx).1)
 · show (match E.I b o with | some x => some x | none => J b o) = some x
   cases hI : E.I b o with
   | some y => have := hold b o y hI; omega
   | none => exact hx
theorem rel_m {E : Env} {k : Key} {x : Value} (h : Rel E (.m k) x) : x = .map (some (E.μ k).blk) := by
 cases h with
 | deep hd => cases hd
 | m _ hk => rfl
end Go.Eng
namespace Go.Proofs.YtcmknonnlnobnaaGreat
open Go.Eng
theorem sorted_ok : ∀ (args : List V) (h : Heap) (r : V) (h' : Heap), sortedRun 164 args h = some (r, h') → ∀ K : V → Heap → Prop, K r h' → ACall Tryz.prog 80 args h K := by
 intro args h r h' hx K hK
 unfold sortedRun at hx
 split at hx
 case h_2 => cases hx
 rename_i f k off
 split at hx
 case h_2 => cases hx
 rename_i hfo
 simp only [Bool.and_eq_true] at hfo
 have hf := Nat.eq_of_beq_eq_true hfo.1
 have ho := Nat.eq_of_beq_eq_true hfo.2
 subst hf; subst ho
 split at hx
 case h_2 => cases hx
 rename_i c hc
 split at hx
 case h_2 => cases hx
 rename_i mk hm
 split at hx
 case h_2 => cases hx
 rename_i x v hmp
 split at hx
 case h_2 => cases hx
 rename_i hlen
 have hlen := of_decide_eq_true hlen
 cases hx
 refine ⟨by kernel_rfl, fun E w vs hnl hs hv => ?_⟩
 obtain ⟨x0, rfl, r0⟩ := args1 hv
 cases r0 with
 | deep hd => cases hd
 | fn _ _ _ fa ca h1 h2 h3 h4 =>
 have hfa : fa = #[] := by simpa using h1
 subst hfa
 obtain ⟨p, rfl, rp⟩ := args1 (E := E) (a0 := .p (.g k) 0) (vs := ca) ⟨h2, h4⟩
 obtain ⟨hk, rfl⟩ := rel_p rp
 have hob : (gst h).get (.g k) = some (.cs c) := hc
 have hbase := hs.csBase hob
 obtain ⟨y, hy, ry, fy⟩ := hs.cellOf hob hm
 have := rel_m ry
 subst this
 rw [hbase] at hy
 have hmo : (gst h).get (.g mk) = some (.mp none [(.s x, v)]) := hmp
 obtain ⟨ents, clock, q1, q2, q3, q4⟩ := hs.obj _ _ hmo
 have hsz : ents.size = 1 := q2
 obtain ⟨en, rfl⟩ : ∃ en, ents = #[en] := ⟨ents[0], by apply Array.ext; simp [hsz]; intro i i1 i2; simp at i2; subst i2; rfl⟩
 obtain ⟨e1, _, _⟩ := q3 0 (.s x, v) en rfl rfl
 have hkey : en.key = .string (str x) := by
  generalize hg : en.key = z at e1
  cases e1; rfl
 have hborn := q4.1 en (by simp)
 have hss : (str x).size = x.length := by simp [str, ByteArray.size]
 have hko : keyOf Tryz.prog 9 en.key = some (.string x) := by
  rw [hkey, Go.WideMaps.keyOf_string_mk Tryz.underlying9 (by rw [hss]; simpa [maxLen] using hlen)]
  simp [str]
 let R : Value → Option (DataW Unit × List MemPlace) := fun _ => some (.nil, [])
 have hrd : Go.WideElems.rd Tryz.prog 9 R en = some (.string x, .nil) := by simp [Go.WideElems.rd, hko, R]
 have hown : w.ownsMap Tryz.prog 9 R (E.μ (.g mk)).blk 1 (.map [(.string x, .nil)]) := by
  refine ⟨#[en], clock, q1, ⟨by simp [maxLen], ⟨by simpa using hborn, by simp, by simp⟩, fun z hz => ?_⟩, by simp, ?_⟩
  · simp at hz; subst hz; exact ⟨_, hrd⟩
  · simp [Go.WideElems.rg, hrd, DataW.insert]
 have hBm : (E.μ (.g k)).blk < w.heap.size := hs.lt ⟨_, hob⟩
 have hcall := Tryz.sorted_over (E.μ (.g k)).blk (E.μ (.g mk)).blk 1 _ R w hBm hy hown (by simp [Go.Maps.size, maxLen]) (by simp [Go.Maps.size])
 rw [hbase]
 refine hcall.mono ?_
 rintro e w' ⟨z, ss, rfl, hperm, hrow, hnil, hbel⟩
 have hsx : ss = [x] := by
  have : ss.Perm [x] := by simpa [Go.strKeys, Go.strOf] using hperm
  exact List.perm_singleton.1 this
 subst hsx
 obtain ⟨_, hrow⟩ := hrow
 rcases hrow with ⟨_, h0⟩ | ⟨gb, cap, cur, rfl, hge, hgb, hc1, _, hcs, hcur⟩
 · simp at h0
 have h0c : cur[0]? = some (.string (str x)) := by
  have : cur.toList.take 1 = [Value.string (str x)] := by simpa [str] using hcur
  have h1 : (cur.toList.take 1)[0]? = some (Value.string (str x)) := by rw [this]; rfl
  rw [List.getElem?_take] at h1
  simpa using h1
 obtain ⟨E', s1, s2, s3, s4⟩ := hs.grown hbel (fun b o => if b = gb ∧ o = 0 then some (.string (str x)) else none) (fun b o z hz => by
  split at hz
  · rename_i hbo
    obtain ⟨rfl, rfl⟩ := hbo
    cases hz
    exact ⟨hge, by simp [cellIn, hgb, h0c]⟩
  · cases hz)
 refine ⟨_, _, _, E', hK, rfl, s4.trans hnl, s1, s2, .deep ?_⟩
 refine RelD.sl 1 [[.s x]] gb 0 cap (fun _ => .string (str x)) (by simpa using hc1) (by simp) (fun j d hj => ?_) (fun j d hj => ?_)
 · have hj0 : j = 0 := by
    have := (List.getElem?_eq_some_iff.1 hj).1
    simp at this; omega
   subst hj0
   exact s3 gb 0 _ hge (by simp)
 · have hj0 : j = 0 := by
    have := (List.getElem?_eq_some_iff.1 hj).1
    simp at this; omega
   subst hj0
   simp at hj; subst hj; exact .s x
end Go.Proofs.YtcmknonnlnobnaaGreat
