/-
slices.SortFunc of names in a row that is written to: by the shelf's contract, laid in plain words by the kit's tool.
-/
import Derived.Shelf.SlGeneric
import Derived.Shelf.SlSortCmp.NoneTotal
import Derived.Ground.SlsfProg
import Derived.Test.YtcmknonnlnobnaaGreatEvXa
import Derived.Test.YtcmknonnlnobnaaGreatCmp1
import Derived.Test.YtcmknonnlnobnaaGreatEvQ
set_option linter.unusedVariables false
set_option linter.unusedSimpArgs false
namespace Go.Proofs
open Go.Shelf
def Tryz.sortS_ren : Go.Shelf.Ren := ⟨fun | 6 => 52 | 15 => 122 | 14 => 121 | 28 => 233 | 29 => 234 | 20 => 225 | 21 => 226 | 22 => 227 | 23 => 228 | 24 => 229 | 25 => 230 | 26 => 231 | 27 => 232 | 46 => 307 | 47 => 308 | 48 => 309 | 49 => 310 | 50 => 311 | 57 => 360 | n => n, fun | 22 => 36 | 24 => 9 | 25 => 103 | 3 => 3 | 39 => 211 | 0 => 0 | 53 => 145 | 55 => 154 | 4 => 4 | 46 => 308 | 45 => 307 | 50 => 312 | 5 => 5 | 9 => 9 | 66 => 373 | 70 => 377 | 76 => 412 | 77 => 413 | n => n, fun | n => n⟩
theorem Tryz.sortS : Go.Proofs.SlLaysF.n6 Tryz.prog Tryz.sortS_ren := {
 mixed := by kernel_rfl
 f6 := ⟨Tryz.f52.name, by decide, Tryz.func52.trans (congrArg some (by kernel_rfl))⟩
 f14 := ⟨Tryz.f121.name, by decide, Tryz.func121.trans (congrArg some (by kernel_rfl))⟩
 f15 := Tryz.func122.trans (congrArg some (by kernel_rfl))
 f20 := ⟨Tryz.f225.name, by decide, Tryz.func225.trans (congrArg some (by kernel_rfl))⟩
 f21 := ⟨Tryz.f226.name, by decide, Tryz.func226.trans (congrArg some (by kernel_rfl))⟩
 f22 := ⟨Tryz.f227.name, by decide, Tryz.func227.trans (congrArg some (by kernel_rfl))⟩
 f23 := ⟨Tryz.f228.name, by decide, Tryz.func228.trans (congrArg some (by kernel_rfl))⟩
 f24 := ⟨Tryz.f229.name, by decide, Tryz.func229.trans (congrArg some (by kernel_rfl))⟩
 f25 := ⟨Tryz.f230.name, by decide, Tryz.func230.trans (congrArg some (by kernel_rfl))⟩
 f26 := ⟨Tryz.f231.name, by decide, Tryz.func231.trans (congrArg some (by kernel_rfl))⟩
 f27 := ⟨Tryz.f232.name, by decide, Tryz.func232.trans (congrArg some (by kernel_rfl))⟩
 f28 := Tryz.func233.trans (congrArg some (by kernel_rfl))
 f29 := Tryz.func234.trans (congrArg some (by kernel_rfl))
 f46 := ⟨Tryz.f307.name, by decide, Tryz.func307.trans (congrArg some (by kernel_rfl))⟩
 f47 := Tryz.func308.trans (congrArg some (by kernel_rfl))
 f48 := Tryz.func309.trans (congrArg some (by kernel_rfl))
 f49 := ⟨Tryz.f310.name, by decide, Tryz.func310.trans (congrArg some (by kernel_rfl))⟩
 f50 := ⟨Tryz.f311.name, by decide, Tryz.func311.trans (congrArg some (by kernel_rfl))⟩
 f57 := ⟨Tryz.f360.name, by decide, Tryz.func360.trans (congrArg some (by kernel_rfl))⟩
 t0 := Tryz.underlying0
 a0 := Tryz.isAgg0
 z0 := Tryz.sizeOf0
 v0 := Tryz.zeroValue0
 t3 := Tryz.underlying3
 a3 := Tryz.isAgg3
 z3 := Tryz.sizeOf3
 v3 := Tryz.zeroValue3
 t4 := Tryz.underlying4
 a4 := Tryz.isAgg4
 z4 := Tryz.sizeOf4
 v4 := Tryz.zeroValue4
 t5 := Tryz.underlying5
 a5 := Tryz.isAgg5
 z5 := Tryz.sizeOf5
 v5 := Tryz.zeroValue5
 t9 := Tryz.underlying9
 a9 := Tryz.isAgg9
 z9 := Tryz.sizeOf9
 v9 := Tryz.zeroValue9
 t22 := Tryz.underlying36
 a22 := Tryz.isAgg36
 z22 := Tryz.sizeOf36
 v22 := Tryz.zeroValue36
 a24 := Tryz.isAgg9
 z24 := Tryz.sizeOf9
 t25 := Tryz.underlying103
 a25 := Tryz.isAgg103
 z25 := Tryz.sizeOf103
 v25 := Tryz.zeroValue103
 t39 := Tryz.underlying211
 a39 := Tryz.isAgg211
 z39 := Tryz.sizeOf211
 v39 := Tryz.zeroValue211
 t45 := Tryz.underlying307
 a45 := Tryz.isAgg307
 z45 := Tryz.sizeOf307
 v45 := Tryz.zeroValue307
 t46 := Tryz.underlying308
 a46 := Tryz.isAgg308
 z46 := Tryz.sizeOf308
 v46 := Tryz.zeroValue308
 t50 := Tryz.underlying312
 a50 := Tryz.isAgg312
 z50 := Tryz.sizeOf312
 v50 := Tryz.zeroValue312
 t53 := Tryz.underlying145
 a53 := Tryz.isAgg145
 z53 := Tryz.sizeOf145
 v53 := Tryz.zeroValue145
 t55 := Tryz.underlying154
 a55 := Tryz.isAgg154
 z55 := Tryz.sizeOf154
 v55 := Tryz.zeroValue154
 t66 := Tryz.underlying373
 a66 := Tryz.isAgg373
 z66 := Tryz.sizeOf373
 v66 := Tryz.zeroValue373
 t70 := Tryz.underlying377
 a70 := Tryz.isAgg377
 z70 := Tryz.sizeOf377
 v70 := Tryz.zeroValue377
 t76 := Tryz.underlying412
 a76 := Tryz.isAgg412
 z76 := Tryz.sizeOf412
 v76 := Tryz.zeroValue412
 t77 := Tryz.underlying413
 a77 := Tryz.isAgg413
 z77 := Tryz.sizeOf413
 v77 := Tryz.zeroValue413 }
end Go.Proofs
namespace Go.Proofs.YtcmknonnlnobnaaGreat
open Go.Eng Go.Sort Go.Lib Go.Shelf Go.RowKit
theorem strCompare (a b : ByteArray) (w : World) : Calls Tryz.prog 47 #[.string a, .string b] w fun e w' => e = .returned (.int .i64 (Lib.compareBytes a.data.toList b.data.toList)) ∧ ∃ q, w' = w.drewN q := by
 have hcon := compareString a b w
 generalize Lib.compareBytes a.data.toList b.data.toList = r at hcon ⊢
 go_enter Tryz.func47, Tryz.ntmps47
 go_wp2_with (go_at_call 117; refine hcon.mono ?_; rintro e w' ⟨rfl, rfl⟩)
 go_ret
 exact ⟨rfl, 0, rfl⟩
def encS (s : Str) : Value := .string (str s)
theorem swoS : SWO (ltOf cmpB) where
 irrefl x := by unfold ltOf; rw [cmpB_lt]; exact less_irr x
 trans x y z h1 h2 := by unfold ltOf at *; rw [cmpB_lt] at *; exact less_trans h1 h2
 ntrans x y z h1 h2 := by
  unfold ltOf at *
  rw [cmpB_lt] at *
  cases h : Op.bytesLess x z with
  | false => rfl
  | true =>
    by_cases e : x = y
    · rw [e] at h; rw [h] at h2; exact h2
    · have := less_trans (less_tri h1 e) h
      rw [lessS, h2] at this
      exact this.symm
theorem sortOk : SortFOk Tryz.prog 52 47 := by
 intro l r h K hl hr hK
 refine ⟨by kernel_rfl, fun E w vs hnl hs hv => ?_⟩
 obtain ⟨x0, h0, r0⟩ := hv.get (j := 0) rfl
 obtain ⟨x1, h1, r1⟩ := hv.get (j := 1) rfl
 obtain rfl : vs = #[x0, x1] := by
  have hsz := hv.1
  refine Array.ext (by simpa using hsz) fun i i1 i2 => ?_
  have : i = 0 ∨ i = 1 := by simp at i2; omega
  rcases this with rfl | rfl
  · simpa using (Array.getElem?_eq_some_iff.1 h0).2
  · simpa using (Array.getElem?_eq_some_iff.1 h1).2
 obtain rfl : x1 = .func (.func 47) #[] #[] := by
  clear h0 h1
  cases r1 with
  | deep hd => cases hd
  | fn _ _ _ a c ha hc _ _ =>
    have e1 : a = #[] := Array.eq_empty_of_size_eq_zero ha
    have e2 : c = #[] := Array.eq_empty_of_size_eq_zero hc
    rw [e1, e2]
 cases l with
 | nil =>
   cases r0 with
   | deep hd => cases hd
   | ms _ _ _ _ a cap hk hc hf hb ha =>
     refine (AnyF.slices_SortFunc_none (P := Tryz.prog) (ρ := Tryz.sortS_ren) { Tryz.sortS with } a cap _ w).mono ?_
     rintro e w' ⟨rfl, rfl⟩
     have hsr : sortE [] = [] := by simp [sortE]
     rw [hsr, heap_set_same hr] at hK
     exact ⟨_, _, _, E, hK, rfl, hnl, hs, .refl _ _ _, .tup _ _ rfl fun j v x hj => by simp at hj⟩
 | cons y0 yr =>
   obtain ⟨l, hle⟩ : ∃ l, l = y0 :: yr := ⟨_, rfl⟩
   have hpos : 0 < l.length := by rw [hle]; simp
   rw [← hle] at hl hr hK r0
   have hlr : (y0 :: yr).length = l.length := by rw [hle]
   rw [hlr] at *
   clear hle hlr hv h0 h1 r1
   obtain ⟨cap, rfl, hka, hcap, hfin⟩ := rel_msS r0 hpos
   have hob : (gst h).get (.g r) = some (.arr 1 (l.map strR)) := hr
   obtain ⟨ca, ta, fa, xs, a1, a2, a3, a4, a5, a6, a7, a8, a9⟩ := hs.rowCells hob
   have hlm : (l.map strR).length = l.length := List.length_map _
   rw [hlm] at a3 a6
   have hx : ∀ (j : Nat) (s : Str), l[j]? = some s → ca[(E.μ (.g r)).base + j]? = some (encS s) := fun j s hj => by
    obtain ⟨x, e1, e2, _⟩ := a8 j (.s s) (by rw [flat_str, hj]; rfl)
    rw [a7 j x e1, rel_string e2]
    rfl
   have hblk : (E.μ (.g r)).blk < w.heap.size := hs.lt ⟨_, hob⟩
   have hH : Holds encS w (E.μ (.g r)).blk (E.μ (.g r)).base l.toArray := fun j hj => by
    have hj' : j < l.length := by simpa using hj
    have he := List.getElem?_eq_getElem hj'
    refine ⟨?_, ?_⟩
    · rw [cell?_eq]
      simp only [cellIn, a1]
      rw [hx j _ he]
      simp [hj']
    · rcases a2 with h2 | ⟨h2, _⟩
      · obtain ⟨lo, hi⟩ := fa
        simp only at h2
        subst h2
        simp [World.frozen?, a1]
      · simp only [World.frozen?, a1]
        have : ¬ fa.1 ≤ (E.μ (.g r)).base + j := by omega
        simp [this]
   have eg : ∀ args w, (callFunc 47 args).run Tryz.prog w = .ok (.enter 47 args) w := enters_of Tryz.func47 (by kernel_rfl) rfl
   have hcmp : CmpLays1 Tryz.prog 47 #[] encS cmpB (E.μ (.g r)).blk (E.μ (.g r)).base l.toArray.size w := fun m os dk _ x y =>
    (strCompare (str x) (str y) _).mono fun e w' ⟨he, q, hw⟩ => ⟨by rw [he, cmpB_eq]; simp [str], q, #[], by rw [hw, grow_empty]⟩
   have hcon := Any.slices_SortFunc_total Tryz.sortS encS (fun _ => rfl) cmpB swoS 47 #[] (E.μ (.g r)).blk (E.μ (.g r)).base cap l.toArray w eg hcmp hH hblk (by simp; omega) (fun x y h1 h2 => by
    unfold ltOf at h1 h2
    rw [cmpB_lt] at h1 h2
    cases Decidable.em (x = y) with
    | inl e => exact e
    | inr e =>
      have := less_tri h1 e
      rw [h2] at this
      cases this)
   have hsz : l.toArray.size = l.length := by simp
   rw [hsz] at hcon
   simp only [Nat.zero_mul, Nat.add_zero]
   refine Calls.mono hcon ?_
   rintro e w' ⟨rfl, n, os, rfl⟩
   obtain ⟨ds, hds⟩ : ∃ ds, ds = sortE l := ⟨_, rfl⟩
   have hdsl : ds.length = l.length := by rw [hds]; exact (List.mergeSort_perm l _).length_eq
   have hdse : (l.toArray.toList.mergeSort fun x y => !(ltOf cmpB) y x) = ds := by rw [hds]; rfl
   rw [hdse]
   rw [← hds] at hK
   have hw1 : (putRow encS (Sort.ahead w n) (E.μ (.g r)).blk (E.μ (.g r)).base ds.toArray).heap[(E.μ (.g r)).blk]? = some (.cells (putCells encS (E.μ (.g r)).base ds.toArray ca) ta fa) := by
    simp only [putRow, mapBlock, Array.getElem?_modify, if_true]
    show Option.map _ w.heap[(E.μ (.g r)).blk]? = _
    rw [a1]
    rfl
   have hpsz : (putCells encS (E.μ (.g r)).base ds.toArray ca).size = ca.size := by simp [putCells]
   obtain ⟨s1, s2⟩ := hs.set (w' := putRow encS (Sort.ahead w n) (E.μ (.g r)).blk (E.μ (.g r)).base ds.toArray) hob (.arr 1 (ds.map strR))
    (by simp [putRow, mapBlock])
    (fun b hb => by
      simp only [putRow, mapBlock, Array.getElem?_modify]
      rw [if_neg (Ne.symm hb)]
      rfl) rfl rfl rfl
    (fun j x hx => by
      have hI := hs.imm _ _ _ hx
      simp only [cellIn, a1] at hI
      simp only [cellIn, hw1]
      have hout : ¬ ((E.μ (.g r)).base ≤ j ∧ j < (E.μ (.g r)).base + ds.toArray.size) := fun hc => by
       have hc2 : ds.toArray.size = l.length := by simp [hdsl]
       have := hs.own (.g r) ⟨_, hob⟩ j hc.1 (by omega)
       rw [this] at hx
       cases hx
      simp only [putCells, Array.getElem?_mapIdx, hI, Option.map_some, if_neg hout])
    ⟨fun e he => by obtain ⟨q, _, rfl⟩ := List.mem_map.1 he; rfl, _, ta, fa, hw1, by rw [hpsz]; exact a2, by
     have := flat_len (sz := 1) (es := ds.map strR) fun e he => by obtain ⟨q, _, rfl⟩ := List.mem_map.1 he; rfl
     rw [List.length_map] at this
     omega, by rw [hpsz]; exact a4, fun j v hj => by
     rw [flat_str] at hj
     cases hd : ds[j]? with
     | none => rw [hd] at hj; cases hj
     | some s =>
       rw [hd] at hj
       cases hj
       have hjl : j < ds.length := (List.getElem?_eq_some_iff.1 hd).1
       have hin : (E.μ (.g r)).base ≤ (E.μ (.g r)).base + j ∧ (E.μ (.g r)).base + j < (E.μ (.g r)).base + ds.toArray.size := by simp; omega
       have hlt : (E.μ (.g r)).base + j < ca.size := by omega
       refine ⟨encS s, ?_, .deep (.s s), rfl⟩
       simp only [putCells, Array.getElem?_mapIdx, Array.getElem?_eq_getElem hlt, Option.map_some, if_pos hin, Nat.add_sub_cancel_left]
       have : ds.toArray[j]! = s := by
           rw [List.getElem?_eq_getElem hjl] at hd
           cases hd
           simp [hjl]
       rw [this]⟩
   obtain ⟨g1, g2⟩ := s1.spares (w' := sortWorld encS w (E.μ (.g r)).blk (E.μ (.g r)).base n ds.toArray os) (os := os) rfl rfl rfl rfl
   exact ⟨_, _, h.set r (.arr 1 (ds.map strR)), E, hK, rfl, hnl, g1, s2.trans g2, .tup _ _ rfl fun j v x hj => by simp at hj⟩
end Go.Proofs.YtcmknonnlnobnaaGreat
