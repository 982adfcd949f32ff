/-
slices.Sorted of a map's keys, however many there are.
-/
import Derived.Test.YtcckglahpbmakaaGreatSort1
import Derived.Test.YtcckglahpbmakaaGreatCaP
set_option linter.unusedVariables false
set_option linter.unusedSimpArgs false
namespace Go.Proofs
open Go.RowKit Go.Maps Go.Sort Go.Shelf
set_option maxHeartbeats 1000000 in
theorem Tryz.sorted_over_nil (Bm : Nat) (w : World) (hBm : Bm < w.heap.size) (hm : w.cell? ⟨Bm, 0, none⟩ = some (.map none)) :
    Calls Tryz.prog 57 #[.func (.func 104) #[] #[.pointer (some ⟨Bm, 0, none⟩)]] w fun e w' => e = .returned (.slice none 0 0) ∧ Below w.heap.size w w' := by
  refine (callsIn_wide (n := 5)).1 ?_
  have hseq : SeqGives Fence.wide 2 Tryz.prog 104 #[.pointer (some ⟨Bm, 0, none⟩)] encStr (fun ss => ss = []) 0 w :=
    AnyZ.keys_gives_nil (ρ := Tryz.keys72_ren) { Tryz.keys72 with } Fence.wide _ trivial rfl Bm w hBm hm
  refine (AnyZ.sorted_in Tryz.sorted71 Fence.wide 5 trivial trivial trivial trivial rfl (by omega) (Tryz.sorts71 _) (enters_of Tryz.func103 (by kernel_rfl) rfl) 104 #[.pointer (some ⟨Bm, 0, none⟩)] trivial (enters_of Tryz.func104 (by kernel_rfl) rfl) _ _ (Nat.zero_le _) (by omega) w hseq).mono ?_
  rintro e w' ⟨v, ss, rfl, rfl, _, hn, hb⟩
  exact ⟨by rw [hn.2 rfl], hb⟩
theorem DataW.insert_perm {H : Type} (x : Lit × DataW H) : ∀ l : List (Lit × DataW H), (DataW.insert x l).Perm (x :: l)
  | [] => .refl _
  | y :: r => by
    unfold DataW.insert
    split
    · exact .refl _
    · exact ((DataW.insert_perm x r).cons y).trans (.swap _ _ _)
theorem DataW.foldr_perm {H : Type} : ∀ l : List (Lit × DataW H), (l.foldr DataW.insert []).Perm l
  | [] => .refl _
  | x :: r => (DataW.insert_perm x _).trans ((DataW.foldr_perm r).cons x)
end Go.Proofs
namespace Go.Proofs.YtcckglahpbmakaaGreat
open Go.Eng

set_option maxHeartbeats 1000000 in
theorem sorted_keys (h : Heap) (k mk : Nat) (c : List V) (es : List (V × V)) (ks : List (List UInt8)) (hc : h.get k = some (.cs c)) (hm : c[0]? = some (.m (.g mk))) (hmp : h.get mk = some (.mp none es)) (hks : es.map Prod.fst = ks.map V.s) (hnd : ks.Nodup)
    (hlen : ∀ x ∈ ks, x.length ≤ 9223372036854775807) (hn : ks.length ≤ 1000000) (K : V → Heap → Prop) (hK : K (.sl none 1 ((sortS ks).map strR)) h) : ACall Tryz.prog 57 [.fn 104 [] [.p (.g k) 0]] h K := by
  refine ⟨by kernel_rfl, fun E w vs hnl hs hv => ?_⟩
  obtain ⟨x0, rfl, r0⟩ := args1 hv
  cases r0 with
  | deep hd => cases hd
  | fn _ _ _ fa ca h1 h2 h3 h4 =>
  have hfa : fa = #[] := by simpa using h1
  subst hfa
  obtain ⟨p, rfl, rp⟩ := args1 (E := E) (a0 := .p (.g k) 0) (vs := ca) ⟨h2, h4⟩
  obtain ⟨hk, rfl⟩ := rel_p rp
  have hob : (gst h).get (.g k) = some (.cs c) := hc
  have hbase := hs.csBase hob
  obtain ⟨y, hy, ry, fy⟩ := hs.cellOf hob hm
  have := rel_m ry
  subst this
  rw [hbase] at hy
  have hmo : (gst h).get (.g mk) = some (.mp none es) := hmp
  obtain ⟨ents, clock, q1, q2, q3, q4⟩ := hs.obj _ _ hmo
  have hesl : es.length = ks.length := by simpa using congrArg List.length hks
  have hsz : ents.size = ks.length := by rw [← hesl]; exact q2
  have hkey : ∀ (j : Nat) (x : List UInt8) (en : MapEntry), ks[j]? = some x → ents[j]? = some en → en.key = .string (str x) := by
    intro j x en hx he
    have h5 : (es.map Prod.fst)[j]? = some (V.s x) := by rw [hks, List.getElem?_map, hx]; rfl
    rw [List.getElem?_map] at h5
    obtain ⟨⟨qk, qv⟩, h6, h7⟩ := Option.map_eq_some_iff.1 h5
    obtain ⟨e1, _, _⟩ := q3 j (qk, qv) en h6 he
    dsimp only at h7 e1
    subst h7
    generalize hg : en.key = z at e1
    cases e1; rfl
  have hmapk : ents.toList.map (·.key) = ks.map fun x => Value.string (str x) := by
    apply List.ext_getElem?
    intro j
    rw [List.getElem?_map, List.getElem?_map]
    by_cases hj : j < ks.length
    · have hx := List.getElem?_eq_getElem hj
      have he : ents[j]? = some ents[j] := Array.getElem?_eq_getElem (by omega)
      have := hkey j _ _ hx he
      rw [hx, Array.getElem?_toList, he]
      simp [this]
    · rw [List.getElem?_eq_none (show ents.toList.length ≤ j by rw [Array.length_toList]; omega), List.getElem?_eq_none (show ks.length ≤ j by omega)]; rfl
  have hinj : ∀ x y : List UInt8, Value.string (str x) = Value.string (str y) → x = y := by
    intro x y e
    simpa [str] using e
  let R : Value → Option (DataW Unit × List MemPlace) := fun _ => some (.nil, [])
  have hko : ∀ x ∈ ks, keyOf Tryz.prog 9 (.string (str x)) = some (.string x) := by
    intro x hx
    have hss : (str x).size = x.length := by simp [str, ByteArray.size]
    rw [Go.WideMaps.keyOf_string_mk Tryz.underlying9 (by rw [hss]; simpa [maxLen] using hlen x hx)]
    simp [str]
  have hrd : ∀ en ∈ ents.toList, ∃ x ∈ ks, en.key = .string (str x) ∧ Go.WideElems.rd Tryz.prog 9 R en = some (.string x, .nil) := by
    intro en hen
    have h5 : en.key ∈ ents.toList.map (·.key) := List.mem_map_of_mem hen
    rw [hmapk] at h5
    obtain ⟨x, hx, he⟩ := List.mem_map.1 h5
    exact ⟨x, hx, he.symm, by simp [Go.WideElems.rd, ← he, hko x hx, R]⟩
  have hrg : ents.toList.map (Go.WideElems.rg Tryz.prog 9 R) = ks.map fun x => (Lit.string x, DataW.nil) := by
    apply List.ext_getElem?
    intro j
    rw [List.getElem?_map, List.getElem?_map]
    by_cases hj : j < ks.length
    · have hx := List.getElem?_eq_getElem hj
      have he : ents[j]? = some ents[j] := Array.getElem?_eq_getElem (by omega)
      have h5 := hkey j _ _ hx he
      rw [hx, Array.getElem?_toList, he]
      simp only [Option.map_some, Option.some.injEq]
      have h6 := hko _ (List.getElem_mem hj)
      simp [Go.WideElems.rg, Go.WideElems.rd, h5, h6, R]
    · rw [List.getElem?_eq_none (show ents.toList.length ≤ j by rw [Array.length_toList]; omega), List.getElem?_eq_none (show ks.length ≤ j by omega)]; rfl
  have hown : w.ownsMap Tryz.prog 9 R (E.μ (.g mk)).blk ks.length (.map ((ks.map fun x => (Lit.string x, (DataW.nil : DataW Unit))).foldr DataW.insert [])) := by
    refine ⟨ents, clock, q1, ⟨by simp only [maxLen]; omega, ⟨q4.1, q4.2, ?_⟩, fun z hz => ?_⟩, by omega, by rw [hrg]⟩
    · rw [hmapk]
      exact List.Pairwise.map _ (fun x y hne e => hne (hinj x y e)) hnd
    · obtain ⟨x, _, _, h6⟩ := hrd z hz
      exact ⟨_, h6⟩
  have hperm0 := DataW.foldr_perm (ks.map fun x => (Lit.string x, (DataW.nil : DataW Unit)))
  have hsz0 : Go.Maps.size (.map ((ks.map fun x => (Lit.string x, (DataW.nil : DataW Unit))).foldr DataW.insert [])) = ks.length := by
    have := hperm0.length_eq
    simpa [Go.Maps.size] using this
  have hBm : (E.μ (.g k)).blk < w.heap.size := hs.lt ⟨_, hob⟩
  have hcall := Tryz.sorted_over (E.μ (.g k)).blk (E.μ (.g mk)).blk ks.length _ R w hBm hy hown (by rw [hsz0]; simp only [maxLen]; omega) (by rw [hsz0]; omega)
  rw [hbase]
  refine hcall.mono ?_
  rintro e w' ⟨z, ss, rfl, hperm, hrow, hnil, hbel⟩
  have hsk : ss.Perm ks := by
    refine hperm.trans ?_
    have := hperm0.map fun p => Go.strOf p.1
    simpa [Go.strKeys, Go.strOf, Function.comp_def] using this
  have hsl : ss.length = ks.length := hsk.length_eq
  have hsort : ss.mergeSort (fun x y => decide (x ≤ y)) = sortS ks := Go.mergeSort_of_perm hsk
  rw [hsort] at hrow
  have hsl2 : (sortS ks).length = ks.length := List.length_mergeSort _
  obtain ⟨_, hrow⟩ := hrow
  rcases hrow with ⟨hz, h0⟩ | ⟨gb, cap, cur, rfl, hge, hgb, hc1, _, hcs, hcur⟩
  · have hk0 : ks = [] := List.length_eq_zero_iff.1 (by omega)
    subst hz
    obtain ⟨E', s1, s2, s3, s4⟩ := hs.grown hbel (fun b o => none) (fun b o z hz => by cases hz)
    refine ⟨_, _, _, E', hK, rfl, s4.trans hnl, s1, s2, .deep ?_⟩
    rw [List.length_eq_zero_iff.1 (by omega : (sortS ks).length = 0)]
    exact RelD.slNil 1
  have hcurj : ∀ (j : Nat) (x : List UInt8), (sortS ks)[j]? = some x → cur[j]? = some (.string (str x)) := by
    intro j x hx
    have hj : j < ss.length := by have := (List.getElem?_eq_some_iff.1 hx).1; omega
    have h5 : (cur.toList.take ss.length)[j]? = some (Value.string (str x)) := by
      have h6 : cur.toList.take ss.length = (sortS ks).map encStr := by simpa using hcur
      rw [h6, List.getElem?_map, hx]; rfl
    rw [List.getElem?_take, if_pos hj] at h5
    simpa using h5
  obtain ⟨E', s1, s2, s3, s4⟩ := hs.grown hbel (fun b o => if b = gb then ((sortS ks)[o]?).map (fun x => Value.string (str x)) else none) (fun b o z hz => by
    split at hz
    · rename_i hbo
      subst hbo
      obtain ⟨x, hx, rfl⟩ := Option.map_eq_some_iff.1 hz
      exact ⟨hge, by simp [cellIn, hgb, hcurj o x hx]⟩
    · cases hz)
  refine ⟨_, _, _, E', hK, rfl, s4.trans hnl, s1, s2, .deep ?_⟩
  rw [show ss.length = ((sortS ks).map strR).length by simp; omega]
  refine RelD.sl 1 ((sortS ks).map strR) gb 0 cap (fun j => .string (str ((sortS ks)[j]?.getD []))) (by simp; omega) (fun e he => ?_) (fun j d hj => ?_) (fun j d hj => ?_)
  · obtain ⟨x, _, rfl⟩ := List.mem_map.1 he; rfl
  · rw [strR_flat, List.getElem?_map] at hj
    obtain ⟨x, hx, rfl⟩ := Option.map_eq_some_iff.1 hj
    refine s3 gb _ _ hge ?_
    show (if gb = gb then ((sortS ks)[0 + j]?).map (fun x => Value.string (str x)) else none) = _
    rw [if_pos rfl, Nat.zero_add, hx]
    rfl
  · rw [strR_flat, List.getElem?_map] at hj
    obtain ⟨x, hx, rfl⟩ := Option.map_eq_some_iff.1 hj
    rw [hx]
    exact .s x
theorem sorted_nil (h : Heap) (k : Nat) (c : List V) (hc : h.get k = some (.cs c)) (hm : c[0]? = some .nilm) (K : V → Heap → Prop) (hK : K .nils h) : ACall Tryz.prog 57 [.fn 104 [] [.p (.g k) 0]] h K := by
  refine ⟨by kernel_rfl, fun E w vs hnl hs hv => ?_⟩
  obtain ⟨x0, rfl, r0⟩ := args1 hv
  cases r0 with
  | deep hd => cases hd
  | fn _ _ _ fa ca h1 h2 h3 h4 =>
  have hfa : fa = #[] := by simpa using h1
  subst hfa
  obtain ⟨p, rfl, rp⟩ := args1 (E := E) (a0 := .p (.g k) 0) (vs := ca) ⟨h2, h4⟩
  obtain ⟨hk, rfl⟩ := rel_p rp
  have hob : (gst h).get (.g k) = some (.cs c) := hc
  have hbase := hs.csBase hob
  obtain ⟨y, hy, ry, fy⟩ := hs.cellOf hob hm
  have hyn : y = .map none := by
    cases ry with
    | deep hd => cases hd
    | nilm => rfl
  subst hyn
  rw [hbase] at hy
  have hBm : (E.μ (.g k)).blk < w.heap.size := hs.lt ⟨_, hob⟩
  have hcall := Tryz.sorted_over_nil (E.μ (.g k)).blk w hBm hy
  rw [hbase]
  refine hcall.mono ?_
  rintro e w' ⟨rfl, hbel⟩
  obtain ⟨E', s1, s2, s3, s4⟩ := hs.grown hbel (fun b o => none) (fun b o z hz => by cases hz)
  exact ⟨_, _, _, E', hK, rfl, s4.trans hnl, s1, s2, .deep .nils⟩
end Go.Proofs.YtcckglahpbmakaaGreat
