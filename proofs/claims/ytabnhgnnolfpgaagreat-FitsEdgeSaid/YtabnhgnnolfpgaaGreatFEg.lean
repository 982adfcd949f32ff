/-
FitsEdge, as the abstract run has it.
-/
import Derived.Test.YtabnhgnnolfpgaaGreatFE2
import Derived.Test.YtabnhgnnolfpgaaGreatFE3
import Derived.Test.YtabnhgnnolfpgaaGreatFit14
import Derived.Test.YtabnhgnnolfpgaaGreatArgX
set_option linter.unusedVariables false
set_option linter.unusedSimpArgs false
namespace Go.Eng
open Go
def N8 : List (UInt8 × Int) := [(97, 1), (98, 2), (99, 3), (100, 4), (101, 5), (102, 6), (103, 7), (104, 8)]
def psOf (rs : List ResD) : List PodD := List.zipWith (fun a r => qN a.1 a.2 r) N8 rs
theorem zw_mem : ∀ (l : List (UInt8 × Int)) (rs : List ResD) (p : PodD), p ∈ List.zipWith (fun a r => qN a.1 a.2 r) l rs → ∃ c u r, r ∈ rs ∧ p = qN c u r
  | [], _, _, h => by simp at h
  | _ :: _, [], _, h => by simp at h
  | a :: l, r :: rs, p, h => by
    rw [List.zipWith_cons_cons] at h
    cases h with
    | head => exact ⟨a.1, a.2, r, .head _, rfl⟩
    | tail _ h =>
      obtain ⟨c, u, x, hx, hp⟩ := zw_mem l rs p h
      exact ⟨c, u, x, .tail _ hx, hp⟩
theorem psOf_mem {rs : List ResD} {p : PodD} (h : p ∈ psOf rs) : ∃ c u r, r ∈ rs ∧ p = qN c u r := zw_mem _ _ _ h
theorem psOf_len (rs : List ResD) : (psOf rs).length ≤ 8 := by
  rw [psOf, List.length_zipWith]
  exact Nat.min_le_left _ _
theorem psOf_req : ∀ rs : List ResD, rs.length ≤ 8 → (psOf rs).map (·.req) = rs
  | [], _ => rfl
  | [r0], _ => rfl
  | [r0, r1], _ => rfl
  | [r0, r1, r2], _ => rfl
  | [r0, r1, r2, r3], _ => rfl
  | [r0, r1, r2, r3, r4], _ => rfl
  | [r0, r1, r2, r3, r4, r5], _ => rfl
  | [r0, r1, r2, r3, r4, r5, r6], _ => rfl
  | [r0, r1, r2, r3, r4, r5, r6, r7], _ => rfl
  | _ :: _ :: _ :: _ :: _ :: _ :: _ :: _ :: _ :: _, h => by simp at h
theorem sum_snoc {x : ResD} : ∀ {l : List ResD} {z s : ResD}, sumD z l = some s → sumD z (l ++ [x]) = addD s x
  | [], z, s, h => by
    cases h
    show sumD z [x] = addD z x
    rw [sumD]
    cases addD z x <;> rfl
  | r :: q, z, s, h => by
    rw [List.cons_append]
    rw [sumD] at h ⊢
    cases ha : addD z r with
    | none => rw [ha] at h; cases h
    | some t => rw [ha] at h; exact sum_snoc (l := q) h
theorem SWrap.eq {n m : Int} {k : Int → Prop} (h : n = m) (h1 : -9223372036854775808 ≤ m) (h2 : m ≤ 9223372036854775807) (hk : k m) : SWrap .i64 n k := by
  subst h
  exact SWrap.w64 h1 h2 hk
theorem bxx2 (x : Bool) : (x == x && true) = true := by cases x <;> rfl
def edgePod (u : Int) (r : ResD) : PodD := ⟨[122, 122], u, 0, r, [], [], [], [], [], [], 0, [], [], 0⟩
def edgeS (C : ResD) (rs : List ResD) : StD := ⟨[⟨[110], C, [], []⟩], psOf rs⟩
theorem len0' {α : Type} : LenOk ([] : List α) := Nat.zero_le _
theorem terms0' : TermsOk [] := ⟨len0', fun _ h => by cases h⟩
theorem edgeS_ok {C : ResD} {rs : List ResD} (hr : ∀ r ∈ rs, r.ok) : (edgeS C rs).ok := by
  have hl := psOf_len rs
  refine ⟨(show (1 : Nat) ≤ 9223372036854775807 by decide), (show (psOf rs).length ≤ _ by omega), fun n hn => ?_, fun p hp => ?_, (show (psOf rs).length * 248 ≤ _ by omega)⟩
  · have hn : n ∈ [(⟨[110], C, [], []⟩ : NodeD)] := hn
    rw [List.mem_singleton] at hn
    subst hn
    exact ⟨len0', len0'⟩
  · obtain ⟨c, u, r, hm, rfl⟩ := psOf_mem hp
    exact ⟨⟨len0', len0', len0', terms0', terms0', terms0'⟩, hr r hm⟩
theorem edge_used {C : ResD} {rs : List ResD} (hl : rs.length ≤ 8) (hs : sumD ⟨0, 0, 0⟩ rs = some C) : usedD (edgeS C rs) [110] = some C := by
  have : onD (edgeS C rs) [110] = psOf rs := by
    refine List.filter_eq_self.2 fun p hp => ?_
    obtain ⟨c, u, r, _, rfl⟩ := psOf_mem hp
    rfl
  rw [usedD, this, psOf_req rs hl, hs]
def Within (C : ResD) (m : Int) : Prop := (0 ≤ C.a ∧ C.a ≤ m) ∧ (0 ≤ C.b ∧ C.b ≤ m) ∧ 0 ≤ C.c ∧ C.c ≤ m
theorem edge_room {C : ResD} {rs : List ResD} {u : Int} {r cap : ResD} (hl : rs.length ≤ 8) (hs : sumD ⟨0, 0, 0⟩ rs = some C) (hC : Within C 8000000) (hr : Within r 1) :
    roomD (edgeS C rs) (edgePod u r) ⟨[110], cap, [], []⟩ = fitsD ⟨C.a + r.a, C.b + r.b, C.c + r.c⟩ cap := by
  unfold Within at hC hr
  have ha : addD C (edgePod u r).req = some ⟨C.a + r.a, C.b + r.b, C.c + r.c⟩ := addD_t (x := C) (y := r) (by omega)
  have hu : usedD (edgeS C rs) (NodeD.name ⟨[110], cap, [], []⟩) = some C := edge_used hl hs
  simp only [roomD, hu, ha]
section
variable {P : Program} (hG : FnsOk P AF.fns.get)
include hG
theorem edge_on (ns : List NodeD) : ∀ rs : List ResD, rs.length ≤ 8 → Pure P 48 [stV ⟨ns, psOf rs⟩, .s [110]] (· = .sl none 16 ((psOf rs).map podR))
  | [], _ => on_0 hG ns 
  | [r0], _ => on_1 hG ns r0
  | [r0, r1], _ => on_2 hG ns r0 r1
  | [r0, r1, r2], _ => on_3 hG ns r0 r1 r2
  | [r0, r1, r2, r3], _ => on_4 hG ns r0 r1 r2 r3
  | [r0, r1, r2, r3, r4], _ => on_5 hG ns r0 r1 r2 r3 r4
  | [r0, r1, r2, r3, r4, r5], _ => on_6 hG ns r0 r1 r2 r3 r4 r5
  | [r0, r1, r2, r3, r4, r5, r6], _ => on_7 hG ns r0 r1 r2 r3 r4 r5 r6
  | [r0, r1, r2, r3, r4, r5, r6, r7], _ => on_8 hG ns r0 r1 r2 r3 r4 r5 r6 r7
  | _ :: _ :: _ :: _ :: _ :: _ :: _ :: _ :: _ :: _, h => by simp at h
set_option maxHeartbeats 16000000 in
set_option maxRecDepth 20000 in
theorem fitsEdge_ok (hb : ACall P 10 [] noG (fun r _ => r = .b true)) (cap : ResD) (parts : List ResD) (at' : Int) (hp : LenOk parts) : ACall P 3 [.agg (resR cap), .sl none 3 (parts.map resR), .i .i64 at'] noG (fun r _ => r = .b true) := by
  have hpm : (parts.map resR).length = parts.length := List.length_map _
  unfold LenOk at hp
  refine fn_sz (hG _ AF.f3 rfl) rfl ?_
  ((conv => whnf); repeat ((first | refine SIf.ff rfl ?_ | refine SIf.tt rfl ?_ | refine SOpt.of rfl ?_ | refine SChk.mk rfl ?_ | refine SSame.mk rfl ?_ | refine SEx.of rfl ?_ | refine SOpt.no rfl ?_ | refine SWrap.w64 (by omega) (by omega) ?_ | refine SIf.dt (by omega) ?_ | refine SIf.df (by omega) ?_ | refine SIf.nt (by omega) ?_ | refine SIf.nf (by omega) ?_ | refine SChk.d (by omega) ?_ | refine SChk.ix (by omega) (by omega) ?_ | refine SChk.d3 (by omega) (by omega) (by omega) ?_) <;> (conv => whnf)))
  refine ⟨hb.frame rfl fun v h' hv => ?_⟩
  subst hv
  refine ⟨rfl, ?_⟩
  ((conv => whnf); repeat ((first | refine SIf.ff rfl ?_ | refine SIf.tt rfl ?_ | refine SOpt.of rfl ?_ | refine SChk.mk rfl ?_ | refine SSame.mk rfl ?_ | refine SEx.of rfl ?_ | refine SOpt.no rfl ?_ | refine SWrap.w64 (by omega) (by omega) ?_ | refine SIf.dt (by omega) ?_ | refine SIf.df (by omega) ?_ | refine SIf.nt (by omega) ?_ | refine SIf.nf (by omega) ?_ | refine SChk.d (by omega) ?_ | refine SChk.ix (by omega) (by omega) ?_ | refine SChk.d3 (by omega) (by omega) (by omega) ?_) <;> (conv => whnf)))
  refine SLoopZ.by (fun q fr st => ∃ (i : Nat) (rs : List ResD) (C : ResD), i ≤ 8 ∧ q = 8 - i ∧ rs.length = i ∧ sumD ⟨0, 0, 0⟩ rs = some C ∧ Within C (i * 1000000) ∧ (∀ r ∈ rs, r.ok) ∧
      fr = [(10, .i .i64 i), (9, .p (.l 2) 0), (8, .p (.l 1) 0), (3, .p (.l 0) 0), (2, .i .i64 at'), (1, .sl none 3 (parts.map resR))] ∧
      st = ⟨noG, ⟨3, [(2, .cs [.sl none 6 (List.map nodeR []), .sl none 16 ((psOf rs).map podR)]), (1, .cs (nodeR ⟨[110], C, [], []⟩)), (0, .cs (resR cap))]⟩⟩)
    8 ⟨_, _, ?_, 0, [], ⟨0, 0, 0⟩, Nat.zero_le _, rfl, rfl, rfl, by unfold Within; decide, (fun _ h => by cases h), rfl, rfl⟩ ?_
  · exact telL [0, 1, 2] rfl (by decide) (by ((repeat (first | exact trivial | refine ⟨⟨Nat.le_of_ble_eq_true rfl, rfl, _, rfl, by first | exact trivial | exact ⟨rfl, trivial⟩ | exact ceL_flat rfl | exact ⟨rfl, ceLL_map (fun _ => rfl) _⟩ | exact ⟨rfl, ceL_flat rfl, trivial⟩ | exact ⟨rfl, ceM_seen _⟩ | exact ⟨rfl, ceLL_acc (by assumption)⟩ | exact (by ((repeat (first | exact trivial | refine ⟨by first | exact ce_flat rfl | exact .nil | exact .tok | exact .ren rfl (Nat.le_of_ble_eq_true rfl) | exact .rows (by ((repeat (first | exact .nil | refine .cons (by ((repeat (first | exact .nil | refine .cons (by first | exact .refl _ | exact .nil _) ?_)); first | done | fail)) ?_)); first | done | fail)), ?_⟩)); first | done | fail))⟩, ?_⟩)); first | done | fail)) (by repeat (first | exact FrC.nil | refine FrC.cons (by first | exact ce2_free rfl | exact ce2_p rfl (Nat.le_of_ble_eq_true rfl) | exact ce2_tok rfl (Nat.le_of_ble_eq_true rfl) | exact ce2_untok | exact ce2_nil) ?_))
  rintro q fr st ⟨i, rs, C, hi, rfl, hlen, hsum, hC, hok, rfl, rfl⟩ R hR
  by_cases hgo : i < parts.length ∧ i < 8
  · have he := List.getElem?_eq_getElem hgo.1
    generalize parts[i] = e at he
    obtain ⟨xa, hxa, xa1, xa2⟩ : ∃ x : Int, maxI 0 (minI e.a 1000000) = x ∧ 0 ≤ x ∧ x ≤ 1000000 := ⟨_, rfl, by unfold maxI minI; split <;> split <;> omega, by unfold maxI minI; split <;> split <;> omega⟩
    obtain ⟨xb, hxb, xb1, xb2⟩ : ∃ x : Int, maxI 0 (minI e.b 1000000) = x ∧ 0 ≤ x ∧ x ≤ 1000000 := ⟨_, rfl, by unfold maxI minI; split <;> split <;> omega, by unfold maxI minI; split <;> split <;> omega⟩
    obtain ⟨xc, hxc, xc1, xc2⟩ : ∃ x : Int, maxI 0 (minI e.c 1000000) = x ∧ 0 ≤ x ∧ x ≤ 1000000 := ⟨_, rfl, by unfold maxI minI; split <;> split <;> omega, by unfold maxI minI; split <;> split <;> omega⟩
    have hsum2 : sumD ⟨0, 0, 0⟩ (rs ++ [⟨xa, xb, xc⟩]) = some ⟨C.a + xa, C.b + xb, C.c + xc⟩ := by
      rw [sum_snoc hsum]
      unfold Within at hC
      exact addD_t (x := C) (y := ⟨xa, xb, xc⟩) (by dsimp only; omega)
    have hC2 : Within ⟨C.a + xa, C.b + xb, C.c + xc⟩ (((i + 1 : Nat) : Int) * 1000000) := by
      unfold Within at hC ⊢
      dsimp only
      omega
    have hok2 : ∀ r ∈ rs ++ [(⟨xa, xb, xc⟩ : ResD)], r.ok := fun r hr => by
      rcases List.mem_append.1 hr with hr | hr
      · exact hok r hr
      · rw [List.mem_singleton] at hr
        subst hr
        unfold ResD.ok in64
        dsimp only
        omega
    have hlt1 : ((i : Nat) : Int) < (((parts.map resR).length : Nat) : Int) := by omega
    unfold Within at hC
    obtain ⟨Ca, Cb, Cc⟩ := C
    dsimp only at hC
    have hcase : i = 0 ∨ i = 1 ∨ i = 2 ∨ i = 3 ∨ i = 4 ∨ i = 5 ∨ i = 6 ∨ i = 7 := by omega
    obtain ⟨ps, pn, wk, hps, hps2⟩ : ∃ (ps : List PodD) (c : UInt8), Pure P 11 [stV ⟨[], ps⟩, .agg (podR (qN c ((i : Int) + 1) ⟨xa, xb, xc⟩))] (· = stV ⟨[], ps ++ [qN c ((i : Int) + 1) ⟨xa, xb, xc⟩]⟩) ∧ ps = psOf rs ∧ (c = UInt8.ofNat (97 + (i : Int)).toNat ∧ ps ++ [qN c ((i : Int) + 1) ⟨xa, xb, xc⟩] = psOf (rs ++ [⟨xa, xb, xc⟩])) := by
      rcases hcase with rfl | rfl | rfl | rfl | rfl | rfl | rfl | rfl
      · match rs, hlen with
        | [], _ => exact ⟨_, 97, with_0 hG ⟨xa, xb, xc⟩, rfl, rfl, rfl⟩
      · match rs, hlen with
        | [r0], _ => exact ⟨_, 98, with_1 hG r0 ⟨xa, xb, xc⟩, rfl, rfl, rfl⟩
      · match rs, hlen with
        | [r0, r1], _ => exact ⟨_, 99, with_2 hG r0 r1 ⟨xa, xb, xc⟩, rfl, rfl, rfl⟩
      · match rs, hlen with
        | [r0, r1, r2], _ => exact ⟨_, 100, with_3 hG r0 r1 r2 ⟨xa, xb, xc⟩, rfl, rfl, rfl⟩
      · match rs, hlen with
        | [r0, r1, r2, r3], _ => exact ⟨_, 101, with_4 hG r0 r1 r2 r3 ⟨xa, xb, xc⟩, rfl, rfl, rfl⟩
      · match rs, hlen with
        | [r0, r1, r2, r3, r4], _ => exact ⟨_, 102, with_5 hG r0 r1 r2 r3 r4 ⟨xa, xb, xc⟩, rfl, rfl, rfl⟩
      · match rs, hlen with
        | [r0, r1, r2, r3, r4, r5], _ => exact ⟨_, 103, with_6 hG r0 r1 r2 r3 r4 r5 ⟨xa, xb, xc⟩, rfl, rfl, rfl⟩
      · match rs, hlen with
        | [r0, r1, r2, r3, r4, r5, r6], _ => exact ⟨_, 104, with_7 hG r0 r1 r2 r3 r4 r5 r6 ⟨xa, xb, xc⟩, rfl, rfl, rfl⟩
    obtain ⟨hc, hq⟩ := hps2
    rw [hps] at wk hq
    rw [hq] at wk
    rw [hc] at wk
    have hi8 : 97 + (i : Int) ≤ 104 := by omega
    (conv => whnf)
    refine SIf.dt hlt1 ?_
    ((conv => whnf); repeat ((first | refine SWrap.w64 (n := Ca + xa) (by omega) (by omega) ?_ | refine SWrap.w64 (n := Cb + xb) (by omega) (by omega) ?_ | refine SWrap.w64 (n := Cc + xc) (by omega) (by omega) ?_ | refine SOpt.of (mn2 (z := minI e.a 1000000) rfl) ?_ | refine SOpt.of (mn2 (z := minI e.b 1000000) rfl) ?_ | refine SOpt.of (mn2 (z := minI e.c 1000000) rfl) ?_ | refine SOpt.of (mx2 (z := xa) hxa) ?_ | refine SOpt.of (mx2 (z := xb) hxb) ?_ | refine SOpt.of (mx2 (z := xc) hxc) ?_ | refine SWrap.of (by show (0 : Int) ≤ 97 + (i : Int); omega) (by show 97 + (i : Int) ≤ 255; omega) ?_ | refine SCall.app (Pure.call1 wk (by ((repeat (first | exact trivial | refine ⟨by first | exact ce1_free rfl | exact .inl .nil | exact .inl .tok | exact .inl (.rows (by ((repeat (first | exact .nil | refine .cons (by ((repeat (first | exact .nil | refine .cons (by first | exact .refl _ | exact .nil _) ?_)); first | done | fail)) ?_)); first | done | fail))) | exact .inr (.inl ⟨_, _, rfl, rfl, (by ((repeat (first | exact trivial | refine ⟨by first | exact ce_flat rfl | exact .nil | exact .tok | exact .ren rfl (Nat.le_of_ble_eq_true rfl) | exact .rows (by ((repeat (first | exact .nil | refine .cons (by ((repeat (first | exact .nil | refine .cons (by first | exact .refl _ | exact .nil _) ?_)); first | done | fail)) ?_)); first | done | fail)), ?_⟩)); first | done | fail))⟩), ?_⟩)); first | done | fail)) rfl) ?_ | refine SEx.of (map_get' (by omega) he) ?_ | refine SIf.ff rfl ?_ | refine SIf.tt rfl ?_ | refine SOpt.of rfl ?_ | refine SChk.mk rfl ?_ | refine SSame.mk rfl ?_ | refine SEx.of rfl ?_ | refine SOpt.no rfl ?_ | refine SWrap.w64 (by omega) (by omega) ?_ | refine SIf.dt (by omega) ?_ | refine SIf.df (by omega) ?_ | refine SIf.nt (by omega) ?_ | refine SIf.nf (by omega) ?_ | refine SChk.d (by omega) ?_ | refine SChk.ix (by omega) (by omega) ?_ | refine SChk.d3 (by omega) (by omega) (by omega) ?_ | refine SLoopZ.un rfl ?_) <;> (conv => whnf)))
    refine hR (8 - (i + 1)) _ _ (by omega) ⟨_, _, ?_, i + 1, rs ++ [⟨xa, xb, xc⟩], _, by omega, rfl, by simp [hlen], hsum2, hC2, hok2, rfl, rfl⟩
    exact telL [0, 1, 2] rfl (by decide) (by ((repeat (first | exact trivial | refine ⟨⟨Nat.le_of_ble_eq_true rfl, rfl, _, rfl, by first | exact trivial | exact ⟨rfl, trivial⟩ | exact ceL_flat rfl | exact ⟨rfl, ceLL_map (fun _ => rfl) _⟩ | exact ⟨rfl, ceL_flat rfl, trivial⟩ | exact ⟨rfl, ceM_seen _⟩ | exact ⟨rfl, ceLL_acc (by assumption)⟩ | exact (by ((repeat (first | exact trivial | refine ⟨by first | exact ce_flat rfl | exact .nil | exact .tok | exact .ren rfl (Nat.le_of_ble_eq_true rfl) | exact .rows (by ((repeat (first | exact .nil | refine .cons (by ((repeat (first | exact .nil | refine .cons (by first | exact .refl _ | exact .nil _) ?_)); first | done | fail)) ?_)); first | done | fail)), ?_⟩)); first | done | fail))⟩, ?_⟩)); first | done | fail)) (by repeat (first | exact FrC.nil | refine FrC.cons (by first | exact ce2_free rfl | exact ce2_p rfl (Nat.le_of_ble_eq_true rfl) | exact ce2_tok rfl (Nat.le_of_ble_eq_true rfl) | exact ce2_untok | exact ce2_nil) ?_))
  · have hl8 : rs.length ≤ 8 := by omega
    have hC8 : Within C 8000000 := by unfold Within at hC ⊢; omega
    have hz : Within ⟨0, 0, 0⟩ 1 := by unfold Within; decide
    have hso := edgeS_ok (C := C) hok
    have hCo : C.ok := by unfold Within at hC8; unfold ResD.ok in64; omega
    have hu := used_ok hG (edgeS C rs) [110] hso.pods (by have := hso.some; omega) (fun q hq => (hso.pod q hq).req)
    rw [edge_used hl8 hsum] at hu
    have z0 : ResD.ok ⟨0, 0, 0⟩ := by decide
    have hw := whole_ok hG C (psOf rs) hCo (psOf_len rs) hso (edge_on hG _ rs hl8) (edge_used hl8 hsum) (fun q hq => by
      obtain ⟨c, u, r, _, rfl⟩ := psOf_mem hq
      exact ⟨rfl, rfl⟩)
    have p1 := room_ok hG (edgeS C rs) (edgePod 99 ⟨0, 0, 0⟩) ⟨[110], C, [], []⟩ hso z0
    rw [edge_room hl8 hsum hC8 hz] at p1
    have e1 : fitsD ⟨C.a + 0, C.b + 0, C.c + 0⟩ C = true := by simp [fitsD]
    rw [e1] at p1
    have p3 := room_ok hG (edgeS C rs) (edgePod 0 ⟨0, 0, 0⟩) ⟨[110], cap, [], []⟩ hso z0
    rw [edge_room hl8 hsum hC8 hz] at p3
    have e3 : fitsD ⟨C.a + 0, C.b + 0, C.c + 0⟩ cap = fitsD C cap := by simp [fitsD]
    rw [e3] at p3
    have p4 := rfits_ok hG C cap
    have t1 : -3 < at'.tmod 3 ∧ at'.tmod 3 < 3 := by
      have a1 := Int.lt_tmod_of_pos at' (b := 3) (by decide)
      have a2 := Int.tmod_lt_of_pos at' (b := 3) (by decide)
      omega
    have t2 : 0 ≤ (at'.tmod 3 + 3).tmod 3 ∧ (at'.tmod 3 + 3).tmod 3 < 3 := ⟨Int.tmod_nonneg _ (by omega), Int.tmod_lt_of_pos _ (by decide)⟩
    have hK : (at'.tmod 3 + 3).tmod 3 = 0 ∨ (at'.tmod 3 + 3).tmod 3 = 1 ∨ (at'.tmod 3 + 3).tmod 3 = 2 := by omega
    obtain ⟨R2, hR2, e2, hor⟩ : ∃ R2 : ResD, Within R2 1 ∧ fitsD ⟨C.a + R2.a, C.b + R2.b, C.c + R2.c⟩ C = false ∧ ((at'.tmod 3 + 3).tmod 3 = 0 ∧ R2 = ⟨1, 0, 0⟩ ∨ (at'.tmod 3 + 3).tmod 3 = 1 ∧ R2 = ⟨0, 1, 0⟩ ∨ (at'.tmod 3 + 3).tmod 3 = 2 ∧ R2 = ⟨0, 0, 1⟩) := by
      rcases hK with hK | hK | hK
      · exact ⟨⟨1, 0, 0⟩, by unfold Within; decide, by simp [fitsD]; try omega, .inl ⟨hK, rfl⟩⟩
      · exact ⟨⟨0, 1, 0⟩, by unfold Within; decide, by simp [fitsD]; try omega, .inr (.inl ⟨hK, rfl⟩)⟩
      · exact ⟨⟨0, 0, 1⟩, by unfold Within; decide, by simp [fitsD]; try omega, .inr (.inr ⟨hK, rfl⟩)⟩
    have p2 := room_ok hG (edgeS C rs) (edgePod 99 R2) ⟨[110], C, [], []⟩ hso (by unfold Within at hR2; show ResD.ok R2; unfold ResD.ok in64; omega)
    rw [edge_room hl8 hsum hC8 hR2, e2] at p2
    rcases hor with ⟨hK, rfl⟩ | ⟨hK, rfl⟩ | ⟨hK, rfl⟩
    all_goals by_cases h8 : ((i : Nat) : Int) < (((parts.map resR).length : Nat) : Int)
    all_goals ((conv => whnf); repeat ((first | refine SCall.app (Pure.call1 p1 (by ((repeat (first | exact trivial | refine ⟨by first | exact ce1_free rfl | exact .inl .nil | exact .inl .tok | exact .inl (.rows (by ((repeat (first | exact .nil | refine .cons (by ((repeat (first | exact .nil | refine .cons (by first | exact .refl _ | exact .nil _) ?_)); first | done | fail)) ?_)); first | done | fail))) | exact .inr (.inl ⟨_, _, rfl, rfl, (by ((repeat (first | exact trivial | refine ⟨by first | exact ce_flat rfl | exact .nil | exact .tok | exact .ren rfl (Nat.le_of_ble_eq_true rfl) | exact .rows (by ((repeat (first | exact .nil | refine .cons (by ((repeat (first | exact .nil | refine .cons (by first | exact .refl _ | exact .nil _) ?_)); first | done | fail)) ?_)); first | done | fail)), ?_⟩)); first | done | fail))⟩), ?_⟩)); first | done | fail)) rfl) ?_ | refine SCall.app (Pure.call1 hw (by ((repeat (first | exact trivial | refine ⟨by first | exact ce1_free rfl | exact .inl .nil | exact .inl .tok | exact .inl (.rows (by ((repeat (first | exact .nil | refine .cons (by ((repeat (first | exact .nil | refine .cons (by first | exact .refl _ | exact .nil _) ?_)); first | done | fail)) ?_)); first | done | fail))) | exact .inr (.inl ⟨_, _, rfl, rfl, (by ((repeat (first | exact trivial | refine ⟨by first | exact ce_flat rfl | exact .nil | exact .tok | exact .ren rfl (Nat.le_of_ble_eq_true rfl) | exact .rows (by ((repeat (first | exact .nil | refine .cons (by ((repeat (first | exact .nil | refine .cons (by first | exact .refl _ | exact .nil _) ?_)); first | done | fail)) ?_)); first | done | fail)), ?_⟩)); first | done | fail))⟩), ?_⟩)); first | done | fail)) rfl) ?_ | refine SCall.app (Pure.call1 p2 (by ((repeat (first | exact trivial | refine ⟨by first | exact ce1_free rfl | exact .inl .nil | exact .inl .tok | exact .inl (.rows (by ((repeat (first | exact .nil | refine .cons (by ((repeat (first | exact .nil | refine .cons (by first | exact .refl _ | exact .nil _) ?_)); first | done | fail)) ?_)); first | done | fail))) | exact .inr (.inl ⟨_, _, rfl, rfl, (by ((repeat (first | exact trivial | refine ⟨by first | exact ce_flat rfl | exact .nil | exact .tok | exact .ren rfl (Nat.le_of_ble_eq_true rfl) | exact .rows (by ((repeat (first | exact .nil | refine .cons (by ((repeat (first | exact .nil | refine .cons (by first | exact .refl _ | exact .nil _) ?_)); first | done | fail)) ?_)); first | done | fail)), ?_⟩)); first | done | fail))⟩), ?_⟩)); first | done | fail)) rfl) ?_ | refine SCall.app (Pure.call1 hu (by ((repeat (first | exact trivial | refine ⟨by first | exact ce1_free rfl | exact .inl .nil | exact .inl .tok | exact .inl (.rows (by ((repeat (first | exact .nil | refine .cons (by ((repeat (first | exact .nil | refine .cons (by first | exact .refl _ | exact .nil _) ?_)); first | done | fail)) ?_)); first | done | fail))) | exact .inr (.inl ⟨_, _, rfl, rfl, (by ((repeat (first | exact trivial | refine ⟨by first | exact ce_flat rfl | exact .nil | exact .tok | exact .ren rfl (Nat.le_of_ble_eq_true rfl) | exact .rows (by ((repeat (first | exact .nil | refine .cons (by ((repeat (first | exact .nil | refine .cons (by first | exact .refl _ | exact .nil _) ?_)); first | done | fail)) ?_)); first | done | fail)), ?_⟩)); first | done | fail))⟩), ?_⟩)); first | done | fail)) rfl) ?_ | refine SCall.app (Pure.call1 p3 (by ((repeat (first | exact trivial | refine ⟨by first | exact ce1_free rfl | exact .inl .nil | exact .inl .tok | exact .inl (.rows (by ((repeat (first | exact .nil | refine .cons (by ((repeat (first | exact .nil | refine .cons (by first | exact .refl _ | exact .nil _) ?_)); first | done | fail)) ?_)); first | done | fail))) | exact .inr (.inl ⟨_, _, rfl, rfl, (by ((repeat (first | exact trivial | refine ⟨by first | exact ce_flat rfl | exact .nil | exact .tok | exact .ren rfl (Nat.le_of_ble_eq_true rfl) | exact .rows (by ((repeat (first | exact .nil | refine .cons (by ((repeat (first | exact .nil | refine .cons (by first | exact .refl _ | exact .nil _) ?_)); first | done | fail)) ?_)); first | done | fail)), ?_⟩)); first | done | fail))⟩), ?_⟩)); first | done | fail)) rfl) ?_ | refine SCall.app (Pure.call1 p4 (by ((repeat (first | exact trivial | refine ⟨by first | exact ce1_free rfl | exact .inl .nil | exact .inl .tok | exact .inl (.rows (by ((repeat (first | exact .nil | refine .cons (by ((repeat (first | exact .nil | refine .cons (by first | exact .refl _ | exact .nil _) ?_)); first | done | fail)) ?_)); first | done | fail))) | exact .inr (.inl ⟨_, _, rfl, rfl, (by ((repeat (first | exact trivial | refine ⟨by first | exact ce_flat rfl | exact .nil | exact .tok | exact .ren rfl (Nat.le_of_ble_eq_true rfl) | exact .rows (by ((repeat (first | exact .nil | refine .cons (by ((repeat (first | exact .nil | refine .cons (by first | exact .refl _ | exact .nil _) ?_)); first | done | fail)) ?_)); first | done | fail)), ?_⟩)); first | done | fail))⟩), ?_⟩)); first | done | fail)) rfl) ?_ | refine SIf.ff rfl ?_ | refine SIf.tt rfl ?_ | refine SOpt.of rfl ?_ | refine SChk.mk rfl ?_ | refine SSame.mk rfl ?_ | refine SEx.of rfl ?_ | refine SOpt.no rfl ?_ | refine SWrap.w64 (by omega) (by omega) ?_ | refine SIf.dt (by omega) ?_ | refine SIf.df (by omega) ?_ | refine SIf.nt (by omega) ?_ | refine SIf.nf (by omega) ?_ | refine SChk.d (by omega) ?_ | refine SChk.ix (by omega) (by omega) ?_ | refine SChk.d3 (by omega) (by omega) (by omega) ?_) <;> (conv => whnf)))
    all_goals rw [hK]
    all_goals ((conv => whnf); repeat ((first | refine SCall.app (Pure.call1 p1 (by ((repeat (first | exact trivial | refine ⟨by first | exact ce1_free rfl | exact .inl .nil | exact .inl .tok | exact .inl (.rows (by ((repeat (first | exact .nil | refine .cons (by ((repeat (first | exact .nil | refine .cons (by first | exact .refl _ | exact .nil _) ?_)); first | done | fail)) ?_)); first | done | fail))) | exact .inr (.inl ⟨_, _, rfl, rfl, (by ((repeat (first | exact trivial | refine ⟨by first | exact ce_flat rfl | exact .nil | exact .tok | exact .ren rfl (Nat.le_of_ble_eq_true rfl) | exact .rows (by ((repeat (first | exact .nil | refine .cons (by ((repeat (first | exact .nil | refine .cons (by first | exact .refl _ | exact .nil _) ?_)); first | done | fail)) ?_)); first | done | fail)), ?_⟩)); first | done | fail))⟩), ?_⟩)); first | done | fail)) rfl) ?_ | refine SCall.app (Pure.call1 hw (by ((repeat (first | exact trivial | refine ⟨by first | exact ce1_free rfl | exact .inl .nil | exact .inl .tok | exact .inl (.rows (by ((repeat (first | exact .nil | refine .cons (by ((repeat (first | exact .nil | refine .cons (by first | exact .refl _ | exact .nil _) ?_)); first | done | fail)) ?_)); first | done | fail))) | exact .inr (.inl ⟨_, _, rfl, rfl, (by ((repeat (first | exact trivial | refine ⟨by first | exact ce_flat rfl | exact .nil | exact .tok | exact .ren rfl (Nat.le_of_ble_eq_true rfl) | exact .rows (by ((repeat (first | exact .nil | refine .cons (by ((repeat (first | exact .nil | refine .cons (by first | exact .refl _ | exact .nil _) ?_)); first | done | fail)) ?_)); first | done | fail)), ?_⟩)); first | done | fail))⟩), ?_⟩)); first | done | fail)) rfl) ?_ | refine SCall.app (Pure.call1 p2 (by ((repeat (first | exact trivial | refine ⟨by first | exact ce1_free rfl | exact .inl .nil | exact .inl .tok | exact .inl (.rows (by ((repeat (first | exact .nil | refine .cons (by ((repeat (first | exact .nil | refine .cons (by first | exact .refl _ | exact .nil _) ?_)); first | done | fail)) ?_)); first | done | fail))) | exact .inr (.inl ⟨_, _, rfl, rfl, (by ((repeat (first | exact trivial | refine ⟨by first | exact ce_flat rfl | exact .nil | exact .tok | exact .ren rfl (Nat.le_of_ble_eq_true rfl) | exact .rows (by ((repeat (first | exact .nil | refine .cons (by ((repeat (first | exact .nil | refine .cons (by first | exact .refl _ | exact .nil _) ?_)); first | done | fail)) ?_)); first | done | fail)), ?_⟩)); first | done | fail))⟩), ?_⟩)); first | done | fail)) rfl) ?_ | refine SCall.app (Pure.call1 hu (by ((repeat (first | exact trivial | refine ⟨by first | exact ce1_free rfl | exact .inl .nil | exact .inl .tok | exact .inl (.rows (by ((repeat (first | exact .nil | refine .cons (by ((repeat (first | exact .nil | refine .cons (by first | exact .refl _ | exact .nil _) ?_)); first | done | fail)) ?_)); first | done | fail))) | exact .inr (.inl ⟨_, _, rfl, rfl, (by ((repeat (first | exact trivial | refine ⟨by first | exact ce_flat rfl | exact .nil | exact .tok | exact .ren rfl (Nat.le_of_ble_eq_true rfl) | exact .rows (by ((repeat (first | exact .nil | refine .cons (by ((repeat (first | exact .nil | refine .cons (by first | exact .refl _ | exact .nil _) ?_)); first | done | fail)) ?_)); first | done | fail)), ?_⟩)); first | done | fail))⟩), ?_⟩)); first | done | fail)) rfl) ?_ | refine SCall.app (Pure.call1 p3 (by ((repeat (first | exact trivial | refine ⟨by first | exact ce1_free rfl | exact .inl .nil | exact .inl .tok | exact .inl (.rows (by ((repeat (first | exact .nil | refine .cons (by ((repeat (first | exact .nil | refine .cons (by first | exact .refl _ | exact .nil _) ?_)); first | done | fail)) ?_)); first | done | fail))) | exact .inr (.inl ⟨_, _, rfl, rfl, (by ((repeat (first | exact trivial | refine ⟨by first | exact ce_flat rfl | exact .nil | exact .tok | exact .ren rfl (Nat.le_of_ble_eq_true rfl) | exact .rows (by ((repeat (first | exact .nil | refine .cons (by ((repeat (first | exact .nil | refine .cons (by first | exact .refl _ | exact .nil _) ?_)); first | done | fail)) ?_)); first | done | fail)), ?_⟩)); first | done | fail))⟩), ?_⟩)); first | done | fail)) rfl) ?_ | refine SCall.app (Pure.call1 p4 (by ((repeat (first | exact trivial | refine ⟨by first | exact ce1_free rfl | exact .inl .nil | exact .inl .tok | exact .inl (.rows (by ((repeat (first | exact .nil | refine .cons (by ((repeat (first | exact .nil | refine .cons (by first | exact .refl _ | exact .nil _) ?_)); first | done | fail)) ?_)); first | done | fail))) | exact .inr (.inl ⟨_, _, rfl, rfl, (by ((repeat (first | exact trivial | refine ⟨by first | exact ce_flat rfl | exact .nil | exact .tok | exact .ren rfl (Nat.le_of_ble_eq_true rfl) | exact .rows (by ((repeat (first | exact .nil | refine .cons (by ((repeat (first | exact .nil | refine .cons (by first | exact .refl _ | exact .nil _) ?_)); first | done | fail)) ?_)); first | done | fail)), ?_⟩)); first | done | fail))⟩), ?_⟩)); first | done | fail)) rfl) ?_ | refine SIf.ff rfl ?_ | refine SIf.tt rfl ?_ | refine SOpt.of rfl ?_ | refine SChk.mk rfl ?_ | refine SSame.mk rfl ?_ | refine SEx.of rfl ?_ | refine SOpt.no rfl ?_ | refine SWrap.w64 (by omega) (by omega) ?_ | refine SIf.dt (by omega) ?_ | refine SIf.df (by omega) ?_ | refine SIf.nt (by omega) ?_ | refine SIf.nf (by omega) ?_ | refine SChk.d (by omega) ?_ | refine SChk.ix (by omega) (by omega) ?_ | refine SChk.d3 (by omega) (by omega) (by omega) ?_) <;> (conv => whnf)))
    all_goals exact congrArg V.b (bxx2 _)
end
end Go.Eng
