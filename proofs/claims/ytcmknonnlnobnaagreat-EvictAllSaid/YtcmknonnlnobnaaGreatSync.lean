/-
sync.Once, one goroutine: what Do does, over any function.
-/
import Derived.Test.YtcmknonnlnobnaaGreatEngC
import Derived.Test.YtcmknonnlnobnaaGreatRows
import Derived.Tactics
import Derived.Tactics2
import Derived.Defers
import Derived.Laws.Pointers
import Derived.Laws.LoneSync
import Derived.RegionTactic
import Derived.RegionCalls
import Derived.ChangeAlike
set_option maxHeartbeats 1600000
set_option maxRecDepth 100000
namespace Go.Proofs.YtcmknonnlnobnaaGreat
theorem disable (w : World) : (callFunc 404 #[]).run Tryz.prog w = .ok (.value (.tuple #[])) w := run_call_mark0 Tryz.func404 (by kernel_rfl) (by kernel_rfl) (by kernel_rfl) .disable (by kernel_rfl) w
theorem enable (w : World) : (callFunc 406 #[]).run Tryz.prog w = .ok (.value (.tuple #[])) w := run_call_mark0 Tryz.func406 (by kernel_rfl) (by kernel_rfl) (by kernel_rfl) .enable (by kernel_rfl) w
theorem acquire (a : Addr) (w : World) : (callFunc 407 #[.pointer (some a)]).run Tryz.prog w = .ok (.value (.tuple #[])) w := run_call_marked Tryz.func407 (by kernel_rfl) (by kernel_rfl) (by kernel_rfl) .acquire (by kernel_rfl) a w
theorem releaseMerge (a : Addr) (w : World) : (callFunc 409 #[.pointer (some a)]).run Tryz.prog w = .ok (.value (.tuple #[])) w := run_call_marked Tryz.func409 (by kernel_rfl) (by kernel_rfl) (by kernel_rfl) .releaseMerge (by kernel_rfl) a w
theorem store_deferred (a : Addr) (x : Value) (u : FrameMode) (w : World) (hc : w.cell? a = some x) (hz : w.frozen? a = false) :
 CallsD Tryz.prog 388 #[.pointer (some a), .bool true] u w fun e u' w' => u' = u ∧ (e = .returned (.tuple #[]) ∧ w' = w.drew.setCell a (.int .u32 1)) := by
 have hc' : w.drew.cell? a = some x := by go_simp
 have hz' : w.drew.frozen? a = false := by go_simp
 have hst := run_call_store (P := Tryz.prog) Tryz.func402 (by kernel_rfl) (by kernel_rfl) (by kernel_rfl) (by kernel_rfl) (k := .u32) (y := 1) hc' hz'
 go_enter_d Tryz.func388, Tryz.ntmps388
 go_wp2
 go_region_calls
 all_goals (go_end0; exact ⟨rfl, rfl⟩)
theorem unlock_deferred (a : Addr) (u : FrameMode) (w : World) (hc : w.cell? a = some (.int .i32 1)) (hz : w.frozen? a = false) :
 CallsD Tryz.prog 387 #[.pointer (some a)] u w fun e u' w' => u' = u ∧ (e = .returned (.tuple #[]) ∧ w' = w.setCell a (.int .i32 0)) := by
 have hd := disable
 have he := enable
 have hr := releaseMerge
 have hadd := run_call_add (P := Tryz.prog) Tryz.func410 (by kernel_rfl) (by kernel_rfl) (by kernel_rfl) .i32 (by kernel_rfl) (y := -1) (s := 0) hc hz (by simp [go_sem]; rfl)
 have hcv := run_convert_to_unsafe (P := Tryz.prog) (src := 441) (dst := 445) Tryz.underlying441 Tryz.underlying445 (by kernel_rfl) hc
 go_enter_d Tryz.func387, Tryz.ntmps387
 go_wp2
 go_end0
 go_wp2
 go_end0
 exact ⟨rfl, rfl⟩
theorem lock_free (a : Addr) (w : World) (hc : w.cell? a = some (.int .i32 0)) (hz : w.frozen? a = false) :
 Calls Tryz.prog 386 #[.pointer (some a)] w fun e w' => e = .returned (.tuple #[]) ∧ w' = w.setCell a (.int .i32 1) := by
 have hd := disable
 have he := enable
 have ha := acquire
 have hcas := run_call_cas_hit (P := Tryz.prog) Tryz.func405 (by kernel_rfl) (by kernel_rfl) (by kernel_rfl) .i32 (by kernel_rfl) (y := 1) hc hz
 have hc' : (w.setCell a (.int .i32 1)).cell? a = some (.int .i32 1) := World.cell?_setCell_same w a _ hc
 have hcv := run_convert_to_unsafe (P := Tryz.prog) (src := 441) (dst := 445) Tryz.underlying441 Tryz.underlying445 (by kernel_rfl) hc'
 go_enter Tryz.func386, Tryz.ntmps386
 go_wp2
 first | go_end0 | (simp only [Exit.inBlock, Exit.then]; refine bodyPost_ret (results_none rfl _ _ _) rfl ?_) | refine bodyPost_ret (results_none rfl _ _ _) rfl ?_
 go_wp2
 go_end0
 exact ⟨rfl, rfl⟩
theorem slow_any (b off g : Nat) (first cap : Array Value) (w : World) (R : Value → World → Prop)
 (h0 : w.cell? ⟨b, off, none⟩ = some (.int .u32 0)) (h1 : w.cell? ⟨b, off + 1, none⟩ = some (.int .i32 0))
 (f1 : w.frozen? ⟨b, off + 1, none⟩ = false) (hb : Go.Eng.bodyOk Tryz.prog g = true)
 (hg : Calls Tryz.prog g (first ++ cap) (w.setCell ⟨b, off + 1, none⟩ (.int .i32 1)) fun e w' => ∃ x, e = .returned x ∧ R x w')
 (hR : ∀ x w', R x w' → (∃ y, w'.cell? ⟨b, off, none⟩ = some y) ∧ w'.cell? ⟨b, off + 1, none⟩ = some (.int .i32 1) ∧ w'.frozen? ⟨b, off, none⟩ = false ∧ w'.frozen? ⟨b, off + 1, none⟩ = false) :
 Calls Tryz.prog 363 #[.pointer (some ⟨b, off, none⟩), .func (.func g) first cap] w fun e w' => e = .returned (.tuple #[]) ∧
  ∃ x w1, R x w1 ∧ w' = (w1.drew.setCell ⟨b, off, none⟩ (.int .u32 1)).setCell ⟨b, off + 1, none⟩ (.int .i32 0) := by
 have hl := run_call_load (P := Tryz.prog) Tryz.func385 (by kernel_rfl) (by kernel_rfl) (by kernel_rfl) .u32 (by kernel_rfl) (w := w.setCell ⟨b, off + 1, none⟩ (.int .i32 1)) (a := ⟨b, off, none⟩) (x := 0) ((World.cell?_setCell_other _ ⟨b, off + 1, none⟩ ⟨b, off, none⟩ _ (by simp)).trans h0)
 have hnot : ∀ (x : Bool) (w : World), (Op.unary .not (.bool x)).run Tryz.prog w = .ok (.bool (!x)) w := fun _ _ => rfl
 go_enter_defers Tryz.func363, Tryz.ntmps363
 go_wp2_with (go_at_call 386; refine (lock_free ⟨b, off + 1, none⟩ _ (by go_simp) (by go_simp)).mono ?_; rintro e w' ⟨rfl, rfl⟩)
 go_wp2
 rw [Go.Eng.run_callFunc hb, Oper.upon_enter]
 refine hg.mono ?_
 rintro e w1 ⟨x, rfl, hx⟩
 obtain ⟨⟨y0, r0⟩, r1, r2, r3⟩ := hR x w1 hx
 go_wp2
 refine leaves_cons (f := 388) (args := #[.pointer (some ⟨b, off, none⟩), .bool true]) (by simp) (by simp [go_sem]) ?_
 refine (store_deferred ⟨b, off, none⟩ y0 .returning _ r0 r2).mono ?_
 rintro e u' w'' ⟨rfl, rfl, rfl⟩
 refine leaves_cons (f := 387) (args := #[.pointer (some ⟨b, off + 1, none⟩)]) (by simp [settle]) (by simp [go_sem]) ?_
 refine (unlock_deferred ⟨b, off + 1, none⟩ _ _ ?_ (by simp [r3])).mono ?_
 · refine (World.cell?_setCell_other _ ⟨b, off, none⟩ ⟨b, off + 1, none⟩ _ (by simp)).trans ?_
   rw [World.cell?_drew]
   exact r1
 rintro e u' w'' ⟨rfl, rfl, rfl⟩
 simp [Leaves, settle, results, Tryz.results363]
 exact ⟨x, w1, hx, rfl⟩
theorem do_first (b off g : Nat) (first cap : Array Value) (w : World) (R : Value → World → Prop)
 (h0 : w.cell? ⟨b, off, none⟩ = some (.int .u32 0)) (h1 : w.cell? ⟨b, off + 1, none⟩ = some (.int .i32 0))
 (f1 : w.frozen? ⟨b, off + 1, none⟩ = false) (hb : Go.Eng.bodyOk Tryz.prog g = true)
 (hg : Calls Tryz.prog g (first ++ cap) (w.setCell ⟨b, off + 1, none⟩ (.int .i32 1)) fun e w' => ∃ x, e = .returned x ∧ R x w')
 (hR : ∀ x w', R x w' → (∃ y, w'.cell? ⟨b, off, none⟩ = some y) ∧ w'.cell? ⟨b, off + 1, none⟩ = some (.int .i32 1) ∧ w'.frozen? ⟨b, off, none⟩ = false ∧ w'.frozen? ⟨b, off + 1, none⟩ = false) :
 Calls Tryz.prog 317 #[.pointer (some ⟨b, off, none⟩), .func (.func g) first cap] w fun e w' => e = .returned (.tuple #[]) ∧
  ∃ x w1, R x w1 ∧ w' = (w1.drew.setCell ⟨b, off, none⟩ (.int .u32 1)).setCell ⟨b, off + 1, none⟩ (.int .i32 0) := by
 have hl := run_call_load (P := Tryz.prog) Tryz.func385 (by kernel_rfl) (by kernel_rfl) (by kernel_rfl) .u32 (by kernel_rfl) h0
 have hnot : ∀ (x : Bool) (w : World), (Op.unary .not (.bool x)).run Tryz.prog w = .ok (.bool (!x)) w := fun _ _ => rfl
 go_enter Tryz.func317, Tryz.ntmps317
 go_wp2_with (first | (go_at_call 363; refine (slow_any b off g first cap _ R h0 h1 f1 hb hg hR).mono ?_; rintro e w' ⟨rfl, hw⟩) | (go_at_call 362; go_in))
 go_end0
 exact ⟨rfl, hw⟩
theorem do_done (a : Addr) (d : Int) (hd : ¬ d = 0) (fv : Value) (w : World) (h0 : w.cell? a = some (.int .u32 d)) :
 Calls Tryz.prog 317 #[.pointer (some a), fv] w fun e w' => e = .returned (.tuple #[]) ∧ w' = w := by
 have hl := run_call_load (P := Tryz.prog) Tryz.func385 (by kernel_rfl) (by kernel_rfl) (by kernel_rfl) .u32 (by kernel_rfl) h0
 have hnot : ∀ (x : Bool) (w : World), (Op.unary .not (.bool x)).run Tryz.prog w = .ok (.bool (!x)) w := fun _ _ => rfl
 have hd' : (d != 0) = true := by simp [hd]
 go_enter Tryz.func317, Tryz.ntmps317
 go_wp2
 go_end0
 exact ⟨rfl, rfl⟩
theorem wrap64 (n : Int) : IntKind.i64.wrap n = (n + 9223372036854775808) % 18446744073709551616 - 9223372036854775808 := by
 have p : (2 : Int) ^ 64 = 18446744073709551616 := by decide
 have q : (2 : Int) ^ 63 = 9223372036854775808 := by decide
 simp only [IntKind.wrap, IntKind.bits, IntKind.signed, Bool.true_and, decide_eq_true_eq, Nat.reduceSub, p, q]
 split <;> omega
theorem add64 (a : Addr) (m n s : Int) (hs : s = IntKind.i64.wrap (m + n)) (w : World) (hc : w.cell? a = some (.int .i64 m)) (hz : w.frozen? a = false) :
 Calls Tryz.prog 69 #[.pointer (some a), .int .i64 n] w fun e w' => e = .returned (.int .i64 s) ∧ w' = w.setCell a (.int .i64 s) := by
 have hadd := run_call_add (P := Tryz.prog) Tryz.func132 (by kernel_rfl) (by kernel_rfl) (by kernel_rfl) .i64 (by kernel_rfl) (y := n) (s := s) hc hz (by rw [hs]; simp [go_sem])
 go_enter Tryz.func69, Tryz.ntmps69
 go_wp2
 go_ret
 have e : (m + n + 9223372036854775808) % 18446744073709551616 - 9223372036854775808 = s := by rw [hs, wrap64]
 rw [e]
 exact ⟨rfl, rfl⟩
end Go.Proofs.YtcmknonnlnobnaaGreat
/-
sync.Once and atomic.Int64 as what the abstract run takes them for.
-/
namespace Go.Eng
open Go
section
variable {P : Program} {E : Env} {st : St} {w : World}
theorem Sim.cellOf (hs : Sim E st w) {k : Key} {c : List V} (hk : st.get k = some (.cs c)) {off : Nat} {v : V} (hv : c[off]? = some v) :
 ∃ x, w.cell? ⟨(E.μ k).blk, (E.μ k).base + off, none⟩ = some x ∧ Rel (E.at k) v x ∧ w.frozen? ⟨(E.μ k).blk, (E.μ k).base + off, none⟩ = false := by
 obtain ⟨cells, t, fz, h1, h2, h3, h4, h5⟩ := hs.cs hk
 obtain ⟨x, hx, hr, _⟩ := h5 off v hv
 refine ⟨x, ?_, hr, ?_⟩
 · rw [cell?_eq]; simp [cellIn, h1, hx]
 · exact Fz.free h1 h2 (Array.getElem?_eq_some_iff.1 hx).1
theorem Sim.setOne (hs : Sim E st w) {k : Key} {c : List V} (hk : st.get k = some (.cs c)) {off : Nat} (ho : off < c.length) {v : V} {x : Value} (hr : Rel (E.at k) v x) (h1 : x.oneCell' = true) :
 Sim E (st.set k (.cs (c.set off v))) (w.setCell ⟨(E.μ k).blk, (E.μ k).base + off, none⟩ x) ∧ Ext E st w E (st.set k (.cs (c.set off v))) (w.setCell ⟨(E.μ k).blk, (E.μ k).base + off, none⟩ x) := by
 obtain ⟨cells, ty, fz, r1, r2, r3, r4, r5⟩ := hs.cs hk
 have hrv : RelL (E.at k) [v] [x].toArray := ⟨rfl, fun j u y hj hy => by
  cases j with
  | zero => simp at hj hy; subst hj; subst hy; exact hr
  | succ j => simp at hj⟩
 have hrow := RowOf.written r1 r2 r3 r4 r5 (off := off) (vs := [v]) (xs := [x]) hrv (by simpa using h1) (by simp; omega)
 exact hs.write hk r1 r4 (pos := (E.μ k).base + off) (xs := [x]) (by omega) (by simp; omega) (.cs (stCells c off [v])) ⟨hs.csBase hk, hrow⟩
theorem rel_int {k : IntKind} {n : Int} {x : Value} (h : Rel E (.i k n) x) : x = .int k n := by
 cases h with
 | deep hd => cases hd; rfl
theorem St.gset (h : Heap) (n : Nat) (o : Obj) : (gst h).set (.g n) o = gst (h.set n o) := rfl
theorem Heap.upd_upd (n : Nat) (x y : Obj) : ∀ l, Heap.upd (Heap.upd l n x) n y = Heap.upd l n y
 | [] => rfl
 | (k, o) :: r => by
  by_cases hk : k = n
  · simp [Heap.upd, hk]
  · simp [Heap.upd, hk, Heap.upd_upd n x y r]
theorem Heap.set_set (h : Heap) (n : Nat) (x y : Obj) : (h.set n x).set n y = h.set n y := by simp [Heap.set, Heap.upd_upd]
theorem args1 {a0 : V} {vs : Array Value} (hv : RelL E [a0] vs) : ∃ x0, vs = #[x0] ∧ Rel E a0 x0 := by
 obtain ⟨x0, h0, r0⟩ := hv.get (j := 0) rfl
 have hs := hv.1
 refine ⟨x0, Array.ext (by simpa using hs) fun i h1 h2 => ?_, r0⟩
 have : i = 0 := by simp at h2; omega
 subst this
 simpa using (Array.getElem?_eq_some_iff.1 h0).2
theorem args2 {a0 a1 : V} {vs : Array Value} (hv : RelL E [a0, a1] vs) : ∃ x0 x1, vs = #[x0, x1] ∧ Rel E a0 x0 ∧ Rel E a1 x1 := by
 obtain ⟨x0, h0, r0⟩ := hv.get (j := 0) rfl
 obtain ⟨x1, h1, r1⟩ := hv.get (j := 1) rfl
 have hs := hv.1
 refine ⟨x0, x1, Array.ext (by simpa using hs) fun i i1 i2 => ?_, r0, r1⟩
 have : i = 0 ∨ i = 1 := by simp at i2; omega
 rcases this with rfl | rfl
 · simpa using (Array.getElem?_eq_some_iff.1 h0).2
 · simpa using (Array.getElem?_eq_some_iff.1 h1).2
theorem rel_p {k : Key} {off : Nat} {x : Value} (h : Rel E (.p k off) x) : E.has k ∧ x = .pointer (some ⟨(E.μ k).blk, (E.μ k).base + off, none⟩) := by
 cases h with
 | deep hd => cases hd
 | p _ _ hk => exact ⟨hk, rfl⟩
theorem tup0 : Rel E (.tup []) (.tuple #[]) := undef_rel
end
end Go.Eng
namespace Go.Proofs.YtcmknonnlnobnaaGreat
open Go.Eng
theorem add_ok : ∀ (args : List V) (h : Heap) (r : V) (h' : Heap), addRun args h = some (r, h') → ∀ K : V → Heap → Prop, K r h' → ACall Tryz.prog 69 args h K := by
 intro args h r h' hx K hK
 unfold addRun at hx
 split at hx
 case h_2 => cases hx
 rename_i k off n
 split at hx
 case h_2 => cases hx
 rename_i c hc
 split at hx
 case h_2 => cases hx
 rename_i m hm
 cases hx
 refine ⟨by kernel_rfl, fun E w vs hnl hs hv => ?_⟩
 obtain ⟨x0, x1, rfl, r0, r1⟩ := args2 hv
 obtain ⟨hk, rfl⟩ := rel_p r0
 have := rel_int r1
 subst this
 have hob : (gst h).get (.g k) = some (.cs c) := hc
 obtain ⟨y, hy, ry, fy⟩ := hs.cellOf hob hm
 have := rel_int ry
 subst this
 have hlt := (List.getElem?_eq_some_iff.1 hm).1
 obtain ⟨s1, s2⟩ := hs.setOne hob hlt (v := .i .i64 (IntKind.i64.wrap (m + n))) (x := .int .i64 (IntKind.i64.wrap (m + n))) (.deep (.i _ _)) rfl
 refine (add64 _ m n _ rfl w hy fy).mono ?_
 rintro e w' ⟨rfl, rfl⟩
 exact ⟨_, _, _, E, hK, rfl, hnl, s1, s2, .deep (.i _ _)⟩
theorem once_ok : OnceOk Tryz.prog 317 := by
 refine ⟨fun k off g first cap c d h K hc hd hne hK => ?_, fun k off g first cap c h K hc hd hm hg => ?_⟩
 · refine ⟨by kernel_rfl, fun E w vs hnl hs hv => ?_⟩
   obtain ⟨x0, x1, rfl, r0, r1⟩ := args2 hv
   obtain ⟨hk, rfl⟩ := rel_p r0
   have hob : (gst h).get (.g k) = some (.cs c) := hc
   obtain ⟨y, hy, ry, fy⟩ := hs.cellOf hob hd
   have := rel_int ry
   subst this
   refine (do_done _ d hne x1 w hy).mono ?_
   rintro e w' ⟨rfl, rfl⟩
   exact ⟨_, _, _, E, hK, rfl, hnl, hs, .refl _ _ _, tup0⟩
 · refine ⟨by kernel_rfl, fun E w vs hnl hs hv => ?_⟩
   obtain ⟨x0, x1, rfl, r0, r1⟩ := args2 hv
   obtain ⟨hk, rfl⟩ := rel_p r0
   have hob : (gst h).get (.g k) = some (.cs c) := hc
   obtain ⟨y, hy, ry, fy⟩ := hs.cellOf hob hd
   have := rel_int ry
   subst this
   obtain ⟨z, hz, rz, fz⟩ := hs.cellOf hob hm
   have := rel_int rz
   subst this
   cases r1 with
   | deep hd => cases hd
   | fn _ _ _ fa ca h1 h2 h3 h4 =>
   have hlt := (List.getElem?_eq_some_iff.1 hm).1
   obtain ⟨s1, s2⟩ := hs.setOne hob hlt (v := .i .i32 1) (x := .int .i32 1) (.deep (.i _ _)) rfl
   have hcall := hg.2 E _ (fa ++ ca) hnl s1 (RelL.append ⟨h1, h3⟩ ⟨h2, h4⟩)
   refine (do_first _ _ g fa ca w (fun _ w1 => ∃ E' h2 c2, E'.nl = 0 ∧ Sim E' (gst h2) w1 ∧ Ext E (gst h) w E' (gst h2) w1 ∧ h2.get k = some (.cs c2) ∧ c2[off]? = some (.i .u32 0) ∧ c2[off + 1]? = some (.i .i32 1) ∧
    K (.tup []) (h2.set k (.cs ((c2.set off (.i .u32 1)).set (off + 1) (.i .i32 0))))) hy hz fz hg.1 (hcall.mono ?_) ?_).mono ?_
   · rintro e w1 ⟨v, x, h2, E', ⟨c2, g1, g2, g3, g4⟩, rfl, n1, n2, n3, n4⟩
     exact ⟨x, rfl, E', h2, c2, n1, n2, s2.trans n3, g1, g2, g3, g4⟩
   · rintro x w1 ⟨E', h2, c2, n1, n2, n3, g1, g2, g3, g4⟩
     have hob2 : (gst h2).get (.g k) = some (.cs c2) := g1
     obtain ⟨y1, q1, t1, u1⟩ := n2.cellOf hob2 g2
     obtain ⟨y2, q2, t2, u2⟩ := n2.cellOf hob2 g3
     have := rel_int t2
     subst this
     rw [n3.le.loc _ hk] at q1 q2 u1 u2
     exact ⟨⟨y1, q1⟩, q2, u1, u2⟩
   · rintro e w' ⟨rfl, x, w1, ⟨E', h2, c2, n1, n2, n3, g1, g2, g3, g4⟩, rfl⟩
     have hob2 : (gst h2).get (.g k) = some (.cs c2) := g1
     have hl := n3.le.loc _ hk
     have d1 : Sim E' (gst h2) w1.drew := n2.of_heap (w := w1) (w' := w1.drew) rfl
     have d2 : Ext E' (gst h2) w1 E' (gst h2) w1.drew := Ext.drawn _
     have hlt2 := (List.getElem?_eq_some_iff.1 g2).1
     have hlt3 := (List.getElem?_eq_some_iff.1 g3).1
     obtain ⟨a1, a2⟩ := d1.setOne hob2 hlt2 (v := .i .u32 1) (x := .int .u32 1) (.deep (.i _ _)) rfl
     have hob3 : (gst (h2.set k (.cs (c2.set off (.i .u32 1))))).get (.g k) = some (.cs (c2.set off (.i .u32 1))) := by
      rw [← St.gset, St.get_set, if_pos rfl, hob2]; rfl
     obtain ⟨b1, b2⟩ := a1.setOne hob3 (by simpa using hlt3) (v := .i .i32 0) (x := .int .i32 0) (.deep (.i _ _)) rfl
     have hss : ((gst h2).set (.g k) (.cs (c2.set off (.i .u32 1)))).set (.g k) (.cs ((c2.set off (.i .u32 1)).set (off + 1) (.i .i32 0))) = gst (h2.set k (.cs ((c2.set off (.i .u32 1)).set (off + 1) (.i .i32 0)))) := by
      rw [St.gset, St.gset, Heap.set_set]
     rw [hss] at b1 b2
     rw [hl] at a2 b1 b2
     rw [Nat.add_assoc]
     exact ⟨_, _, _, E', g4, rfl, n1, b1, n3.trans (d2.trans (a2.trans b2)), tup0⟩
end Go.Proofs.YtcmknonnlnobnaaGreat
