/-
How one comes to know: what to ask, what is answered.
-/
import Derived.Test.YtcckglahpbmakaaGreatSgD
set_option linter.unusedVariables false
set_option linter.unusedSimpArgs false
namespace Go.Eng
open Go
structure CallD where
  from_ : Int
  id : Int
  kind : Int
  rev : Int
def callR (k : CallD) : List V := [.i .i64 k.from_, .i .i64 k.id, .i .i64 k.kind, .s [], .i .i64 k.rev, .nils, .nils]
def ansR (to id kind err rev : Int) (ens evs : V) : List V := [.i .i64 to, .i .i64 id, .i .i64 kind, .i .i64 err, .i .i64 rev, ens, evs]
structure RlAt (h : Heap) (r c : Nat) (me id : Int) (out : Bool) (k : CallD) (at_ fresh : Int) : Prop where
  lt : r < h.next
  get : h.get r = some (.cs [.i .i64 me, .i .i64 id, .p (.g c) 0, .b out, .i .i64 k.from_, .i .i64 k.id, .i .i64 k.kind, .s [], .i .i64 k.rev, .nils, .nils, .i .i64 at_, .i .i64 fresh])
theorem RlAt.keep {h h' : Heap} {r c : Nat} {me id at_ fresh : Int} {out : Bool} {k : CallD} (hr : RlAt h r c me id out k at_ fresh) {but : Nat → Prop} (hk : Heap.Keeps but h h') (hb : ¬ but r) : RlAt h' r c me id out k at_ fresh :=
  ⟨Nat.lt_of_lt_of_le hr.lt hk.1, (hk.2 r hr.lt hb).trans hr.get⟩
theorem CacheAt.keepX {h h' : Heap} {a : Nat} {m : Option Nat} {rev : Int} {D : List EnD} (hc : CacheAt h a m rev D) {but : Nat → Prop} (hk : Heap.Keeps but h h') (ha : ¬ but a) (hm : ∀ k, m = some k → ¬ but k) : CacheAt h' a m rev D := by
  obtain ⟨h1, ⟨hm0, h2, h3, h4⟩ | ⟨mk, hm0, h2, h3, h4, h5⟩⟩ := hc
  · exact ⟨Nat.lt_of_lt_of_le h1 hk.1, .inl ⟨hm0, h2, h3, by rw [hk.2 a h1 ha]; exact h4⟩⟩
  · exact ⟨Nat.lt_of_lt_of_le h1 hk.1, .inr ⟨mk, hm0, h2, Nat.lt_of_lt_of_le h3 hk.1, by rw [hk.2 a h1 ha]; exact h4, by rw [hk.2 mk h3 (hm mk hm0)]; exact h5⟩⟩
def lateB (now at_ : Int) : Bool := decide (at_ ≤ now) && decide (200 ≤ now - at_)
def wantC (me id rev : Int) : CallD := if 0 ≤ rev then ⟨me, id + 1, 3, rev⟩ else ⟨me, id + 1, 2, 0⟩
section
variable {P : Program} (hG : FnsOk P AF.fns.get)
include hG
theorem rlate_at {h : Heap} {now at_ : Int} (h1 : 0 ≤ now ∧ now ≤ 1000000) (h2 : 0 ≤ at_ ∧ at_ ≤ 1000000) {K : V → Heap → Prop} (hK : K (.b (lateB now at_)) h) : ACall P 60 [.i .i64 now, .i .i64 at_] h K := by
  unfold lateB at hK
  refine fn_sv (hG _ AF.f60 rfl) rfl ?_
  by_cases c : at_ ≤ now
  · rw [decide_eq_true c, Bool.true_and] at hK
    ((conv => whnf); repeat ((first | refine SIf.dt (show now ≥ at_ from c) ?_ | refine SWrap.wu (by omega) (by omega) ?_ | refine yf rfl ?_ | refine yt rfl ?_ | refine yo rfl ?_ | refine yc rfl ?_ | refine ys rfl ?_ | refine ye rfl ?_ | refine yn rfl ?_ | refine zw ?_ | refine zdt ?_ | refine zdf ?_ | refine znt ?_ | refine znf ?_ | refine zcd ?_ | refine zci ?_ | refine zc3 ?_) <;> (conv => whnf)))
    exact hK
  · rw [decide_eq_false c, Bool.false_and] at hK
    ((conv => whnf); repeat ((first | refine SIf.df (show ¬ now ≥ at_ from c) ?_ | refine yf rfl ?_ | refine yt rfl ?_ | refine yo rfl ?_ | refine yc rfl ?_ | refine ys rfl ?_ | refine ye rfl ?_ | refine yn rfl ?_ | refine zw ?_ | refine zdt ?_ | refine zdf ?_ | refine znt ?_ | refine znf ?_ | refine zcd ?_ | refine zci ?_ | refine zc3 ?_) <;> (conv => whnf)))
    exact hK
theorem rlnew_at {h : Heap} (me : Int) (hm : 0 ≤ me ∧ me ≤ 7) {K : V → Heap → Prop}
    (hK : ∀ h', RlAt h' (h.next + 1) h.next me 0 false ⟨0, 0, 0, 0⟩ 0 0 → CacheAt h' h.next none (-1) [] → Heap.Keeps (fun _ => False) h h' → h'.next = h.next + 2 → K (.p (.g (h.next + 1)) 0) h') : ACall P 10 [.i .i64 me] h K := by
  refine fn_sp (hG _ AF.f10 rfl) rfl ?_
  ((conv => whnf); repeat ((first | refine SIf.df (show ¬ me < 0 by omega) ?_ | refine SIf.df (show ¬ me > 7 by omega) ?_ | refine SCall.app (fn_sp (hG _ AF.f24 rfl) rfl) ?_ | refine yf rfl ?_ | refine yt rfl ?_ | refine yo rfl ?_ | refine yc rfl ?_ | refine ys rfl ?_ | refine ye rfl ?_ | refine yn rfl ?_ | refine zw ?_ | refine zdt ?_ | refine zdf ?_ | refine znt ?_ | refine znf ?_ | refine zcd ?_ | refine zci ?_ | refine zc3 ?_) <;> (conv => whnf)))
  refine hK _ ⟨Nat.lt_succ_self _, Heap.get_push_self _ _⟩ ⟨?_, .inl ⟨rfl, rfl, rfl, ?_⟩⟩ (.push (.push (.refl _ _) _) _) rfl
  · show h.next < h.next + 1 + 1; omega
  · exact Heap.gp (by show h.next ≠ h.next + 1; omega) (Heap.get_push_self _ _)
theorem rlcache_at {h : Heap} {r c : Nat} {me id at_ fresh : Int} {out : Bool} {k : CallD} (hr : RlAt h r c me id out k at_ fresh) {K : V → Heap → Prop} (hK : K (.p (.g c) 0) h) : ACall P 16 [.p (.g r) 0] h K := by
  have g := hr.get
  refine fn_sv (hG _ AF.f16 rfl) rfl ?_
  ((conv => whnf); repeat ((first | refine SEx.of (g) ?_ | refine yf rfl ?_ | refine yt rfl ?_ | refine yo rfl ?_ | refine yc rfl ?_ | refine ys rfl ?_ | refine ye rfl ?_ | refine yn rfl ?_ | refine zw ?_ | refine zdt ?_ | refine zdf ?_ | refine znt ?_ | refine znf ?_ | refine zcd ?_ | refine zci ?_ | refine zc3 ?_) <;> (conv => whnf)))
  exact hK
set_option maxHeartbeats 8000000 in
theorem rlwant_at {h : Heap} {r c : Nat} {me id at_ fresh : Int} {out : Bool} {k : CallD} (hr : RlAt h r c me id out k at_ fresh) (hrc : r ≠ c) {m : Option Nat} {rev : Int} {D : List EnD} (hc : CacheAt h c m rev D) (hm : m ≠ some r) (hid : 0 ≤ id ∧ id ≤ 1000000) {now : Int} (h1 : 0 ≤ now ∧ now ≤ 1000000) (h2 : 0 ≤ at_ ∧ at_ ≤ 1000000) {K : V → Heap → Prop}
    (hno : out = true → lateB now at_ = false → K (.tup [.agg (callR ⟨0, 0, 0, 0⟩), .b false]) h)
    (hK : (out = false ∨ lateB now at_ = true) → ∀ h', RlAt h' r c me (id + 1) true (wantC me id rev) now fresh → Heap.Keeps (fun n => n = r) h h' → K (.tup [.agg (callR (wantC me id rev)), .b true]) h') :
    ACall P 15 [.p (.g r) 0, .i .i64 now] h K := by
  have hlate := fun (K : V → Heap → Prop) hK => rlate_at (K := K) hG (h := h) h1 h2 hK
  have g := hr.get
  have p1 : ∀ x, (h.set r x).get r = some x := fun x => Heap.get_set_self g
  have p2 : ∀ x y, ((h.set r x).set r y).get r = some y := fun x y => Heap.get_set_self (p1 x)
  have p3 : ∀ x y z, (((h.set r x).set r y).set r z).get r = some z := fun x y z => Heap.get_set_self (p2 x y)
  have p4 : ∀ x y z u, ((((h.set r x).set r y).set r z).set r u).get r = some u := fun x y z u => Heap.get_set_self (p3 x y z)
  have p5 : ∀ x y z u v, (((((h.set r x).set r y).set r z).set r u).set r v).get r = some v := fun x y z u v => Heap.get_set_self (p4 x y z u)
  have kp : ∀ x y, Heap.Keeps (fun n => n = r) h ((h.set r x).set r y) := fun x y => Heap.Keeps.set (b := fun n => n = r) (Heap.Keeps.set (b := fun n => n = r) (.refl _ _) (.inl rfl) _) (.inl rfl) _
  have hrev := fun (x y : Obj) (K : V → Heap → Prop) hK => crev_at (K := K) hG (hc.keepX (kp x y) (fun e => hrc e.symm) (fun q hq e => hm (by rw [hq, e]))) hK
  unfold wantC at hK
  have hgo : (out = false ∨ lateB now at_ = true) → ACall P 15 [.p (.g r) 0, .i .i64 now] h K := by
    intro hy
    have hK' := hK hy
    clear hK hno
    by_cases c1 : 0 ≤ rev
    · rw [if_pos c1] at hK'
      cases out with
      | false =>
        refine fn_sp (hG _ AF.f15 rfl) rfl ?_
        ((conv => whnf); repeat ((first | refine SWrap.w64 (by omega) (by omega) ?_ | refine SCall.app (hrev _ _ _) ?_ | refine SIf.dt (show rev ≥ 0 from c1) ?_ | refine SEx.of (g) ?_ | refine SEx.of (p1 _) ?_ | refine SEx.of (p2 _ _) ?_ | refine SEx.of (p3 _ _ _) ?_ | refine SEx.of (p4 _ _ _ _) ?_ | refine SEx.of (p5 _ _ _ _ _) ?_ | refine SEx.of (Heap.get_set_self (p5 _ _ _ _ _)) ?_ | refine yf rfl ?_ | refine yt rfl ?_ | refine yo rfl ?_ | refine yc rfl ?_ | refine ys rfl ?_ | refine ye rfl ?_ | refine yn rfl ?_ | refine zw ?_ | refine zdt ?_ | refine zdf ?_ | refine znt ?_ | refine znf ?_ | refine zcd ?_ | refine zci ?_ | refine zc3 ?_) <;> (conv => whnf)))
        exact hK' _ ⟨hr.lt, Heap.get_set_self (p5 _ _ _ _ _)⟩ (Heap.Keeps.set (b := fun n => n = r) (Heap.Keeps.set (b := fun n => n = r) (Heap.Keeps.set (b := fun n => n = r) (Heap.Keeps.set (b := fun n => n = r) (kp _ _) (.inl rfl) _) (.inl rfl) _) (.inl rfl) _) (.inl rfl) _)
      | true =>
        have hl : lateB now at_ = true := hy.resolve_left (by decide)
        rw [hl] at hlate
        refine fn_sp (hG _ AF.f15 rfl) rfl ?_
        ((conv => whnf); repeat ((first | refine SWrap.w64 (by omega) (by omega) ?_ | refine SCall.app (hlate _) ?_ | refine SCall.app (hrev _ _ _) ?_ | refine SIf.dt (show rev ≥ 0 from c1) ?_ | refine SEx.of (g) ?_ | refine SEx.of (p1 _) ?_ | refine SEx.of (p2 _ _) ?_ | refine SEx.of (p3 _ _ _) ?_ | refine SEx.of (p4 _ _ _ _) ?_ | refine SEx.of (p5 _ _ _ _ _) ?_ | refine SEx.of (Heap.get_set_self (p5 _ _ _ _ _)) ?_ | refine yf rfl ?_ | refine yt rfl ?_ | refine yo rfl ?_ | refine yc rfl ?_ | refine ys rfl ?_ | refine ye rfl ?_ | refine yn rfl ?_ | refine zw ?_ | refine zdt ?_ | refine zdf ?_ | refine znt ?_ | refine znf ?_ | refine zcd ?_ | refine zci ?_ | refine zc3 ?_) <;> (conv => whnf)))
        exact hK' _ ⟨hr.lt, Heap.get_set_self (p5 _ _ _ _ _)⟩ (Heap.Keeps.set (b := fun n => n = r) (Heap.Keeps.set (b := fun n => n = r) (Heap.Keeps.set (b := fun n => n = r) (Heap.Keeps.set (b := fun n => n = r) (kp _ _) (.inl rfl) _) (.inl rfl) _) (.inl rfl) _) (.inl rfl) _)
    · rw [if_neg c1] at hK'
      cases out with
      | false =>
        refine fn_sp (hG _ AF.f15 rfl) rfl ?_
        ((conv => whnf); repeat ((first | refine SWrap.w64 (by omega) (by omega) ?_ | refine SCall.app (hrev _ _ _) ?_ | refine SIf.df (show ¬ rev ≥ 0 from c1) ?_ | refine SEx.of (g) ?_ | refine SEx.of (p1 _) ?_ | refine SEx.of (p2 _ _) ?_ | refine SEx.of (p3 _ _ _) ?_ | refine SEx.of (p4 _ _ _ _) ?_ | refine yf rfl ?_ | refine yt rfl ?_ | refine yo rfl ?_ | refine yc rfl ?_ | refine ys rfl ?_ | refine ye rfl ?_ | refine yn rfl ?_ | refine zw ?_ | refine zdt ?_ | refine zdf ?_ | refine znt ?_ | refine znf ?_ | refine zcd ?_ | refine zci ?_ | refine zc3 ?_) <;> (conv => whnf)))
        exact hK' _ ⟨hr.lt, p4 _ _ _ _⟩ (Heap.Keeps.set (b := fun n => n = r) (Heap.Keeps.set (b := fun n => n = r) (kp _ _) (.inl rfl) _) (.inl rfl) _)
      | true =>
        have hl : lateB now at_ = true := hy.resolve_left (by decide)
        rw [hl] at hlate
        refine fn_sp (hG _ AF.f15 rfl) rfl ?_
        ((conv => whnf); repeat ((first | refine SWrap.w64 (by omega) (by omega) ?_ | refine SCall.app (hlate _) ?_ | refine SCall.app (hrev _ _ _) ?_ | refine SIf.df (show ¬ rev ≥ 0 from c1) ?_ | refine SEx.of (g) ?_ | refine SEx.of (p1 _) ?_ | refine SEx.of (p2 _ _) ?_ | refine SEx.of (p3 _ _ _) ?_ | refine SEx.of (p4 _ _ _ _) ?_ | refine yf rfl ?_ | refine yt rfl ?_ | refine yo rfl ?_ | refine yc rfl ?_ | refine ys rfl ?_ | refine ye rfl ?_ | refine yn rfl ?_ | refine zw ?_ | refine zdt ?_ | refine zdf ?_ | refine znt ?_ | refine znf ?_ | refine zcd ?_ | refine zci ?_ | refine zc3 ?_) <;> (conv => whnf)))
        exact hK' _ ⟨hr.lt, p4 _ _ _ _⟩ (Heap.Keeps.set (b := fun n => n = r) (Heap.Keeps.set (b := fun n => n = r) (kp _ _) (.inl rfl) _) (.inl rfl) _)
  cases out with
  | false => exact hgo (.inl rfl)
  | true =>
    cases hl : lateB now at_ with
    | true => exact hgo (.inr hl)
    | false =>
      rw [hl] at hlate
      refine fn_sp (hG _ AF.f15 rfl) rfl ?_
      ((conv => whnf); repeat ((first | refine SCall.app (hlate _) ?_ | refine SEx.of (g) ?_ | refine yf rfl ?_ | refine yt rfl ?_ | refine yo rfl ?_ | refine yc rfl ?_ | refine ys rfl ?_ | refine ye rfl ?_ | refine yn rfl ?_ | refine zw ?_ | refine zdt ?_ | refine zdf ?_ | refine znt ?_ | refine znf ?_ | refine zcd ?_ | refine zci ?_ | refine zc3 ?_) <;> (conv => whnf)))
      exact hno rfl hl
end
end Go.Eng
