/-
How one comes to know: an answer is taken.
-/
import Derived.Test.YtcckglahpbmakaaGreatRlA
import Derived.Test.YtcckglahpbmakaaGreatLeqA
set_option linter.unusedVariables false
set_option linter.unusedSimpArgs false
namespace Go.Eng
open Go
def SlV (n : Nat) (v : V) : Prop := v = .nils ∨ ∃ rows, v = .sl none n rows
theorem EnsV.sl {v : V} {L : List EnD} (h : EnsV v L) : SlV 3 v := by
  rcases h with ⟨h, _⟩ | h
  · exact .inl h
  · exact .inr ⟨_, h⟩
theorem EvsV.sl {v : V} {L : List EvD} (h : EvsV v L) : SlV 4 v := by
  rcases h with ⟨h, _⟩ | h
  · exact .inl h
  · exact .inr ⟨_, h⟩
section
variable {P : Program} (hG : FnsOk P AF.fns.get)
include hG
set_option maxHeartbeats 4000000 in
theorem rltake_no {h : Heap} {r c : Nat} {me id at_ fresh : Int} {out : Bool} {k : CallD} (hr : RlAt h r c me id out k at_ fresh) (id' kind err rev : Int) {ens evs : V} (he : SlV 3 ens) (hv : SlV 4 evs) (hne : out = false ∨ id' ≠ k.id) {K : V → Heap → Prop} (hK : K (.b false) h) :
    ACall P 19 [.p (.g r) 0, .agg (ansR me id' kind err rev ens evs)] h K := by
  have g := hr.get
  rcases he with rfl | ⟨_, rfl⟩ <;> rcases hv with rfl | ⟨_, rfl⟩
  all_goals
    cases out with
    | false =>
      refine fn_sv (hG _ AF.f19 rfl) rfl ?_
      ((conv => whnf); repeat ((first | refine SEx.of (g) ?_ | refine yf rfl ?_ | refine yt rfl ?_ | refine yo rfl ?_ | refine yc rfl ?_ | refine ys rfl ?_ | refine ye rfl ?_ | refine yn rfl ?_ | refine zw ?_ | refine zdt ?_ | refine zdf ?_ | refine znt ?_ | refine znf ?_ | refine zcd ?_ | refine zci ?_ | refine zc3 ?_) <;> (conv => whnf)))
      exact hK
    | true =>
      have hi := hne.resolve_left (by decide)
      refine fn_sv (hG _ AF.f19 rfl) rfl ?_
      ((conv => whnf); repeat ((first | refine SIf.nf (rfl : me = me) ?_ | refine SIf.nt hi ?_ | refine SEx.of (g) ?_ | refine yf rfl ?_ | refine yt rfl ?_ | refine yo rfl ?_ | refine yc rfl ?_ | refine ys rfl ?_ | refine ye rfl ?_ | refine yn rfl ?_ | refine zw ?_ | refine zdt ?_ | refine zdf ?_ | refine znt ?_ | refine znf ?_ | refine zcd ?_ | refine zci ?_ | refine zc3 ?_) <;> (conv => whnf)))
      exact hK
set_option maxHeartbeats 8000000 in
theorem rltake_list {h : Heap} {r c : Nat} {me id at_ fresh : Int} {k : CallD} (hr : RlAt h r c me id true k at_ fresh) (hrc : r ≠ c) {m : Option Nat} {rev0 : Int} {D0 : List EnD} (hc : CacheAt h c m rev0 D0) (hm : m ≠ some r) (hk : k.kind = 2) (hf : 0 ≤ fresh ∧ fresh ≤ 1000000)
    {rev : Int} {ens : V} {es : List EnD} (he : EnsV ens es) (hes : ∀ e ∈ es, EnOk e) (hl : es.length ≤ 100000) (hrev : 0 ≤ rev) (hok : okE rev [] es = true) {evs : V} (hv : SlV 4 evs) {K : V → Heap → Prop}
    (hK : ∀ h' m', h.next ≤ m' → CacheAt h' c (some m') rev es → RlAt h' r c me id false k at_ (fresh + 1) → Heap.Keeps (fun n => n = r ∨ n = c) h h' → K (.b true) h') :
    ACall P 19 [.p (.g r) 0, .agg (ansR me k.id 2 0 rev ens evs)] h K := by
  have g := hr.get
  have p1 : ∀ x, (h.set r x).get r = some x := fun x => Heap.get_set_self g
  have kp : ∀ x, Heap.Keeps (fun n => n = r) h (h.set r x) := fun x => Heap.Keeps.set (b := fun n => n = r) (.refl _ _) (.inl rfl) _
  have hb : (decide (0 ≤ rev) && okE rev [] es) = true := by rw [hok, decide_eq_true hrev]; rfl
  have hcl : ∀ x (K : V → Heap → Prop), (∀ h' m', h.next ≤ m' → CacheAt h' c (some m') rev es → Heap.Keeps (fun n => n = c) (h.set r x) h' → K (.b true) h') → ACall P 26 [.p (.g c) 0, .i .i64 rev, ens] (h.set r x) K := by
    intro x K hK
    have h0 := clist_at (K := K) hG (hc.keepX (kp x) (fun e => hrc e.symm) (fun q hq e => hm (by rw [hq, e]))) es hes (by omega) rev (fun h => by rw [hb] at h; cases h) (fun _ => hK)
    rcases he with ⟨rfl, rfl⟩ | rfl
    · exact ACall.leq (args' := [.p (.g c) 0, .i .i64 rev, .sl none 3 []]) (hr := ⟨.inl rfl, .inl rfl, .inr (.inl .nil), trivial⟩) (h0 := h0)
    · exact h0
  have hes' := he.sl
  clear he
  rcases hes' with rfl | ⟨rows, rfl⟩ <;> rcases hv with rfl | ⟨_, rfl⟩
  all_goals
    refine fn_sv (hG _ AF.f19 rfl) rfl ?_
    ((conv => whnf); repeat ((first | refine SIf.nf (rfl : me = me) ?_ | refine SIf.nf (rfl : k.id = k.id) ?_ | refine SIf.nf (show (2 : Int) = k.kind from hk.symm) ?_ | refine SCall.app (hcl _ _) ?_ | refine SEx.of (g) ?_ | refine SEx.of (p1 _) ?_ | refine yf rfl ?_ | refine yt rfl ?_ | refine yo rfl ?_ | refine yc rfl ?_ | refine ys rfl ?_ | refine ye rfl ?_ | refine yn rfl ?_ | refine zw ?_ | refine zdt ?_ | refine zdf ?_ | refine znt ?_ | refine znf ?_ | refine zcd ?_ | refine zci ?_ | refine zc3 ?_) <;> (conv => whnf)))
    intro h' m' hm' hc' hk'
    have g2 : h'.get r = some (.cs [.i .i64 me, .i .i64 id, .p (.g c) 0, .b false, .i .i64 k.from_, .i .i64 k.id, .i .i64 k.kind, .s [], .i .i64 k.rev, .nils, .nils, .i .i64 at_, .i .i64 fresh]) := (hk'.same r hr.lt hrc).trans (p1 _)
    ((conv => whnf); repeat ((first | refine SWrap.w64 (by omega) (by omega) ?_ | refine SEx.of (g2) ?_ | refine yf rfl ?_ | refine yt rfl ?_ | refine yo rfl ?_ | refine yc rfl ?_ | refine ys rfl ?_ | refine ye rfl ?_ | refine yn rfl ?_ | refine zw ?_ | refine zdt ?_ | refine zdf ?_ | refine znt ?_ | refine znf ?_ | refine zcd ?_ | refine zci ?_ | refine zc3 ?_) <;> (conv => whnf)))
    have hlt : r < h'.next := Nat.lt_of_lt_of_le hr.lt hk'.next
    exact hK _ m' hm' (hc'.keepX (Heap.Keeps.set (b := fun n => n = r) (.refl _ _) (.inl rfl) _) (fun e => hrc e.symm) (fun q hq e => by cases hq; have := hr.lt; omega)) ⟨hlt, Heap.get_set_self g2⟩
      (Heap.Keeps.set (b := fun n => n = r ∨ n = c) (((kp _).mono fun _ _ e => .inl e).trans (hk'.mono fun _ _ e => .inr e)) (.inl (.inl rfl)) _)
set_option maxHeartbeats 8000000 in
theorem rltake_watch {h : Heap} {r c : Nat} {me id at_ fresh : Int} {k : CallD} (hr : RlAt h r c me id true k at_ fresh) (hrc : r ≠ c) {m : Option Nat} {rev0 : Int} {D0 : List EnD} (hc : CacheAt h c m rev0 D0) (hm : m ≠ some r) (hk : k.kind = 3)
    {rev : Int} {evs : V} {xs : List EvD} (he : EvsV evs xs) (hxs : ∀ x ∈ xs, EnOk x.e) (hl : xs.length ≤ 100000) (hok : okAp rev0 k.rev rev xs = true) {ens : V} (hv : SlV 3 ens) {K : V → Heap → Prop}
    (hK : ∀ h', CacheAt h' c m rev (xs.foldl stepE D0) → RlAt h' r c me id false k at_ fresh → Heap.Keeps (fun n => n = r ∨ n = c ∨ m = some n) h h' → K (.b true) h') :
    ACall P 19 [.p (.g r) 0, .agg (ansR me k.id 3 0 rev ens evs)] h K := by
  have g := hr.get
  have p1 : ∀ x, (h.set r x).get r = some x := fun x => Heap.get_set_self g
  have kp : ∀ x, Heap.Keeps (fun n => n = r) h (h.set r x) := fun x => Heap.Keeps.set (b := fun n => n = r) (.refl _ _) (.inl rfl) _
  have hcl : ∀ x (K : V → Heap → Prop), (∀ h', CacheAt h' c m rev (xs.foldl stepE D0) → Heap.Keeps (fun n => n = c ∨ m = some n) (h.set r x) h' → K (.b true) h') → ACall P 62 [.p (.g c) 0, .i .i64 k.rev, .i .i64 rev, evs] (h.set r x) K := by
    intro x K hK
    have h0 := capply_at (K := K) hG (hc.keepX (kp x) (fun e => hrc e.symm) (fun q hq e => hm (by rw [hq, e]))) xs hxs (by omega) k.rev rev (fun h => by rw [hok] at h; cases h) (fun _ => hK)
    rcases he with ⟨rfl, rfl⟩ | rfl
    · exact ACall.leq (args' := [.p (.g c) 0, .i .i64 k.rev, .i .i64 rev, .sl none 4 []]) (hr := ⟨.inl rfl, .inl rfl, .inl rfl, .inr (.inl .nil), trivial⟩) (h0 := h0)
    · exact h0
  have hes' := he.sl
  clear he
  rcases hes' with rfl | ⟨rows, rfl⟩ <;> rcases hv with rfl | ⟨_, rfl⟩
  all_goals
    refine fn_sv (hG _ AF.f19 rfl) rfl ?_
    ((conv => whnf); repeat ((first | refine SIf.nf (rfl : me = me) ?_ | refine SIf.nf (rfl : k.id = k.id) ?_ | refine SIf.nf (show (3 : Int) = k.kind from hk.symm) ?_ | refine SCall.app (hcl _ _) ?_ | refine SEx.of (g) ?_ | refine SEx.of (p1 _) ?_ | refine yf rfl ?_ | refine yt rfl ?_ | refine yo rfl ?_ | refine yc rfl ?_ | refine ys rfl ?_ | refine ye rfl ?_ | refine yn rfl ?_ | refine zw ?_ | refine zdt ?_ | refine zdf ?_ | refine znt ?_ | refine znf ?_ | refine zcd ?_ | refine zci ?_ | refine zc3 ?_) <;> (conv => whnf)))
    intro h' hc' hk'
    ((conv => whnf); repeat ((first | refine yf rfl ?_ | refine yt rfl ?_ | refine yo rfl ?_ | refine yc rfl ?_ | refine ys rfl ?_ | refine ye rfl ?_ | refine yn rfl ?_ | refine zw ?_ | refine zdt ?_ | refine zdf ?_ | refine znt ?_ | refine znf ?_ | refine zcd ?_ | refine zci ?_ | refine zc3 ?_) <;> (conv => whnf)))
    exact hK _ hc' ⟨Nat.lt_of_lt_of_le hr.lt hk'.next, (hk'.same r hr.lt (by rintro (e | e); exact hrc e; exact hm e)).trans (p1 _)⟩ (((kp _).mono fun _ _ e => .inl e).trans (hk'.mono fun _ _ e => .inr e))
set_option maxHeartbeats 8000000 in
theorem rltake_drop {h : Heap} {r c : Nat} {me id at_ fresh : Int} {k : CallD} (hr : RlAt h r c me id true k at_ fresh) (hrc : r ≠ c) {m : Option Nat} {rev0 : Int} {D0 : List EnD} (hc : CacheAt h c m rev0 D0) (hm : m ≠ some r) (hk : k.kind = 3)
    {rev err : Int} (he : err = 7 ∨ err = 2) {ens evs : V} (hv1 : SlV 3 ens) (hv2 : SlV 4 evs) {K : V → Heap → Prop}
    (hK : ∀ h', CacheAt h' c none (-1) [] → RlAt h' r c me id false k at_ fresh → Heap.Keeps (fun n => n = r ∨ n = c) h h' → K (.b false) h') :
    ACall P 19 [.p (.g r) 0, .agg (ansR me k.id 3 err rev ens evs)] h K := by
  have g := hr.get
  have p1 : ∀ x, (h.set r x).get r = some x := fun x => Heap.get_set_self g
  have kp : ∀ x, Heap.Keeps (fun n => n = r) h (h.set r x) := fun x => Heap.Keeps.set (b := fun n => n = r) (.refl _ _) (.inl rfl) _
  have hcl := fun x (K : V → Heap → Prop) hK => cdrop_at (K := K) hG (hc.keepX (kp x) (fun e => hrc e.symm) (fun q hq e => hm (by rw [hq, e]))) hK
  rcases he with rfl | rfl <;> rcases hv1 with rfl | ⟨_, rfl⟩ <;> rcases hv2 with rfl | ⟨_, rfl⟩
  all_goals
    refine fn_sv (hG _ AF.f19 rfl) rfl ?_
    ((conv => whnf); repeat ((first | refine SIf.nf (rfl : me = me) ?_ | refine SIf.nf (rfl : k.id = k.id) ?_ | refine SIf.nf (show (3 : Int) = k.kind from hk.symm) ?_ | refine SCall.app (hcl _ _) ?_ | refine SEx.of (g) ?_ | refine SEx.of (p1 _) ?_ | refine yf rfl ?_ | refine yt rfl ?_ | refine yo rfl ?_ | refine yc rfl ?_ | refine ys rfl ?_ | refine ye rfl ?_ | refine yn rfl ?_ | refine zw ?_ | refine zdt ?_ | refine zdf ?_ | refine znt ?_ | refine znf ?_ | refine zcd ?_ | refine zci ?_ | refine zc3 ?_) <;> (conv => whnf)))
    intro h' hc' hk'
    ((conv => whnf); repeat ((first | refine yf rfl ?_ | refine yt rfl ?_ | refine yo rfl ?_ | refine yc rfl ?_ | refine ys rfl ?_ | refine ye rfl ?_ | refine yn rfl ?_ | refine zw ?_ | refine zdt ?_ | refine zdf ?_ | refine znt ?_ | refine znf ?_ | refine zcd ?_ | refine zci ?_ | refine zc3 ?_) <;> (conv => whnf)))
    exact hK _ hc' ⟨Nat.lt_of_lt_of_le hr.lt hk'.next, (hk'.same r hr.lt hrc).trans (p1 _)⟩ (((kp _).mono fun _ _ e => .inl e).trans (hk'.mono fun _ _ e => .inr e))
end
end Go.Eng
