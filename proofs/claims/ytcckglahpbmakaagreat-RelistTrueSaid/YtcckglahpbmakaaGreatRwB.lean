/-
A store, and one who comes to know it: what is asked, answered, taken.
-/
import Derived.Test.YtcckglahpbmakaaGreatRwA
import Derived.Test.YtcckglahpbmakaaGreatLeqA
set_option linter.unusedVariables false
set_option linter.unusedSimpArgs false
namespace Go.Eng
open Go
def AnsOk (all : List EvD) (R ρ : Int) (k : CallD) (err : Int) (ens evs : V) : Prop :=
  (k.kind = 2 ∧ ρ < 0 ∧ err = 0 ∧ EnsV ens (atR all R) ∧ evs = .nils) ∨
  (k.kind = 3 ∧ 0 ≤ ρ ∧ k.rev = ρ ∧ ens = .nils ∧ ((evs = .nils ∧ (err = 7 ∨ err = 2)) ∨ (EvsV evs (all.filter fun x => decide (ρ < x.e.rev)) ∧ err = 0)))
def AnsC (all : List EvD) (R ρ : Int) (k : CallD) (err : Int) (es : List EnD) (xs : List EvD) : Prop :=
  (k.kind = 2 ∧ ρ < 0 ∧ err = 0 ∧ es = atR all R ∧ xs = []) ∨
  (k.kind = 3 ∧ 0 ≤ ρ ∧ k.rev = ρ ∧ es = [] ∧ ((xs = [] ∧ (err = 7 ∨ err = 2)) ∨ (xs = all.filter (fun x => decide (ρ < x.e.rev)) ∧ err = 0)))
def ansC (me id kind err R : Int) (es : List EnD) (xs : List EvD) : V := .agg (ansR me id kind err R (.sl none 3 (es.map enR)) (.sl none 4 (xs.map evR)))
theorem ens_ce {lv : V} {L : List EnD} (h : EnsV lv L) : Ce ren0 ⟨0, 0⟩ noFz lv (.sl none 3 (L.map enR)) := by
  rcases h with ⟨rfl, rfl⟩ | rfl
  · exact .nil
  · exact ce_same _ _
theorem evs_ce {lv : V} {L : List EvD} (h : EvsV lv L) : Ce ren0 ⟨0, 0⟩ noFz lv (.sl none 4 (L.map evR)) := by
  rcases h with ⟨rfl, rfl⟩ | rfl
  · exact .nil
  · exact ce_same _ _
theorem ans_ce {me id kind err R : Int} {ens evs : V} {es : List EnD} {xs : List EvD} (h1 : EnsV ens es) (h2 : EvsV evs xs) (E : Env) (x : Value) (h : Rel E (.agg (ansR me id kind err R ens evs)) x) : Rel E (ansC me id kind err R es xs) x :=
  rel_agg (cs := [.i .i64 me, .i .i64 id, .i .i64 kind, .i .i64 err, .i .i64 R, ens, evs]) (ds := [.i .i64 me, .i .i64 id, .i .i64 kind, .i .i64 err, .i .i64 R, .sl none 3 (es.map enR), .sl none 4 (xs.map evR)]) ⟨ce_flat rfl, ce_flat rfl, ce_flat rfl, ce_flat rfl, ce_flat rfl, ens_ce h1, evs_ce h2, trivial⟩ E x h
theorem wantC_kind (me id ρ : Int) : (ρ < 0 → (wantC me id ρ).kind = 2) ∧ (0 ≤ ρ → (wantC me id ρ).kind = 3 ∧ (wantC me id ρ).rev = ρ) := by
  unfold wantC
  refine ⟨fun h => by rw [if_neg (by omega)], fun h => by rw [if_pos h]; exact ⟨rfl, rfl⟩⟩
theorem wantC_from (me id ρ : Int) : (wantC me id ρ).from_ = me ∧ (wantC me id ρ).id = id + 1 := by
  unfold wantC; split <;> exact ⟨rfl, rfl⟩
theorem AnsOk.sl {all : List EvD} {R ρ err : Int} {k : CallD} {ens evs : V} (h : AnsOk all R ρ k err ens evs) : SlV 3 ens ∧ SlV 4 evs := by
  rcases h with ⟨_, _, _, h1, h2⟩ | ⟨_, _, _, h1, h2⟩
  · exact ⟨h1.sl, .inl h2⟩
  · refine ⟨.inl h1, ?_⟩
    rcases h2 with ⟨h2, _⟩ | ⟨h2, _⟩
    · exact .inl h2
    · exact h2.sl
theorem rw_begin {h1 h2 : Heap} {me : Int} {w : Option Obj} (hs : StG h1 3 0 1 2 none 0 [] [] [] 0) (hk : Heap.Keeps (fun _ => False) h1 h2) (hr : RlAt h2 5 4 me 0 false ⟨0, 0, 0, 0⟩ 0 0) (hc : CacheAt h2 4 none (-1) []) (hw : WasAt h2 w) (ht : lim w ≤ h2.next) : RW h2 w me [] 0 0 0 0 false ⟨0, 0, 0, 0⟩ (-1) :=
  ⟨⟨none, 0, [], [], none, [], hs.other hk (fun _ _ x => x), CaRel.nil, Int.le_refl _, by decide, hc, .inl ⟨rfl, rfl⟩, (fun q hq => by cases hq), (fun q hq => by cases hq)⟩, AllOk.nil, hr, hw, ht⟩
theorem RW.set {h : Heap} {o o' : Obj} {me : Int} {all : List EvD} {R id at_ fresh : Int} {out : Bool} {k : CallD} {ρ : Int} (hw : RW h (some o) me all R id at_ fresh out k ρ) : RW (h.set 6 o') (some o') me all R id at_ fresh out k ρ := by
  obtain ⟨rl, base, D, T, m, Dc, s1, s2, s3, s4, s5, s6, s7, s8⟩ := hw.ex
  obtain ⟨w1, w2⟩ := hw.was o rfl
  have hk : Heap.Keeps (fun n => n = 6) h (h.set 6 o') := Heap.Keeps.set (b := fun n => n = 6) (.refl _ _) (.inl rfl) _
  refine ⟨⟨rl, base, D, T, m, Dc, s1.other hk ?_, s2, s3, s4, s5.keepX hk (by decide) (fun q hq c => by have : 7 ≤ q := (s8 q hq).1; omega), s6, s7, s8⟩, hw.all, hw.rel.keep hk (by decide), fun x hx => ?_, hw.top⟩
  · intro n hn c
    rcases hn with e | e | e | e | e
    · omega
    · omega
    · omega
    · omega
    · have : 7 ≤ n := s7 n e; omega
  · cases hx
    exact ⟨w1, Heap.get_set_self w2⟩
section
variable {P : Program} (hG : FnsOk P AF.fns.get)
include hG
theorem rw_want {h : Heap} {w : Option Obj} {me : Int} {all : List EvD} {R id at_ fresh : Int} {out : Bool} {k : CallD} {ρ : Int} (hw : RW h w me all R id at_ fresh out k ρ) (hid : 0 ≤ id ∧ id ≤ 1000000) {now : Int} (h1 : 0 ≤ now ∧ now ≤ 1000000) (h2 : 0 ≤ at_ ∧ at_ ≤ 1000000) {K : V → Heap → Prop}
    (hno : out = true → lateB now at_ = false → K (.tup [.agg (callR ⟨0, 0, 0, 0⟩), .b false]) h)
    (hK : (out = false ∨ lateB now at_ = true) → ∀ h', RW h' w me all R (id + 1) now fresh true (wantC me id ρ) ρ → K (.tup [.agg (callR (wantC me id ρ)), .b true]) h') :
    ACall P 15 [.p (.g 5) 0, .i .i64 now] h K := by
  obtain ⟨rl, base, D, T, m, Dc, s1, s2, s3, s4, s5, s6, s7, s8⟩ := hw.ex
  have hlim := lim_ge w
  refine rlwant_at hG hw.rel (by decide) s5 (fun e => by have := (s8 5 e).1; omega) hid h1 h2 hno fun hy h' hr' hk' => hK hy h' ⟨⟨rl, base, D, T, m, Dc, s1.other hk' ?_, s2, s3, s4, s5.keepX hk' (by decide) (fun q hq c => by have := (s8 q hq).1; omega), s6, s7, s8⟩, hw.all, hr', hw.was.keep hk' (fun _ c => by cases c), Nat.le_trans hw.top hk'.next⟩
  intro n hn c
  rcases hn with e | e | e | e | e
  · omega
  · omega
  · omega
  · omega
  · have := s7 n e; omega
theorem rw_of (hA : AddAt P) (hS : SortedOk P) {h : Heap} {w : Option Obj} {me : Int} {all : List EvD} {R id at_ fresh : Int} {out : Bool} {k : CallD} {ρ : Int} (hw : RW h w me all R id at_ fresh out k ρ) (hal : all.length ≤ 10000) (hk : (ρ < 0 → k.kind = 2) ∧ (0 ≤ ρ → k.kind = 3 ∧ k.rev = ρ)) {K : V → Heap → Prop}
    (hK : ∀ ens evs err h', AnsOk all R ρ k err ens evs → RW h' w me all R id at_ fresh out k ρ → K (.agg (ansR k.from_ k.id k.kind err R ens evs)) h') :
    ACall P 18 [.p (.g 3) 0, .agg (callR k)] h K := by
  obtain ⟨rl, base, D, T, m, Dc, s1, s2, s3, s4, s5, s6, s7, s8⟩ := hw.ex
  have hlim := lim_ge w
  have hnow : lim w = 7 → ¬ ownsG 3 0 1 2 rl 6 := fun e c => by
    rcases c with c | c | c | c | c
    · omega
    · omega
    · omega
    · omega
    · have := s7 6 c; omega
  have hown : ∀ n, ownsG 3 0 1 2 rl n → n ≠ 4 ∧ n ≠ 5 ∧ m ≠ some n := fun n hn => by
    have hm : ∀ q, q < 6 → m ≠ some q := fun q hq e => by have := (s8 q e).1; omega
    rcases hn with e | e | e | e | e
    · subst e; exact ⟨by omega, by omega, hm _ (by omega)⟩
    · subst e; exact ⟨by omega, by omega, hm _ (by omega)⟩
    · subst e; exact ⟨by omega, by omega, hm _ (by omega)⟩
    · subst e; exact ⟨by omega, by omega, hm _ (by omega)⟩
    · have := s7 n e
      exact ⟨by omega, by omega, fun e2 => (s8 n e2).2 e⟩
  have hre : ∀ h', StG h' 3 0 1 2 rl R D T (kept all base) base → Heap.Keeps (ownsG 3 0 1 2 rl) h h' → RW h' w me all R id at_ fresh out k ρ := fun h' hs' hk' =>
    ⟨⟨rl, base, D, T, m, Dc, hs', s2, s3, s4, s5.keepX hk' (fun c => (hown 4 c).1 rfl) (fun q hq c => (hown q c).2.2 hq), s6, s7, s8⟩, hw.all, hw.rel.keep hk' (fun c => (hown 5 c).2.1 rfl), hw.was.keep hk' (fun e c => hnow e c), Nat.le_trans hw.top hk'.next⟩
  by_cases hρ : ρ < 0
  · have h2 := hk.1 hρ
    have hl := atR_len all R
    have := s2.len
    refine ofl_at hG hA hS s1 (hw.all.entsOk s2) (by omega) s2 h2 fun ens h' he hs' hk' => ?_
    have := hK ens .nils 0 h' (.inl ⟨h2, hρ, rfl, he, rfl⟩) (hre h' hs' hk')
    rw [h2] at this
    exact this
  · obtain ⟨h3, hkr⟩ := hk.2 (by omega)
    refine ofw_at hG hA s1 (fun x hx => hw.all.evOk (kept_mem hx).1) (by omega) h3 fun evs err h' hs' hk' hc => ?_
    have hans : AnsOk all R ρ k err .nils evs := .inr ⟨h3, by omega, hkr, rfl, by
      rcases hc with ⟨_, c2, c3⟩ | ⟨_, _, c2, c3⟩ | ⟨c1, c2, c3, c4⟩
      · exact .inl ⟨c2, .inl c3⟩
      · exact .inl ⟨c2, .inr c3⟩
      · rw [kept_kept] at c3
        rw [hkr] at c1 c3
        have : (if base < ρ then ρ else base) = ρ := by split <;> omega
        rw [this] at c3
        exact .inr ⟨c3, c4⟩⟩
    have := hK .nils evs err h' hans (hre h' hs' hk')
    rw [h3] at this
    exact this
theorem rw_ofC (hA : AddAt P) (hS : SortedOk P) {h : Heap} {w : Option Obj} {me : Int} {all : List EvD} {R id at_ fresh : Int} {out : Bool} {k : CallD} {ρ : Int} (hw : RW h w me all R id at_ fresh out k ρ) (hal : all.length ≤ 10000) (hk : (ρ < 0 → k.kind = 2) ∧ (0 ≤ ρ → k.kind = 3 ∧ k.rev = ρ)) {K : V → Heap → Prop}
    (hK : ∀ es xs err h', AnsC all R ρ k err es xs → RW h' w me all R id at_ fresh out k ρ → K (ansC k.from_ k.id k.kind err R es xs) h') :
    ACall P 18 [.p (.g 3) 0, .agg (callR k)] h K := by
  refine ACall.tell (rw_of hG hA hS hw hal hk (K := fun v h' => ∃ ens evs err, v = .agg (ansR k.from_ k.id k.kind err R ens evs) ∧ AnsOk all R ρ k err ens evs ∧ RW h' w me all R id at_ fresh out k ρ) fun ens evs err h' ha hw' => ⟨ens, evs, err, rfl, ha, hw'⟩) ?_
  rintro v h' ⟨ens, evs, err, rfl, ha, hw'⟩
  rcases ha with ⟨a1, a2, a3, a4, a5⟩ | ⟨a1, a2, a3, a4, ⟨a5, a6⟩ | ⟨a5, a6⟩⟩
  · exact ⟨_, ans_ce a4 (.inl ⟨a5, rfl⟩), hK _ [] err h' (.inl ⟨a1, a2, a3, rfl, rfl⟩) hw'⟩
  · exact ⟨_, ans_ce (.inl ⟨a4, rfl⟩) (.inl ⟨a5, rfl⟩), hK [] [] err h' (.inr ⟨a1, a2, a3, rfl, .inl ⟨rfl, a6⟩⟩) hw'⟩
  · exact ⟨_, ans_ce (.inl ⟨a4, rfl⟩) a5, hK [] _ err h' (.inr ⟨a1, a2, a3, rfl, .inr ⟨rfl, a6⟩⟩) hw'⟩
theorem rw_elder {h : Heap} {w : Option Obj} {me : Int} {all : List EvD} {R id at_ fresh : Int} {out : Bool} {k : CallD} {ρ : Int} (hw : RW h w me all R id at_ fresh out k ρ) (id' kind err rev : Int) {ens evs : V} (he : SlV 3 ens) (hv : SlV 4 evs) (hne : id' ≠ k.id) {K : V → Heap → Prop} (hK : K (.b false) h) :
    ACall P 19 [.p (.g 5) 0, .agg (ansR me id' kind err rev ens evs)] h K := rltake_no hG hw.rel id' kind err rev he hv (.inr hne) hK
theorem rw_take {h : Heap} {w : Option Obj} {me : Int} {all : List EvD} {R id at_ fresh : Int} {k : CallD} {ρ : Int} (hw : RW h w me all R id at_ fresh true k ρ) (hal : all.length ≤ 10000) (hf : 0 ≤ fresh ∧ fresh ≤ 1000000) {err : Int} {es : List EnD} {xs : List EvD} (ha : AnsC all R ρ k err es xs) {K : V → Heap → Prop}
    (hK : ∀ v h' fresh' ρ', (fresh' = fresh ∨ fresh' = fresh + 1) → (ρ' = R ∨ ρ' = -1) → (ρ < 0 → ρ' = R) → RW h' w me all R id at_ fresh' false k ρ' → K (.b v) h') :
    ACall P 19 [.p (.g 5) 0, ansC me k.id k.kind err R es xs] h K := by
  unfold ansC
  obtain ⟨rl, base, D, T, m, Dc, s1, s2, s3, s4, s5, s6, s7, s8⟩ := hw.ex
  have hr0 := hw.all.r0
  have hlim := lim_ge w
  have hm5 : m ≠ some 5 := fun e => by have := (s8 5 e).1; omega
  have hst : ∀ h', Heap.Keeps (fun n => n = 5 ∨ n = 4 ∨ m = some n) h h' → StG h' 3 0 1 2 rl R D T (kept all base) base := fun h' hk' => s1.other hk' fun n hn c => by
    have h6 : n = 5 ∨ n = 4 → False := fun c => by
      rcases hn with e | e | e | e | e
      · omega
      · omega
      · omega
      · omega
      · have := s7 n e; omega
    rcases c with c | c | c
    · exact h6 (.inl c)
    · exact h6 (.inr c)
    · rcases hn with e | e | e | e | e
      · have := (s8 n c).1; omega
      · have := (s8 n c).1; omega
      · have := (s8 n c).1; omega
      · have := (s8 n c).1; omega
      · exact (s8 n c).2 e
  rcases ha with ⟨a1, a2, a3, a4, a5⟩ | ⟨a1, a2, a3, a4, a5⟩
  · subst a3 a4 a5
    rw [a1]
    have hl := atR_len all R
    refine rltake_list hG hw.rel (by decide) s5 hm5 a1 hf (.inr rfl) (fun e he => (hw.all.ent he).1.ok) (by omega) hr0 hw.all.okE (.inr ⟨_, rfl⟩) fun h' m' hm' hc' hr' hk' => ?_
    have hnx : lim w ≤ h.next := hw.top
    refine hK true h' (fresh + 1) R (.inr rfl) (.inl rfl) (fun _ => rfl) ⟨⟨rl, base, D, T, some m', _, hst h' (hk'.mono fun n _ e => by rcases e with e | e; exact .inl e; exact .inr (.inl e)), s2, s3, s4, hc', .inr ⟨hr0, Int.le_refl _, CaRel.self (atR_rise all R)⟩, s7, fun q hq => ?_⟩, hw.all, hr', hw.was.keep hk' (fun _ c => by rcases c with c | c <;> cases c), Nat.le_trans hw.top hk'.next⟩
    cases hq
    refine ⟨by omega, fun e => ?_⟩
    have := (s1.log.row_lt m' e).1
    omega
  · rw [a1]
    subst a4
    rcases s6 with ⟨c1, c2⟩ | ⟨c1, c2, c3⟩
    · omega
    rcases a5 with ⟨rfl, a5⟩ | ⟨rfl, rfl⟩
    · refine rltake_drop hG hw.rel (by decide) s5 hm5 a1 a5 (.inr ⟨_, rfl⟩) (.inr ⟨_, rfl⟩) fun h' hc' hr' hk' => ?_
      exact hK false h' fresh (-1) (.inl rfl) (.inr rfl) (fun c => absurd c (by omega)) ⟨⟨rl, base, D, T, none, [], hst h' (hk'.mono fun n _ e => by rcases e with e | e; exact .inl e; exact .inr (.inl e)), s2, s3, s4, hc', .inl ⟨rfl, rfl⟩, s7, fun q hq => by cases hq⟩, hw.all, hr', hw.was.keep hk' (fun _ c => by rcases c with c | c <;> cases c), Nat.le_trans hw.top hk'.next⟩
    · have hokA := hw.all.okAp c1 c2
      rw [← a3] at hokA
      have hfl : (all.filter fun x => decide (ρ < x.e.rev)).length ≤ all.length := List.length_filter_le _ _
      refine rltake_watch hG hw.rel (by decide) s5 hm5 a1 (.inr rfl) (fun x hx => hw.all.evOk (List.mem_filter.1 hx).1) (by omega) (by rw [a3] at hokA ⊢; exact hokA) (.inr ⟨_, rfl⟩) fun h' hc' hr' hk' => ?_
      refine hK true h' fresh R (.inl rfl) (.inl rfl) (fun c => absurd c (by omega)) ⟨⟨rl, base, D, T, m, _, hst h' hk', s2, s3, s4, hc', .inr ⟨hr0, Int.le_refl _, ?_⟩, s7, s8⟩, hw.all, hr', hw.was.keep hk' (fun e c => by
        rcases c with c | c | c
        · cases c
        · cases c
        · have := (s8 6 c).1; omega), Nat.le_trans hw.top hk'.next⟩
      rw [← hw.all.jump (r := ρ)]
      exact CaRel.steps _ c3
theorem rw_slist (hA : AddAt P) (hS : SortedOk P) {h : Heap} {w : Option Obj} {me : Int} {all : List EvD} {R id at_ fresh : Int} {out : Bool} {k : CallD} {ρ : Int} (hw : RW h w me all R id at_ fresh out k ρ) (hal : all.length ≤ 10000) {K : V → Heap → Prop}
    (hK : ∀ lv h', EnsV lv (atR all R) → RW h' w me all R id at_ fresh out k ρ → K lv h') : ACall P 12 [.p (.g 3) 0] h K := by
  obtain ⟨rl, base, D, T, m, Dc, s1, s2, s3, s4, s5, s6, s7, s8⟩ := hw.ex
  have hlim := lim_ge w
  have hnow : lim w = 7 → ¬ ownsG 3 0 1 2 rl 6 := fun e c => by
    rcases c with c | c | c | c | c
    · omega
    · omega
    · omega
    · omega
    · have := s7 6 c; omega
  have hown : ∀ n, ownsG 3 0 1 2 rl n → n ≠ 4 ∧ n ≠ 5 ∧ m ≠ some n := fun n hn => by
    have hm : ∀ q, q < 6 → m ≠ some q := fun q hq e => by have := (s8 q e).1; omega
    rcases hn with e | e | e | e | e
    · subst e; exact ⟨by omega, by omega, hm _ (by omega)⟩
    · subst e; exact ⟨by omega, by omega, hm _ (by omega)⟩
    · subst e; exact ⟨by omega, by omega, hm _ (by omega)⟩
    · subst e; exact ⟨by omega, by omega, hm _ (by omega)⟩
    · have := s7 n e
      exact ⟨by omega, by omega, fun e2 => (s8 n e2).2 e⟩
  have hl := atR_len all R
  have := s2.len
  exact slist_at hG hA hS s1 (hw.all.entsOk s2) (by omega) s2 fun lv h' hlv hs' hk' => hK lv h' hlv ⟨⟨rl, base, D, T, m, Dc, hs', s2, s3, s4, s5.keepX hk' (fun c => (hown 4 c).1 rfl) (fun q hq c => (hown q c).2.2 hq), s6, s7, s8⟩, hw.all, hw.rel.keep hk' (fun c => (hown 5 c).2.1 rfl), hw.was.keep hk' (fun e c => hnow e c), Nat.le_trans hw.top hk'.next⟩
theorem rw_slistC (hA : AddAt P) (hS : SortedOk P) {h : Heap} {w : Option Obj} {me : Int} {all : List EvD} {R id at_ fresh : Int} {out : Bool} {k : CallD} {ρ : Int} (hw : RW h w me all R id at_ fresh out k ρ) (hal : all.length ≤ 10000) {K : V → Heap → Prop}
    (hK : ∀ h', RW h' w me all R id at_ fresh out k ρ → K (.sl none 3 ((atR all R).map enR)) h') : ACall P 12 [.p (.g 3) 0] h K := by
  refine ACall.tell (rw_slist hG hA hS hw hal (K := fun v h' => EnsV v (atR all R) ∧ RW h' w me all R id at_ fresh out k ρ) fun lv h' hlv hw' => ⟨hlv, hw'⟩) ?_
  rintro v h' ⟨hv, hw'⟩
  exact ⟨_, rel_ce (ens_ce hv), hK h' hw'⟩
theorem rw_callC (hS : SortedOk P) {h : Heap} {w : Option Obj} {me : Int} {all : List EvD} {R id at_ fresh : Int} {out : Bool} {k : CallD} {ρ : Int} (hw : RW h w me all R id at_ fresh out k ρ) (hal : all.length ≤ 10000) {K : V → Heap → Prop}
    (hK : ∀ h', RW h' w me all R id at_ fresh out k ρ → K (.sl none 3 ((knows all ρ).map enR)) h') : ACall P 21 [.p (.g 4) 0] h K := by
  refine ACall.tell (rw_call hG hS hw hal (K := fun v h' => EnsV v (knows all ρ) ∧ RW h' w me all R id at_ fresh out k ρ) fun lv h' hlv hw' => ⟨hlv, hw'⟩) ?_
  rintro v h' ⟨hv, hw'⟩
  exact ⟨_, rel_ce (ens_ce hv), hK h' hw'⟩
end
end Go.Eng
