/-
A store, and one who comes to know it.
-/
import Derived.Test.YtcckglahpbmakaaGreatRtP
import Derived.Test.YtcckglahpbmakaaGreatRlC
import Derived.Test.YtcckglahpbmakaaGreatCa3e
set_option linter.unusedVariables false
set_option linter.unusedSimpArgs false
namespace Go.Eng
open Go
def CacheOk (all : List EvD) (R ρ : Int) (D : List EnD) : Prop := (ρ = -1 ∧ D = []) ∨ (0 ≤ ρ ∧ ρ ≤ R ∧ CaRel D (atR all ρ))
def kept (all : List EvD) (base : Int) : List EvD := all.filter fun x => decide (base < x.e.rev)
def WasAt (h : Heap) (w : Option Obj) : Prop := ∀ o, w = some o → 6 < h.next ∧ h.get 6 = some o
def lim : Option Obj → Nat
  | some _ => 7
  | none => 6
theorem lim_ge : ∀ w : Option Obj, 6 ≤ lim w
  | none => Nat.le_refl 6
  | some _ => show 6 ≤ 7 by omega
theorem WasAt.keep {h h' : Heap} {w : Option Obj} (hw : WasAt h w) {but : Nat → Prop} (hk : Heap.Keeps but h h') (hb : lim w = 7 → ¬ but 6) : WasAt h' w := fun o ho => by
  obtain ⟨h1, h2⟩ := hw o ho
  exact ⟨Nat.lt_of_lt_of_le h1 hk.next, (hk.same 6 h1 (hb (by rw [ho]; rfl))).trans h2⟩
structure RW (h : Heap) (w : Option Obj) (me : Int) (all : List EvD) (R id at_ fresh : Int) (out : Bool) (k : CallD) (ρ : Int) : Prop where
  ex : ∃ rl base D T m Dc, StG h 3 0 1 2 rl R D T (kept all base) base ∧ CaRel D (atR all R) ∧ base ≤ R ∧ (kept all base).length ≤ 64 ∧ CacheAt h 4 m ρ Dc ∧ CacheOk all R ρ Dc ∧ (∀ q, rl = some q → lim w ≤ q) ∧ (∀ q, m = some q → lim w ≤ q ∧ rl ≠ some q)
  all : AllOk all R
  rel : RlAt h 5 4 me id out k at_ fresh
  was : WasAt h w
  top : lim w ≤ h.next
theorem RW.keep {h h' : Heap} {w : Option Obj} {me : Int} {all : List EvD} {R id at_ fresh : Int} {out : Bool} {k : CallD} {ρ : Int} (hw : RW h w me all R id at_ fresh out k ρ) (hk : Heap.Keeps (fun _ => False) h h') : RW h' w me all R id at_ fresh out k ρ := by
  obtain ⟨rl, base, D, T, m, Dc, h1, h2, h3, h4, h5, h6, h7, h8⟩ := hw.ex
  exact ⟨⟨rl, base, D, T, m, Dc, h1.other hk (fun _ _ x => x), h2, h3, h4, h5.keep hk, h6, h7, h8⟩, hw.all, hw.rel.keep hk (fun x => x), hw.was.keep hk (fun _ x => x), Nat.le_trans hw.top hk.next⟩
theorem kept_mem {all : List EvD} {base : Int} {x : EvD} (h : x ∈ kept all base) : x ∈ all ∧ base < x.e.rev := by
  obtain ⟨h1, h2⟩ := List.mem_filter.1 h
  exact ⟨h1, by simpa using h2⟩
theorem AllOk.evOk {all : List EvD} {R : Int} (h : AllOk all R) {x : EvD} (hx : x ∈ all) : EnOk x.e := by
  have := h.each x hx
  exact ⟨by omega, by omega⟩
theorem CaRel.ents {D L : List EnD} (h : CaRel D L) {e : EnD} (he : e ∈ D) (hn : (D.map (·.key)).Nodup) : e ∈ L := by
  have h1 : getE D e.key = some e := by
    clear h
    induction D with
    | nil => cases he
    | cons x r ih =>
      unfold getE
      simp only [List.map_cons, List.nodup_cons] at hn
      cases he with
      | head => rw [if_pos rfl]
      | tail _ he =>
        have : e.key ≠ x.key := fun c => hn.1 (by rw [← c]; exact List.mem_map.2 ⟨e, he, rfl⟩)
        rw [if_neg this]
        exact ih he hn.2
  rw [h.fnd] at h1
  exact getE_mem h1
theorem AllOk.entsOk {all : List EvD} {R r : Int} (h : AllOk all R) {D : List EnD} (hc : CaRel D (atR all r)) : ∀ e ∈ D, EnOk e := fun _ he => (h.ent (hc.ents he hc.nd)).1.ok
theorem kept_kept {all : List EvD} {b r : Int} : (kept all b).filter (fun x => decide (r < x.e.rev)) = kept all (if b < r then r else b) := by
  unfold kept
  rw [List.filter_filter]
  refine List.filter_congr fun x _ => ?_
  split <;> rename_i hb
  · by_cases c : r < x.e.rev
    · rw [decide_eq_true c, decide_eq_true (by omega)]; rfl
    · rw [decide_eq_false c]; rfl
  · by_cases c : b < x.e.rev
    · rw [decide_eq_true c, decide_eq_true (by omega)]; rfl
    · rw [decide_eq_false c, Bool.and_false]
theorem kept_cut {all : List EvD} {b r R : Int} (hA : AllOk all R) (hb : b ≤ R) : kept all (if b < r then r else b) = kept all (cutBase b R r) := by
  unfold kept cutBase
  refine List.filter_congr fun x hx => ?_
  have := (hA.each x hx).1.2
  have e : (if b < r then r else b) < x.e.rev ↔ (if b < (if R < r then R else r) then (if R < r then R else r) else b) < x.e.rev := by
    repeat' split
    all_goals omega
  by_cases c : (if b < r then r else b) < x.e.rev
  · rw [decide_eq_true c, decide_eq_true (e.1 c)]
  · rw [decide_eq_false c, decide_eq_false fun d => c (e.2 d)]
section
variable {P : Program} (hG : FnsOk P AF.fns.get)
include hG
set_option maxHeartbeats 4000000 in
theorem rw_txn (hA : AddAt P) {h : Heap} {w : Option Obj} {me : Int} {all : List EvD} {R id at_ fresh : Int} {out : Bool} {k : CallD} {ρ : Int} (hw : RW h w me all R id at_ fresh out k ρ) (hR : R ≤ 1000000) (hal : all.length ≤ 10000) (ws : List WrD) (hws : ∀ w ∈ ws, WrOk w) (hl : ws.length ≤ 64) {K : V → Heap → Prop}
    (hno : ∀ e h', e ≠ 0 → RW h' w me all R id at_ fresh out k ρ → K (.tup [.i .i64 0, .i .i64 e]) h')
    (hK : ∀ h', (∀ w ∈ ws, WrMay w) → RW h' w me (all ++ evW (R + 1) ws) (R + 1) id at_ fresh out k ρ → K (.tup [.i .i64 (R + 1), .i .i64 0]) h') :
    ACall P 11 [.p (.g 3) 0, .agg [.nils, .sl none 3 (ws.map wrR)]] h K := by
  obtain ⟨rl, base, D, T, m, Dc, h1, h2, h3, h4, h5, h6, h7, h8⟩ := hw.ex
  have hr0 := hw.all.r0
  have hlim := lim_ge w
  have hnow : lim w = 7 → ¬ ownsG 3 0 1 2 rl 6 := fun e c => by
    rcases c with c | c | c | c | c
    · omega
    · omega
    · omega
    · omega
    · have := h7 6 c; omega
  have hown : ∀ n, ownsG 3 0 1 2 rl n → n ≠ 4 ∧ n ≠ 5 ∧ m ≠ some n := fun n hn => by
    have hm : ∀ q, q < 6 → m ≠ some q := fun q hq e => by have := (h8 q e).1; omega
    rcases hn with e | e | e | e | e
    · subst e; exact ⟨by omega, by omega, hm _ (by omega)⟩
    · subst e; exact ⟨by omega, by omega, hm _ (by omega)⟩
    · subst e; exact ⟨by omega, by omega, hm _ (by omega)⟩
    · subst e; exact ⟨by omega, by omega, hm _ (by omega)⟩
    · have := h7 n e
      exact ⟨by omega, by omega, fun e2 => (h8 n e2).2 e⟩
  refine gtxn_at hG hA h1 (fun x hx => ⟨(kept_mem hx).2, (hw.all.each x (kept_mem hx).1).1.2⟩) h3 ⟨hr0, by omega⟩ h4 ws hws (by omega) (fun he h' hs' hk' => ?_) (fun he h' rl' base' hb1 hb2 hs' hl' hrl hk' => ?_)
  · refine hno _ h' he ⟨⟨rl, base, D, T, m, Dc, hs', h2, h3, h4, h5.keepX hk' (fun c => (hown 4 c).1 rfl) (fun q hq c => (hown q c).2.2 hq), h6, h7, h8⟩, hw.all, hw.rel.keep hk' (fun c => (hown 5 c).2.1 rfl), hw.was.keep hk' (fun e c => hnow e c), Nat.le_trans hw.top hk'.next⟩
  · have hmt : mayT ws = true := by
      unfold errT at he
      cases hm : mayT ws with
      | true => rfl
      | false => rw [hm] at he; simp at he
    have hwm := (mayT_each hmt).2
    have hA' := hw.all.txn hwm
    have hkept : (kept all base ++ evW (R + 1) ws).filter (fun x => decide (base' < x.e.rev)) = (all ++ evW (R + 1) ws).filter fun x => decide (base' < x.e.rev) := by
      rw [List.filter_append, List.filter_append]
      congr 1
      unfold kept
      rw [List.filter_filter]
      refine List.filter_congr fun x _ => ?_
      by_cases c : base' < x.e.rev
      · rw [decide_eq_true c, decide_eq_true (by omega)]; rfl
      · rw [decide_eq_false c]; rfl
    rw [hkept] at hs' hl'
    have hrel : CaRel ((evW (R + 1) ws).foldl stepE D) (atR (all ++ evW (R + 1) ws) (R + 1)) := by
      rw [hA'.last, List.foldl_append, ← hw.all.last]
      exact CaRel.steps _ h2
    have hnx : lim w ≤ h.next := hw.top
    refine hK h' hwm ⟨⟨rl', base', _, _, m, Dc, hs', hrel, hb2, hl', h5.keepX hk' (fun c => (hown 4 c).1 rfl) (fun q hq c => (hown q c).2.2 hq), ?_, fun q hq => ?_, fun q hq => ⟨(h8 q hq).1, fun e => ?_⟩⟩, hA', hw.rel.keep hk' (fun c => (hown 5 c).2.1 rfl), hw.was.keep hk' (fun e c => hnow e c), Nat.le_trans hw.top hk'.next⟩
    · rcases h6 with h6 | ⟨c1, c2, c3⟩
      · exact .inl h6
      · exact .inr ⟨c1, by omega, by rw [atR_txn c2]; exact c3⟩
    · rcases hrl q hq with e | e
      · exact h7 q e
      · omega
    · rcases hrl q e with e2 | e2
      · exact (h8 q hq).2 e2
      · obtain ⟨_, ⟨hm0, _⟩ | ⟨mk, hm0, _, hlt, _⟩⟩ := h5
        · rw [hm0] at hq; cases hq
        · rw [hm0] at hq; cases hq; omega
theorem rw_rev {h : Heap} {w : Option Obj} {me : Int} {all : List EvD} {R id at_ fresh : Int} {out : Bool} {k : CallD} {ρ : Int} (hw : RW h w me all R id at_ fresh out k ρ) {K : V → Heap → Prop} (hK : K (.i .i64 R) h) : ACall P 13 [.p (.g 3) 0] h K := by
  obtain ⟨rl, base, D, T, m, Dc, h1, h2, h3, h4, h5, h6, h7, h8⟩ := hw.ex
  exact srev_at hG h1 hK
theorem rw_cache {h : Heap} {w : Option Obj} {me : Int} {all : List EvD} {R id at_ fresh : Int} {out : Bool} {k : CallD} {ρ : Int} (hw : RW h w me all R id at_ fresh out k ρ) {K : V → Heap → Prop} (hK : K (.p (.g 4) 0) h) : ACall P 16 [.p (.g 5) 0] h K := rlcache_at hG hw.rel hK
theorem rw_crev {h : Heap} {w : Option Obj} {me : Int} {all : List EvD} {R id at_ fresh : Int} {out : Bool} {k : CallD} {ρ : Int} (hw : RW h w me all R id at_ fresh out k ρ) {K : V → Heap → Prop} (hK : K (.i .i64 ρ) h) : ACall P 17 [.p (.g 4) 0] h K := by
  obtain ⟨rl, base, D, T, m, Dc, h1, h2, h3, h4, h5, h6, h7, h8⟩ := hw.ex
  exact crev_at hG h5 hK
def knows (all : List EvD) (ρ : Int) : List EnD := if 0 ≤ ρ then atR all ρ else []
theorem rw_call (hS : SortedOk P) {h : Heap} {w : Option Obj} {me : Int} {all : List EvD} {R id at_ fresh : Int} {out : Bool} {k : CallD} {ρ : Int} (hw : RW h w me all R id at_ fresh out k ρ) (hal : all.length ≤ 10000) {K : V → Heap → Prop}
    (hK : ∀ lv h', EnsV lv (knows all ρ) → RW h' w me all R id at_ fresh out k ρ → K lv h') : ACall P 21 [.p (.g 4) 0] h K := by
  obtain ⟨rl, base, D, T, m, Dc, h1, h2, h3, h4, h5, h6, h7, h8⟩ := hw.ex
  rcases h6 with ⟨c1, c2⟩ | ⟨c1, c2, c3⟩
  · subst c2
    refine call_at hG hS h5 (fun e he => by cases he) (by simp) CaRel.nil fun lv h' hlv hk => hK lv h' ?_ (hw.keep hk)
    unfold knows
    rw [if_neg (by omega)]; exact hlv
  · have hl := atR_len all ρ
    have := c3.len
    refine call_at hG hS h5 (hw.all.entsOk c3) (by omega) c3 fun lv h' hlv hk => hK lv h' ?_ (hw.keep hk)
    unfold knows
    rw [if_pos c1]; exact hlv
theorem rw_compact {h : Heap} {w : Option Obj} {me : Int} {all : List EvD} {R id at_ fresh : Int} {out : Bool} {k : CallD} {ρ : Int} (hw : RW h w me all R id at_ fresh out k ρ) (rev : Int) {K : V → Heap → Prop}
    (hK : ∀ h', RW h' w me all R id at_ fresh out k ρ → K (.tup []) h') : ACall P 14 [.p (.g 3) 0, .i .i64 rev] h K := by
  obtain ⟨rl, base, D, T, m, Dc, h1, h2, h3, h4, h5, h6, h7, h8⟩ := hw.ex
  have hlim := lim_ge w
  have hnow : lim w = 7 → ¬ ownsG 3 0 1 2 rl 6 := fun e c => by
    rcases c with c | c | c | c | c
    · omega
    · omega
    · omega
    · omega
    · have := h7 6 c; omega
  have hown : ∀ n, ownsG 3 0 1 2 rl n → n ≠ 4 ∧ n ≠ 5 ∧ m ≠ some n := fun n hn => by
    have hm : ∀ q, q < 6 → m ≠ some q := fun q hq e => by have := (h8 q e).1; omega
    rcases hn with e | e | e | e | e
    · subst e; exact ⟨by omega, by omega, hm _ (by omega)⟩
    · subst e; exact ⟨by omega, by omega, hm _ (by omega)⟩
    · subst e; exact ⟨by omega, by omega, hm _ (by omega)⟩
    · subst e; exact ⟨by omega, by omega, hm _ (by omega)⟩
    · have := h7 n e
      exact ⟨by omega, by omega, fun e2 => (h8 n e2).2 e⟩
  refine scompact_at hG h1 (by omega) rev fun h' hs' hk' => hK h' ⟨⟨rl, cutBase base R rev, D, T, m, Dc, ?_, h2, ?_, ?_, h5.keepX hk' (fun c => (hown 4 c).1 rfl) (fun q hq c => (hown q c).2.2 hq), h6, h7, h8⟩, hw.all, hw.rel.keep hk' (fun c => (hown 5 c).2.1 rfl), hw.was.keep hk' (fun e c => hnow e c), Nat.le_trans hw.top hk'.next⟩
  · rw [kept_kept, kept_cut hw.all h3] at hs'; exact hs'
  · unfold cutBase; split <;> split <;> omega
  · have hle : (kept all (cutBase base R rev)).length ≤ (kept all base).length := by
      rw [← kept_cut hw.all h3, ← kept_kept]
      exact List.length_filter_le _ _
    omega
end
end Go.Eng
