/-
ElectOne: of replicas whose clocks drift by no more than the margin no two lead at once.
-/
import Derived.Test.YtomcdckppplieaaGreatElP
import Derived.Test.YtomcdckppplieaaGreatEl4
import Derived.Test.YtomcdckppplieaaGreatEl6
import Derived.Test.YtomcdckppplieaaGreatLo4
import Derived.Test.YtomcdckppplieaaGreatClk2
import Derived.Test.YtomcdckppplieaaGreatAfO
set_option linter.unusedVariables false
set_option linter.unusedSimpArgs false
namespace Go.Eng
open Go
def freshE (i : Nat) : ElD := ⟨i, false, false, 0, 0, 0, 0, false, 0, 0, 0⟩
def ekR (j : Nat) : List V := [.p (.g (6 + j)) 0]
def esR (n : Nat) : List (List V) := (List.range n).map ekR
theorem esR_get {n j i : Nat} (e : i = j) (h : j < n) : (esR n)[i]? = some (ekR j) := by
  subst e
  unfold esR
  rw [List.getElem?_map, List.getElem?_range h]
  rfl
theorem esR_succ (n : Nat) : esR (n + 1) = esR n ++ [ekR n] := by
  unfold esR
  rw [List.range_succ, List.map_append]
  rfl
/-- The replicas. -/
structure ElsAt (h : Heap) (n : Nat) (E : Nat → ElD) : Prop where
  lt : 6 + n ≤ h.next
  at_ : ∀ j, j < n → h.get (6 + j) = some (.cs (electR (E j)))
theorem ElsAt.keep {h h' : Heap} {n : Nat} {E : Nat → ElD} (he : ElsAt h n E) {but : Nat → Prop} (hk : Heap.Keeps but h h') (hb : ∀ j, j < n → ¬ but (6 + j)) : ElsAt h' n E :=
  ⟨by have := he.lt; have := hk.next; omega, fun j hj => (hk.same (6 + j) (by have := he.lt; omega) (hb j hj)).trans (he.at_ j hj)⟩
theorem ElsAt.upd {h h' : Heap} {n : Nat} {E : Nat → ElD} (he : ElsAt h n E) {k : Nat} {e' : ElD} (hk : Heap.Keeps (fun j => j = 6 + k) h h') (hg : h'.get (6 + k) = some (.cs (electR e'))) : ElsAt h' n (updE E k e') :=
  ⟨by have := he.lt; have := hk.next; omega, fun j hj => by
    by_cases e : j = k
    · subst e; rw [updE_self]; exact hg
    · rw [updE_ne e]
      exact (hk.same (6 + j) (by have := he.lt; omega) (by omega)).trans (he.at_ j hj)⟩
def curOf (R : Int) (hold : Int → Nat) : CurD := if R ≤ 0 then none else some (R, leaseB (hold R))
def lateR (x : Nat × Int) : List V := [.i .i64 x.1, .sl none 3 [guR x.2], .sl none 3 [wrR (leaseB x.1)]]
def LateAt (lo : Heap) (v : V) (Ls : List (Nat × Int)) : Prop :=
  (Ls = [] ∧ v = .nils) ∨ (Ls ≠ [] ∧ ∃ k, v = .sl (some (.l k)) 3 (Ls.map lateR) ∧ k < lo.next ∧ lo.get k = some .spare)
theorem LateAt.keep {lo lo' : Heap} {v : V} {Ls : List (Nat × Int)} (hl : LateAt lo v Ls) (hk : Heap.Keeps (fun _ => False) lo lo') : LateAt lo' v Ls := by
  rcases hl with h1 | ⟨h0, k', h1, h2, h3⟩
  · exact .inl h1
  · exact .inr ⟨h0, k', h1, Nat.lt_of_lt_of_le h2 hk.next, (hk.same k' h2 id).trans h3⟩
def opR (o : Int × Int × Int) : List V := [.i .i64 o.1, .i .i64 o.2.1, .i .i64 o.2.2]
theorem rem_k {x : Int} {n : Nat} (hn : 0 < n) (hb : n ≤ 1000) : ∃ m : Nat, m < n ∧ (x.tmod n + n).tmod n = (m : Int) ∧ (-9223372036854775808 ≤ x.tmod n + n ∧ x.tmod n + n ≤ 9223372036854775807) := by
  have h1 : x.tmod n < n := Int.tmod_lt_of_pos x (by omega)
  have h2 := Int.lt_tmod_of_pos x (b := (n : Int)) (by omega)
  refine ⟨((x.tmod n + n).tmod n).toNat, ?_, ?_, by omega⟩
  · have h3 : (x.tmod n + n).tmod n < n := Int.tmod_lt_of_pos _ (by omega)
    have h4 : 0 ≤ (x.tmod n + n).tmod n := Int.tmod_nonneg _ (by omega)
    omega
  · have h4 : 0 ≤ (x.tmod n + n).tmod n := Int.tmod_nonneg _ (by omega)
    omega
structure Wd (n i : Nat) (h : Heap) (E : Nat → ElD) (now : Nat → Int) (R : Int) (hold : Int → Nat) (T : Int) (t u : Nat → Int) (d : Int) (Ls : List (Nat × Int)) (cc : Nat) (lw hw : Nat → Int) : Prop where
  store : StoreL h 3 0 1 2 cc R (curOf R hold)
  cc : cc = 2 ∨ 6 + n ≤ cc
  clk : h.get 5 = some (.cs (clkC 4 n lw hw))
  row : h.get 4 = some (.arr 1 (arrI n now))
  els : ElsAt h n E
  one : One n E now R hold T t u
  drift : 0 ≤ d ∧ d ≤ 100 ∧ ∀ j, j < n → now j ≤ T + d
  time : 0 ≤ T ∧ T ≤ 700 * i
  rev : R ≤ i
  hld : ∀ r, 0 < r → r ≤ R → hold r < n
  ok : ∀ j, j < n → (E j).ok
  low : ∀ p, -100 ≤ lw p ∧ lw p ≤ 100 ∧ -100 ≤ hw p ∧ hw p ≤ 100
  late : ∀ x ∈ Ls, SentOk n E R hold T t x.1 x.2
  few : Ls.length ≤ i
theorem owns_out {n cc j : Nat} (hcc : cc = 2 ∨ 6 + n ≤ cc) (hj : j = 4 ∨ j = 5 ∨ (6 ≤ j ∧ j < 6 + n)) : ¬ owns 3 0 1 2 cc j := by
  rintro (h | h | h | h | h) <;> omega
theorem Wd.two {n i k : Nat} {h h2 h3 : Heap} {E : Nat → ElD} {e' : ElD} {now : Nat → Int} {R R2 : Int} {hold hold2 : Int → Nat} {T : Int} {t u t2 u2 : Nat → Int} {d : Int} {Ls Ls2 : List (Nat × Int)} {cc cc2 : Nat} {lw hw : Nat → Int}
    (W : Wd n i h E now R hold T t u d Ls cc lw hw) (hs2 : StoreL h2 3 0 1 2 cc2 R2 (curOf R2 hold2)) (hcc2 : cc2 = 2 ∨ 6 + n ≤ cc2) (k2 : Heap.Keeps (owns 3 0 1 2 cc) h h2) (k3 : Heap.Keeps (fun j => j = 6 + k) h2 h3) (hkn : k < n)
    (hg : h3.get (6 + k) = some (.cs (electR e'))) (hone : One n (updE E k e') now R2 hold2 T t2 u2) (hrev : R2 ≤ ((i + 1 : Nat) : Int)) (hld2 : ∀ r, 0 < r → r ≤ R2 → hold2 r < n) (hok : e'.ok)
    (hlate : ∀ x ∈ Ls2, SentOk n (updE E k e') R2 hold2 T t2 x.1 x.2) (hfew : Ls2.length ≤ i + 1) : Wd n (i + 1) h3 (updE E k e') now R2 hold2 T t2 u2 d Ls2 cc2 lw hw := by
  have hl := W.els.lt
  have hn2 := k2.next
  refine ⟨hs2.other k3 (fun j hj e => ?_), hcc2, (k3.same 5 (by omega) (by omega)).trans ((k2.same 5 (by omega) (owns_out W.cc (by omega))).trans W.clk), (k3.same 4 (by omega) (by omega)).trans ((k2.same 4 (by omega) (owns_out W.cc (by omega))).trans W.row),
    (W.els.keep k2 (fun j hj => owns_out W.cc (by omega))).upd k3 hg, hone, W.drift, ⟨W.time.1, by have := W.time.2; omega⟩, hrev, hld2, fun j hj => ?_, W.low, hlate, hfew⟩
  · exact owns_out hcc2 (j := j) (by omega) hj
  · by_cases e : j = k
    · subst e; rw [updE_self]; exact hok
    · rw [updE_ne e]; exact W.ok j hj
theorem see_ok {e : ElD} (he : e.ok) {now rev hl du : Int} {there : Bool} (hn : TimeOk now) (hd : 0 ≤ du ∧ du ≤ 1000) : (seeE e now rev hl du there).ok := by
  unfold seeE
  dsimp only
  by_cases c1 : (e.seen && decide ((if there = true then rev else 0) < e.rev)) = true
  · rw [if_pos c1]; exact he
  · rw [if_neg c1]
    obtain ⟨a1, a2, a3, a4⟩ := he
    refine ⟨?_, ?_, ?_, ?_⟩
    · have hh : ∀ b : Bool, TimeOk (if b = true then now else e.since) := fun b => by cases b; exact a1; exact hn
      exact hh _
    · exact a2
    · exact a3
    · cases there
      · exact ⟨Int.le_refl 0, (by decide : (0 : Int) ≤ 1000)⟩
      · exact hd
theorem Wd.more {n i : Nat} {h : Heap} {E : Nat → ElD} {now : Nat → Int} {R : Int} {hold : Int → Nat} {T : Int} {t u : Nat → Int} {d : Int} {Ls : List (Nat × Int)} {cc : Nat} {lw hw : Nat → Int} (W : Wd n i h E now R hold T t u d Ls cc lw hw) : Wd n (i + 1) h E now R hold T t u d Ls cc lw hw :=
  { W with time := ⟨W.time.1, by have := W.time.2; omega⟩, rev := by have := W.rev; omega, few := Nat.le_succ_of_le W.few }
theorem Wd.alike {n i k : Nat} {h h2 : Heap} {E : Nat → ElD} {e' : ElD} {now : Nat → Int} {R : Int} {hold : Int → Nat} {T : Int} {t u : Nat → Int} {d : Int} {Ls : List (Nat × Int)} {cc : Nat} {lw hw : Nat → Int}
    (W : Wd n i h E now R hold T t u d Ls cc lw hw) (k3 : Heap.Keeps (fun j => j = 6 + k) h h2) (hkn : k < n) (hg : h2.get (6 + k) = some (.cs (electR e'))) (he : AlikeE e' (E k)) (hok : e'.ok) : Wd n i h2 (updE E k e') now R hold T t u d Ls cc lw hw := by
  have hl := W.els.lt
  have ha : ∀ j, j < n → AlikeE (updE E k e' j) (E j) := fun j _ => by
    by_cases e : j = k
    · subst e; rw [updE_self]; exact he
    · rw [updE_ne e]; exact ⟨rfl, rfl, rfl, rfl, rfl, rfl, rfl, rfl, rfl⟩
  refine ⟨W.store.other k3 (fun j hj e => ?_), W.cc, (k3.same 5 (by omega) (by omega)).trans W.clk, (k3.same 4 (by omega) (by omega)).trans W.row, W.els.upd k3 hg, W.one.alike ha, W.drift, W.time, W.rev, W.hld, fun j hj => ?_, W.low, fun x hx => (W.late x hx).alike ha, W.few⟩
  · exact owns_out W.cc (j := j) (by omega) hj
  · by_cases e : j = k
    · subst e; rw [updE_self]; exact hok
    · rw [updE_ne e]; exact W.ok j hj
theorem Wd.put {n i : Nat} {h h2 : Heap} {E : Nat → ElD} {now : Nat → Int} {R R2 : Int} {hold hold2 : Int → Nat} {T : Int} {t u : Nat → Int} {d : Int} {Ls Ls2 : List (Nat × Int)} {cc cc2 : Nat} {lw hw : Nat → Int}
    (W : Wd n i h E now R hold T t u d Ls cc lw hw) (hs2 : StoreL h2 3 0 1 2 cc2 R2 (curOf R2 hold2)) (hcc2 : cc2 = 2 ∨ 6 + n ≤ cc2) (k2 : Heap.Keeps (owns 3 0 1 2 cc) h h2) (hone : One n E now R2 hold2 T t u) (hrev : R2 ≤ ((i + 1 : Nat) : Int)) (hld2 : ∀ r, 0 < r → r ≤ R2 → hold2 r < n)
    (hlate : ∀ x ∈ Ls2, SentOk n E R2 hold2 T t x.1 x.2) (hfew : Ls2.length ≤ i + 1) : Wd n (i + 1) h2 E now R2 hold2 T t u d Ls2 cc2 lw hw := by
  have hl := W.els.lt
  exact ⟨hs2, hcc2, (k2.same 5 (by omega) (owns_out W.cc (by omega))).trans W.clk, (k2.same 4 (by omega) (owns_out W.cc (by omega))).trans W.row,
    W.els.keep k2 (fun j hj => owns_out W.cc (by omega)), hone, W.drift, ⟨W.time.1, by have := W.time.2; omega⟩, hrev, hld2, W.ok, W.low, hlate, hfew⟩
def holdN (R : Int) (hold : Int → Nat) (k : Nat) : Int → Nat := fun r => if r = R + 1 then k else hold r
theorem cur_now {R : Int} (h0 : 0 ≤ R) (hold : Int → Nat) : curRev (curOf R hold) = R := by
  unfold curOf
  by_cases hR : R ≤ 0
  · rw [if_pos hR]
    show (0 : Int) = R
    omega
  · rw [if_neg hR]
    rfl
theorem cur_next {R : Int} (h0 : 0 ≤ R) (hold : Int → Nat) (k : Nat) : curOf (R + 1) (holdN R hold k) = some (R + 1, leaseB k) := by
  unfold curOf holdN
  rw [if_neg (by omega), if_pos rfl]
theorem hold_lt {n k : Nat} {R : Int} {hold : Int → Nat} (hk : k < n) (h : ∀ r, 0 < r → r ≤ R → hold r < n) : ∀ r, 0 < r → r ≤ R + 1 → holdN R hold k r < n := fun r h1 h2 => by
  unfold holdN
  by_cases e : r = R + 1
  · rw [if_pos e]; exact hk
  · rw [if_neg e]; exact h r h1 (by omega)
def rowA (k : Nat) (D x : Int) : Nat → Int := fun q => if q = k then D + x else D
theorem Wd.may {n i : Nat} {h : Heap} {E : Nat → ElD} {now : Nat → Int} {R : Int} {hold : Int → Nat} {T : Int} {t u : Nat → Int} {d : Int} {Ls : List (Nat × Int)} {cc : Nat} {lw hw : Nat → Int} (W : Wd n i h E now R hold T t u d Ls cc lw hw)
    (hi : i ≤ 150) (k : Nat) {D x : Int} (hD : 0 ≤ D ∧ D ≤ 700) (hx : 0 ≤ x ∧ x ≤ 100) : tickMay n n now (rowA k D x) := by
  intro j hj
  have h1 := W.one.clk j (by omega)
  have h2 := W.time
  unfold rowA
  by_cases e : j = k
  · rw [if_pos e]; omega
  · rw [if_neg e]; omega
theorem Wd.tick {n i : Nat} {h h' : Heap} {E : Nat → ElD} {now : Nat → Int} {R : Int} {hold : Int → Nat} {T : Int} {t u : Nat → Int} {d : Int} {Ls : List (Nat × Int)} {cc : Nat} {lw hw : Nat → Int} (W : Wd n i h E now R hold T t u d Ls cc lw hw)
    (k : Nat) {D x : Int} (hD : 0 ≤ D ∧ D ≤ 700) (hx : 0 ≤ x ∧ d + x ≤ 100) (hk : Heap.Keeps (fun j => j = 5 ∨ j = 4) h h')
    (h5 : h'.get 5 = some (.cs (clkC 4 n (tickLo n (tickNow (min n n) now (rowA k D x)) lw) (tickHi n (tickNow (min n n) now (rowA k D x)) hw)))) (h4 : h'.get 4 = some (.arr 1 (arrI n (tickNow (min n n) now (rowA k D x))))) :
    Wd n (i + 1) h' E (tickNow (min n n) now (rowA k D x)) R hold (T + D) t u (d + x) Ls cc (tickLo n (tickNow (min n n) now (rowA k D x)) lw) (tickHi n (tickNow (min n n) now (rowA k D x)) hw) := by
  have hn : ∀ j, j < n → tickNow (min n n) now (rowA k D x) j = now j + rowA k D x j := fun j hj => by
    unfold tickNow
    rw [if_pos (by omega)]
  have hra : ∀ j, D ≤ rowA k D x j ∧ rowA k D x j ≤ D + x := fun j => by
    unfold rowA
    split <;> omega
  have hdr := W.drift
  have hb : ∀ j, j < n → T + D ≤ tickNow (min n n) now (rowA k D x) j ∧ tickNow (min n n) now (rowA k D x) j ≤ T + D + (d + x) ∧ now j + D ≤ tickNow (min n n) now (rowA k D x) j := fun j hj => by
    rw [hn j hj]
    have h1 := hra j
    have h2 := W.one.clk j hj
    have h3 := hdr.2.2 j hj
    omega
  have hl := W.els.lt
  have hs := W.store
  generalize tickNow (min n n) now (rowA k D x) = now' at *
  refine ⟨W.store.other hk (fun j hj e => owns_out W.cc (j := j) (by omega) hj), W.cc, h5, h4, W.els.keep hk (fun j hj => by omega), W.one.tick hD.1 (fun j hj => by have := hb j hj; omega), ⟨by omega, hx.2, fun j hj => by have := hb j hj; omega⟩, ⟨by have := W.time; omega, by have := W.time; omega⟩, by have := W.rev; omega, W.hld, W.ok, fun p => ?_, fun y hy => (W.late y hy).tick hD.1, Nat.le_succ_of_le W.few⟩
  have hl2 := W.low p
  have hdif : p / 8 < n ∧ p % 8 < n → -100 ≤ now' (p / 8) - now' (p % 8) ∧ now' (p / 8) - now' (p % 8) ≤ 100 := fun hc => by
    have h1 := hb _ hc.1
    have h2 := hb _ hc.2
    omega
  unfold tickLo tickHi
  by_cases hc : p / 8 < n ∧ p % 8 < n
  · rw [if_pos hc, if_pos hc]
    have h1 := hdif hc
    unfold minI maxI
    split <;> split <;> omega
  · rw [if_neg hc, if_neg hc]
    exact hl2
section
variable {P : Program} (hG : FnsOk P AF.fns.get)
include hG
theorem enew_at (i : Nat) (hi : i ≤ 7) {h : Heap} {K : V → Heap → Prop} (hK : K (.p (.g h.next) 0) (h.push (.cs (electR (freshE i))))) : ACall P 10 [.i .i64 i] h K := by
  refine fn_sv (hG _ AF.f10 rfl) rfl ?_
  ((conv => whnf); repeat ((first | refine yf rfl ?_ | refine yt rfl ?_ | refine yo rfl ?_ | refine yc rfl ?_ | refine ys rfl ?_ | refine ye rfl ?_ | refine yn rfl ?_ | refine zw ?_ | refine zdt ?_ | refine zdf ?_ | refine znt ?_ | refine znf ?_ | refine zcd ?_ | refine zci ?_ | refine zc3 ?_) <;> (conv => whnf)))
  exact hK
/-- Refused: it leads no more. -/
theorem refused_at {h : Heap} {a : Nat} {e : ElD} (ha : h.get a = some (.cs (electR e))) (hout : e.out = true) (now rev : Int) {K : V → Heap → Prop}
    (hK : ∀ h', h'.get a = some (.cs (electR { e with out := false, term := 0 })) → Heap.Keeps (fun j => j = a) h h' → K (.tup []) h') : ACall P 17 [.p (.g a) 0, .i .i64 now, .i .i64 rev, .i .i64 6] h K := by
  obtain ⟨me, seen, there, rv, holder, dur, since, out, sent, term, frm⟩ := e
  dsimp only at hout
  subst hout
  have s1 : ∀ o, (h.set a o).get a = some o := fun o => Heap.get_set_self ha
  have s2 : ∀ o1 o2, ((h.set a o1).set a o2).get a = some o2 := fun o1 o2 => Heap.get_set_self (s1 _)
  have hN := fun o1 => hK _ (s2 o1 _) (((Heap.Keeps.refl (fun j => j = a) h).set (.inl rfl) _).set (.inl rfl) _)
  refine fn_sv (hG _ AF.f17 rfl) rfl ?_
  ((conv => whnf); repeat ((first | refine SCall.app (fn_sv (hG _ _ rfl) rfl) ?_ | refine SEx.of (ha) ?_ | refine SEx.of (s1 _) ?_ | refine SEx.of (s2 _ _) ?_ | refine yf rfl ?_ | refine yt rfl ?_ | refine yo rfl ?_ | refine yc rfl ?_ | refine ys rfl ?_ | refine ye rfl ?_ | refine yn rfl ?_ | refine zw ?_ | refine zdt ?_ | refine zdf ?_ | refine znt ?_ | refine znf ?_ | refine zcd ?_ | refine zci ?_ | refine zc3 ?_) <;> (conv => whnf)))
  exact hN _
theorem getL_no (hA : AddAt P) {h : Heap} {a m0 m1 lg c : Nat} {rev : Int} (hs : StoreL h a m0 m1 lg c rev none) {K : V → Heap → Prop}
    (hK : ∀ h', StoreL h' a m0 m1 lg c rev none → Heap.Keeps (owns a m0 m1 lg c) h h' → K (.tup [.agg [.s [], .i .i64 0, .sl none 1 []], .b false]) h') : ACall P 12 [.p (.g a) 0, .s lS] h K :=
  getL_at hG hA hs (fun r b hb => by cases hb) hK
theorem getL_yes (hA : AddAt P) {h : Heap} {a m0 m1 lg c : Nat} {rev r : Int} {b : List Int} (hs : StoreL h a m0 m1 lg c rev (some (r, b))) (hb : b.length ≤ 4000) {K : V → Heap → Prop}
    (hK : ∀ h', StoreL h' a m0 m1 lg c rev (some (r, b)) → Heap.Keeps (owns a m0 m1 lg c) h h' → K (.tup [.agg [.s lS, .i .i64 r, lb b], .b true]) h') : ACall P 12 [.p (.g a) 0, .s lS] h K :=
  getL_at hG hA hs (fun r' b' hb' => by cases hb'; exact hb) hK
set_option maxHeartbeats 16000000 in
set_option maxRecDepth 20000 in
theorem electOne_ok (hk : okFn P 3 AF.eo = true) (hA : AddAt P) (hb : ACall P 7 [] noG (fun r _ => r = .b true)) (n0 : Int) (ops : List (Int × Int × Int)) (hl : ops.length ≤ 9223372036854775807) :
    ACall P 3 [.i .i64 n0, .sl none 3 (ops.map opR)] noG (fun r _ => r = .b true) := by
  have s1 : n0.tmod 7 < 7 := Int.tmod_lt_of_pos n0 (by decide)
  have s2 := Int.lt_tmod_of_pos n0 (b := 7) (by decide)
  have s3 : (n0.tmod 7 + 7).tmod 7 < 7 := Int.tmod_lt_of_pos _ (by decide)
  have s4 : 0 ≤ (n0.tmod 7 + 7).tmod 7 := Int.tmod_nonneg _ (by omega)
  obtain ⟨n, hn⟩ : ∃ n : Nat, 2 + (n0.tmod 7 + 7).tmod 7 = (n : Int) := ⟨(2 + (n0.tmod 7 + 7).tmod 7).toNat, by omega⟩
  have hn2 : 2 ≤ n := by omega
  have hn8 : n ≤ 8 := by omega
  have hcl : clampN (n : Int) = n := by
    obtain ⟨h1, h2, h3⟩ := clampN_in (n : Int)
    rw [if_neg (show ¬ 8 < (if (n : Int) < 1 then 1 else (n : Int)) by split <;> omega), if_neg (by omega)] at h3
    omega
  refine fn_sv hk rfl ?_
  ((conv => whnf); repeat ((first | refine yf rfl ?_ | refine yt rfl ?_ | refine yo rfl ?_ | refine yc rfl ?_ | refine ys rfl ?_ | refine ye rfl ?_ | refine yn rfl ?_ | refine zw ?_ | refine zdt ?_ | refine zdf ?_ | refine znt ?_ | refine znf ?_ | refine zcd ?_ | refine zci ?_ | refine zc3 ?_) <;> (conv => whnf)))
  refine ⟨hb.frame rfl fun v h' hv => ?_⟩
  subst hv
  refine ⟨rfl, ?_⟩
  ((conv => whnf); repeat ((first | refine SCall.app (fn_sv (hG _ AF.f8 rfl) rfl) ?_ | refine SCall.app (fn_sv (hG _ AF.f45 rfl) rfl) ?_ | refine yf rfl ?_ | refine yt rfl ?_ | refine yo rfl ?_ | refine yc rfl ?_ | refine ys rfl ?_ | refine ye rfl ?_ | refine yn rfl ?_ | refine zw ?_ | refine zdt ?_ | refine zdf ?_ | refine znt ?_ | refine znf ?_ | refine zcd ?_ | refine zci ?_ | refine zc3 ?_) <;> (conv => whnf)))
  rw [hn]
  have hnew := fun (K : V → Heap → Prop) => new_ok hG (h := (⟨4, [(3, .cs [.i .i64 0, .m (.g 0), .m (.g 1), .p (.g 2) 0, .i .i64 0, .i .i64 0]), (2, .cs [.nils, .i .i64 64, .i .i64 0, .i .i64 0]), (1, .mp none []), (0, .mp none [])]⟩ : Heap)) (n : Int) (K := K)
  ((conv => whnf); repeat ((first | refine SCall.app (hnew _) ?_ | refine yf rfl ?_ | refine yt rfl ?_ | refine yo rfl ?_ | refine yc rfl ?_ | refine ys rfl ?_ | refine ye rfl ?_ | refine yn rfl ?_ | refine zw ?_ | refine zdt ?_ | refine zdf ?_ | refine znt ?_ | refine znf ?_ | refine zcd ?_ | refine zci ?_ | refine zc3 ?_) <;> (conv => whnf)))
  rw [hcl]
  intro h1 k1 hn1 hc1 hr1
  have hn6 : h1.next = 6 := hn1
  have hst0 : StoreL h1 3 0 1 2 2 0 none := StoreL.other ⟨⟨by decide, by decide, by decide⟩, ⟨by decide, by decide, by decide, by decide, by decide, by decide, by decide, by decide, by decide⟩, ⟨0, 0, rfl⟩, rfl, ⟨none, rfl⟩, [], 0, Int.le_refl _, by decide, ⟨by decide, by decide, .nil, (fun x hx => by cases hx), 0, .inl ⟨rfl, rfl, rfl⟩⟩⟩ k1 (fun _ _ => id)
  ((conv => whnf); repeat ((first | refine yf rfl ?_ | refine yt rfl ?_ | refine yo rfl ?_ | refine yc rfl ?_ | refine ys rfl ?_ | refine ye rfl ?_ | refine yn rfl ?_ | refine zw ?_ | refine zdt ?_ | refine zdf ?_ | refine znt ?_ | refine znf ?_ | refine zcd ?_ | refine zci ?_ | refine zc3 ?_) <;> (conv => whnf)))
  refine SLoopV.by (fun q fr st => ∃ (i : Nat) (h lo : Heap) (v : V), i ≤ n ∧ q = n - i ∧ h.next = 6 + i ∧ Heap.Keeps (fun _ => False) h1 h ∧ ElsAt h i (fun j => freshE j) ∧ ((i = 0 ∧ v = .nils) ∨ (0 < i ∧ ∃ k, v = .ms (.l k) 1 0 i ∧ k < lo.next ∧ lo.get k = some (.arr 1 (esR i)))) ∧
      Fr.le [(9, .i .i64 i), (8, v), (7, .p (.g 5) 0), (6, .p (.g 3) 0), (1, .sl none 3 (ops.map opR)), (0, .i .i64 n)] fr ∧ st = ⟨h, lo⟩)
    n ⟨0, h1, _, .nils, Nat.zero_le _, rfl, hn6, Heap.Keeps.refl _ _, ⟨by omega, fun j hj => absurd hj (Nat.not_lt_zero _)⟩, .inl ⟨rfl, rfl⟩, (by repeat (first | exact Fr.le_nil | refine Fr.le_cons rfl ?_)), rfl⟩ ?_
  rintro q fr st ⟨i, h, lo, v, hi, rfl, hhn, hkp, hels, hv, hle0, rfl⟩
  refine ⟨_, hle0, fun R hR => ?_⟩
  by_cases hin : i < n
  · have hen := fun (K : V → Heap → Prop) (hK : K (.p (.g (6 + i)) 0) (h.push (.cs (electR (freshE i))))) => enew_at hG i (by omega) (h := h) (K := K) (by rw [hhn]; exact hK)
    have hels2 : ElsAt (h.push (.cs (electR (freshE i)))) (i + 1) (fun j => freshE j) := ⟨by rw [Heap.next_push]; omega, fun j hj => by
      by_cases e : j = i
      · subst e
        rw [← hhn]
        exact Heap.get_push_self _ _
      · exact Heap.gp (by omega) (hels.at_ j (by omega))⟩
    rcases hv with ⟨rfl, rfl⟩ | ⟨hi0, k, rfl, hkn, hks⟩
    · have g1 : ∀ o, (lo.push o).get lo.next = some o := fun o => Heap.get_push_self _ o
      ((conv => whnf); repeat ((first | refine SCall.app (hen _) ?_ | refine SEx.of (g1 _) ?_ | refine yf rfl ?_ | refine yt rfl ?_ | refine yo rfl ?_ | refine yc rfl ?_ | refine ys rfl ?_ | refine ye rfl ?_ | refine yn rfl ?_ | refine zw ?_ | refine zdt ?_ | refine zdf ?_ | refine znt ?_ | refine znf ?_ | refine zcd ?_ | refine zci ?_ | refine zc3 ?_) <;> (conv => whnf)))
      exact hR (n - (0 + 1)) _ _ (by omega) ⟨0 + 1, _, (lo.push (.arr 1 [ekR 0])).push (.arr 1 [ekR 0]), _, by omega, rfl, by rw [Heap.next_push]; omega, hkp.push _, hels2, .inr ⟨by omega, lo.next + 1, rfl, by show lo.next + 1 < lo.next + 1 + 1; omega, Heap.get_push_self _ _⟩, (by repeat (first | exact Fr.le_nil | refine Fr.le_cons rfl ?_)), rfl⟩
    · have hsnoc : (((esR i).take (0 + i)).drop 0) ++ [ekR i] = esR (i + 1) := by
        rw [esR_succ, List.drop_zero, List.take_of_length_le (by simp [esR])]
      have hel : (esR i).length = i := by simp [esR]
      have g1 : ∀ o, (lo.push o).get lo.next = some o := fun o => Heap.get_push_self _ o
      have p1 : ∀ o, (lo.push o).get k = some (.arr 1 (esR i)) := fun o => Heap.gp (by omega) hks
      ((conv => whnf); repeat ((first | refine SCall.app (hen _) ?_ | refine SChk.mk (by simp [roomOk]; omega) ?_ | refine SChk.mk (decide_eq_true (show 0 + i ≤ (esR i).length by omega)) ?_ | refine SIf.df (show ¬ 0 + i + 1 ≤ (esR i).length by omega) ?_ | refine SEx.of (congrArg some hsnoc) ?_ | refine SEx.of (g1 _) ?_ | refine SEx.of (p1 _) ?_ | refine yf rfl ?_ | refine yt rfl ?_ | refine yo rfl ?_ | refine yc rfl ?_ | refine ys rfl ?_ | refine ye rfl ?_ | refine yn rfl ?_ | refine zw ?_ | refine zdt ?_ | refine zdf ?_ | refine znt ?_ | refine znf ?_ | refine zcd ?_ | refine zci ?_ | refine zc3 ?_) <;> (conv => whnf)))
      exact hR (n - (i + 1)) _ _ (by omega) ⟨i + 1, _, ((lo.push (.arr 1 [ekR i])).remove k).push (.arr 1 (esR (i + 1))), _, by omega, rfl, by rw [Heap.next_push]; omega, hkp.push _, hels2, .inr ⟨by omega, lo.next + 1, rfl, by show lo.next + 1 < lo.next + 1 + 1; omega, Heap.get_push_self ((lo.push (.arr 1 [ekR i])).remove k) _⟩, (by repeat (first | exact Fr.le_nil | refine Fr.le_cons rfl ?_)), rfl⟩
  · obtain rfl : n = i := by omega
    obtain ⟨h0, _⟩ | ⟨_, ek, rfl, hekn, heks⟩ := hv
    · omega
    · clear hR
      ((conv => whnf); repeat ((first | refine yf rfl ?_ | refine yt rfl ?_ | refine yo rfl ?_ | refine yc rfl ?_ | refine ys rfl ?_ | refine ye rfl ?_ | refine yn rfl ?_ | refine zw ?_ | refine zdt ?_ | refine zdf ?_ | refine znt ?_ | refine znf ?_ | refine zcd ?_ | refine zci ?_ | refine zc3 ?_) <;> (conv => whnf)))
      have t0 : TimeOk 0 := ⟨Int.le_refl 0, by decide⟩
      have hw0 : Wd n 0 h (fun j => freshE j) (fun _ => 0) 0 (fun _ => 0) 0 (fun _ => 0) (fun _ => 0) 0 [] 2 (fun _ => 0) (fun _ => 0) := by
        refine ⟨hst0.other hkp (fun _ _ => id), .inl rfl, (hkp.same 5 (by omega) id).trans ?_, (hkp.same 4 (by omega) id).trans ?_, hels, ?_, ⟨by decide, by decide, fun j _ => by decide⟩, ⟨by decide, by decide⟩, by decide, fun r _ _ => by omega, fun j _ => ⟨t0, t0, t0, ⟨Int.le_refl 0, show (0 : Int) ≤ 1000 by decide⟩⟩, fun p => by decide, fun x hx => (by cases hx), Nat.le_refl 0⟩
        · exact hc1
        · exact hr1
        · exact ⟨Int.le_refl 0, fun j _ => ⟨Int.le_refl 0, (by decide)⟩, fun j _ => rfl, fun j _ hs => (by cases hs), fun j _ ht => absurd ht (Int.lt_irrefl 0), fun j k _ _ ht => absurd ht (Int.lt_irrefl 0), fun j _ ht => absurd ht (Int.lt_irrefl 0)⟩
      clear hst0 hkp hels hc1 hr1 k1 hn1 hhn
      refine SLoopV.by (fun q fr st => ∃ (i : Nat) (h lo : Heap) (E : Nat → ElD) (now : Nat → Int) (R : Int) (hold : Int → Nat) (T : Int) (t u : Nat → Int) (d : Int) (Ls : List (Nat × Int)) (cc : Nat) (lw hw : Nat → Int) (lv : V), i ≤ ops.length ∧ i ≤ 150 ∧ q = 150 - i ∧
          Wd n i h E now R hold T t u d Ls cc lw hw ∧ LateAt lo lv Ls ∧ ek < lo.next ∧ lo.get ek = some (.arr 1 (esR n)) ∧
          Fr.le [(12, .i .i64 i), (11, .i .i64 d), (10, lv), (8, .ms (.l ek) 1 0 n), (7, .p (.g 5) 0), (6, .p (.g 3) 0), (1, .sl none 3 (ops.map opR)), (0, .i .i64 n)] fr ∧ st = ⟨h, lo⟩)
        150 ⟨0, h, lo, _, _, 0, _, 0, _, _, 0, [], 2, _, _, .nils, Nat.zero_le _, Nat.zero_le _, rfl, hw0, .inl ⟨rfl, rfl⟩, hekn, heks, (by repeat (first | exact Fr.le_nil | refine Fr.le_cons rfl ?_)), rfl⟩ ?_
      clear hw0 hekn heks
      clear hn6
      clear h lo h1
      rintro q fr st ⟨i, h, lo, E, now, R, hold, T, t, u, d, Ls, cc, lw, hw, lv, hi, hi150, rfl, W, hlate, hekn, heks, hle0, rfl⟩
      refine ⟨_, hle0, fun RR hR => ?_⟩
      have hon : (ops.map opR).length = ops.length := List.length_map _
      by_cases hin : i < ops.length ∧ i < 150
      · obtain ⟨hi1, hi2⟩ := hin
        have he := List.getElem?_eq_getElem hi1
        generalize ops[i] = o at he
        obtain ⟨k, hkn, hke, hb1, hb2⟩ := rem_k (x := o.2.1) (n := n) (by omega) (by omega)
        have hz : (!decide ((n : Int) = 0)) = true := by rw [decide_eq_false (by omega)]; rfl
        have hel : (esR n).length = n := by simp [esR]
        have hnow := fun (K : V → Heap → Prop) (hK : K (.i .i64 (now k)) h) => now_ok hG W.clk W.row (k : Int) (K := K) (fun x h1 _ => by rw [h1 (by omega) (by omega)]; simpa using hK)
        have e1 : ∀ o o2, ((lo.push o).set lo.next o2).get ek = some (.arr 1 (esR n)) := fun o o2 => Heap.gs (by omega) (Heap.gp (by omega) heks)
        have g2 : ∀ o o2, ((lo.push o).set lo.next o2).get lo.next = some o2 := fun o o2 => Heap.get_set_self (Heap.get_push_self _ _)
        ((conv => whnf); repeat ((first | refine SWrap.w64 hb1 hb2 ?_ | refine SChk.mk hz ?_ | refine SEx.of (map_get' (by omega) he) ?_ | refine SEx.of (Heap.get_push_self _ _) ?_ | refine SEx.of (g2 _ _) ?_ | refine SEx.of (e1 _ _) ?_ | refine yf rfl ?_ | refine yt rfl ?_ | refine yo rfl ?_ | refine yc rfl ?_ | refine ys rfl ?_ | refine ye rfl ?_ | refine yn rfl ?_ | refine zw ?_ | refine zdt ?_ | refine zdf ?_ | refine znt ?_ | refine znf ?_ | refine zcd ?_ | refine zci ?_ | refine zc3 ?_) <;> (conv => whnf)))
        rw [hke]
        have hix : idxOk (k : Int) n = true := by unfold idxOk; rw [decide_eq_true (by omega), decide_eq_true (by omega)]; rfl
        have hek := esR_get (i := 0 + (k : Int).toNat) (n := n) (by omega) hkn
        ((conv => whnf); repeat ((first | refine SChk.mk hix ?_ | refine SCall.app (hnow _) ?_ | refine SChk.mk (decide_eq_true (show 0 + n ≤ (esR n).length by omega)) ?_ | refine SEx.of (e1 _ _) ?_ | refine SEx.of (hek) ?_ | refine SEx.of (g2 _ _) ?_ | refine yf rfl ?_ | refine yt rfl ?_ | refine yo rfl ?_ | refine yc rfl ?_ | refine ys rfl ?_ | refine ye rfl ?_ | refine yn rfl ?_ | refine zw ?_ | refine zdt ?_ | refine zdf ?_ | refine znt ?_ | refine znf ?_ | refine zcd ?_ | refine zci ?_ | refine zc3 ?_) <;> (conv => whnf)))
        -- branches
        have e1n : ∀ o o2, ek < ((lo.push o).set lo.next o2).next := fun o o2 => Nat.lt_succ_of_lt hekn
        have hlt1 : ∀ o o2, LateAt ((lo.push o).set lo.next o2) lv Ls := fun o o2 => by
          rcases hlate with h1 | ⟨h0, k', h1, h2, h3⟩
          · exact .inl h1
          · exact .inr ⟨h0, k', h1, Nat.lt_succ_of_lt h2, Heap.gs (by omega) (Heap.gp (by omega) h3)⟩
        by_cases hk4 : o.1 = 4
        · have W' := W.more
          rcases hlate with ⟨rfl, rfl⟩ | ⟨hLne, lk, rfl, hlkn, hlks⟩
          · ((conv => whnf); repeat ((first | refine yf rfl ?_ | refine yt rfl ?_ | refine yo rfl ?_ | refine yc rfl ?_ | refine ys rfl ?_ | refine ye rfl ?_ | refine yn rfl ?_ | refine zw ?_ | refine zdt ?_ | refine zdf ?_ | refine znt ?_ | refine znf ?_ | refine zcd ?_ | refine zci ?_ | refine zc3 ?_) <;> (conv => whnf)))
            have hdr := fun (K : V → Heap → Prop) (hK : ∀ dd : Int, K (.i .i64 dd) h) => drift_ok hG W'.clk (by omega) (fun a b _ _ => by have := W'.low (a * 8 + b); omega) (K := K) (fun dd _ _ _ => hK dd)
            ((conv => whnf); repeat ((first | refine SCall.app (hdr _) ?_ | refine yf rfl ?_ | refine yt rfl ?_ | refine yo rfl ?_ | refine yc rfl ?_ | refine ys rfl ?_ | refine ye rfl ?_ | refine yn rfl ?_ | refine zw ?_ | refine zdt ?_ | refine zdf ?_ | refine znt ?_ | refine znf ?_ | refine zcd ?_ | refine zci ?_ | refine zc3 ?_) <;> (conv => whnf)))
            intro dd
            (conv => whnf)
            refine SIf.ds (fun _ => ?_) (fun hdd => ?_)
            · ((conv => whnf); repeat ((first | refine yf rfl ?_ | refine yt rfl ?_ | refine yo rfl ?_ | refine yc rfl ?_ | refine ys rfl ?_ | refine ye rfl ?_ | refine yn rfl ?_ | refine zw ?_ | refine zdt ?_ | refine zdf ?_ | refine znt ?_ | refine znf ?_ | refine zcd ?_ | refine zci ?_ | refine zc3 ?_) <;> (conv => whnf)))
            · ((conv => whnf); repeat ((first | refine yf rfl ?_ | refine yt rfl ?_ | refine yo rfl ?_ | refine yc rfl ?_ | refine ys rfl ?_ | refine ye rfl ?_ | refine yn rfl ?_ | refine zw ?_ | refine zdt ?_ | refine zdf ?_ | refine znt ?_ | refine znf ?_ | refine zcd ?_ | refine zci ?_ | refine zc3 ?_) <;> (conv => whnf)))
              refine SLoopV.by (fun q fr st => ∃ (m : Nat) (ld : Int), m ≤ n ∧ q = n - m ∧ ((ld = 0 ∧ ∀ j, j < m → leadsE (E j) (now j) = false) ∨ (ld = 1 ∧ ∃ j0, j0 < m ∧ leadsE (E j0) (now j0) = true)) ∧
                  Fr.le [(208, .i .i64 m), (207, .i .i64 n), (30, .i .i64 ld), (12, .i .i64 i), (11, .i .i64 d), (10, .nils), (8, .ms (.l ek) 1 0 n), (7, .p (.g 5) 0), (6, .p (.g 3) 0), (1, .sl none 3 (ops.map opR)), (0, .i .i64 n)] fr ∧ ∃ lo', lo'.get ek = some (.arr 1 (esR n)) ∧ ek < lo'.next ∧ LateAt lo' .nils [] ∧ st = ⟨h, lo'⟩)
                n ⟨0, 0, Nat.zero_le _, rfl, .inl ⟨rfl, fun j hj => absurd hj (Nat.not_lt_zero _)⟩, (by repeat (first | exact Fr.le_nil | refine Fr.le_cons rfl ?_)), _, e1 _ _, e1n _ _, hlt1 _ _, rfl⟩ ?_
              rintro q fr st ⟨m, ld, hm, rfl, hld, hle1, lo', hek1, hek2, hlt', rfl⟩
              refine ⟨_, hle1, fun R' hR' => ?_⟩
              by_cases hmn : m < n
              · have hget := esR_get (i := 0 + (m : Int).toNat) (n := n) (by omega) hmn
                have hnow2 := fun (K : V → Heap → Prop) (hK : K (.i .i64 (now m)) h) => now_ok hG W'.clk W'.row (m : Int) (K := K) (fun x h1 _ => by rw [h1 (by omega) (by omega)]; simpa using hK)
                have hix2 : idxOk (m : Int) n = true := by unfold idxOk; rw [decide_eq_true (by omega), decide_eq_true (by omega)]; rfl
                have htm : TimeOk (now m) := by
                  have h1 := W'.one.clk m hmn
                  have h2 := W'.time
                  unfold TimeOk
                  omega
                have hlead := fun (K : V → Heap → Prop) => eleads_at hG (W'.els.at_ m hmn) (W'.ok m hmn) htm (K := K)
                cases hL : leadsE (E m) (now m) with
                | false =>
                  rw [hL] at hlead
                  ((conv => whnf); repeat ((first | refine SChk.mk hix2 ?_ | refine SChk.mk (decide_eq_true (show 0 + n ≤ (esR n).length by omega)) ?_ | refine SCall.app (hnow2 _) ?_ | refine SCall.app (hlead _) ?_ | refine SEx.of (hek1) ?_ | refine SEx.of (hget) ?_ | refine yf rfl ?_ | refine yt rfl ?_ | refine yo rfl ?_ | refine yc rfl ?_ | refine ys rfl ?_ | refine ye rfl ?_ | refine yn rfl ?_ | refine zw ?_ | refine zdt ?_ | refine zdf ?_ | refine znt ?_ | refine znf ?_ | refine zcd ?_ | refine zci ?_ | refine zc3 ?_) <;> (conv => whnf)))
                  refine hR' (n - (m + 1)) _ _ (by omega) ⟨m + 1, ld, by omega, rfl, ?_, (by repeat (first | exact Fr.le_nil | refine Fr.le_cons rfl ?_)), lo', hek1, hek2, hlt', rfl⟩
                  rcases hld with ⟨h1, h2⟩ | h1
                  · exact .inl ⟨h1, fun j hj => by
                      by_cases e : j = m
                      · subst e; exact hL
                      · exact h2 j (by omega)⟩
                  · obtain ⟨h2, j0, h3, h4⟩ := h1
                    exact .inr ⟨h2, j0, by omega, h4⟩
                | true =>
                  rw [hL] at hlead
                  have hld0 : ld = 0 := by
                    rcases hld with ⟨h1, _⟩ | ⟨_, j0, hj0, hj1⟩
                    · exact h1
                    · exact absurd (W'.one.one (show j0 < n by omega) hmn hj1 hL) (by omega)
                  subst hld0
                  ((conv => whnf); repeat ((first | refine SChk.mk hix2 ?_ | refine SChk.mk (decide_eq_true (show 0 + n ≤ (esR n).length by omega)) ?_ | refine SCall.app (hnow2 _) ?_ | refine SCall.app (hlead _) ?_ | refine SEx.of (hek1) ?_ | refine SEx.of (hget) ?_ | refine yf rfl ?_ | refine yt rfl ?_ | refine yo rfl ?_ | refine yc rfl ?_ | refine ys rfl ?_ | refine ye rfl ?_ | refine yn rfl ?_ | refine zw ?_ | refine zdt ?_ | refine zdf ?_ | refine znt ?_ | refine znf ?_ | refine zcd ?_ | refine zci ?_ | refine zc3 ?_) <;> (conv => whnf)))
                  exact hR' (n - (m + 1)) _ _ (by omega) ⟨m + 1, 0 + 1, by omega, rfl, .inr ⟨rfl, m, Nat.lt_succ_self m, hL⟩, (by repeat (first | exact Fr.le_nil | refine Fr.le_cons rfl ?_)), lo', hek1, hek2, hlt', rfl⟩
              · have hld1 : ¬ 1 < ld := by
                  rcases hld with ⟨h1, _⟩ | ⟨h1, _⟩ <;> omega
                ((conv => whnf); repeat ((first | refine SIf.df hld1 ?_ | refine yf rfl ?_ | refine yt rfl ?_ | refine yo rfl ?_ | refine yc rfl ?_ | refine ys rfl ?_ | refine ye rfl ?_ | refine yn rfl ?_ | refine zw ?_ | refine zdt ?_ | refine zdf ?_ | refine znt ?_ | refine znf ?_ | refine zcd ?_ | refine zci ?_ | refine zc3 ?_) <;> (conv => whnf)))
                exact hR (150 - (i + 1)) _ _ (by omega) ⟨i + 1, h, lo', _, _, _, _, _, _, _, _, [], _, _, _, .nils, by omega, by omega, rfl, W', hlt', hek2, hek1, (by repeat (first | exact Fr.le_nil | refine Fr.le_cons rfl ?_)), rfl⟩
          · have hpos : 0 < Ls.length := List.length_pos_iff.2 hLne
            have hfew := W.few
            have hLl : (Ls.map lateR).length = Ls.length := List.length_map _
            obtain ⟨j, hj, hje, hj1, hj2⟩ := rem_k (x := o.2.1) (n := (Ls.map lateR).length) (by omega) (by omega)
            have hz2 : (!decide (((Ls.map lateR).length : Int) = 0)) = true := by rw [decide_eq_false (by omega)]; rfl
            have gL0 : ∀ o o2, ((lo.push o).set lo.next o2).get lk = some .spare := fun o o2 => Heap.gs (by omega) (Heap.gp (by omega) hlks)
            ((conv => whnf); repeat ((first | refine SChk.mk hz2 ?_ | refine SWrap.w64 hj1 hj2 ?_ | refine SEx.of (g2 _ _) ?_ | refine SEx.of (gL0 _ _) ?_ | refine yf rfl ?_ | refine yt rfl ?_ | refine yo rfl ?_ | refine yc rfl ?_ | refine ys rfl ?_ | refine ye rfl ?_ | refine yn rfl ?_ | refine zw ?_ | refine zdt ?_ | refine zdf ?_ | refine znt ?_ | refine znf ?_ | refine zcd ?_ | refine zci ?_ | refine zc3 ?_) <;> (conv => whnf)))
            rw [hje]
            have he2 := List.getElem?_eq_getElem (show j < Ls.length by omega)
            have hmem := List.getElem_mem (show j < Ls.length by omega)
            generalize Ls[j] = y at he2 hmem
            have hsy := W.late y hmem
            have hr0 := W.one.r0
            have hix2 : idxOk (j : Int) (Ls.map lateR).length = true := by unfold idxOk; rw [decide_eq_true (by omega), decide_eq_true (by omega)]; rfl
            have htxn := fun (K : V → Heap → Prop) => txnL_at hG hA W.store y.2 (leaseB y.1) hsy.2.1 (show (10 : Nat) ≤ 4000 by decide) ⟨hr0, by have := W.rev; omega⟩ (K := K)
            rw [cur_now hr0] at htxn
            ((conv => whnf); repeat ((first | refine SChk.mk hix2 ?_ | refine SEx.of (map_get' (j := j) (by omega) he2) ?_ | refine SEx.of (g2 _ _) ?_ | refine SEx.of (gL0 _ _) ?_ | refine yf rfl ?_ | refine yt rfl ?_ | refine yo rfl ?_ | refine yc rfl ?_ | refine ys rfl ?_ | refine ye rfl ?_ | refine yn rfl ?_ | refine zw ?_ | refine zdt ?_ | refine zdf ?_ | refine znt ?_ | refine znf ?_ | refine zcd ?_ | refine zci ?_ | refine zc3 ?_) <;> (conv => whnf)))
            have hcA : List.drop (Int.toNat 0) (List.take (j : Int).toNat (Ls.map lateR)) = (Ls.take j).map lateR := by
              rw [Int.toNat_natCast, List.map_take]; rfl
            have hcB : List.drop ((j : Int) + 1).toNat (Ls.map lateR) = (Ls.drop (j + 1)).map lateR := by
              rw [show ((j : Int) + 1).toNat = j + 1 by omega, List.map_drop]
            refine SCall.app id (htxn _ ?_ ?_)
            · intro hne h2 hs2 k2
              have W' := fun (Ls2 : List (Nat × Int)) (h5 : ∀ x ∈ Ls2, x ∈ Ls) (h6 : Ls2.length ≤ i) => W.put (Ls2 := Ls2) hs2 W.cc k2 W.one (by have := W.rev; omega) W.hld (fun x hx => W.late x (h5 x hx)) (by omega)
              ((conv => whnf); repeat ((first | refine SEx.of (g2 _ _) ?_ | refine SEx.of (gL0 _ _) ?_ | refine yf rfl ?_ | refine yt rfl ?_ | refine yo rfl ?_ | refine yc rfl ?_ | refine ys rfl ?_ | refine ye rfl ?_ | refine yn rfl ?_ | refine zw ?_ | refine zdt ?_ | refine zdf ?_ | refine znt ?_ | refine znf ?_ | refine zcd ?_ | refine zci ?_ | refine zc3 ?_) <;> (conv => whnf)))
              rw [hcA, hcB]
              obtain ⟨A, hAe⟩ : ∃ A, Ls.take j = A := ⟨_, rfl⟩
              obtain ⟨B, hBe⟩ : ∃ B, Ls.drop (j + 1) = B := ⟨_, rfl⟩
              have hsub : ∀ x ∈ A ++ B, x ∈ Ls := fun x hx => by
                rcases List.mem_append.1 hx with h5 | h5
                · rw [← hAe] at h5; exact List.mem_of_mem_take h5
                · rw [← hBe] at h5; exact List.mem_of_mem_drop h5
              have hlen : (A ++ B).length ≤ i := by
                rw [List.length_append, ← hAe, ← hBe, List.length_take, List.length_drop]; omega
              have W2 := W' (A ++ B) hsub hlen
              clear W'
              have W' := W2
              rw [hAe, hBe]
              cases A with
              | nil =>
                cases B with
                | nil =>
                  ((conv => whnf); repeat ((first | refine SSame.mk (congrArg (V.sl (some (.l lk)) 3) (hcB.trans (congrArg (List.map lateR) hBe)).symm) ?_ | refine SEx.of (g2 _ _) ?_ | refine SEx.of (gL0 _ _) ?_ | refine yf rfl ?_ | refine yt rfl ?_ | refine yo rfl ?_ | refine yc rfl ?_ | refine ys rfl ?_ | refine ye rfl ?_ | refine yn rfl ?_ | refine zw ?_ | refine zdt ?_ | refine zdf ?_ | refine znt ?_ | refine znf ?_ | refine zcd ?_ | refine zci ?_ | refine zc3 ?_) <;> (conv => whnf)))
                  have hdr := fun (K : V → Heap → Prop) (hK : ∀ dd : Int, K (.i .i64 dd) h2) => drift_ok hG W'.clk (by omega) (fun a b _ _ => by have := W'.low (a * 8 + b); omega) (K := K) (fun dd _ _ _ => hK dd)
                  ((conv => whnf); repeat ((first | refine SCall.app (hdr _) ?_ | refine yf rfl ?_ | refine yt rfl ?_ | refine yo rfl ?_ | refine yc rfl ?_ | refine ys rfl ?_ | refine ye rfl ?_ | refine yn rfl ?_ | refine zw ?_ | refine zdt ?_ | refine zdf ?_ | refine znt ?_ | refine znf ?_ | refine zcd ?_ | refine zci ?_ | refine zc3 ?_) <;> (conv => whnf)))
                  intro dd
                  (conv => whnf)
                  refine SIf.ds (fun _ => ?_) (fun hdd => ?_)
                  · ((conv => whnf); repeat ((first | refine yf rfl ?_ | refine yt rfl ?_ | refine yo rfl ?_ | refine yc rfl ?_ | refine ys rfl ?_ | refine ye rfl ?_ | refine yn rfl ?_ | refine zw ?_ | refine zdt ?_ | refine zdf ?_ | refine znt ?_ | refine znf ?_ | refine zcd ?_ | refine zci ?_ | refine zc3 ?_) <;> (conv => whnf)))
                  · ((conv => whnf); repeat ((first | refine yf rfl ?_ | refine yt rfl ?_ | refine yo rfl ?_ | refine yc rfl ?_ | refine ys rfl ?_ | refine ye rfl ?_ | refine yn rfl ?_ | refine zw ?_ | refine zdt ?_ | refine zdf ?_ | refine znt ?_ | refine znf ?_ | refine zcd ?_ | refine zci ?_ | refine zc3 ?_) <;> (conv => whnf)))
                    refine SLoopV.by (fun q fr st => ∃ (m : Nat) (ld : Int), m ≤ n ∧ q = n - m ∧ ((ld = 0 ∧ ∀ j, j < m → leadsE (E j) (now j) = false) ∨ (ld = 1 ∧ ∃ j0, j0 < m ∧ leadsE (E j0) (now j0) = true)) ∧
                        Fr.le [(208, .i .i64 m), (207, .i .i64 n), (30, .i .i64 ld), (12, .i .i64 i), (11, .i .i64 d), (10, .nils), (8, .ms (.l ek) 1 0 n), (7, .p (.g 5) 0), (6, .p (.g 3) 0), (1, .sl none 3 (ops.map opR)), (0, .i .i64 n)] fr ∧ ∃ lo', lo'.get ek = some (.arr 1 (esR n)) ∧ ek < lo'.next ∧ LateAt lo' .nils ([] ++ []) ∧ st = ⟨h2, lo'⟩)
                      n ⟨0, 0, Nat.zero_le _, rfl, .inl ⟨rfl, fun j hj => absurd hj (Nat.not_lt_zero _)⟩, (by repeat (first | exact Fr.le_nil | refine Fr.le_cons rfl ?_)), _, e1 _ _, e1n _ _, (.inl ⟨rfl, rfl⟩), rfl⟩ ?_
                    rintro q fr st ⟨m, ld, hm, rfl, hld, hle1, lo', hek1, hek2, hlt', rfl⟩
                    refine ⟨_, hle1, fun R' hR' => ?_⟩
                    by_cases hmn : m < n
                    · have hget := esR_get (i := 0 + (m : Int).toNat) (n := n) (by omega) hmn
                      have hnow2 := fun (K : V → Heap → Prop) (hK : K (.i .i64 (now m)) h2) => now_ok hG W'.clk W'.row (m : Int) (K := K) (fun x h1 _ => by rw [h1 (by omega) (by omega)]; simpa using hK)
                      have hix2 : idxOk (m : Int) n = true := by unfold idxOk; rw [decide_eq_true (by omega), decide_eq_true (by omega)]; rfl
                      have htm : TimeOk (now m) := by
                        have h1 := W'.one.clk m hmn
                        have h2 := W'.time
                        unfold TimeOk
                        omega
                      have hlead := fun (K : V → Heap → Prop) => eleads_at hG (W'.els.at_ m hmn) (W'.ok m hmn) htm (K := K)
                      cases hL : leadsE (E m) (now m) with
                      | false =>
                        rw [hL] at hlead
                        ((conv => whnf); repeat ((first | refine SChk.mk hix2 ?_ | refine SChk.mk (decide_eq_true (show 0 + n ≤ (esR n).length by omega)) ?_ | refine SCall.app (hnow2 _) ?_ | refine SCall.app (hlead _) ?_ | refine SEx.of (hek1) ?_ | refine SEx.of (hget) ?_ | refine yf rfl ?_ | refine yt rfl ?_ | refine yo rfl ?_ | refine yc rfl ?_ | refine ys rfl ?_ | refine ye rfl ?_ | refine yn rfl ?_ | refine zw ?_ | refine zdt ?_ | refine zdf ?_ | refine znt ?_ | refine znf ?_ | refine zcd ?_ | refine zci ?_ | refine zc3 ?_) <;> (conv => whnf)))
                        refine hR' (n - (m + 1)) _ _ (by omega) ⟨m + 1, ld, by omega, rfl, ?_, (by repeat (first | exact Fr.le_nil | refine Fr.le_cons rfl ?_)), lo', hek1, hek2, hlt', rfl⟩
                        rcases hld with ⟨h1, h2⟩ | h1
                        · exact .inl ⟨h1, fun j hj => by
                            by_cases e : j = m
                            · subst e; exact hL
                            · exact h2 j (by omega)⟩
                        · obtain ⟨h2, j0, h3, h4⟩ := h1
                          exact .inr ⟨h2, j0, by omega, h4⟩
                      | true =>
                        rw [hL] at hlead
                        have hld0 : ld = 0 := by
                          rcases hld with ⟨h1, _⟩ | ⟨_, j0, hj0, hj1⟩
                          · exact h1
                          · exact absurd (W'.one.one (show j0 < n by omega) hmn hj1 hL) (by omega)
                        subst hld0
                        ((conv => whnf); repeat ((first | refine SChk.mk hix2 ?_ | refine SChk.mk (decide_eq_true (show 0 + n ≤ (esR n).length by omega)) ?_ | refine SCall.app (hnow2 _) ?_ | refine SCall.app (hlead _) ?_ | refine SEx.of (hek1) ?_ | refine SEx.of (hget) ?_ | refine yf rfl ?_ | refine yt rfl ?_ | refine yo rfl ?_ | refine yc rfl ?_ | refine ys rfl ?_ | refine ye rfl ?_ | refine yn rfl ?_ | refine zw ?_ | refine zdt ?_ | refine zdf ?_ | refine znt ?_ | refine znf ?_ | refine zcd ?_ | refine zci ?_ | refine zc3 ?_) <;> (conv => whnf)))
                        exact hR' (n - (m + 1)) _ _ (by omega) ⟨m + 1, 0 + 1, by omega, rfl, .inr ⟨rfl, m, Nat.lt_succ_self m, hL⟩, (by repeat (first | exact Fr.le_nil | refine Fr.le_cons rfl ?_)), lo', hek1, hek2, hlt', rfl⟩
                    · have hld1 : ¬ 1 < ld := by
                        rcases hld with ⟨h1, _⟩ | ⟨h1, _⟩ <;> omega
                      ((conv => whnf); repeat ((first | refine SIf.df hld1 ?_ | refine yf rfl ?_ | refine yt rfl ?_ | refine yo rfl ?_ | refine yc rfl ?_ | refine ys rfl ?_ | refine ye rfl ?_ | refine yn rfl ?_ | refine zw ?_ | refine zdt ?_ | refine zdf ?_ | refine znt ?_ | refine znf ?_ | refine zcd ?_ | refine zci ?_ | refine zc3 ?_) <;> (conv => whnf)))
                      exact hR (150 - (i + 1)) _ _ (by omega) ⟨i + 1, h2, lo', _, _, _, _, _, _, _, _, ([] ++ []), _, _, _, .nils, by omega, by omega, rfl, W', hlt', hek2, hek1, (by repeat (first | exact Fr.le_nil | refine Fr.le_cons rfl ?_)), rfl⟩
                | cons b B =>
                  ((conv => whnf); repeat ((first | refine SChk.mk (by simp [roomOk] at hlen ⊢; omega) ?_ | refine SSame.mk (congrArg (V.sl (some (.l lk)) 3) (hcB.trans (congrArg (List.map lateR) hBe)).symm) ?_ | refine SEx.of (deep_map (R := lateR) (fun _ => rfl) _) ?_ | refine SEx.of (g2 _ _) ?_ | refine SEx.of (gL0 _ _) ?_ | refine yf rfl ?_ | refine yt rfl ?_ | refine yo rfl ?_ | refine yc rfl ?_ | refine ys rfl ?_ | refine ye rfl ?_ | refine yn rfl ?_ | refine zw ?_ | refine zdt ?_ | refine zdf ?_ | refine znt ?_ | refine znf ?_ | refine zcd ?_ | refine zci ?_ | refine zc3 ?_) <;> (conv => whnf)))
                  have hdr := fun (K : V → Heap → Prop) (hK : ∀ dd : Int, K (.i .i64 dd) h2) => drift_ok hG W'.clk (by omega) (fun a b _ _ => by have := W'.low (a * 8 + b); omega) (K := K) (fun dd _ _ _ => hK dd)
                  ((conv => whnf); repeat ((first | refine SCall.app (hdr _) ?_ | refine yf rfl ?_ | refine yt rfl ?_ | refine yo rfl ?_ | refine yc rfl ?_ | refine ys rfl ?_ | refine ye rfl ?_ | refine yn rfl ?_ | refine zw ?_ | refine zdt ?_ | refine zdf ?_ | refine znt ?_ | refine znf ?_ | refine zcd ?_ | refine zci ?_ | refine zc3 ?_) <;> (conv => whnf)))
                  intro dd
                  (conv => whnf)
                  refine SIf.ds (fun _ => ?_) (fun hdd => ?_)
                  · ((conv => whnf); repeat ((first | refine yf rfl ?_ | refine yt rfl ?_ | refine yo rfl ?_ | refine yc rfl ?_ | refine ys rfl ?_ | refine ye rfl ?_ | refine yn rfl ?_ | refine zw ?_ | refine zdt ?_ | refine zdf ?_ | refine znt ?_ | refine znf ?_ | refine zcd ?_ | refine zci ?_ | refine zc3 ?_) <;> (conv => whnf)))
                  · ((conv => whnf); repeat ((first | refine yf rfl ?_ | refine yt rfl ?_ | refine yo rfl ?_ | refine yc rfl ?_ | refine ys rfl ?_ | refine ye rfl ?_ | refine yn rfl ?_ | refine zw ?_ | refine zdt ?_ | refine zdf ?_ | refine znt ?_ | refine znf ?_ | refine zcd ?_ | refine zci ?_ | refine zc3 ?_) <;> (conv => whnf)))
                    refine SLoopV.by (fun q fr st => ∃ (m : Nat) (ld : Int), m ≤ n ∧ q = n - m ∧ ((ld = 0 ∧ ∀ j, j < m → leadsE (E j) (now j) = false) ∨ (ld = 1 ∧ ∃ j0, j0 < m ∧ leadsE (E j0) (now j0) = true)) ∧
                        Fr.le [(208, .i .i64 m), (207, .i .i64 n), (30, .i .i64 ld), (12, .i .i64 i), (11, .i .i64 d), (10, (.sl (some (.l (lo.next + 1))) 3 ((b :: B).map lateR))), (8, .ms (.l ek) 1 0 n), (7, .p (.g 5) 0), (6, .p (.g 3) 0), (1, .sl none 3 (ops.map opR)), (0, .i .i64 n)] fr ∧ ∃ lo', lo'.get ek = some (.arr 1 (esR n)) ∧ ek < lo'.next ∧ LateAt lo' (.sl (some (.l (lo.next + 1))) 3 ((b :: B).map lateR)) ([] ++ b :: B) ∧ st = ⟨h2, lo'⟩)
                      n ⟨0, 0, Nat.zero_le _, rfl, .inl ⟨rfl, fun j hj => absurd hj (Nat.not_lt_zero _)⟩, (by repeat (first | exact Fr.le_nil | refine Fr.le_cons rfl ?_)), _, (Heap.gp (show ek ≠ lo.next + 1 by omega) (e1 _ _)), (Nat.lt_of_lt_of_le hekn (show lo.next ≤ lo.next + 1 + 1 by omega)), (.inr ⟨by simp, lo.next + 1, rfl, Nat.lt_succ_self _, Heap.get_push_self _ _⟩), rfl⟩ ?_
                    rintro q fr st ⟨m, ld, hm, rfl, hld, hle1, lo', hek1, hek2, hlt', rfl⟩
                    refine ⟨_, hle1, fun R' hR' => ?_⟩
                    by_cases hmn : m < n
                    · have hget := esR_get (i := 0 + (m : Int).toNat) (n := n) (by omega) hmn
                      have hnow2 := fun (K : V → Heap → Prop) (hK : K (.i .i64 (now m)) h2) => now_ok hG W'.clk W'.row (m : Int) (K := K) (fun x h1 _ => by rw [h1 (by omega) (by omega)]; simpa using hK)
                      have hix2 : idxOk (m : Int) n = true := by unfold idxOk; rw [decide_eq_true (by omega), decide_eq_true (by omega)]; rfl
                      have htm : TimeOk (now m) := by
                        have h1 := W'.one.clk m hmn
                        have h2 := W'.time
                        unfold TimeOk
                        omega
                      have hlead := fun (K : V → Heap → Prop) => eleads_at hG (W'.els.at_ m hmn) (W'.ok m hmn) htm (K := K)
                      cases hL : leadsE (E m) (now m) with
                      | false =>
                        rw [hL] at hlead
                        ((conv => whnf); repeat ((first | refine SChk.mk hix2 ?_ | refine SChk.mk (decide_eq_true (show 0 + n ≤ (esR n).length by omega)) ?_ | refine SCall.app (hnow2 _) ?_ | refine SCall.app (hlead _) ?_ | refine SEx.of (hek1) ?_ | refine SEx.of (hget) ?_ | refine yf rfl ?_ | refine yt rfl ?_ | refine yo rfl ?_ | refine yc rfl ?_ | refine ys rfl ?_ | refine ye rfl ?_ | refine yn rfl ?_ | refine zw ?_ | refine zdt ?_ | refine zdf ?_ | refine znt ?_ | refine znf ?_ | refine zcd ?_ | refine zci ?_ | refine zc3 ?_) <;> (conv => whnf)))
                        refine hR' (n - (m + 1)) _ _ (by omega) ⟨m + 1, ld, by omega, rfl, ?_, (by repeat (first | exact Fr.le_nil | refine Fr.le_cons rfl ?_)), lo', hek1, hek2, hlt', rfl⟩
                        rcases hld with ⟨h1, h2⟩ | h1
                        · exact .inl ⟨h1, fun j hj => by
                            by_cases e : j = m
                            · subst e; exact hL
                            · exact h2 j (by omega)⟩
                        · obtain ⟨h2, j0, h3, h4⟩ := h1
                          exact .inr ⟨h2, j0, by omega, h4⟩
                      | true =>
                        rw [hL] at hlead
                        have hld0 : ld = 0 := by
                          rcases hld with ⟨h1, _⟩ | ⟨_, j0, hj0, hj1⟩
                          · exact h1
                          · exact absurd (W'.one.one (show j0 < n by omega) hmn hj1 hL) (by omega)
                        subst hld0
                        ((conv => whnf); repeat ((first | refine SChk.mk hix2 ?_ | refine SChk.mk (decide_eq_true (show 0 + n ≤ (esR n).length by omega)) ?_ | refine SCall.app (hnow2 _) ?_ | refine SCall.app (hlead _) ?_ | refine SEx.of (hek1) ?_ | refine SEx.of (hget) ?_ | refine yf rfl ?_ | refine yt rfl ?_ | refine yo rfl ?_ | refine yc rfl ?_ | refine ys rfl ?_ | refine ye rfl ?_ | refine yn rfl ?_ | refine zw ?_ | refine zdt ?_ | refine zdf ?_ | refine znt ?_ | refine znf ?_ | refine zcd ?_ | refine zci ?_ | refine zc3 ?_) <;> (conv => whnf)))
                        exact hR' (n - (m + 1)) _ _ (by omega) ⟨m + 1, 0 + 1, by omega, rfl, .inr ⟨rfl, m, Nat.lt_succ_self m, hL⟩, (by repeat (first | exact Fr.le_nil | refine Fr.le_cons rfl ?_)), lo', hek1, hek2, hlt', rfl⟩
                    · have hld1 : ¬ 1 < ld := by
                        rcases hld with ⟨h1, _⟩ | ⟨h1, _⟩ <;> omega
                      ((conv => whnf); repeat ((first | refine SIf.df hld1 ?_ | refine yf rfl ?_ | refine yt rfl ?_ | refine yo rfl ?_ | refine yc rfl ?_ | refine ys rfl ?_ | refine ye rfl ?_ | refine yn rfl ?_ | refine zw ?_ | refine zdt ?_ | refine zdf ?_ | refine znt ?_ | refine znf ?_ | refine zcd ?_ | refine zci ?_ | refine zc3 ?_) <;> (conv => whnf)))
                      exact hR (150 - (i + 1)) _ _ (by omega) ⟨i + 1, h2, lo', _, _, _, _, _, _, _, _, ([] ++ b :: B), _, _, _, (.sl (some (.l (lo.next + 1))) 3 ((b :: B).map lateR)), by omega, by omega, rfl, W', hlt', hek2, hek1, (by repeat (first | exact Fr.le_nil | refine Fr.le_cons rfl ?_)), rfl⟩
              | cons a A =>
                cases B with
                | nil =>
                  ((conv => whnf); repeat ((first | refine SChk.mk (by simp [roomOk] at hlen ⊢; omega) ?_ | refine SSame.mk (congrArg (V.sl (some (.l lk)) 3) (hcB.trans (congrArg (List.map lateR) hBe)).symm) ?_ | refine SEx.of (deep_map (R := lateR) (fun _ => rfl) _) ?_ | refine SEx.of (g2 _ _) ?_ | refine SEx.of (gL0 _ _) ?_ | refine yf rfl ?_ | refine yt rfl ?_ | refine yo rfl ?_ | refine yc rfl ?_ | refine ys rfl ?_ | refine ye rfl ?_ | refine yn rfl ?_ | refine zw ?_ | refine zdt ?_ | refine zdf ?_ | refine znt ?_ | refine znf ?_ | refine zcd ?_ | refine zci ?_ | refine zc3 ?_) <;> (conv => whnf)))
                  have hdr := fun (K : V → Heap → Prop) (hK : ∀ dd : Int, K (.i .i64 dd) h2) => drift_ok hG W'.clk (by omega) (fun a b _ _ => by have := W'.low (a * 8 + b); omega) (K := K) (fun dd _ _ _ => hK dd)
                  ((conv => whnf); repeat ((first | refine SCall.app (hdr _) ?_ | refine yf rfl ?_ | refine yt rfl ?_ | refine yo rfl ?_ | refine yc rfl ?_ | refine ys rfl ?_ | refine ye rfl ?_ | refine yn rfl ?_ | refine zw ?_ | refine zdt ?_ | refine zdf ?_ | refine znt ?_ | refine znf ?_ | refine zcd ?_ | refine zci ?_ | refine zc3 ?_) <;> (conv => whnf)))
                  intro dd
                  (conv => whnf)
                  refine SIf.ds (fun _ => ?_) (fun hdd => ?_)
                  · ((conv => whnf); repeat ((first | refine yf rfl ?_ | refine yt rfl ?_ | refine yo rfl ?_ | refine yc rfl ?_ | refine ys rfl ?_ | refine ye rfl ?_ | refine yn rfl ?_ | refine zw ?_ | refine zdt ?_ | refine zdf ?_ | refine znt ?_ | refine znf ?_ | refine zcd ?_ | refine zci ?_ | refine zc3 ?_) <;> (conv => whnf)))
                  · ((conv => whnf); repeat ((first | refine yf rfl ?_ | refine yt rfl ?_ | refine yo rfl ?_ | refine yc rfl ?_ | refine ys rfl ?_ | refine ye rfl ?_ | refine yn rfl ?_ | refine zw ?_ | refine zdt ?_ | refine zdf ?_ | refine znt ?_ | refine znf ?_ | refine zcd ?_ | refine zci ?_ | refine zc3 ?_) <;> (conv => whnf)))
                    refine SLoopV.by (fun q fr st => ∃ (m : Nat) (ld : Int), m ≤ n ∧ q = n - m ∧ ((ld = 0 ∧ ∀ j, j < m → leadsE (E j) (now j) = false) ∨ (ld = 1 ∧ ∃ j0, j0 < m ∧ leadsE (E j0) (now j0) = true)) ∧
                        Fr.le [(208, .i .i64 m), (207, .i .i64 n), (30, .i .i64 ld), (12, .i .i64 i), (11, .i .i64 d), (10, (.sl (some (.l (lo.next + 1))) 3 ((a :: A).map lateR))), (8, .ms (.l ek) 1 0 n), (7, .p (.g 5) 0), (6, .p (.g 3) 0), (1, .sl none 3 (ops.map opR)), (0, .i .i64 n)] fr ∧ ∃ lo', lo'.get ek = some (.arr 1 (esR n)) ∧ ek < lo'.next ∧ LateAt lo' (.sl (some (.l (lo.next + 1))) 3 ((a :: A).map lateR)) (a :: A ++ []) ∧ st = ⟨h2, lo'⟩)
                      n ⟨0, 0, Nat.zero_le _, rfl, .inl ⟨rfl, fun j hj => absurd hj (Nat.not_lt_zero _)⟩, (by repeat (first | exact Fr.le_nil | refine Fr.le_cons rfl ?_)), _, (Heap.gp (show ek ≠ lo.next + 1 by omega) (e1 _ _)), (Nat.lt_of_lt_of_le hekn (show lo.next ≤ lo.next + 1 + 1 by omega)), (.inr ⟨by simp, lo.next + 1, by rw [List.append_nil], Nat.lt_succ_self _, Heap.get_push_self _ _⟩), rfl⟩ ?_
                    rintro q fr st ⟨m, ld, hm, rfl, hld, hle1, lo', hek1, hek2, hlt', rfl⟩
                    refine ⟨_, hle1, fun R' hR' => ?_⟩
                    by_cases hmn : m < n
                    · have hget := esR_get (i := 0 + (m : Int).toNat) (n := n) (by omega) hmn
                      have hnow2 := fun (K : V → Heap → Prop) (hK : K (.i .i64 (now m)) h2) => now_ok hG W'.clk W'.row (m : Int) (K := K) (fun x h1 _ => by rw [h1 (by omega) (by omega)]; simpa using hK)
                      have hix2 : idxOk (m : Int) n = true := by unfold idxOk; rw [decide_eq_true (by omega), decide_eq_true (by omega)]; rfl
                      have htm : TimeOk (now m) := by
                        have h1 := W'.one.clk m hmn
                        have h2 := W'.time
                        unfold TimeOk
                        omega
                      have hlead := fun (K : V → Heap → Prop) => eleads_at hG (W'.els.at_ m hmn) (W'.ok m hmn) htm (K := K)
                      cases hL : leadsE (E m) (now m) with
                      | false =>
                        rw [hL] at hlead
                        ((conv => whnf); repeat ((first | refine SChk.mk hix2 ?_ | refine SChk.mk (decide_eq_true (show 0 + n ≤ (esR n).length by omega)) ?_ | refine SCall.app (hnow2 _) ?_ | refine SCall.app (hlead _) ?_ | refine SEx.of (hek1) ?_ | refine SEx.of (hget) ?_ | refine yf rfl ?_ | refine yt rfl ?_ | refine yo rfl ?_ | refine yc rfl ?_ | refine ys rfl ?_ | refine ye rfl ?_ | refine yn rfl ?_ | refine zw ?_ | refine zdt ?_ | refine zdf ?_ | refine znt ?_ | refine znf ?_ | refine zcd ?_ | refine zci ?_ | refine zc3 ?_) <;> (conv => whnf)))
                        refine hR' (n - (m + 1)) _ _ (by omega) ⟨m + 1, ld, by omega, rfl, ?_, (by repeat (first | exact Fr.le_nil | refine Fr.le_cons rfl ?_)), lo', hek1, hek2, hlt', rfl⟩
                        rcases hld with ⟨h1, h2⟩ | h1
                        · exact .inl ⟨h1, fun j hj => by
                            by_cases e : j = m
                            · subst e; exact hL
                            · exact h2 j (by omega)⟩
                        · obtain ⟨h2, j0, h3, h4⟩ := h1
                          exact .inr ⟨h2, j0, by omega, h4⟩
                      | true =>
                        rw [hL] at hlead
                        have hld0 : ld = 0 := by
                          rcases hld with ⟨h1, _⟩ | ⟨_, j0, hj0, hj1⟩
                          · exact h1
                          · exact absurd (W'.one.one (show j0 < n by omega) hmn hj1 hL) (by omega)
                        subst hld0
                        ((conv => whnf); repeat ((first | refine SChk.mk hix2 ?_ | refine SChk.mk (decide_eq_true (show 0 + n ≤ (esR n).length by omega)) ?_ | refine SCall.app (hnow2 _) ?_ | refine SCall.app (hlead _) ?_ | refine SEx.of (hek1) ?_ | refine SEx.of (hget) ?_ | refine yf rfl ?_ | refine yt rfl ?_ | refine yo rfl ?_ | refine yc rfl ?_ | refine ys rfl ?_ | refine ye rfl ?_ | refine yn rfl ?_ | refine zw ?_ | refine zdt ?_ | refine zdf ?_ | refine znt ?_ | refine znf ?_ | refine zcd ?_ | refine zci ?_ | refine zc3 ?_) <;> (conv => whnf)))
                        exact hR' (n - (m + 1)) _ _ (by omega) ⟨m + 1, 0 + 1, by omega, rfl, .inr ⟨rfl, m, Nat.lt_succ_self m, hL⟩, (by repeat (first | exact Fr.le_nil | refine Fr.le_cons rfl ?_)), lo', hek1, hek2, hlt', rfl⟩
                    · have hld1 : ¬ 1 < ld := by
                        rcases hld with ⟨h1, _⟩ | ⟨h1, _⟩ <;> omega
                      ((conv => whnf); repeat ((first | refine SIf.df hld1 ?_ | refine yf rfl ?_ | refine yt rfl ?_ | refine yo rfl ?_ | refine yc rfl ?_ | refine ys rfl ?_ | refine ye rfl ?_ | refine yn rfl ?_ | refine zw ?_ | refine zdt ?_ | refine zdf ?_ | refine znt ?_ | refine znf ?_ | refine zcd ?_ | refine zci ?_ | refine zc3 ?_) <;> (conv => whnf)))
                      exact hR (150 - (i + 1)) _ _ (by omega) ⟨i + 1, h2, lo', _, _, _, _, _, _, _, _, (a :: A ++ []), _, _, _, (.sl (some (.l (lo.next + 1))) 3 ((a :: A).map lateR)), by omega, by omega, rfl, W', hlt', hek2, hek1, (by repeat (first | exact Fr.le_nil | refine Fr.le_cons rfl ?_)), rfl⟩
                | cons b B =>
                  ((conv => whnf); repeat ((first | refine SChk.mk (by simp [roomOk] at hlen ⊢; omega) ?_ | refine SSame.mk (congrArg (V.sl (some (.l lk)) 3) (hcB.trans (congrArg (List.map lateR) hBe)).symm) ?_ | refine SEx.of (deep_map (R := lateR) (fun _ => rfl) _) ?_ | refine SEx.of (g2 _ _) ?_ | refine SEx.of (gL0 _ _) ?_ | refine SEx.of (Heap.get_push_self _ _) ?_ | refine yf rfl ?_ | refine yt rfl ?_ | refine yo rfl ?_ | refine yc rfl ?_ | refine ys rfl ?_ | refine ye rfl ?_ | refine yn rfl ?_ | refine zw ?_ | refine zdt ?_ | refine zdf ?_ | refine znt ?_ | refine znf ?_ | refine zcd ?_ | refine zci ?_ | refine zc3 ?_) <;> (conv => whnf)))
                  have hdr := fun (K : V → Heap → Prop) (hK : ∀ dd : Int, K (.i .i64 dd) h2) => drift_ok hG W'.clk (by omega) (fun a b _ _ => by have := W'.low (a * 8 + b); omega) (K := K) (fun dd _ _ _ => hK dd)
                  ((conv => whnf); repeat ((first | refine SCall.app (hdr _) ?_ | refine yf rfl ?_ | refine yt rfl ?_ | refine yo rfl ?_ | refine yc rfl ?_ | refine ys rfl ?_ | refine ye rfl ?_ | refine yn rfl ?_ | refine zw ?_ | refine zdt ?_ | refine zdf ?_ | refine znt ?_ | refine znf ?_ | refine zcd ?_ | refine zci ?_ | refine zc3 ?_) <;> (conv => whnf)))
                  intro dd
                  (conv => whnf)
                  refine SIf.ds (fun _ => ?_) (fun hdd => ?_)
                  · ((conv => whnf); repeat ((first | refine yf rfl ?_ | refine yt rfl ?_ | refine yo rfl ?_ | refine yc rfl ?_ | refine ys rfl ?_ | refine ye rfl ?_ | refine yn rfl ?_ | refine zw ?_ | refine zdt ?_ | refine zdf ?_ | refine znt ?_ | refine znf ?_ | refine zcd ?_ | refine zci ?_ | refine zc3 ?_) <;> (conv => whnf)))
                  · ((conv => whnf); repeat ((first | refine yf rfl ?_ | refine yt rfl ?_ | refine yo rfl ?_ | refine yc rfl ?_ | refine ys rfl ?_ | refine ye rfl ?_ | refine yn rfl ?_ | refine zw ?_ | refine zdt ?_ | refine zdf ?_ | refine znt ?_ | refine znf ?_ | refine zcd ?_ | refine zci ?_ | refine zc3 ?_) <;> (conv => whnf)))
                    refine SLoopV.by (fun q fr st => ∃ (m : Nat) (ld : Int), m ≤ n ∧ q = n - m ∧ ((ld = 0 ∧ ∀ j, j < m → leadsE (E j) (now j) = false) ∨ (ld = 1 ∧ ∃ j0, j0 < m ∧ leadsE (E j0) (now j0) = true)) ∧
                        Fr.le [(208, .i .i64 m), (207, .i .i64 n), (30, .i .i64 ld), (12, .i .i64 i), (11, .i .i64 d), (10, (.sl (some (.l (lo.next + 1 + 1))) 3 ((a :: A).map lateR ++ (b :: B).map lateR))), (8, .ms (.l ek) 1 0 n), (7, .p (.g 5) 0), (6, .p (.g 3) 0), (1, .sl none 3 (ops.map opR)), (0, .i .i64 n)] fr ∧ ∃ lo', lo'.get ek = some (.arr 1 (esR n)) ∧ ek < lo'.next ∧ LateAt lo' (.sl (some (.l (lo.next + 1 + 1))) 3 ((a :: A).map lateR ++ (b :: B).map lateR)) (a :: A ++ b :: B) ∧ st = ⟨h2, lo'⟩)
                      n ⟨0, 0, Nat.zero_le _, rfl, .inl ⟨rfl, fun j hj => absurd hj (Nat.not_lt_zero _)⟩, (by repeat (first | exact Fr.le_nil | refine Fr.le_cons rfl ?_)), _, (Heap.gp (show ek ≠ lo.next + 1 + 1 by omega) (Heap.gr (show ek ≠ lo.next + 1 by omega) (Heap.gp (show ek ≠ lo.next + 1 by omega) (e1 _ _)))), (Nat.lt_of_lt_of_le hekn (show lo.next ≤ lo.next + 1 + 1 + 1 by omega)), (.inr ⟨by simp, lo.next + 1 + 1, by rw [List.map_append], Nat.lt_succ_self _, Heap.get_push_self _ _⟩), rfl⟩ ?_
                    rintro q fr st ⟨m, ld, hm, rfl, hld, hle1, lo', hek1, hek2, hlt', rfl⟩
                    refine ⟨_, hle1, fun R' hR' => ?_⟩
                    by_cases hmn : m < n
                    · have hget := esR_get (i := 0 + (m : Int).toNat) (n := n) (by omega) hmn
                      have hnow2 := fun (K : V → Heap → Prop) (hK : K (.i .i64 (now m)) h2) => now_ok hG W'.clk W'.row (m : Int) (K := K) (fun x h1 _ => by rw [h1 (by omega) (by omega)]; simpa using hK)
                      have hix2 : idxOk (m : Int) n = true := by unfold idxOk; rw [decide_eq_true (by omega), decide_eq_true (by omega)]; rfl
                      have htm : TimeOk (now m) := by
                        have h1 := W'.one.clk m hmn
                        have h2 := W'.time
                        unfold TimeOk
                        omega
                      have hlead := fun (K : V → Heap → Prop) => eleads_at hG (W'.els.at_ m hmn) (W'.ok m hmn) htm (K := K)
                      cases hL : leadsE (E m) (now m) with
                      | false =>
                        rw [hL] at hlead
                        ((conv => whnf); repeat ((first | refine SChk.mk hix2 ?_ | refine SChk.mk (decide_eq_true (show 0 + n ≤ (esR n).length by omega)) ?_ | refine SCall.app (hnow2 _) ?_ | refine SCall.app (hlead _) ?_ | refine SEx.of (hek1) ?_ | refine SEx.of (hget) ?_ | refine yf rfl ?_ | refine yt rfl ?_ | refine yo rfl ?_ | refine yc rfl ?_ | refine ys rfl ?_ | refine ye rfl ?_ | refine yn rfl ?_ | refine zw ?_ | refine zdt ?_ | refine zdf ?_ | refine znt ?_ | refine znf ?_ | refine zcd ?_ | refine zci ?_ | refine zc3 ?_) <;> (conv => whnf)))
                        refine hR' (n - (m + 1)) _ _ (by omega) ⟨m + 1, ld, by omega, rfl, ?_, (by repeat (first | exact Fr.le_nil | refine Fr.le_cons rfl ?_)), lo', hek1, hek2, hlt', rfl⟩
                        rcases hld with ⟨h1, h2⟩ | h1
                        · exact .inl ⟨h1, fun j hj => by
                            by_cases e : j = m
                            · subst e; exact hL
                            · exact h2 j (by omega)⟩
                        · obtain ⟨h2, j0, h3, h4⟩ := h1
                          exact .inr ⟨h2, j0, by omega, h4⟩
                      | true =>
                        rw [hL] at hlead
                        have hld0 : ld = 0 := by
                          rcases hld with ⟨h1, _⟩ | ⟨_, j0, hj0, hj1⟩
                          · exact h1
                          · exact absurd (W'.one.one (show j0 < n by omega) hmn hj1 hL) (by omega)
                        subst hld0
                        ((conv => whnf); repeat ((first | refine SChk.mk hix2 ?_ | refine SChk.mk (decide_eq_true (show 0 + n ≤ (esR n).length by omega)) ?_ | refine SCall.app (hnow2 _) ?_ | refine SCall.app (hlead _) ?_ | refine SEx.of (hek1) ?_ | refine SEx.of (hget) ?_ | refine yf rfl ?_ | refine yt rfl ?_ | refine yo rfl ?_ | refine yc rfl ?_ | refine ys rfl ?_ | refine ye rfl ?_ | refine yn rfl ?_ | refine zw ?_ | refine zdt ?_ | refine zdf ?_ | refine znt ?_ | refine znf ?_ | refine zcd ?_ | refine zci ?_ | refine zc3 ?_) <;> (conv => whnf)))
                        exact hR' (n - (m + 1)) _ _ (by omega) ⟨m + 1, 0 + 1, by omega, rfl, .inr ⟨rfl, m, Nat.lt_succ_self m, hL⟩, (by repeat (first | exact Fr.le_nil | refine Fr.le_cons rfl ?_)), lo', hek1, hek2, hlt', rfl⟩
                    · have hld1 : ¬ 1 < ld := by
                        rcases hld with ⟨h1, _⟩ | ⟨h1, _⟩ <;> omega
                      ((conv => whnf); repeat ((first | refine SIf.df hld1 ?_ | refine yf rfl ?_ | refine yt rfl ?_ | refine yo rfl ?_ | refine yc rfl ?_ | refine ys rfl ?_ | refine ye rfl ?_ | refine yn rfl ?_ | refine zw ?_ | refine zdt ?_ | refine zdf ?_ | refine znt ?_ | refine znf ?_ | refine zcd ?_ | refine zci ?_ | refine zc3 ?_) <;> (conv => whnf)))
                      exact hR (150 - (i + 1)) _ _ (by omega) ⟨i + 1, h2, lo', _, _, _, _, _, _, _, _, (a :: A ++ b :: B), _, _, _, (.sl (some (.l (lo.next + 1 + 1))) 3 ((a :: A).map lateR ++ (b :: B).map lateR)), by omega, by omega, rfl, W', hlt', hek2, hek1, (by repeat (first | exact Fr.le_nil | refine Fr.le_cons rfl ?_)), rfl⟩
            · intro heq h2 c' hs2 hc2 k2
              have hl2 := W.els.lt
              have hsy2 : SentOk n E R hold T t y.1 R := by rw [← heq] at hsy; exact hsy
              have hs3 : StoreL h2 3 0 1 2 c' (R + 1) (curOf (R + 1) (holdN R hold y.1)) := by
                rw [cur_next hr0 hold y.1]
                exact hs2
              have W' := fun (Ls2 : List (Nat × Int)) (h5 : ∀ x ∈ Ls2, x ∈ Ls) (h6 : Ls2.length ≤ i) => W.put (Ls2 := Ls2) hs3 (by have := W.cc; omega) k2 (W.one.accept hsy2) (by have := W.rev; omega) (hold_lt hsy2.1 W.hld) (fun x hx => (W.late x (h5 x hx)).more) (by omega)
              ((conv => whnf); repeat ((first | refine SEx.of (g2 _ _) ?_ | refine SEx.of (gL0 _ _) ?_ | refine yf rfl ?_ | refine yt rfl ?_ | refine yo rfl ?_ | refine yc rfl ?_ | refine ys rfl ?_ | refine ye rfl ?_ | refine yn rfl ?_ | refine zw ?_ | refine zdt ?_ | refine zdf ?_ | refine znt ?_ | refine znf ?_ | refine zcd ?_ | refine zci ?_ | refine zc3 ?_) <;> (conv => whnf)))
              rw [hcA, hcB]
              obtain ⟨A, hAe⟩ : ∃ A, Ls.take j = A := ⟨_, rfl⟩
              obtain ⟨B, hBe⟩ : ∃ B, Ls.drop (j + 1) = B := ⟨_, rfl⟩
              have hsub : ∀ x ∈ A ++ B, x ∈ Ls := fun x hx => by
                rcases List.mem_append.1 hx with h5 | h5
                · rw [← hAe] at h5; exact List.mem_of_mem_take h5
                · rw [← hBe] at h5; exact List.mem_of_mem_drop h5
              have hlen : (A ++ B).length ≤ i := by
                rw [List.length_append, ← hAe, ← hBe, List.length_take, List.length_drop]; omega
              have W2 := W' (A ++ B) hsub hlen
              clear W'
              have W' := W2
              rw [hAe, hBe]
              cases A with
              | nil =>
                cases B with
                | nil =>
                  ((conv => whnf); repeat ((first | refine SSame.mk (congrArg (V.sl (some (.l lk)) 3) (hcB.trans (congrArg (List.map lateR) hBe)).symm) ?_ | refine SEx.of (g2 _ _) ?_ | refine SEx.of (gL0 _ _) ?_ | refine yf rfl ?_ | refine yt rfl ?_ | refine yo rfl ?_ | refine yc rfl ?_ | refine ys rfl ?_ | refine ye rfl ?_ | refine yn rfl ?_ | refine zw ?_ | refine zdt ?_ | refine zdf ?_ | refine znt ?_ | refine znf ?_ | refine zcd ?_ | refine zci ?_ | refine zc3 ?_) <;> (conv => whnf)))
                  have hdr := fun (K : V → Heap → Prop) (hK : ∀ dd : Int, K (.i .i64 dd) h2) => drift_ok hG W'.clk (by omega) (fun a b _ _ => by have := W'.low (a * 8 + b); omega) (K := K) (fun dd _ _ _ => hK dd)
                  ((conv => whnf); repeat ((first | refine SCall.app (hdr _) ?_ | refine yf rfl ?_ | refine yt rfl ?_ | refine yo rfl ?_ | refine yc rfl ?_ | refine ys rfl ?_ | refine ye rfl ?_ | refine yn rfl ?_ | refine zw ?_ | refine zdt ?_ | refine zdf ?_ | refine znt ?_ | refine znf ?_ | refine zcd ?_ | refine zci ?_ | refine zc3 ?_) <;> (conv => whnf)))
                  intro dd
                  (conv => whnf)
                  refine SIf.ds (fun _ => ?_) (fun hdd => ?_)
                  · ((conv => whnf); repeat ((first | refine yf rfl ?_ | refine yt rfl ?_ | refine yo rfl ?_ | refine yc rfl ?_ | refine ys rfl ?_ | refine ye rfl ?_ | refine yn rfl ?_ | refine zw ?_ | refine zdt ?_ | refine zdf ?_ | refine znt ?_ | refine znf ?_ | refine zcd ?_ | refine zci ?_ | refine zc3 ?_) <;> (conv => whnf)))
                  · ((conv => whnf); repeat ((first | refine yf rfl ?_ | refine yt rfl ?_ | refine yo rfl ?_ | refine yc rfl ?_ | refine ys rfl ?_ | refine ye rfl ?_ | refine yn rfl ?_ | refine zw ?_ | refine zdt ?_ | refine zdf ?_ | refine znt ?_ | refine znf ?_ | refine zcd ?_ | refine zci ?_ | refine zc3 ?_) <;> (conv => whnf)))
                    refine SLoopV.by (fun q fr st => ∃ (m : Nat) (ld : Int), m ≤ n ∧ q = n - m ∧ ((ld = 0 ∧ ∀ j, j < m → leadsE (E j) (now j) = false) ∨ (ld = 1 ∧ ∃ j0, j0 < m ∧ leadsE (E j0) (now j0) = true)) ∧
                        Fr.le [(208, .i .i64 m), (207, .i .i64 n), (30, .i .i64 ld), (12, .i .i64 i), (11, .i .i64 d), (10, .nils), (8, .ms (.l ek) 1 0 n), (7, .p (.g 5) 0), (6, .p (.g 3) 0), (1, .sl none 3 (ops.map opR)), (0, .i .i64 n)] fr ∧ ∃ lo', lo'.get ek = some (.arr 1 (esR n)) ∧ ek < lo'.next ∧ LateAt lo' .nils ([] ++ []) ∧ st = ⟨h2, lo'⟩)
                      n ⟨0, 0, Nat.zero_le _, rfl, .inl ⟨rfl, fun j hj => absurd hj (Nat.not_lt_zero _)⟩, (by repeat (first | exact Fr.le_nil | refine Fr.le_cons rfl ?_)), _, e1 _ _, e1n _ _, (.inl ⟨rfl, rfl⟩), rfl⟩ ?_
                    rintro q fr st ⟨m, ld, hm, rfl, hld, hle1, lo', hek1, hek2, hlt', rfl⟩
                    refine ⟨_, hle1, fun R' hR' => ?_⟩
                    by_cases hmn : m < n
                    · have hget := esR_get (i := 0 + (m : Int).toNat) (n := n) (by omega) hmn
                      have hnow2 := fun (K : V → Heap → Prop) (hK : K (.i .i64 (now m)) h2) => now_ok hG W'.clk W'.row (m : Int) (K := K) (fun x h1 _ => by rw [h1 (by omega) (by omega)]; simpa using hK)
                      have hix2 : idxOk (m : Int) n = true := by unfold idxOk; rw [decide_eq_true (by omega), decide_eq_true (by omega)]; rfl
                      have htm : TimeOk (now m) := by
                        have h1 := W'.one.clk m hmn
                        have h2 := W'.time
                        unfold TimeOk
                        omega
                      have hlead := fun (K : V → Heap → Prop) => eleads_at hG (W'.els.at_ m hmn) (W'.ok m hmn) htm (K := K)
                      cases hL : leadsE (E m) (now m) with
                      | false =>
                        rw [hL] at hlead
                        ((conv => whnf); repeat ((first | refine SChk.mk hix2 ?_ | refine SChk.mk (decide_eq_true (show 0 + n ≤ (esR n).length by omega)) ?_ | refine SCall.app (hnow2 _) ?_ | refine SCall.app (hlead _) ?_ | refine SEx.of (hek1) ?_ | refine SEx.of (hget) ?_ | refine yf rfl ?_ | refine yt rfl ?_ | refine yo rfl ?_ | refine yc rfl ?_ | refine ys rfl ?_ | refine ye rfl ?_ | refine yn rfl ?_ | refine zw ?_ | refine zdt ?_ | refine zdf ?_ | refine znt ?_ | refine znf ?_ | refine zcd ?_ | refine zci ?_ | refine zc3 ?_) <;> (conv => whnf)))
                        refine hR' (n - (m + 1)) _ _ (by omega) ⟨m + 1, ld, by omega, rfl, ?_, (by repeat (first | exact Fr.le_nil | refine Fr.le_cons rfl ?_)), lo', hek1, hek2, hlt', rfl⟩
                        rcases hld with ⟨h1, h2⟩ | h1
                        · exact .inl ⟨h1, fun j hj => by
                            by_cases e : j = m
                            · subst e; exact hL
                            · exact h2 j (by omega)⟩
                        · obtain ⟨h2, j0, h3, h4⟩ := h1
                          exact .inr ⟨h2, j0, by omega, h4⟩
                      | true =>
                        rw [hL] at hlead
                        have hld0 : ld = 0 := by
                          rcases hld with ⟨h1, _⟩ | ⟨_, j0, hj0, hj1⟩
                          · exact h1
                          · exact absurd (W'.one.one (show j0 < n by omega) hmn hj1 hL) (by omega)
                        subst hld0
                        ((conv => whnf); repeat ((first | refine SChk.mk hix2 ?_ | refine SChk.mk (decide_eq_true (show 0 + n ≤ (esR n).length by omega)) ?_ | refine SCall.app (hnow2 _) ?_ | refine SCall.app (hlead _) ?_ | refine SEx.of (hek1) ?_ | refine SEx.of (hget) ?_ | refine yf rfl ?_ | refine yt rfl ?_ | refine yo rfl ?_ | refine yc rfl ?_ | refine ys rfl ?_ | refine ye rfl ?_ | refine yn rfl ?_ | refine zw ?_ | refine zdt ?_ | refine zdf ?_ | refine znt ?_ | refine znf ?_ | refine zcd ?_ | refine zci ?_ | refine zc3 ?_) <;> (conv => whnf)))
                        exact hR' (n - (m + 1)) _ _ (by omega) ⟨m + 1, 0 + 1, by omega, rfl, .inr ⟨rfl, m, Nat.lt_succ_self m, hL⟩, (by repeat (first | exact Fr.le_nil | refine Fr.le_cons rfl ?_)), lo', hek1, hek2, hlt', rfl⟩
                    · have hld1 : ¬ 1 < ld := by
                        rcases hld with ⟨h1, _⟩ | ⟨h1, _⟩ <;> omega
                      ((conv => whnf); repeat ((first | refine SIf.df hld1 ?_ | refine yf rfl ?_ | refine yt rfl ?_ | refine yo rfl ?_ | refine yc rfl ?_ | refine ys rfl ?_ | refine ye rfl ?_ | refine yn rfl ?_ | refine zw ?_ | refine zdt ?_ | refine zdf ?_ | refine znt ?_ | refine znf ?_ | refine zcd ?_ | refine zci ?_ | refine zc3 ?_) <;> (conv => whnf)))
                      exact hR (150 - (i + 1)) _ _ (by omega) ⟨i + 1, h2, lo', _, _, _, _, _, _, _, _, ([] ++ []), _, _, _, .nils, by omega, by omega, rfl, W', hlt', hek2, hek1, (by repeat (first | exact Fr.le_nil | refine Fr.le_cons rfl ?_)), rfl⟩
                | cons b B =>
                  ((conv => whnf); repeat ((first | refine SChk.mk (by simp [roomOk] at hlen ⊢; omega) ?_ | refine SSame.mk (congrArg (V.sl (some (.l lk)) 3) (hcB.trans (congrArg (List.map lateR) hBe)).symm) ?_ | refine SEx.of (deep_map (R := lateR) (fun _ => rfl) _) ?_ | refine SEx.of (g2 _ _) ?_ | refine SEx.of (gL0 _ _) ?_ | refine yf rfl ?_ | refine yt rfl ?_ | refine yo rfl ?_ | refine yc rfl ?_ | refine ys rfl ?_ | refine ye rfl ?_ | refine yn rfl ?_ | refine zw ?_ | refine zdt ?_ | refine zdf ?_ | refine znt ?_ | refine znf ?_ | refine zcd ?_ | refine zci ?_ | refine zc3 ?_) <;> (conv => whnf)))
                  have hdr := fun (K : V → Heap → Prop) (hK : ∀ dd : Int, K (.i .i64 dd) h2) => drift_ok hG W'.clk (by omega) (fun a b _ _ => by have := W'.low (a * 8 + b); omega) (K := K) (fun dd _ _ _ => hK dd)
                  ((conv => whnf); repeat ((first | refine SCall.app (hdr _) ?_ | refine yf rfl ?_ | refine yt rfl ?_ | refine yo rfl ?_ | refine yc rfl ?_ | refine ys rfl ?_ | refine ye rfl ?_ | refine yn rfl ?_ | refine zw ?_ | refine zdt ?_ | refine zdf ?_ | refine znt ?_ | refine znf ?_ | refine zcd ?_ | refine zci ?_ | refine zc3 ?_) <;> (conv => whnf)))
                  intro dd
                  (conv => whnf)
                  refine SIf.ds (fun _ => ?_) (fun hdd => ?_)
                  · ((conv => whnf); repeat ((first | refine yf rfl ?_ | refine yt rfl ?_ | refine yo rfl ?_ | refine yc rfl ?_ | refine ys rfl ?_ | refine ye rfl ?_ | refine yn rfl ?_ | refine zw ?_ | refine zdt ?_ | refine zdf ?_ | refine znt ?_ | refine znf ?_ | refine zcd ?_ | refine zci ?_ | refine zc3 ?_) <;> (conv => whnf)))
                  · ((conv => whnf); repeat ((first | refine yf rfl ?_ | refine yt rfl ?_ | refine yo rfl ?_ | refine yc rfl ?_ | refine ys rfl ?_ | refine ye rfl ?_ | refine yn rfl ?_ | refine zw ?_ | refine zdt ?_ | refine zdf ?_ | refine znt ?_ | refine znf ?_ | refine zcd ?_ | refine zci ?_ | refine zc3 ?_) <;> (conv => whnf)))
                    refine SLoopV.by (fun q fr st => ∃ (m : Nat) (ld : Int), m ≤ n ∧ q = n - m ∧ ((ld = 0 ∧ ∀ j, j < m → leadsE (E j) (now j) = false) ∨ (ld = 1 ∧ ∃ j0, j0 < m ∧ leadsE (E j0) (now j0) = true)) ∧
                        Fr.le [(208, .i .i64 m), (207, .i .i64 n), (30, .i .i64 ld), (12, .i .i64 i), (11, .i .i64 d), (10, (.sl (some (.l (lo.next + 1))) 3 ((b :: B).map lateR))), (8, .ms (.l ek) 1 0 n), (7, .p (.g 5) 0), (6, .p (.g 3) 0), (1, .sl none 3 (ops.map opR)), (0, .i .i64 n)] fr ∧ ∃ lo', lo'.get ek = some (.arr 1 (esR n)) ∧ ek < lo'.next ∧ LateAt lo' (.sl (some (.l (lo.next + 1))) 3 ((b :: B).map lateR)) ([] ++ b :: B) ∧ st = ⟨h2, lo'⟩)
                      n ⟨0, 0, Nat.zero_le _, rfl, .inl ⟨rfl, fun j hj => absurd hj (Nat.not_lt_zero _)⟩, (by repeat (first | exact Fr.le_nil | refine Fr.le_cons rfl ?_)), _, (Heap.gp (show ek ≠ lo.next + 1 by omega) (e1 _ _)), (Nat.lt_of_lt_of_le hekn (show lo.next ≤ lo.next + 1 + 1 by omega)), (.inr ⟨by simp, lo.next + 1, rfl, Nat.lt_succ_self _, Heap.get_push_self _ _⟩), rfl⟩ ?_
                    rintro q fr st ⟨m, ld, hm, rfl, hld, hle1, lo', hek1, hek2, hlt', rfl⟩
                    refine ⟨_, hle1, fun R' hR' => ?_⟩
                    by_cases hmn : m < n
                    · have hget := esR_get (i := 0 + (m : Int).toNat) (n := n) (by omega) hmn
                      have hnow2 := fun (K : V → Heap → Prop) (hK : K (.i .i64 (now m)) h2) => now_ok hG W'.clk W'.row (m : Int) (K := K) (fun x h1 _ => by rw [h1 (by omega) (by omega)]; simpa using hK)
                      have hix2 : idxOk (m : Int) n = true := by unfold idxOk; rw [decide_eq_true (by omega), decide_eq_true (by omega)]; rfl
                      have htm : TimeOk (now m) := by
                        have h1 := W'.one.clk m hmn
                        have h2 := W'.time
                        unfold TimeOk
                        omega
                      have hlead := fun (K : V → Heap → Prop) => eleads_at hG (W'.els.at_ m hmn) (W'.ok m hmn) htm (K := K)
                      cases hL : leadsE (E m) (now m) with
                      | false =>
                        rw [hL] at hlead
                        ((conv => whnf); repeat ((first | refine SChk.mk hix2 ?_ | refine SChk.mk (decide_eq_true (show 0 + n ≤ (esR n).length by omega)) ?_ | refine SCall.app (hnow2 _) ?_ | refine SCall.app (hlead _) ?_ | refine SEx.of (hek1) ?_ | refine SEx.of (hget) ?_ | refine yf rfl ?_ | refine yt rfl ?_ | refine yo rfl ?_ | refine yc rfl ?_ | refine ys rfl ?_ | refine ye rfl ?_ | refine yn rfl ?_ | refine zw ?_ | refine zdt ?_ | refine zdf ?_ | refine znt ?_ | refine znf ?_ | refine zcd ?_ | refine zci ?_ | refine zc3 ?_) <;> (conv => whnf)))
                        refine hR' (n - (m + 1)) _ _ (by omega) ⟨m + 1, ld, by omega, rfl, ?_, (by repeat (first | exact Fr.le_nil | refine Fr.le_cons rfl ?_)), lo', hek1, hek2, hlt', rfl⟩
                        rcases hld with ⟨h1, h2⟩ | h1
                        · exact .inl ⟨h1, fun j hj => by
                            by_cases e : j = m
                            · subst e; exact hL
                            · exact h2 j (by omega)⟩
                        · obtain ⟨h2, j0, h3, h4⟩ := h1
                          exact .inr ⟨h2, j0, by omega, h4⟩
                      | true =>
                        rw [hL] at hlead
                        have hld0 : ld = 0 := by
                          rcases hld with ⟨h1, _⟩ | ⟨_, j0, hj0, hj1⟩
                          · exact h1
                          · exact absurd (W'.one.one (show j0 < n by omega) hmn hj1 hL) (by omega)
                        subst hld0
                        ((conv => whnf); repeat ((first | refine SChk.mk hix2 ?_ | refine SChk.mk (decide_eq_true (show 0 + n ≤ (esR n).length by omega)) ?_ | refine SCall.app (hnow2 _) ?_ | refine SCall.app (hlead _) ?_ | refine SEx.of (hek1) ?_ | refine SEx.of (hget) ?_ | refine yf rfl ?_ | refine yt rfl ?_ | refine yo rfl ?_ | refine yc rfl ?_ | refine ys rfl ?_ | refine ye rfl ?_ | refine yn rfl ?_ | refine zw ?_ | refine zdt ?_ | refine zdf ?_ | refine znt ?_ | refine znf ?_ | refine zcd ?_ | refine zci ?_ | refine zc3 ?_) <;> (conv => whnf)))
                        exact hR' (n - (m + 1)) _ _ (by omega) ⟨m + 1, 0 + 1, by omega, rfl, .inr ⟨rfl, m, Nat.lt_succ_self m, hL⟩, (by repeat (first | exact Fr.le_nil | refine Fr.le_cons rfl ?_)), lo', hek1, hek2, hlt', rfl⟩
                    · have hld1 : ¬ 1 < ld := by
                        rcases hld with ⟨h1, _⟩ | ⟨h1, _⟩ <;> omega
                      ((conv => whnf); repeat ((first | refine SIf.df hld1 ?_ | refine yf rfl ?_ | refine yt rfl ?_ | refine yo rfl ?_ | refine yc rfl ?_ | refine ys rfl ?_ | refine ye rfl ?_ | refine yn rfl ?_ | refine zw ?_ | refine zdt ?_ | refine zdf ?_ | refine znt ?_ | refine znf ?_ | refine zcd ?_ | refine zci ?_ | refine zc3 ?_) <;> (conv => whnf)))
                      exact hR (150 - (i + 1)) _ _ (by omega) ⟨i + 1, h2, lo', _, _, _, _, _, _, _, _, ([] ++ b :: B), _, _, _, (.sl (some (.l (lo.next + 1))) 3 ((b :: B).map lateR)), by omega, by omega, rfl, W', hlt', hek2, hek1, (by repeat (first | exact Fr.le_nil | refine Fr.le_cons rfl ?_)), rfl⟩
              | cons a A =>
                cases B with
                | nil =>
                  ((conv => whnf); repeat ((first | refine SChk.mk (by simp [roomOk] at hlen ⊢; omega) ?_ | refine SSame.mk (congrArg (V.sl (some (.l lk)) 3) (hcB.trans (congrArg (List.map lateR) hBe)).symm) ?_ | refine SEx.of (deep_map (R := lateR) (fun _ => rfl) _) ?_ | refine SEx.of (g2 _ _) ?_ | refine SEx.of (gL0 _ _) ?_ | refine yf rfl ?_ | refine yt rfl ?_ | refine yo rfl ?_ | refine yc rfl ?_ | refine ys rfl ?_ | refine ye rfl ?_ | refine yn rfl ?_ | refine zw ?_ | refine zdt ?_ | refine zdf ?_ | refine znt ?_ | refine znf ?_ | refine zcd ?_ | refine zci ?_ | refine zc3 ?_) <;> (conv => whnf)))
                  have hdr := fun (K : V → Heap → Prop) (hK : ∀ dd : Int, K (.i .i64 dd) h2) => drift_ok hG W'.clk (by omega) (fun a b _ _ => by have := W'.low (a * 8 + b); omega) (K := K) (fun dd _ _ _ => hK dd)
                  ((conv => whnf); repeat ((first | refine SCall.app (hdr _) ?_ | refine yf rfl ?_ | refine yt rfl ?_ | refine yo rfl ?_ | refine yc rfl ?_ | refine ys rfl ?_ | refine ye rfl ?_ | refine yn rfl ?_ | refine zw ?_ | refine zdt ?_ | refine zdf ?_ | refine znt ?_ | refine znf ?_ | refine zcd ?_ | refine zci ?_ | refine zc3 ?_) <;> (conv => whnf)))
                  intro dd
                  (conv => whnf)
                  refine SIf.ds (fun _ => ?_) (fun hdd => ?_)
                  · ((conv => whnf); repeat ((first | refine yf rfl ?_ | refine yt rfl ?_ | refine yo rfl ?_ | refine yc rfl ?_ | refine ys rfl ?_ | refine ye rfl ?_ | refine yn rfl ?_ | refine zw ?_ | refine zdt ?_ | refine zdf ?_ | refine znt ?_ | refine znf ?_ | refine zcd ?_ | refine zci ?_ | refine zc3 ?_) <;> (conv => whnf)))
                  · ((conv => whnf); repeat ((first | refine yf rfl ?_ | refine yt rfl ?_ | refine yo rfl ?_ | refine yc rfl ?_ | refine ys rfl ?_ | refine ye rfl ?_ | refine yn rfl ?_ | refine zw ?_ | refine zdt ?_ | refine zdf ?_ | refine znt ?_ | refine znf ?_ | refine zcd ?_ | refine zci ?_ | refine zc3 ?_) <;> (conv => whnf)))
                    refine SLoopV.by (fun q fr st => ∃ (m : Nat) (ld : Int), m ≤ n ∧ q = n - m ∧ ((ld = 0 ∧ ∀ j, j < m → leadsE (E j) (now j) = false) ∨ (ld = 1 ∧ ∃ j0, j0 < m ∧ leadsE (E j0) (now j0) = true)) ∧
                        Fr.le [(208, .i .i64 m), (207, .i .i64 n), (30, .i .i64 ld), (12, .i .i64 i), (11, .i .i64 d), (10, (.sl (some (.l (lo.next + 1))) 3 ((a :: A).map lateR))), (8, .ms (.l ek) 1 0 n), (7, .p (.g 5) 0), (6, .p (.g 3) 0), (1, .sl none 3 (ops.map opR)), (0, .i .i64 n)] fr ∧ ∃ lo', lo'.get ek = some (.arr 1 (esR n)) ∧ ek < lo'.next ∧ LateAt lo' (.sl (some (.l (lo.next + 1))) 3 ((a :: A).map lateR)) (a :: A ++ []) ∧ st = ⟨h2, lo'⟩)
                      n ⟨0, 0, Nat.zero_le _, rfl, .inl ⟨rfl, fun j hj => absurd hj (Nat.not_lt_zero _)⟩, (by repeat (first | exact Fr.le_nil | refine Fr.le_cons rfl ?_)), _, (Heap.gp (show ek ≠ lo.next + 1 by omega) (e1 _ _)), (Nat.lt_of_lt_of_le hekn (show lo.next ≤ lo.next + 1 + 1 by omega)), (.inr ⟨by simp, lo.next + 1, by rw [List.append_nil], Nat.lt_succ_self _, Heap.get_push_self _ _⟩), rfl⟩ ?_
                    rintro q fr st ⟨m, ld, hm, rfl, hld, hle1, lo', hek1, hek2, hlt', rfl⟩
                    refine ⟨_, hle1, fun R' hR' => ?_⟩
                    by_cases hmn : m < n
                    · have hget := esR_get (i := 0 + (m : Int).toNat) (n := n) (by omega) hmn
                      have hnow2 := fun (K : V → Heap → Prop) (hK : K (.i .i64 (now m)) h2) => now_ok hG W'.clk W'.row (m : Int) (K := K) (fun x h1 _ => by rw [h1 (by omega) (by omega)]; simpa using hK)
                      have hix2 : idxOk (m : Int) n = true := by unfold idxOk; rw [decide_eq_true (by omega), decide_eq_true (by omega)]; rfl
                      have htm : TimeOk (now m) := by
                        have h1 := W'.one.clk m hmn
                        have h2 := W'.time
                        unfold TimeOk
                        omega
                      have hlead := fun (K : V → Heap → Prop) => eleads_at hG (W'.els.at_ m hmn) (W'.ok m hmn) htm (K := K)
                      cases hL : leadsE (E m) (now m) with
                      | false =>
                        rw [hL] at hlead
                        ((conv => whnf); repeat ((first | refine SChk.mk hix2 ?_ | refine SChk.mk (decide_eq_true (show 0 + n ≤ (esR n).length by omega)) ?_ | refine SCall.app (hnow2 _) ?_ | refine SCall.app (hlead _) ?_ | refine SEx.of (hek1) ?_ | refine SEx.of (hget) ?_ | refine yf rfl ?_ | refine yt rfl ?_ | refine yo rfl ?_ | refine yc rfl ?_ | refine ys rfl ?_ | refine ye rfl ?_ | refine yn rfl ?_ | refine zw ?_ | refine zdt ?_ | refine zdf ?_ | refine znt ?_ | refine znf ?_ | refine zcd ?_ | refine zci ?_ | refine zc3 ?_) <;> (conv => whnf)))
                        refine hR' (n - (m + 1)) _ _ (by omega) ⟨m + 1, ld, by omega, rfl, ?_, (by repeat (first | exact Fr.le_nil | refine Fr.le_cons rfl ?_)), lo', hek1, hek2, hlt', rfl⟩
                        rcases hld with ⟨h1, h2⟩ | h1
                        · exact .inl ⟨h1, fun j hj => by
                            by_cases e : j = m
                            · subst e; exact hL
                            · exact h2 j (by omega)⟩
                        · obtain ⟨h2, j0, h3, h4⟩ := h1
                          exact .inr ⟨h2, j0, by omega, h4⟩
                      | true =>
                        rw [hL] at hlead
                        have hld0 : ld = 0 := by
                          rcases hld with ⟨h1, _⟩ | ⟨_, j0, hj0, hj1⟩
                          · exact h1
                          · exact absurd (W'.one.one (show j0 < n by omega) hmn hj1 hL) (by omega)
                        subst hld0
                        ((conv => whnf); repeat ((first | refine SChk.mk hix2 ?_ | refine SChk.mk (decide_eq_true (show 0 + n ≤ (esR n).length by omega)) ?_ | refine SCall.app (hnow2 _) ?_ | refine SCall.app (hlead _) ?_ | refine SEx.of (hek1) ?_ | refine SEx.of (hget) ?_ | refine yf rfl ?_ | refine yt rfl ?_ | refine yo rfl ?_ | refine yc rfl ?_ | refine ys rfl ?_ | refine ye rfl ?_ | refine yn rfl ?_ | refine zw ?_ | refine zdt ?_ | refine zdf ?_ | refine znt ?_ | refine znf ?_ | refine zcd ?_ | refine zci ?_ | refine zc3 ?_) <;> (conv => whnf)))
                        exact hR' (n - (m + 1)) _ _ (by omega) ⟨m + 1, 0 + 1, by omega, rfl, .inr ⟨rfl, m, Nat.lt_succ_self m, hL⟩, (by repeat (first | exact Fr.le_nil | refine Fr.le_cons rfl ?_)), lo', hek1, hek2, hlt', rfl⟩
                    · have hld1 : ¬ 1 < ld := by
                        rcases hld with ⟨h1, _⟩ | ⟨h1, _⟩ <;> omega
                      ((conv => whnf); repeat ((first | refine SIf.df hld1 ?_ | refine yf rfl ?_ | refine yt rfl ?_ | refine yo rfl ?_ | refine yc rfl ?_ | refine ys rfl ?_ | refine ye rfl ?_ | refine yn rfl ?_ | refine zw ?_ | refine zdt ?_ | refine zdf ?_ | refine znt ?_ | refine znf ?_ | refine zcd ?_ | refine zci ?_ | refine zc3 ?_) <;> (conv => whnf)))
                      exact hR (150 - (i + 1)) _ _ (by omega) ⟨i + 1, h2, lo', _, _, _, _, _, _, _, _, (a :: A ++ []), _, _, _, (.sl (some (.l (lo.next + 1))) 3 ((a :: A).map lateR)), by omega, by omega, rfl, W', hlt', hek2, hek1, (by repeat (first | exact Fr.le_nil | refine Fr.le_cons rfl ?_)), rfl⟩
                | cons b B =>
                  ((conv => whnf); repeat ((first | refine SChk.mk (by simp [roomOk] at hlen ⊢; omega) ?_ | refine SSame.mk (congrArg (V.sl (some (.l lk)) 3) (hcB.trans (congrArg (List.map lateR) hBe)).symm) ?_ | refine SEx.of (deep_map (R := lateR) (fun _ => rfl) _) ?_ | refine SEx.of (g2 _ _) ?_ | refine SEx.of (gL0 _ _) ?_ | refine SEx.of (Heap.get_push_self _ _) ?_ | refine yf rfl ?_ | refine yt rfl ?_ | refine yo rfl ?_ | refine yc rfl ?_ | refine ys rfl ?_ | refine ye rfl ?_ | refine yn rfl ?_ | refine zw ?_ | refine zdt ?_ | refine zdf ?_ | refine znt ?_ | refine znf ?_ | refine zcd ?_ | refine zci ?_ | refine zc3 ?_) <;> (conv => whnf)))
                  have hdr := fun (K : V → Heap → Prop) (hK : ∀ dd : Int, K (.i .i64 dd) h2) => drift_ok hG W'.clk (by omega) (fun a b _ _ => by have := W'.low (a * 8 + b); omega) (K := K) (fun dd _ _ _ => hK dd)
                  ((conv => whnf); repeat ((first | refine SCall.app (hdr _) ?_ | refine yf rfl ?_ | refine yt rfl ?_ | refine yo rfl ?_ | refine yc rfl ?_ | refine ys rfl ?_ | refine ye rfl ?_ | refine yn rfl ?_ | refine zw ?_ | refine zdt ?_ | refine zdf ?_ | refine znt ?_ | refine znf ?_ | refine zcd ?_ | refine zci ?_ | refine zc3 ?_) <;> (conv => whnf)))
                  intro dd
                  (conv => whnf)
                  refine SIf.ds (fun _ => ?_) (fun hdd => ?_)
                  · ((conv => whnf); repeat ((first | refine yf rfl ?_ | refine yt rfl ?_ | refine yo rfl ?_ | refine yc rfl ?_ | refine ys rfl ?_ | refine ye rfl ?_ | refine yn rfl ?_ | refine zw ?_ | refine zdt ?_ | refine zdf ?_ | refine znt ?_ | refine znf ?_ | refine zcd ?_ | refine zci ?_ | refine zc3 ?_) <;> (conv => whnf)))
                  · ((conv => whnf); repeat ((first | refine yf rfl ?_ | refine yt rfl ?_ | refine yo rfl ?_ | refine yc rfl ?_ | refine ys rfl ?_ | refine ye rfl ?_ | refine yn rfl ?_ | refine zw ?_ | refine zdt ?_ | refine zdf ?_ | refine znt ?_ | refine znf ?_ | refine zcd ?_ | refine zci ?_ | refine zc3 ?_) <;> (conv => whnf)))
                    refine SLoopV.by (fun q fr st => ∃ (m : Nat) (ld : Int), m ≤ n ∧ q = n - m ∧ ((ld = 0 ∧ ∀ j, j < m → leadsE (E j) (now j) = false) ∨ (ld = 1 ∧ ∃ j0, j0 < m ∧ leadsE (E j0) (now j0) = true)) ∧
                        Fr.le [(208, .i .i64 m), (207, .i .i64 n), (30, .i .i64 ld), (12, .i .i64 i), (11, .i .i64 d), (10, (.sl (some (.l (lo.next + 1 + 1))) 3 ((a :: A).map lateR ++ (b :: B).map lateR))), (8, .ms (.l ek) 1 0 n), (7, .p (.g 5) 0), (6, .p (.g 3) 0), (1, .sl none 3 (ops.map opR)), (0, .i .i64 n)] fr ∧ ∃ lo', lo'.get ek = some (.arr 1 (esR n)) ∧ ek < lo'.next ∧ LateAt lo' (.sl (some (.l (lo.next + 1 + 1))) 3 ((a :: A).map lateR ++ (b :: B).map lateR)) (a :: A ++ b :: B) ∧ st = ⟨h2, lo'⟩)
                      n ⟨0, 0, Nat.zero_le _, rfl, .inl ⟨rfl, fun j hj => absurd hj (Nat.not_lt_zero _)⟩, (by repeat (first | exact Fr.le_nil | refine Fr.le_cons rfl ?_)), _, (Heap.gp (show ek ≠ lo.next + 1 + 1 by omega) (Heap.gr (show ek ≠ lo.next + 1 by omega) (Heap.gp (show ek ≠ lo.next + 1 by omega) (e1 _ _)))), (Nat.lt_of_lt_of_le hekn (show lo.next ≤ lo.next + 1 + 1 + 1 by omega)), (.inr ⟨by simp, lo.next + 1 + 1, by rw [List.map_append], Nat.lt_succ_self _, Heap.get_push_self _ _⟩), rfl⟩ ?_
                    rintro q fr st ⟨m, ld, hm, rfl, hld, hle1, lo', hek1, hek2, hlt', rfl⟩
                    refine ⟨_, hle1, fun R' hR' => ?_⟩
                    by_cases hmn : m < n
                    · have hget := esR_get (i := 0 + (m : Int).toNat) (n := n) (by omega) hmn
                      have hnow2 := fun (K : V → Heap → Prop) (hK : K (.i .i64 (now m)) h2) => now_ok hG W'.clk W'.row (m : Int) (K := K) (fun x h1 _ => by rw [h1 (by omega) (by omega)]; simpa using hK)
                      have hix2 : idxOk (m : Int) n = true := by unfold idxOk; rw [decide_eq_true (by omega), decide_eq_true (by omega)]; rfl
                      have htm : TimeOk (now m) := by
                        have h1 := W'.one.clk m hmn
                        have h2 := W'.time
                        unfold TimeOk
                        omega
                      have hlead := fun (K : V → Heap → Prop) => eleads_at hG (W'.els.at_ m hmn) (W'.ok m hmn) htm (K := K)
                      cases hL : leadsE (E m) (now m) with
                      | false =>
                        rw [hL] at hlead
                        ((conv => whnf); repeat ((first | refine SChk.mk hix2 ?_ | refine SChk.mk (decide_eq_true (show 0 + n ≤ (esR n).length by omega)) ?_ | refine SCall.app (hnow2 _) ?_ | refine SCall.app (hlead _) ?_ | refine SEx.of (hek1) ?_ | refine SEx.of (hget) ?_ | refine yf rfl ?_ | refine yt rfl ?_ | refine yo rfl ?_ | refine yc rfl ?_ | refine ys rfl ?_ | refine ye rfl ?_ | refine yn rfl ?_ | refine zw ?_ | refine zdt ?_ | refine zdf ?_ | refine znt ?_ | refine znf ?_ | refine zcd ?_ | refine zci ?_ | refine zc3 ?_) <;> (conv => whnf)))
                        refine hR' (n - (m + 1)) _ _ (by omega) ⟨m + 1, ld, by omega, rfl, ?_, (by repeat (first | exact Fr.le_nil | refine Fr.le_cons rfl ?_)), lo', hek1, hek2, hlt', rfl⟩
                        rcases hld with ⟨h1, h2⟩ | h1
                        · exact .inl ⟨h1, fun j hj => by
                            by_cases e : j = m
                            · subst e; exact hL
                            · exact h2 j (by omega)⟩
                        · obtain ⟨h2, j0, h3, h4⟩ := h1
                          exact .inr ⟨h2, j0, by omega, h4⟩
                      | true =>
                        rw [hL] at hlead
                        have hld0 : ld = 0 := by
                          rcases hld with ⟨h1, _⟩ | ⟨_, j0, hj0, hj1⟩
                          · exact h1
                          · exact absurd (W'.one.one (show j0 < n by omega) hmn hj1 hL) (by omega)
                        subst hld0
                        ((conv => whnf); repeat ((first | refine SChk.mk hix2 ?_ | refine SChk.mk (decide_eq_true (show 0 + n ≤ (esR n).length by omega)) ?_ | refine SCall.app (hnow2 _) ?_ | refine SCall.app (hlead _) ?_ | refine SEx.of (hek1) ?_ | refine SEx.of (hget) ?_ | refine yf rfl ?_ | refine yt rfl ?_ | refine yo rfl ?_ | refine yc rfl ?_ | refine ys rfl ?_ | refine ye rfl ?_ | refine yn rfl ?_ | refine zw ?_ | refine zdt ?_ | refine zdf ?_ | refine znt ?_ | refine znf ?_ | refine zcd ?_ | refine zci ?_ | refine zc3 ?_) <;> (conv => whnf)))
                        exact hR' (n - (m + 1)) _ _ (by omega) ⟨m + 1, 0 + 1, by omega, rfl, .inr ⟨rfl, m, Nat.lt_succ_self m, hL⟩, (by repeat (first | exact Fr.le_nil | refine Fr.le_cons rfl ?_)), lo', hek1, hek2, hlt', rfl⟩
                    · have hld1 : ¬ 1 < ld := by
                        rcases hld with ⟨h1, _⟩ | ⟨h1, _⟩ <;> omega
                      ((conv => whnf); repeat ((first | refine SIf.df hld1 ?_ | refine yf rfl ?_ | refine yt rfl ?_ | refine yo rfl ?_ | refine yc rfl ?_ | refine ys rfl ?_ | refine ye rfl ?_ | refine yn rfl ?_ | refine zw ?_ | refine zdt ?_ | refine zdf ?_ | refine znt ?_ | refine znf ?_ | refine zcd ?_ | refine zci ?_ | refine zc3 ?_) <;> (conv => whnf)))
                      exact hR (150 - (i + 1)) _ _ (by omega) ⟨i + 1, h2, lo', _, _, _, _, _, _, _, _, (a :: A ++ b :: B), _, _, _, (.sl (some (.l (lo.next + 1 + 1))) 3 ((a :: A).map lateR ++ (b :: B).map lateR)), by omega, by omega, rfl, W', hlt', hek2, hek1, (by repeat (first | exact Fr.le_nil | refine Fr.le_cons rfl ?_)), rfl⟩
        · by_cases hk01 : o.1 = 0 ∨ o.1 = 1
          · have htk : TimeOk (now k) := by
              have h1 := W.one.clk k hkn
              have h2 := W.time
              unfold TimeOk
              omega
            have hsk : ∀ h2, Heap.Keeps (owns 3 0 1 2 cc) h h2 → h2.get (6 + k) = some (.cs (electR (E k))) := fun h2 k2 => (k2.same (6 + k) (by have := W.els.lt; omega) (owns_out W.cc (by omega))).trans (W.els.at_ k hkn)
            have hr0 := W.one.r0
            have Kp : ∀ o1 o2 o3 o4 o5 o6, Heap.Keeps (fun _ => False) lo ((((((lo.push o1).set lo.next o2).push o3).set (lo.next + 1) o4).push o5).set (lo.next + 1 + 1) o6) := fun o1 o2 o3 o4 o5 o6 =>
              ((((((Heap.Keeps.refl _ lo).push o1).set (.inr (Nat.le_refl _)) o2).push o3).set (.inr (by omega)) o4).push o5).set (.inr (by omega)) o6
            have gA : ∀ o1 o2 o3 o4, ((((lo.push o1).set lo.next o2).push o3).set (lo.next + 1) o4).get (lo.next + 1) = some o4 := fun _ _ _ _ => Heap.get_set_self (Heap.get_push_self _ _)
            have gB : ∀ o1 o2 o3 o4 o5 o6, ((((((lo.push o1).set lo.next o2).push o3).set (lo.next + 1) o4).push o5).set (lo.next + 1 + 1) o6).get (lo.next + 1 + 1) = some o6 := fun _ _ _ _ _ _ => Heap.get_set_self (Heap.get_push_self _ _)
            have gC : ∀ o1 o2 o3 o4 o5 o6, ((((((lo.push o1).set lo.next o2).push o3).set (lo.next + 1) o4).push o5).set (lo.next + 1 + 1) o6).get (lo.next + 1) = some o4 := fun _ _ _ _ _ _ => Heap.gs (by omega) (Heap.gp (show lo.next + 1 ≠ lo.next + 1 + 1 by omega) (gA _ _ _ _))
            by_cases hR0 : R ≤ 0
            · obtain rfl : R = 0 := by omega
              have hget := fun (K : V → Heap → Prop) => getL_no hG hA W.store (K := K)
              have hgl := getl_nil hG
              have hsee := fun (h2 : Heap) (k2 : Heap.Keeps (owns 3 0 1 2 cc) h h2) (K : V → Heap → Prop) => see_at hG (hsk h2 k2) (now k) 0 0 0 false (K := K)
              obtain ⟨u', hone⟩ := W.one.see hkn (hl := 0) (du := 0) (fun hc => absurd hc (Int.lt_irrefl 0))
              rcases hk01 with hk01 | hk01
              all_goals
                ((conv => whnf); repeat ((first | refine SCall.app (hget _) ?_ | refine yf rfl ?_ | refine yt rfl ?_ | refine yo rfl ?_ | refine yc rfl ?_ | refine ys rfl ?_ | refine ye rfl ?_ | refine yn rfl ?_ | refine zw ?_ | refine zdt ?_ | refine zdf ?_ | refine znt ?_ | refine znf ?_ | refine zcd ?_ | refine zci ?_ | refine zc3 ?_) <;> (conv => whnf)))
                intro h2 hs2 k2
                ((conv => whnf); repeat ((first | refine SCall.app (Pure.go hgl rfl) ?_ | refine SCall.app (hsee h2 k2 _) ?_ | refine SEx.of (Heap.get_push_self _ _) ?_ | refine SEx.of (Heap.get_set_self (Heap.get_push_self _ _)) ?_ | refine SEx.of (gA _ _ _ _) ?_ | refine SEx.of (gB _ _ _ _ _ _) ?_ | refine SEx.of (gC _ _ _ _ _ _) ?_ | refine yf rfl ?_ | refine yt rfl ?_ | refine yo rfl ?_ | refine yc rfl ?_ | refine ys rfl ?_ | refine ye rfl ?_ | refine yn rfl ?_ | refine zw ?_ | refine zdt ?_ | refine zdf ?_ | refine znt ?_ | refine znf ?_ | refine zcd ?_ | refine zci ?_ | refine zc3 ?_) <;> (conv => whnf)))
                intro h3 hg3 k3
                have W' := W.two hs2 W.cc k2 k3 hkn hg3 hone (by have := W.rev; omega) W.hld (see_ok (W.ok k hkn) htk ⟨Int.le_refl 0, by decide⟩) (fun x hx => (W.late x hx).fewer (see_term _ _ _ _ _ _)) (Nat.le_succ_of_le W.few)
                have hdr := fun (K : V → Heap → Prop) (hK : ∀ dd : Int, K (.i .i64 dd) h3) => drift_ok hG W'.clk (by omega) (fun a b _ _ => by have := W'.low (a * 8 + b); omega) (K := K) (fun dd _ _ _ => hK dd)
                ((conv => whnf); repeat ((first | refine SCall.app (hdr _) ?_ | refine yf rfl ?_ | refine yt rfl ?_ | refine yo rfl ?_ | refine yc rfl ?_ | refine ys rfl ?_ | refine ye rfl ?_ | refine yn rfl ?_ | refine zw ?_ | refine zdt ?_ | refine zdf ?_ | refine znt ?_ | refine znf ?_ | refine zcd ?_ | refine zci ?_ | refine zc3 ?_) <;> (conv => whnf)))
                intro dd
                (conv => whnf)
                refine SIf.ds (fun _ => ?_) (fun hdd => ?_)
                · ((conv => whnf); repeat ((first | refine yf rfl ?_ | refine yt rfl ?_ | refine yo rfl ?_ | refine yc rfl ?_ | refine ys rfl ?_ | refine ye rfl ?_ | refine yn rfl ?_ | refine zw ?_ | refine zdt ?_ | refine zdf ?_ | refine znt ?_ | refine znf ?_ | refine zcd ?_ | refine zci ?_ | refine zc3 ?_) <;> (conv => whnf)))
                · ((conv => whnf); repeat ((first | refine yf rfl ?_ | refine yt rfl ?_ | refine yo rfl ?_ | refine yc rfl ?_ | refine ys rfl ?_ | refine ye rfl ?_ | refine yn rfl ?_ | refine zw ?_ | refine zdt ?_ | refine zdf ?_ | refine znt ?_ | refine znf ?_ | refine zcd ?_ | refine zci ?_ | refine zc3 ?_) <;> (conv => whnf)))
                  refine SLoopV.by (fun q fr st => ∃ (m : Nat) (ld : Int), m ≤ n ∧ q = n - m ∧ ((ld = 0 ∧ ∀ j, j < m → leadsE ((updE E k (seeE (E k) (now k) 0 0 0 false)) j) (now j) = false) ∨ (ld = 1 ∧ ∃ j0, j0 < m ∧ leadsE ((updE E k (seeE (E k) (now k) 0 0 0 false)) j0) (now j0) = true)) ∧
                      Fr.le [(208, .i .i64 m), (207, .i .i64 n), (30, .i .i64 ld), (12, .i .i64 i), (11, .i .i64 d), (10, lv), (8, .ms (.l ek) 1 0 n), (7, .p (.g 5) 0), (6, .p (.g 3) 0), (1, .sl none 3 (ops.map opR)), (0, .i .i64 n)] fr ∧ ∃ lo', lo'.get ek = some (.arr 1 (esR n)) ∧ ek < lo'.next ∧ LateAt lo' lv Ls ∧ st = ⟨h3, lo'⟩)
                    n ⟨0, 0, Nat.zero_le _, rfl, .inl ⟨rfl, fun j hj => absurd hj (Nat.not_lt_zero _)⟩, (by repeat (first | exact Fr.le_nil | refine Fr.le_cons rfl ?_)), _, (((Kp _ _ _ _ _ _).same ek hekn id).trans heks), (Nat.lt_of_lt_of_le hekn (Kp _ _ _ _ _ _).next), hlate.keep (Kp _ _ _ _ _ _), rfl⟩ ?_
                  rintro q fr st ⟨m, ld, hm, rfl, hld, hle1, lo', hek1, hek2, hlt', rfl⟩
                  refine ⟨_, hle1, fun R' hR' => ?_⟩
                  by_cases hmn : m < n
                  · have hget := esR_get (i := 0 + (m : Int).toNat) (n := n) (by omega) hmn
                    have hnow2 := fun (K : V → Heap → Prop) (hK : K (.i .i64 (now m)) h3) => now_ok hG W'.clk W'.row (m : Int) (K := K) (fun x h1 _ => by rw [h1 (by omega) (by omega)]; simpa using hK)
                    have hix2 : idxOk (m : Int) n = true := by unfold idxOk; rw [decide_eq_true (by omega), decide_eq_true (by omega)]; rfl
                    have htm : TimeOk (now m) := by
                      have h1 := W'.one.clk m hmn
                      have h2 := W'.time
                      unfold TimeOk
                      omega
                    have hlead := fun (K : V → Heap → Prop) => eleads_at hG (W'.els.at_ m hmn) (W'.ok m hmn) htm (K := K)
                    cases hL : leadsE ((updE E k (seeE (E k) (now k) 0 0 0 false)) m) (now m) with
                    | false =>
                      rw [hL] at hlead
                      ((conv => whnf); repeat ((first | refine SChk.mk hix2 ?_ | refine SChk.mk (decide_eq_true (show 0 + n ≤ (esR n).length by omega)) ?_ | refine SCall.app (hnow2 _) ?_ | refine SCall.app (hlead _) ?_ | refine SEx.of (hek1) ?_ | refine SEx.of (hget) ?_ | refine yf rfl ?_ | refine yt rfl ?_ | refine yo rfl ?_ | refine yc rfl ?_ | refine ys rfl ?_ | refine ye rfl ?_ | refine yn rfl ?_ | refine zw ?_ | refine zdt ?_ | refine zdf ?_ | refine znt ?_ | refine znf ?_ | refine zcd ?_ | refine zci ?_ | refine zc3 ?_) <;> (conv => whnf)))
                      refine hR' (n - (m + 1)) _ _ (by omega) ⟨m + 1, ld, by omega, rfl, ?_, (by repeat (first | exact Fr.le_nil | refine Fr.le_cons rfl ?_)), lo', hek1, hek2, hlt', rfl⟩
                      rcases hld with ⟨h1, h2⟩ | h1
                      · exact .inl ⟨h1, fun j hj => by
                          by_cases e : j = m
                          · subst e; exact hL
                          · exact h2 j (by omega)⟩
                      · obtain ⟨h2, j0, h3, h4⟩ := h1
                        exact .inr ⟨h2, j0, by omega, h4⟩
                    | true =>
                      rw [hL] at hlead
                      have hld0 : ld = 0 := by
                        rcases hld with ⟨h1, _⟩ | ⟨_, j0, hj0, hj1⟩
                        · exact h1
                        · exact absurd (W'.one.one (show j0 < n by omega) hmn hj1 hL) (by omega)
                      subst hld0
                      ((conv => whnf); repeat ((first | refine SChk.mk hix2 ?_ | refine SChk.mk (decide_eq_true (show 0 + n ≤ (esR n).length by omega)) ?_ | refine SCall.app (hnow2 _) ?_ | refine SCall.app (hlead _) ?_ | refine SEx.of (hek1) ?_ | refine SEx.of (hget) ?_ | refine yf rfl ?_ | refine yt rfl ?_ | refine yo rfl ?_ | refine yc rfl ?_ | refine ys rfl ?_ | refine ye rfl ?_ | refine yn rfl ?_ | refine zw ?_ | refine zdt ?_ | refine zdf ?_ | refine znt ?_ | refine znf ?_ | refine zcd ?_ | refine zci ?_ | refine zc3 ?_) <;> (conv => whnf)))
                      exact hR' (n - (m + 1)) _ _ (by omega) ⟨m + 1, 0 + 1, by omega, rfl, .inr ⟨rfl, m, Nat.lt_succ_self m, hL⟩, (by repeat (first | exact Fr.le_nil | refine Fr.le_cons rfl ?_)), lo', hek1, hek2, hlt', rfl⟩
                  · have hld1 : ¬ 1 < ld := by
                      rcases hld with ⟨h1, _⟩ | ⟨h1, _⟩ <;> omega
                    ((conv => whnf); repeat ((first | refine SIf.df hld1 ?_ | refine yf rfl ?_ | refine yt rfl ?_ | refine yo rfl ?_ | refine yc rfl ?_ | refine ys rfl ?_ | refine ye rfl ?_ | refine yn rfl ?_ | refine zw ?_ | refine zdt ?_ | refine zdf ?_ | refine znt ?_ | refine znf ?_ | refine zcd ?_ | refine zci ?_ | refine zc3 ?_) <;> (conv => whnf)))
                    exact hR (150 - (i + 1)) _ _ (by omega) ⟨i + 1, h3, lo', _, _, _, _, _, _, _, _, Ls, _, _, _, lv, by omega, by omega, rfl, W', hlt', hek2, hek1, (by repeat (first | exact Fr.le_nil | refine Fr.le_cons rfl ?_)), rfl⟩
            · have hcur : curOf R hold = some (R, leaseB (hold R)) := if_neg hR0
              have hh := W.hld R (by omega) (Int.le_refl _)
              have hget := fun (K : V → Heap → Prop) => getL_yes hG hA (b := leaseB (hold R)) (hcur ▸ W.store) (show (10 : Nat) ≤ 4000 by decide) (K := K)
              have hgl := getl_ok hG (hold R) (by omega)
              have hsee := fun (h2 : Heap) (k2 : Heap.Keeps (owns 3 0 1 2 cc) h h2) (K : V → Heap → Prop) => see_at hG (hsk h2 k2) (now k) R (hold R) 1000 true (K := K)
              obtain ⟨u', hone⟩ := W.one.see hkn (hl := hold R) (du := 1000) (fun hc => ⟨rfl, rfl⟩)
              rw [decide_eq_true (show 0 < R by omega)] at hone
              rcases hk01 with hk01 | hk01
              all_goals
                ((conv => whnf); repeat ((first | refine SCall.app (hget _) ?_ | refine yf rfl ?_ | refine yt rfl ?_ | refine yo rfl ?_ | refine yc rfl ?_ | refine ys rfl ?_ | refine ye rfl ?_ | refine yn rfl ?_ | refine zw ?_ | refine zdt ?_ | refine zdf ?_ | refine znt ?_ | refine znf ?_ | refine zcd ?_ | refine zci ?_ | refine zc3 ?_) <;> (conv => whnf)))
                intro h2 hs2 k2
                rw [← hcur] at hs2
                ((conv => whnf); repeat ((first | refine SCall.app (Pure.go hgl rfl) ?_ | refine SCall.app (hsee h2 k2 _) ?_ | refine SEx.of (Heap.get_push_self _ _) ?_ | refine SEx.of (Heap.get_set_self (Heap.get_push_self _ _)) ?_ | refine SEx.of (gA _ _ _ _) ?_ | refine SEx.of (gB _ _ _ _ _ _) ?_ | refine SEx.of (gC _ _ _ _ _ _) ?_ | refine yf rfl ?_ | refine yt rfl ?_ | refine yo rfl ?_ | refine yc rfl ?_ | refine ys rfl ?_ | refine ye rfl ?_ | refine yn rfl ?_ | refine zw ?_ | refine zdt ?_ | refine zdf ?_ | refine znt ?_ | refine znf ?_ | refine zcd ?_ | refine zci ?_ | refine zc3 ?_) <;> (conv => whnf)))
                intro h3 hg3 k3
                have W' := W.two hs2 W.cc k2 k3 hkn hg3 hone (by have := W.rev; omega) W.hld (see_ok (W.ok k hkn) htk ⟨by decide, by decide⟩) (fun x hx => (W.late x hx).fewer (see_term _ _ _ _ _ _)) (Nat.le_succ_of_le W.few)
                have hdr := fun (K : V → Heap → Prop) (hK : ∀ dd : Int, K (.i .i64 dd) h3) => drift_ok hG W'.clk (by omega) (fun a b _ _ => by have := W'.low (a * 8 + b); omega) (K := K) (fun dd _ _ _ => hK dd)
                ((conv => whnf); repeat ((first | refine SCall.app (hdr _) ?_ | refine yf rfl ?_ | refine yt rfl ?_ | refine yo rfl ?_ | refine yc rfl ?_ | refine ys rfl ?_ | refine ye rfl ?_ | refine yn rfl ?_ | refine zw ?_ | refine zdt ?_ | refine zdf ?_ | refine znt ?_ | refine znf ?_ | refine zcd ?_ | refine zci ?_ | refine zc3 ?_) <;> (conv => whnf)))
                intro dd
                (conv => whnf)
                refine SIf.ds (fun _ => ?_) (fun hdd => ?_)
                · ((conv => whnf); repeat ((first | refine yf rfl ?_ | refine yt rfl ?_ | refine yo rfl ?_ | refine yc rfl ?_ | refine ys rfl ?_ | refine ye rfl ?_ | refine yn rfl ?_ | refine zw ?_ | refine zdt ?_ | refine zdf ?_ | refine znt ?_ | refine znf ?_ | refine zcd ?_ | refine zci ?_ | refine zc3 ?_) <;> (conv => whnf)))
                · ((conv => whnf); repeat ((first | refine yf rfl ?_ | refine yt rfl ?_ | refine yo rfl ?_ | refine yc rfl ?_ | refine ys rfl ?_ | refine ye rfl ?_ | refine yn rfl ?_ | refine zw ?_ | refine zdt ?_ | refine zdf ?_ | refine znt ?_ | refine znf ?_ | refine zcd ?_ | refine zci ?_ | refine zc3 ?_) <;> (conv => whnf)))
                  refine SLoopV.by (fun q fr st => ∃ (m : Nat) (ld : Int), m ≤ n ∧ q = n - m ∧ ((ld = 0 ∧ ∀ j, j < m → leadsE ((updE E k (seeE (E k) (now k) R (hold R) 1000 true)) j) (now j) = false) ∨ (ld = 1 ∧ ∃ j0, j0 < m ∧ leadsE ((updE E k (seeE (E k) (now k) R (hold R) 1000 true)) j0) (now j0) = true)) ∧
                      Fr.le [(208, .i .i64 m), (207, .i .i64 n), (30, .i .i64 ld), (12, .i .i64 i), (11, .i .i64 d), (10, lv), (8, .ms (.l ek) 1 0 n), (7, .p (.g 5) 0), (6, .p (.g 3) 0), (1, .sl none 3 (ops.map opR)), (0, .i .i64 n)] fr ∧ ∃ lo', lo'.get ek = some (.arr 1 (esR n)) ∧ ek < lo'.next ∧ LateAt lo' lv Ls ∧ st = ⟨h3, lo'⟩)
                    n ⟨0, 0, Nat.zero_le _, rfl, .inl ⟨rfl, fun j hj => absurd hj (Nat.not_lt_zero _)⟩, (by repeat (first | exact Fr.le_nil | refine Fr.le_cons rfl ?_)), _, (((Kp _ _ _ _ _ _).same ek hekn id).trans heks), (Nat.lt_of_lt_of_le hekn (Kp _ _ _ _ _ _).next), hlate.keep (Kp _ _ _ _ _ _), rfl⟩ ?_
                  rintro q fr st ⟨m, ld, hm, rfl, hld, hle1, lo', hek1, hek2, hlt', rfl⟩
                  refine ⟨_, hle1, fun R' hR' => ?_⟩
                  by_cases hmn : m < n
                  · have hget := esR_get (i := 0 + (m : Int).toNat) (n := n) (by omega) hmn
                    have hnow2 := fun (K : V → Heap → Prop) (hK : K (.i .i64 (now m)) h3) => now_ok hG W'.clk W'.row (m : Int) (K := K) (fun x h1 _ => by rw [h1 (by omega) (by omega)]; simpa using hK)
                    have hix2 : idxOk (m : Int) n = true := by unfold idxOk; rw [decide_eq_true (by omega), decide_eq_true (by omega)]; rfl
                    have htm : TimeOk (now m) := by
                      have h1 := W'.one.clk m hmn
                      have h2 := W'.time
                      unfold TimeOk
                      omega
                    have hlead := fun (K : V → Heap → Prop) => eleads_at hG (W'.els.at_ m hmn) (W'.ok m hmn) htm (K := K)
                    cases hL : leadsE ((updE E k (seeE (E k) (now k) R (hold R) 1000 true)) m) (now m) with
                    | false =>
                      rw [hL] at hlead
                      ((conv => whnf); repeat ((first | refine SChk.mk hix2 ?_ | refine SChk.mk (decide_eq_true (show 0 + n ≤ (esR n).length by omega)) ?_ | refine SCall.app (hnow2 _) ?_ | refine SCall.app (hlead _) ?_ | refine SEx.of (hek1) ?_ | refine SEx.of (hget) ?_ | refine yf rfl ?_ | refine yt rfl ?_ | refine yo rfl ?_ | refine yc rfl ?_ | refine ys rfl ?_ | refine ye rfl ?_ | refine yn rfl ?_ | refine zw ?_ | refine zdt ?_ | refine zdf ?_ | refine znt ?_ | refine znf ?_ | refine zcd ?_ | refine zci ?_ | refine zc3 ?_) <;> (conv => whnf)))
                      refine hR' (n - (m + 1)) _ _ (by omega) ⟨m + 1, ld, by omega, rfl, ?_, (by repeat (first | exact Fr.le_nil | refine Fr.le_cons rfl ?_)), lo', hek1, hek2, hlt', rfl⟩
                      rcases hld with ⟨h1, h2⟩ | h1
                      · exact .inl ⟨h1, fun j hj => by
                          by_cases e : j = m
                          · subst e; exact hL
                          · exact h2 j (by omega)⟩
                      · obtain ⟨h2, j0, h3, h4⟩ := h1
                        exact .inr ⟨h2, j0, by omega, h4⟩
                    | true =>
                      rw [hL] at hlead
                      have hld0 : ld = 0 := by
                        rcases hld with ⟨h1, _⟩ | ⟨_, j0, hj0, hj1⟩
                        · exact h1
                        · exact absurd (W'.one.one (show j0 < n by omega) hmn hj1 hL) (by omega)
                      subst hld0
                      ((conv => whnf); repeat ((first | refine SChk.mk hix2 ?_ | refine SChk.mk (decide_eq_true (show 0 + n ≤ (esR n).length by omega)) ?_ | refine SCall.app (hnow2 _) ?_ | refine SCall.app (hlead _) ?_ | refine SEx.of (hek1) ?_ | refine SEx.of (hget) ?_ | refine yf rfl ?_ | refine yt rfl ?_ | refine yo rfl ?_ | refine yc rfl ?_ | refine ys rfl ?_ | refine ye rfl ?_ | refine yn rfl ?_ | refine zw ?_ | refine zdt ?_ | refine zdf ?_ | refine znt ?_ | refine znf ?_ | refine zcd ?_ | refine zci ?_ | refine zc3 ?_) <;> (conv => whnf)))
                      exact hR' (n - (m + 1)) _ _ (by omega) ⟨m + 1, 0 + 1, by omega, rfl, .inr ⟨rfl, m, Nat.lt_succ_self m, hL⟩, (by repeat (first | exact Fr.le_nil | refine Fr.le_cons rfl ?_)), lo', hek1, hek2, hlt', rfl⟩
                  · have hld1 : ¬ 1 < ld := by
                      rcases hld with ⟨h1, _⟩ | ⟨h1, _⟩ <;> omega
                    ((conv => whnf); repeat ((first | refine SIf.df hld1 ?_ | refine yf rfl ?_ | refine yt rfl ?_ | refine yo rfl ?_ | refine yc rfl ?_ | refine ys rfl ?_ | refine ye rfl ?_ | refine yn rfl ?_ | refine zw ?_ | refine zdt ?_ | refine zdf ?_ | refine znt ?_ | refine znf ?_ | refine zcd ?_ | refine zci ?_ | refine zc3 ?_) <;> (conv => whnf)))
                    exact hR (150 - (i + 1)) _ _ (by omega) ⟨i + 1, h3, lo', _, _, _, _, _, _, _, _, Ls, _, _, _, lv, by omega, by omega, rfl, W', hlt', hek2, hek1, (by repeat (first | exact Fr.le_nil | refine Fr.le_cons rfl ?_)), rfl⟩
          · have q0 : ¬ o.1 = 0 := by omega
            have q1 : ¬ o.1 = 1 := by omega
            by_cases hk23 : o.1 = 2 ∨ o.1 = 3
            · have htk : TimeOk (now k) := by
                have h1 := W.one.clk k hkn
                have h2 := W.time
                unfold TimeOk
                omega
              have hme := W.one.me k hkn
              have hokk := W.ok k hkn
              have hr0 := W.one.r0
              have hwant := fun (K : V → Heap → Prop) => want_at hG (W.els.at_ k hkn) hokk htk k hme (by omega) (K := K)
              have Kp4 : ∀ o1 o2 o3 o4, Heap.Keeps (fun _ => False) lo ((((lo.push o1).set lo.next o2).push o3).set (lo.next + 1) o4) := fun o1 o2 o3 o4 =>
                ((((Heap.Keeps.refl _ lo).push o1).set (.inr (Nat.le_refl _)) o2).push o3).set (.inr (by omega)) o4
              have gA : ∀ o1 o2 o3 o4, ((((lo.push o1).set lo.next o2).push o3).set (lo.next + 1) o4).get (lo.next + 1) = some o4 := fun _ _ _ _ => Heap.get_set_self (Heap.get_push_self _ _)
              have gD : ∀ o1 o2 o3 o4, ((((lo.push o1).set lo.next o2).push o3).set (lo.next + 1) o4).get lo.next = some o2 := fun _ _ _ _ => Heap.gs (by omega) (Heap.gp (show lo.next ≠ lo.next + 1 by omega) (g2 _ _))
              rcases hk23 with hk2 | hk3
              · ((conv => whnf); repeat ((first | refine yf rfl ?_ | refine yt rfl ?_ | refine yo rfl ?_ | refine yc rfl ?_ | refine ys rfl ?_ | refine ye rfl ?_ | refine yn rfl ?_ | refine zw ?_ | refine zdt ?_ | refine zdf ?_ | refine znt ?_ | refine znf ?_ | refine zcd ?_ | refine zci ?_ | refine zc3 ?_) <;> (conv => whnf)))
                refine SCall.app id (hwant _ ?_ ?_)
                · intro h2 e' hg2 he' k2
                  have W' := (W.alike k2 hkn hg2 (by rcases he' with ⟨rfl, _⟩ | ⟨rfl, _⟩ <;> exact ⟨rfl, rfl, rfl, rfl, rfl, rfl, rfl, rfl, rfl⟩) (by rcases he' with ⟨rfl, _⟩ | ⟨rfl, _⟩ <;> exact ⟨hokk.since, hokk.sent, hokk.frm, hokk.dur⟩)).more
                  ((conv => whnf); repeat ((first | refine SEx.of (Heap.get_push_self _ _) ?_ | refine SEx.of (gA _ _ _ _) ?_ | refine yf rfl ?_ | refine yt rfl ?_ | refine yo rfl ?_ | refine yc rfl ?_ | refine ys rfl ?_ | refine ye rfl ?_ | refine yn rfl ?_ | refine zw ?_ | refine zdt ?_ | refine zdf ?_ | refine znt ?_ | refine znf ?_ | refine zcd ?_ | refine zci ?_ | refine zc3 ?_) <;> (conv => whnf)))
                  have hdr := fun (K : V → Heap → Prop) (hK : ∀ dd : Int, K (.i .i64 dd) h2) => drift_ok hG W'.clk (by omega) (fun a b _ _ => by have := W'.low (a * 8 + b); omega) (K := K) (fun dd _ _ _ => hK dd)
                  ((conv => whnf); repeat ((first | refine SCall.app (hdr _) ?_ | refine yf rfl ?_ | refine yt rfl ?_ | refine yo rfl ?_ | refine yc rfl ?_ | refine ys rfl ?_ | refine ye rfl ?_ | refine yn rfl ?_ | refine zw ?_ | refine zdt ?_ | refine zdf ?_ | refine znt ?_ | refine znf ?_ | refine zcd ?_ | refine zci ?_ | refine zc3 ?_) <;> (conv => whnf)))
                  intro dd
                  (conv => whnf)
                  refine SIf.ds (fun _ => ?_) (fun hdd => ?_)
                  · ((conv => whnf); repeat ((first | refine yf rfl ?_ | refine yt rfl ?_ | refine yo rfl ?_ | refine yc rfl ?_ | refine ys rfl ?_ | refine ye rfl ?_ | refine yn rfl ?_ | refine zw ?_ | refine zdt ?_ | refine zdf ?_ | refine znt ?_ | refine znf ?_ | refine zcd ?_ | refine zci ?_ | refine zc3 ?_) <;> (conv => whnf)))
                  · ((conv => whnf); repeat ((first | refine yf rfl ?_ | refine yt rfl ?_ | refine yo rfl ?_ | refine yc rfl ?_ | refine ys rfl ?_ | refine ye rfl ?_ | refine yn rfl ?_ | refine zw ?_ | refine zdt ?_ | refine zdf ?_ | refine znt ?_ | refine znf ?_ | refine zcd ?_ | refine zci ?_ | refine zc3 ?_) <;> (conv => whnf)))
                    refine SLoopV.by (fun q fr st => ∃ (m : Nat) (ld : Int), m ≤ n ∧ q = n - m ∧ ((ld = 0 ∧ ∀ j, j < m → leadsE ((updE E k e') j) (now j) = false) ∨ (ld = 1 ∧ ∃ j0, j0 < m ∧ leadsE ((updE E k e') j0) (now j0) = true)) ∧
                        Fr.le [(208, .i .i64 m), (207, .i .i64 n), (30, .i .i64 ld), (12, .i .i64 i), (11, .i .i64 d), (10, lv), (8, .ms (.l ek) 1 0 n), (7, .p (.g 5) 0), (6, .p (.g 3) 0), (1, .sl none 3 (ops.map opR)), (0, .i .i64 n)] fr ∧ ∃ lo', lo'.get ek = some (.arr 1 (esR n)) ∧ ek < lo'.next ∧ LateAt lo' lv Ls ∧ st = ⟨h2, lo'⟩)
                      n ⟨0, 0, Nat.zero_le _, rfl, .inl ⟨rfl, fun j hj => absurd hj (Nat.not_lt_zero _)⟩, (by repeat (first | exact Fr.le_nil | refine Fr.le_cons rfl ?_)), _, (((Kp4 _ _ _ _).same ek hekn id).trans heks), (Nat.lt_of_lt_of_le hekn (Kp4 _ _ _ _).next), hlate.keep (Kp4 _ _ _ _), rfl⟩ ?_
                    rintro q fr st ⟨m, ld, hm, rfl, hld, hle1, lo', hek1, hek2, hlt', rfl⟩
                    refine ⟨_, hle1, fun R' hR' => ?_⟩
                    by_cases hmn : m < n
                    · have hget := esR_get (i := 0 + (m : Int).toNat) (n := n) (by omega) hmn
                      have hnow2 := fun (K : V → Heap → Prop) (hK : K (.i .i64 (now m)) h2) => now_ok hG W'.clk W'.row (m : Int) (K := K) (fun x h1 _ => by rw [h1 (by omega) (by omega)]; simpa using hK)
                      have hix2 : idxOk (m : Int) n = true := by unfold idxOk; rw [decide_eq_true (by omega), decide_eq_true (by omega)]; rfl
                      have htm : TimeOk (now m) := by
                        have h1 := W'.one.clk m hmn
                        have h2 := W'.time
                        unfold TimeOk
                        omega
                      have hlead := fun (K : V → Heap → Prop) => eleads_at hG (W'.els.at_ m hmn) (W'.ok m hmn) htm (K := K)
                      cases hL : leadsE ((updE E k e') m) (now m) with
                      | false =>
                        rw [hL] at hlead
                        ((conv => whnf); repeat ((first | refine SChk.mk hix2 ?_ | refine SChk.mk (decide_eq_true (show 0 + n ≤ (esR n).length by omega)) ?_ | refine SCall.app (hnow2 _) ?_ | refine SCall.app (hlead _) ?_ | refine SEx.of (hek1) ?_ | refine SEx.of (hget) ?_ | refine yf rfl ?_ | refine yt rfl ?_ | refine yo rfl ?_ | refine yc rfl ?_ | refine ys rfl ?_ | refine ye rfl ?_ | refine yn rfl ?_ | refine zw ?_ | refine zdt ?_ | refine zdf ?_ | refine znt ?_ | refine znf ?_ | refine zcd ?_ | refine zci ?_ | refine zc3 ?_) <;> (conv => whnf)))
                        refine hR' (n - (m + 1)) _ _ (by omega) ⟨m + 1, ld, by omega, rfl, ?_, (by repeat (first | exact Fr.le_nil | refine Fr.le_cons rfl ?_)), lo', hek1, hek2, hlt', rfl⟩
                        rcases hld with ⟨h1, h2⟩ | h1
                        · exact .inl ⟨h1, fun j hj => by
                            by_cases e : j = m
                            · subst e; exact hL
                            · exact h2 j (by omega)⟩
                        · obtain ⟨h2, j0, h3, h4⟩ := h1
                          exact .inr ⟨h2, j0, by omega, h4⟩
                      | true =>
                        rw [hL] at hlead
                        have hld0 : ld = 0 := by
                          rcases hld with ⟨h1, _⟩ | ⟨_, j0, hj0, hj1⟩
                          · exact h1
                          · exact absurd (W'.one.one (show j0 < n by omega) hmn hj1 hL) (by omega)
                        subst hld0
                        ((conv => whnf); repeat ((first | refine SChk.mk hix2 ?_ | refine SChk.mk (decide_eq_true (show 0 + n ≤ (esR n).length by omega)) ?_ | refine SCall.app (hnow2 _) ?_ | refine SCall.app (hlead _) ?_ | refine SEx.of (hek1) ?_ | refine SEx.of (hget) ?_ | refine yf rfl ?_ | refine yt rfl ?_ | refine yo rfl ?_ | refine yc rfl ?_ | refine ys rfl ?_ | refine ye rfl ?_ | refine yn rfl ?_ | refine zw ?_ | refine zdt ?_ | refine zdf ?_ | refine znt ?_ | refine znf ?_ | refine zcd ?_ | refine zci ?_ | refine zc3 ?_) <;> (conv => whnf)))
                        exact hR' (n - (m + 1)) _ _ (by omega) ⟨m + 1, 0 + 1, by omega, rfl, .inr ⟨rfl, m, Nat.lt_succ_self m, hL⟩, (by repeat (first | exact Fr.le_nil | refine Fr.le_cons rfl ?_)), lo', hek1, hek2, hlt', rfl⟩
                    · have hld1 : ¬ 1 < ld := by
                        rcases hld with ⟨h1, _⟩ | ⟨h1, _⟩ <;> omega
                      ((conv => whnf); repeat ((first | refine SIf.df hld1 ?_ | refine yf rfl ?_ | refine yt rfl ?_ | refine yo rfl ?_ | refine yc rfl ?_ | refine ys rfl ?_ | refine ye rfl ?_ | refine yn rfl ?_ | refine zw ?_ | refine zdt ?_ | refine zdf ?_ | refine znt ?_ | refine znf ?_ | refine zcd ?_ | refine zci ?_ | refine zc3 ?_) <;> (conv => whnf)))
                      exact hR (150 - (i + 1)) _ _ (by omega) ⟨i + 1, h2, lo', _, _, _, _, _, _, _, _, Ls, _, _, _, lv, by omega, by omega, rfl, W', hlt', hek2, hek1, (by repeat (first | exact Fr.le_nil | refine Fr.le_cons rfl ?_)), rfl⟩
                · intro hwt _ h2 hg2 k2
                  have hsn := W.one.wants hkn hwt
                  obtain ⟨e1, he1⟩ : ∃ e1 : ElD, e1 = { E k with out := true, sent := now k } := ⟨_, rfl⟩
                  rw [← he1] at hg2
                  have hal : AlikeE e1 (E k) := by rw [he1]; exact ⟨rfl, rfl, rfl, rfl, rfl, rfl, rfl, rfl, rfl⟩
                  have W2 := W.alike k2 hkn hg2 hal (by rw [he1]; exact ⟨hokk.since, htk, hokk.frm, hokk.dur⟩)
                  have hl2 := W2.els.lt
                  have htxn := fun (K : V → Heap → Prop) => txnL_at hG hA W2.store (E k).rev (leaseB (E k).me) hsn.2.1 (show (10 : Nat) ≤ 4000 by decide) ⟨hr0, by have := W.rev; omega⟩ (K := K)
                  rw [cur_now hr0] at htxn
                  ((conv => whnf); repeat ((first | refine SEx.of (Heap.get_push_self _ _) ?_ | refine SEx.of (gA _ _ _ _) ?_ | refine SEx.of (gD _ _ _ _) ?_ | refine yf rfl ?_ | refine yt rfl ?_ | refine yo rfl ?_ | refine yc rfl ?_ | refine ys rfl ?_ | refine ye rfl ?_ | refine yn rfl ?_ | refine zw ?_ | refine zdt ?_ | refine zdf ?_ | refine znt ?_ | refine znf ?_ | refine zcd ?_ | refine zci ?_ | refine zc3 ?_) <;> (conv => whnf)))
                  refine SCall.app id (htxn _ ?_ ?_)
                  · intro hne h3 hs3 k3
                    have hsk3 : h3.get (6 + k) = some (.cs (electR e1)) := (k3.same (6 + k) (by omega) (owns_out W2.cc (by omega))).trans hg2
                    have href := fun (K : V → Heap → Prop) => refused_at hG hsk3 (by rw [he1]) (now k) 0 (K := K)
                    ((conv => whnf); repeat ((first | refine SCall.app (href _) ?_ | refine yf rfl ?_ | refine yt rfl ?_ | refine yo rfl ?_ | refine yc rfl ?_ | refine ys rfl ?_ | refine ye rfl ?_ | refine yn rfl ?_ | refine zw ?_ | refine zdt ?_ | refine zdf ?_ | refine znt ?_ | refine znf ?_ | refine zcd ?_ | refine zci ?_ | refine zc3 ?_) <;> (conv => whnf)))
                    intro h4 hg4 k4
                    have W' := W2.two hs3 W2.cc k3 k4 hkn hg4 (W2.one.quit rfl (by rw [updE_self]) (by rw [updE_self]) (by rw [updE_self]) (by rw [updE_self]) (by rw [updE_self]) (by rw [updE_self]) (by rw [updE_self])) (by have := W.rev; omega) W.hld (by rw [he1]; exact ⟨hokk.since, htk, hokk.frm, hokk.dur⟩) (fun x hx => (W2.late x hx).fewer (.inl rfl)) (Nat.le_succ_of_le W.few)
                    have hdr := fun (K : V → Heap → Prop) (hK : ∀ dd : Int, K (.i .i64 dd) h4) => drift_ok hG W'.clk (by omega) (fun a b _ _ => by have := W'.low (a * 8 + b); omega) (K := K) (fun dd _ _ _ => hK dd)
                    ((conv => whnf); repeat ((first | refine SCall.app (hdr _) ?_ | refine yf rfl ?_ | refine yt rfl ?_ | refine yo rfl ?_ | refine yc rfl ?_ | refine ys rfl ?_ | refine ye rfl ?_ | refine yn rfl ?_ | refine zw ?_ | refine zdt ?_ | refine zdf ?_ | refine znt ?_ | refine znf ?_ | refine zcd ?_ | refine zci ?_ | refine zc3 ?_) <;> (conv => whnf)))
                    intro dd
                    (conv => whnf)
                    refine SIf.ds (fun _ => ?_) (fun hdd => ?_)
                    · ((conv => whnf); repeat ((first | refine yf rfl ?_ | refine yt rfl ?_ | refine yo rfl ?_ | refine yc rfl ?_ | refine ys rfl ?_ | refine ye rfl ?_ | refine yn rfl ?_ | refine zw ?_ | refine zdt ?_ | refine zdf ?_ | refine znt ?_ | refine znf ?_ | refine zcd ?_ | refine zci ?_ | refine zc3 ?_) <;> (conv => whnf)))
                    · ((conv => whnf); repeat ((first | refine yf rfl ?_ | refine yt rfl ?_ | refine yo rfl ?_ | refine yc rfl ?_ | refine ys rfl ?_ | refine ye rfl ?_ | refine yn rfl ?_ | refine zw ?_ | refine zdt ?_ | refine zdf ?_ | refine znt ?_ | refine znf ?_ | refine zcd ?_ | refine zci ?_ | refine zc3 ?_) <;> (conv => whnf)))
                      refine SLoopV.by (fun q fr st => ∃ (m : Nat) (ld : Int), m ≤ n ∧ q = n - m ∧ ((ld = 0 ∧ ∀ j, j < m → leadsE ((updE (updE E k e1) k { e1 with out := false, term := 0 }) j) (now j) = false) ∨ (ld = 1 ∧ ∃ j0, j0 < m ∧ leadsE ((updE (updE E k e1) k { e1 with out := false, term := 0 }) j0) (now j0) = true)) ∧
                          Fr.le [(208, .i .i64 m), (207, .i .i64 n), (30, .i .i64 ld), (12, .i .i64 i), (11, .i .i64 d), (10, lv), (8, .ms (.l ek) 1 0 n), (7, .p (.g 5) 0), (6, .p (.g 3) 0), (1, .sl none 3 (ops.map opR)), (0, .i .i64 n)] fr ∧ ∃ lo', lo'.get ek = some (.arr 1 (esR n)) ∧ ek < lo'.next ∧ LateAt lo' lv Ls ∧ st = ⟨h4, lo'⟩)
                        n ⟨0, 0, Nat.zero_le _, rfl, .inl ⟨rfl, fun j hj => absurd hj (Nat.not_lt_zero _)⟩, (by repeat (first | exact Fr.le_nil | refine Fr.le_cons rfl ?_)), _, (((Kp4 _ _ _ _).same ek hekn id).trans heks), (Nat.lt_of_lt_of_le hekn (Kp4 _ _ _ _).next), hlate.keep (Kp4 _ _ _ _), rfl⟩ ?_
                      rintro q fr st ⟨m, ld, hm, rfl, hld, hle1, lo', hek1, hek2, hlt', rfl⟩
                      refine ⟨_, hle1, fun R' hR' => ?_⟩
                      by_cases hmn : m < n
                      · have hget := esR_get (i := 0 + (m : Int).toNat) (n := n) (by omega) hmn
                        have hnow2 := fun (K : V → Heap → Prop) (hK : K (.i .i64 (now m)) h4) => now_ok hG W'.clk W'.row (m : Int) (K := K) (fun x h1 _ => by rw [h1 (by omega) (by omega)]; simpa using hK)
                        have hix2 : idxOk (m : Int) n = true := by unfold idxOk; rw [decide_eq_true (by omega), decide_eq_true (by omega)]; rfl
                        have htm : TimeOk (now m) := by
                          have h1 := W'.one.clk m hmn
                          have h2 := W'.time
                          unfold TimeOk
                          omega
                        have hlead := fun (K : V → Heap → Prop) => eleads_at hG (W'.els.at_ m hmn) (W'.ok m hmn) htm (K := K)
                        cases hL : leadsE ((updE (updE E k e1) k { e1 with out := false, term := 0 }) m) (now m) with
                        | false =>
                          rw [hL] at hlead
                          ((conv => whnf); repeat ((first | refine SChk.mk hix2 ?_ | refine SChk.mk (decide_eq_true (show 0 + n ≤ (esR n).length by omega)) ?_ | refine SCall.app (hnow2 _) ?_ | refine SCall.app (hlead _) ?_ | refine SEx.of (hek1) ?_ | refine SEx.of (hget) ?_ | refine yf rfl ?_ | refine yt rfl ?_ | refine yo rfl ?_ | refine yc rfl ?_ | refine ys rfl ?_ | refine ye rfl ?_ | refine yn rfl ?_ | refine zw ?_ | refine zdt ?_ | refine zdf ?_ | refine znt ?_ | refine znf ?_ | refine zcd ?_ | refine zci ?_ | refine zc3 ?_) <;> (conv => whnf)))
                          refine hR' (n - (m + 1)) _ _ (by omega) ⟨m + 1, ld, by omega, rfl, ?_, (by repeat (first | exact Fr.le_nil | refine Fr.le_cons rfl ?_)), lo', hek1, hek2, hlt', rfl⟩
                          rcases hld with ⟨h1, h2⟩ | h1
                          · exact .inl ⟨h1, fun j hj => by
                              by_cases e : j = m
                              · subst e; exact hL
                              · exact h2 j (by omega)⟩
                          · obtain ⟨h2, j0, h3, h4⟩ := h1
                            exact .inr ⟨h2, j0, by omega, h4⟩
                        | true =>
                          rw [hL] at hlead
                          have hld0 : ld = 0 := by
                            rcases hld with ⟨h1, _⟩ | ⟨_, j0, hj0, hj1⟩
                            · exact h1
                            · exact absurd (W'.one.one (show j0 < n by omega) hmn hj1 hL) (by omega)
                          subst hld0
                          ((conv => whnf); repeat ((first | refine SChk.mk hix2 ?_ | refine SChk.mk (decide_eq_true (show 0 + n ≤ (esR n).length by omega)) ?_ | refine SCall.app (hnow2 _) ?_ | refine SCall.app (hlead _) ?_ | refine SEx.of (hek1) ?_ | refine SEx.of (hget) ?_ | refine yf rfl ?_ | refine yt rfl ?_ | refine yo rfl ?_ | refine yc rfl ?_ | refine ys rfl ?_ | refine ye rfl ?_ | refine yn rfl ?_ | refine zw ?_ | refine zdt ?_ | refine zdf ?_ | refine znt ?_ | refine znf ?_ | refine zcd ?_ | refine zci ?_ | refine zc3 ?_) <;> (conv => whnf)))
                          exact hR' (n - (m + 1)) _ _ (by omega) ⟨m + 1, 0 + 1, by omega, rfl, .inr ⟨rfl, m, Nat.lt_succ_self m, hL⟩, (by repeat (first | exact Fr.le_nil | refine Fr.le_cons rfl ?_)), lo', hek1, hek2, hlt', rfl⟩
                      · have hld1 : ¬ 1 < ld := by
                          rcases hld with ⟨h1, _⟩ | ⟨h1, _⟩ <;> omega
                        ((conv => whnf); repeat ((first | refine SIf.df hld1 ?_ | refine yf rfl ?_ | refine yt rfl ?_ | refine yo rfl ?_ | refine yc rfl ?_ | refine ys rfl ?_ | refine ye rfl ?_ | refine yn rfl ?_ | refine zw ?_ | refine zdt ?_ | refine zdf ?_ | refine znt ?_ | refine znf ?_ | refine zcd ?_ | refine zci ?_ | refine zc3 ?_) <;> (conv => whnf)))
                        exact hR (150 - (i + 1)) _ _ (by omega) ⟨i + 1, h4, lo', _, _, _, _, _, _, _, _, Ls, _, _, _, lv, by omega, by omega, rfl, W', hlt', hek2, hek1, (by repeat (first | exact Fr.le_nil | refine Fr.le_cons rfl ?_)), rfl⟩
                  · intro heq h3 c' hs3 hc3 k3
                    have hsk3 : h3.get (6 + k) = some (.cs (electR e1)) := (k3.same (6 + k) (by omega) (owns_out W2.cc (by omega))).trans hg2
                    have htol := fun (K : V → Heap → Prop) => told_at hG hsk3 (by rw [he1]) (now k) (R + 1) (K := K)
                    have hsn2 : SentOk n (updE E k e1) R hold T t k R := by
                      have h5 := hsn
                      rw [← heq] at h5
                      exact h5.alike fun j _ => by
                        by_cases e : j = k
                        · subst e; rw [updE_self]; exact hal
                        · rw [updE_ne e]; exact ⟨rfl, rfl, rfl, rfl, rfl, rfl, rfl, rfl, rfl⟩
                    have hs4 : StoreL h3 3 0 1 2 c' (R + 1) (curOf (R + 1) (holdN R hold k)) := by
                      rw [cur_next hr0 hold k, ← hme]
                      exact hs3
                    ((conv => whnf); repeat ((first | refine SCall.app (htol _) ?_ | refine yf rfl ?_ | refine yt rfl ?_ | refine yo rfl ?_ | refine yc rfl ?_ | refine ys rfl ?_ | refine ye rfl ?_ | refine yn rfl ?_ | refine zw ?_ | refine zdt ?_ | refine zdf ?_ | refine znt ?_ | refine znf ?_ | refine zcd ?_ | refine zci ?_ | refine zc3 ?_) <;> (conv => whnf)))
                    intro h4 hg4 k4
                    have W' := W2.two hs4 (by have := W2.cc; omega) k3 k4 hkn hg4 (W2.one.told hsn2 (by rw [updE_self]; rfl) rfl rfl rfl (by rw [updE_self]; rfl) rfl rfl rfl (by rw [he1]; rfl)) (by have := W.rev; omega) (hold_lt hkn W.hld) (by rw [he1]; exact ⟨htk, htk, htk, ⟨show (0 : Int) ≤ 1000 by decide, show (1000 : Int) ≤ 1000 by decide⟩⟩) (fun x hx => (W2.late x hx).told rfl) (Nat.le_succ_of_le W.few)
                    have hdr := fun (K : V → Heap → Prop) (hK : ∀ dd : Int, K (.i .i64 dd) h4) => drift_ok hG W'.clk (by omega) (fun a b _ _ => by have := W'.low (a * 8 + b); omega) (K := K) (fun dd _ _ _ => hK dd)
                    ((conv => whnf); repeat ((first | refine SCall.app (hdr _) ?_ | refine yf rfl ?_ | refine yt rfl ?_ | refine yo rfl ?_ | refine yc rfl ?_ | refine ys rfl ?_ | refine ye rfl ?_ | refine yn rfl ?_ | refine zw ?_ | refine zdt ?_ | refine zdf ?_ | refine znt ?_ | refine znf ?_ | refine zcd ?_ | refine zci ?_ | refine zc3 ?_) <;> (conv => whnf)))
                    intro dd
                    (conv => whnf)
                    refine SIf.ds (fun _ => ?_) (fun hdd => ?_)
                    · ((conv => whnf); repeat ((first | refine yf rfl ?_ | refine yt rfl ?_ | refine yo rfl ?_ | refine yc rfl ?_ | refine ys rfl ?_ | refine ye rfl ?_ | refine yn rfl ?_ | refine zw ?_ | refine zdt ?_ | refine zdf ?_ | refine znt ?_ | refine znf ?_ | refine zcd ?_ | refine zci ?_ | refine zc3 ?_) <;> (conv => whnf)))
                    · ((conv => whnf); repeat ((first | refine yf rfl ?_ | refine yt rfl ?_ | refine yo rfl ?_ | refine yc rfl ?_ | refine ys rfl ?_ | refine ye rfl ?_ | refine yn rfl ?_ | refine zw ?_ | refine zdt ?_ | refine zdf ?_ | refine znt ?_ | refine znf ?_ | refine zcd ?_ | refine zci ?_ | refine zc3 ?_) <;> (conv => whnf)))
                      refine SLoopV.by (fun q fr st => ∃ (m : Nat) (ld : Int), m ≤ n ∧ q = n - m ∧ ((ld = 0 ∧ ∀ j, j < m → leadsE ((updE (updE E k e1) k (toldOk e1 (now k) (R + 1))) j) (now j) = false) ∨ (ld = 1 ∧ ∃ j0, j0 < m ∧ leadsE ((updE (updE E k e1) k (toldOk e1 (now k) (R + 1))) j0) (now j0) = true)) ∧
                          Fr.le [(208, .i .i64 m), (207, .i .i64 n), (30, .i .i64 ld), (12, .i .i64 i), (11, .i .i64 d), (10, lv), (8, .ms (.l ek) 1 0 n), (7, .p (.g 5) 0), (6, .p (.g 3) 0), (1, .sl none 3 (ops.map opR)), (0, .i .i64 n)] fr ∧ ∃ lo', lo'.get ek = some (.arr 1 (esR n)) ∧ ek < lo'.next ∧ LateAt lo' lv Ls ∧ st = ⟨h4, lo'⟩)
                        n ⟨0, 0, Nat.zero_le _, rfl, .inl ⟨rfl, fun j hj => absurd hj (Nat.not_lt_zero _)⟩, (by repeat (first | exact Fr.le_nil | refine Fr.le_cons rfl ?_)), _, (((Kp4 _ _ _ _).same ek hekn id).trans heks), (Nat.lt_of_lt_of_le hekn (Kp4 _ _ _ _).next), hlate.keep (Kp4 _ _ _ _), rfl⟩ ?_
                      rintro q fr st ⟨m, ld, hm, rfl, hld, hle1, lo', hek1, hek2, hlt', rfl⟩
                      refine ⟨_, hle1, fun R' hR' => ?_⟩
                      by_cases hmn : m < n
                      · have hget := esR_get (i := 0 + (m : Int).toNat) (n := n) (by omega) hmn
                        have hnow2 := fun (K : V → Heap → Prop) (hK : K (.i .i64 (now m)) h4) => now_ok hG W'.clk W'.row (m : Int) (K := K) (fun x h1 _ => by rw [h1 (by omega) (by omega)]; simpa using hK)
                        have hix2 : idxOk (m : Int) n = true := by unfold idxOk; rw [decide_eq_true (by omega), decide_eq_true (by omega)]; rfl
                        have htm : TimeOk (now m) := by
                          have h1 := W'.one.clk m hmn
                          have h2 := W'.time
                          unfold TimeOk
                          omega
                        have hlead := fun (K : V → Heap → Prop) => eleads_at hG (W'.els.at_ m hmn) (W'.ok m hmn) htm (K := K)
                        cases hL : leadsE ((updE (updE E k e1) k (toldOk e1 (now k) (R + 1))) m) (now m) with
                        | false =>
                          rw [hL] at hlead
                          ((conv => whnf); repeat ((first | refine SChk.mk hix2 ?_ | refine SChk.mk (decide_eq_true (show 0 + n ≤ (esR n).length by omega)) ?_ | refine SCall.app (hnow2 _) ?_ | refine SCall.app (hlead _) ?_ | refine SEx.of (hek1) ?_ | refine SEx.of (hget) ?_ | refine yf rfl ?_ | refine yt rfl ?_ | refine yo rfl ?_ | refine yc rfl ?_ | refine ys rfl ?_ | refine ye rfl ?_ | refine yn rfl ?_ | refine zw ?_ | refine zdt ?_ | refine zdf ?_ | refine znt ?_ | refine znf ?_ | refine zcd ?_ | refine zci ?_ | refine zc3 ?_) <;> (conv => whnf)))
                          refine hR' (n - (m + 1)) _ _ (by omega) ⟨m + 1, ld, by omega, rfl, ?_, (by repeat (first | exact Fr.le_nil | refine Fr.le_cons rfl ?_)), lo', hek1, hek2, hlt', rfl⟩
                          rcases hld with ⟨h1, h2⟩ | h1
                          · exact .inl ⟨h1, fun j hj => by
                              by_cases e : j = m
                              · subst e; exact hL
                              · exact h2 j (by omega)⟩
                          · obtain ⟨h2, j0, h3, h4⟩ := h1
                            exact .inr ⟨h2, j0, by omega, h4⟩
                        | true =>
                          rw [hL] at hlead
                          have hld0 : ld = 0 := by
                            rcases hld with ⟨h1, _⟩ | ⟨_, j0, hj0, hj1⟩
                            · exact h1
                            · exact absurd (W'.one.one (show j0 < n by omega) hmn hj1 hL) (by omega)
                          subst hld0
                          ((conv => whnf); repeat ((first | refine SChk.mk hix2 ?_ | refine SChk.mk (decide_eq_true (show 0 + n ≤ (esR n).length by omega)) ?_ | refine SCall.app (hnow2 _) ?_ | refine SCall.app (hlead _) ?_ | refine SEx.of (hek1) ?_ | refine SEx.of (hget) ?_ | refine yf rfl ?_ | refine yt rfl ?_ | refine yo rfl ?_ | refine yc rfl ?_ | refine ys rfl ?_ | refine ye rfl ?_ | refine yn rfl ?_ | refine zw ?_ | refine zdt ?_ | refine zdf ?_ | refine znt ?_ | refine znf ?_ | refine zcd ?_ | refine zci ?_ | refine zc3 ?_) <;> (conv => whnf)))
                          exact hR' (n - (m + 1)) _ _ (by omega) ⟨m + 1, 0 + 1, by omega, rfl, .inr ⟨rfl, m, Nat.lt_succ_self m, hL⟩, (by repeat (first | exact Fr.le_nil | refine Fr.le_cons rfl ?_)), lo', hek1, hek2, hlt', rfl⟩
                      · have hld1 : ¬ 1 < ld := by
                          rcases hld with ⟨h1, _⟩ | ⟨h1, _⟩ <;> omega
                        ((conv => whnf); repeat ((first | refine SIf.df hld1 ?_ | refine yf rfl ?_ | refine yt rfl ?_ | refine yo rfl ?_ | refine yc rfl ?_ | refine ys rfl ?_ | refine ye rfl ?_ | refine yn rfl ?_ | refine zw ?_ | refine zdt ?_ | refine zdf ?_ | refine znt ?_ | refine znf ?_ | refine zcd ?_ | refine zci ?_ | refine zc3 ?_) <;> (conv => whnf)))
                        exact hR (150 - (i + 1)) _ _ (by omega) ⟨i + 1, h4, lo', _, _, _, _, _, _, _, _, Ls, _, _, _, lv, by omega, by omega, rfl, W', hlt', hek2, hek1, (by repeat (first | exact Fr.le_nil | refine Fr.le_cons rfl ?_)), rfl⟩
              · ((conv => whnf); repeat ((first | refine yf rfl ?_ | refine yt rfl ?_ | refine yo rfl ?_ | refine yc rfl ?_ | refine ys rfl ?_ | refine ye rfl ?_ | refine yn rfl ?_ | refine zw ?_ | refine zdt ?_ | refine zdf ?_ | refine znt ?_ | refine znf ?_ | refine zcd ?_ | refine zci ?_ | refine zc3 ?_) <;> (conv => whnf)))
                refine SCall.app id (hwant _ ?_ ?_)
                · intro h2 e' hg2 he' k2
                  have W' := (W.alike k2 hkn hg2 (by rcases he' with ⟨rfl, _⟩ | ⟨rfl, _⟩ <;> exact ⟨rfl, rfl, rfl, rfl, rfl, rfl, rfl, rfl, rfl⟩) (by rcases he' with ⟨rfl, _⟩ | ⟨rfl, _⟩ <;> exact ⟨hokk.since, hokk.sent, hokk.frm, hokk.dur⟩)).more
                  ((conv => whnf); repeat ((first | refine SEx.of (Heap.get_push_self _ _) ?_ | refine SEx.of (gA _ _ _ _) ?_ | refine yf rfl ?_ | refine yt rfl ?_ | refine yo rfl ?_ | refine yc rfl ?_ | refine ys rfl ?_ | refine ye rfl ?_ | refine yn rfl ?_ | refine zw ?_ | refine zdt ?_ | refine zdf ?_ | refine znt ?_ | refine znf ?_ | refine zcd ?_ | refine zci ?_ | refine zc3 ?_) <;> (conv => whnf)))
                  have hdr := fun (K : V → Heap → Prop) (hK : ∀ dd : Int, K (.i .i64 dd) h2) => drift_ok hG W'.clk (by omega) (fun a b _ _ => by have := W'.low (a * 8 + b); omega) (K := K) (fun dd _ _ _ => hK dd)
                  ((conv => whnf); repeat ((first | refine SCall.app (hdr _) ?_ | refine yf rfl ?_ | refine yt rfl ?_ | refine yo rfl ?_ | refine yc rfl ?_ | refine ys rfl ?_ | refine ye rfl ?_ | refine yn rfl ?_ | refine zw ?_ | refine zdt ?_ | refine zdf ?_ | refine znt ?_ | refine znf ?_ | refine zcd ?_ | refine zci ?_ | refine zc3 ?_) <;> (conv => whnf)))
                  intro dd
                  (conv => whnf)
                  refine SIf.ds (fun _ => ?_) (fun hdd => ?_)
                  · ((conv => whnf); repeat ((first | refine yf rfl ?_ | refine yt rfl ?_ | refine yo rfl ?_ | refine yc rfl ?_ | refine ys rfl ?_ | refine ye rfl ?_ | refine yn rfl ?_ | refine zw ?_ | refine zdt ?_ | refine zdf ?_ | refine znt ?_ | refine znf ?_ | refine zcd ?_ | refine zci ?_ | refine zc3 ?_) <;> (conv => whnf)))
                  · ((conv => whnf); repeat ((first | refine yf rfl ?_ | refine yt rfl ?_ | refine yo rfl ?_ | refine yc rfl ?_ | refine ys rfl ?_ | refine ye rfl ?_ | refine yn rfl ?_ | refine zw ?_ | refine zdt ?_ | refine zdf ?_ | refine znt ?_ | refine znf ?_ | refine zcd ?_ | refine zci ?_ | refine zc3 ?_) <;> (conv => whnf)))
                    refine SLoopV.by (fun q fr st => ∃ (m : Nat) (ld : Int), m ≤ n ∧ q = n - m ∧ ((ld = 0 ∧ ∀ j, j < m → leadsE ((updE E k e') j) (now j) = false) ∨ (ld = 1 ∧ ∃ j0, j0 < m ∧ leadsE ((updE E k e') j0) (now j0) = true)) ∧
                        Fr.le [(208, .i .i64 m), (207, .i .i64 n), (30, .i .i64 ld), (12, .i .i64 i), (11, .i .i64 d), (10, lv), (8, .ms (.l ek) 1 0 n), (7, .p (.g 5) 0), (6, .p (.g 3) 0), (1, .sl none 3 (ops.map opR)), (0, .i .i64 n)] fr ∧ ∃ lo', lo'.get ek = some (.arr 1 (esR n)) ∧ ek < lo'.next ∧ LateAt lo' lv Ls ∧ st = ⟨h2, lo'⟩)
                      n ⟨0, 0, Nat.zero_le _, rfl, .inl ⟨rfl, fun j hj => absurd hj (Nat.not_lt_zero _)⟩, (by repeat (first | exact Fr.le_nil | refine Fr.le_cons rfl ?_)), _, (((Kp4 _ _ _ _).same ek hekn id).trans heks), (Nat.lt_of_lt_of_le hekn (Kp4 _ _ _ _).next), hlate.keep (Kp4 _ _ _ _), rfl⟩ ?_
                    rintro q fr st ⟨m, ld, hm, rfl, hld, hle1, lo', hek1, hek2, hlt', rfl⟩
                    refine ⟨_, hle1, fun R' hR' => ?_⟩
                    by_cases hmn : m < n
                    · have hget := esR_get (i := 0 + (m : Int).toNat) (n := n) (by omega) hmn
                      have hnow2 := fun (K : V → Heap → Prop) (hK : K (.i .i64 (now m)) h2) => now_ok hG W'.clk W'.row (m : Int) (K := K) (fun x h1 _ => by rw [h1 (by omega) (by omega)]; simpa using hK)
                      have hix2 : idxOk (m : Int) n = true := by unfold idxOk; rw [decide_eq_true (by omega), decide_eq_true (by omega)]; rfl
                      have htm : TimeOk (now m) := by
                        have h1 := W'.one.clk m hmn
                        have h2 := W'.time
                        unfold TimeOk
                        omega
                      have hlead := fun (K : V → Heap → Prop) => eleads_at hG (W'.els.at_ m hmn) (W'.ok m hmn) htm (K := K)
                      cases hL : leadsE ((updE E k e') m) (now m) with
                      | false =>
                        rw [hL] at hlead
                        ((conv => whnf); repeat ((first | refine SChk.mk hix2 ?_ | refine SChk.mk (decide_eq_true (show 0 + n ≤ (esR n).length by omega)) ?_ | refine SCall.app (hnow2 _) ?_ | refine SCall.app (hlead _) ?_ | refine SEx.of (hek1) ?_ | refine SEx.of (hget) ?_ | refine yf rfl ?_ | refine yt rfl ?_ | refine yo rfl ?_ | refine yc rfl ?_ | refine ys rfl ?_ | refine ye rfl ?_ | refine yn rfl ?_ | refine zw ?_ | refine zdt ?_ | refine zdf ?_ | refine znt ?_ | refine znf ?_ | refine zcd ?_ | refine zci ?_ | refine zc3 ?_) <;> (conv => whnf)))
                        refine hR' (n - (m + 1)) _ _ (by omega) ⟨m + 1, ld, by omega, rfl, ?_, (by repeat (first | exact Fr.le_nil | refine Fr.le_cons rfl ?_)), lo', hek1, hek2, hlt', rfl⟩
                        rcases hld with ⟨h1, h2⟩ | h1
                        · exact .inl ⟨h1, fun j hj => by
                            by_cases e : j = m
                            · subst e; exact hL
                            · exact h2 j (by omega)⟩
                        · obtain ⟨h2, j0, h3, h4⟩ := h1
                          exact .inr ⟨h2, j0, by omega, h4⟩
                      | true =>
                        rw [hL] at hlead
                        have hld0 : ld = 0 := by
                          rcases hld with ⟨h1, _⟩ | ⟨_, j0, hj0, hj1⟩
                          · exact h1
                          · exact absurd (W'.one.one (show j0 < n by omega) hmn hj1 hL) (by omega)
                        subst hld0
                        ((conv => whnf); repeat ((first | refine SChk.mk hix2 ?_ | refine SChk.mk (decide_eq_true (show 0 + n ≤ (esR n).length by omega)) ?_ | refine SCall.app (hnow2 _) ?_ | refine SCall.app (hlead _) ?_ | refine SEx.of (hek1) ?_ | refine SEx.of (hget) ?_ | refine yf rfl ?_ | refine yt rfl ?_ | refine yo rfl ?_ | refine yc rfl ?_ | refine ys rfl ?_ | refine ye rfl ?_ | refine yn rfl ?_ | refine zw ?_ | refine zdt ?_ | refine zdf ?_ | refine znt ?_ | refine znf ?_ | refine zcd ?_ | refine zci ?_ | refine zc3 ?_) <;> (conv => whnf)))
                        exact hR' (n - (m + 1)) _ _ (by omega) ⟨m + 1, 0 + 1, by omega, rfl, .inr ⟨rfl, m, Nat.lt_succ_self m, hL⟩, (by repeat (first | exact Fr.le_nil | refine Fr.le_cons rfl ?_)), lo', hek1, hek2, hlt', rfl⟩
                    · have hld1 : ¬ 1 < ld := by
                        rcases hld with ⟨h1, _⟩ | ⟨h1, _⟩ <;> omega
                      ((conv => whnf); repeat ((first | refine SIf.df hld1 ?_ | refine yf rfl ?_ | refine yt rfl ?_ | refine yo rfl ?_ | refine yc rfl ?_ | refine ys rfl ?_ | refine ye rfl ?_ | refine yn rfl ?_ | refine zw ?_ | refine zdt ?_ | refine zdf ?_ | refine znt ?_ | refine znf ?_ | refine zcd ?_ | refine zci ?_ | refine zc3 ?_) <;> (conv => whnf)))
                      exact hR (150 - (i + 1)) _ _ (by omega) ⟨i + 1, h2, lo', _, _, _, _, _, _, _, _, Ls, _, _, _, lv, by omega, by omega, rfl, W', hlt', hek2, hek1, (by repeat (first | exact Fr.le_nil | refine Fr.le_cons rfl ?_)), rfl⟩
                · intro hwt _ h2 hg2 k2
                  have hsn := W.one.wants hkn hwt
                  obtain ⟨e1, he1⟩ : ∃ e1 : ElD, e1 = { E k with out := true, sent := now k } := ⟨_, rfl⟩
                  rw [← he1] at hg2
                  have hal : AlikeE e1 (E k) := by rw [he1]; exact ⟨rfl, rfl, rfl, rfl, rfl, rfl, rfl, rfl, rfl⟩
                  have W' := (W.alike k2 hkn hg2 hal (by rw [he1]; exact ⟨hokk.since, htk, hokk.frm, hokk.dur⟩)).more
                  have hfew := W.few
                  rw [hme]
                  have hsk : SentOk n (updE E k e1) R hold T t k (E k).rev := hsn.alike fun j _ => by
                    by_cases e : j = k
                    · subst e; rw [updE_self]; exact hal
                    · rw [updE_ne e]; exact ⟨rfl, rfl, rfl, rfl, rfl, rfl, rfl, rfl, rfl⟩
                  have W' : Wd n (i + 1) h2 (updE E k e1) now R hold T t u d (Ls ++ [(k, (E k).rev)]) cc lw hw :=
                    { W' with
                      late := fun x hx => (List.mem_append.1 hx).elim (fun h5 => W'.late x h5) (fun h5 => by
                        obtain rfl := List.mem_singleton.1 h5
                        exact hsk)
                      few := (by rw [List.length_append]; show Ls.length + 1 ≤ i + 1; omega) }
                  rcases hlate with ⟨rfl, rfl⟩ | ⟨hLne, lk, rfl, hlkn, hlks⟩
                  · have Kp6 : ∀ o1 o2 o3 o4, Heap.Keeps (fun _ => False) lo ((((((lo.push o1).set lo.next o2).push o3).set (lo.next + 1) o4).push .spare).push .spare) := fun o1 o2 o3 o4 => ((Kp4 o1 o2 o3 o4).push _).push _
                    ((conv => whnf); repeat ((first | refine SEx.of (Heap.get_push_self _ _) ?_ | refine SEx.of (gA _ _ _ _) ?_ | refine SEx.of (gD _ _ _ _) ?_ | refine yf rfl ?_ | refine yt rfl ?_ | refine yo rfl ?_ | refine yc rfl ?_ | refine ys rfl ?_ | refine ye rfl ?_ | refine yn rfl ?_ | refine zw ?_ | refine zdt ?_ | refine zdf ?_ | refine znt ?_ | refine znf ?_ | refine zcd ?_ | refine zci ?_ | refine zc3 ?_) <;> (conv => whnf)))
                    have hdr := fun (K : V → Heap → Prop) (hK : ∀ dd : Int, K (.i .i64 dd) h2) => drift_ok hG W'.clk (by omega) (fun a b _ _ => by have := W'.low (a * 8 + b); omega) (K := K) (fun dd _ _ _ => hK dd)
                    ((conv => whnf); repeat ((first | refine SCall.app (hdr _) ?_ | refine yf rfl ?_ | refine yt rfl ?_ | refine yo rfl ?_ | refine yc rfl ?_ | refine ys rfl ?_ | refine ye rfl ?_ | refine yn rfl ?_ | refine zw ?_ | refine zdt ?_ | refine zdf ?_ | refine znt ?_ | refine znf ?_ | refine zcd ?_ | refine zci ?_ | refine zc3 ?_) <;> (conv => whnf)))
                    intro dd
                    (conv => whnf)
                    refine SIf.ds (fun _ => ?_) (fun hdd => ?_)
                    · ((conv => whnf); repeat ((first | refine yf rfl ?_ | refine yt rfl ?_ | refine yo rfl ?_ | refine yc rfl ?_ | refine ys rfl ?_ | refine ye rfl ?_ | refine yn rfl ?_ | refine zw ?_ | refine zdt ?_ | refine zdf ?_ | refine znt ?_ | refine znf ?_ | refine zcd ?_ | refine zci ?_ | refine zc3 ?_) <;> (conv => whnf)))
                    · ((conv => whnf); repeat ((first | refine yf rfl ?_ | refine yt rfl ?_ | refine yo rfl ?_ | refine yc rfl ?_ | refine ys rfl ?_ | refine ye rfl ?_ | refine yn rfl ?_ | refine zw ?_ | refine zdt ?_ | refine zdf ?_ | refine znt ?_ | refine znf ?_ | refine zcd ?_ | refine zci ?_ | refine zc3 ?_) <;> (conv => whnf)))
                      refine SLoopV.by (fun q fr st => ∃ (m : Nat) (ld : Int), m ≤ n ∧ q = n - m ∧ ((ld = 0 ∧ ∀ j, j < m → leadsE ((updE E k e1) j) (now j) = false) ∨ (ld = 1 ∧ ∃ j0, j0 < m ∧ leadsE ((updE E k e1) j0) (now j0) = true)) ∧
                          Fr.le [(208, .i .i64 m), (207, .i .i64 n), (30, .i .i64 ld), (12, .i .i64 i), (11, .i .i64 d), (10, (.sl (some (.l (lo.next + 1 + 1 + 1))) 3 (([] ++ [(k, (E k).rev)]).map lateR))), (8, .ms (.l ek) 1 0 n), (7, .p (.g 5) 0), (6, .p (.g 3) 0), (1, .sl none 3 (ops.map opR)), (0, .i .i64 n)] fr ∧ ∃ lo', lo'.get ek = some (.arr 1 (esR n)) ∧ ek < lo'.next ∧ LateAt lo' (.sl (some (.l (lo.next + 1 + 1 + 1))) 3 (([] ++ [(k, (E k).rev)]).map lateR)) ([] ++ [(k, (E k).rev)]) ∧ st = ⟨h2, lo'⟩)
                        n ⟨0, 0, Nat.zero_le _, rfl, .inl ⟨rfl, fun j hj => absurd hj (Nat.not_lt_zero _)⟩, (by repeat (first | exact Fr.le_nil | refine Fr.le_cons rfl ?_)), _, (((Kp6 _ _ _ _).same ek hekn id).trans heks), (Nat.lt_of_lt_of_le hekn (Kp6 _ _ _ _).next), (.inr ⟨by simp, lo.next + 1 + 1 + 1, rfl, Nat.lt_succ_self _, Heap.get_push_self _ _⟩), rfl⟩ ?_
                      rintro q fr st ⟨m, ld, hm, rfl, hld, hle1, lo', hek1, hek2, hlt', rfl⟩
                      refine ⟨_, hle1, fun R' hR' => ?_⟩
                      by_cases hmn : m < n
                      · have hget := esR_get (i := 0 + (m : Int).toNat) (n := n) (by omega) hmn
                        have hnow2 := fun (K : V → Heap → Prop) (hK : K (.i .i64 (now m)) h2) => now_ok hG W'.clk W'.row (m : Int) (K := K) (fun x h1 _ => by rw [h1 (by omega) (by omega)]; simpa using hK)
                        have hix2 : idxOk (m : Int) n = true := by unfold idxOk; rw [decide_eq_true (by omega), decide_eq_true (by omega)]; rfl
                        have htm : TimeOk (now m) := by
                          have h1 := W'.one.clk m hmn
                          have h2 := W'.time
                          unfold TimeOk
                          omega
                        have hlead := fun (K : V → Heap → Prop) => eleads_at hG (W'.els.at_ m hmn) (W'.ok m hmn) htm (K := K)
                        cases hL : leadsE ((updE E k e1) m) (now m) with
                        | false =>
                          rw [hL] at hlead
                          ((conv => whnf); repeat ((first | refine SChk.mk hix2 ?_ | refine SChk.mk (decide_eq_true (show 0 + n ≤ (esR n).length by omega)) ?_ | refine SCall.app (hnow2 _) ?_ | refine SCall.app (hlead _) ?_ | refine SEx.of (hek1) ?_ | refine SEx.of (hget) ?_ | refine yf rfl ?_ | refine yt rfl ?_ | refine yo rfl ?_ | refine yc rfl ?_ | refine ys rfl ?_ | refine ye rfl ?_ | refine yn rfl ?_ | refine zw ?_ | refine zdt ?_ | refine zdf ?_ | refine znt ?_ | refine znf ?_ | refine zcd ?_ | refine zci ?_ | refine zc3 ?_) <;> (conv => whnf)))
                          refine hR' (n - (m + 1)) _ _ (by omega) ⟨m + 1, ld, by omega, rfl, ?_, (by repeat (first | exact Fr.le_nil | refine Fr.le_cons rfl ?_)), lo', hek1, hek2, hlt', rfl⟩
                          rcases hld with ⟨h1, h2⟩ | h1
                          · exact .inl ⟨h1, fun j hj => by
                              by_cases e : j = m
                              · subst e; exact hL
                              · exact h2 j (by omega)⟩
                          · obtain ⟨h2, j0, h3, h4⟩ := h1
                            exact .inr ⟨h2, j0, by omega, h4⟩
                        | true =>
                          rw [hL] at hlead
                          have hld0 : ld = 0 := by
                            rcases hld with ⟨h1, _⟩ | ⟨_, j0, hj0, hj1⟩
                            · exact h1
                            · exact absurd (W'.one.one (show j0 < n by omega) hmn hj1 hL) (by omega)
                          subst hld0
                          ((conv => whnf); repeat ((first | refine SChk.mk hix2 ?_ | refine SChk.mk (decide_eq_true (show 0 + n ≤ (esR n).length by omega)) ?_ | refine SCall.app (hnow2 _) ?_ | refine SCall.app (hlead _) ?_ | refine SEx.of (hek1) ?_ | refine SEx.of (hget) ?_ | refine yf rfl ?_ | refine yt rfl ?_ | refine yo rfl ?_ | refine yc rfl ?_ | refine ys rfl ?_ | refine ye rfl ?_ | refine yn rfl ?_ | refine zw ?_ | refine zdt ?_ | refine zdf ?_ | refine znt ?_ | refine znf ?_ | refine zcd ?_ | refine zci ?_ | refine zc3 ?_) <;> (conv => whnf)))
                          exact hR' (n - (m + 1)) _ _ (by omega) ⟨m + 1, 0 + 1, by omega, rfl, .inr ⟨rfl, m, Nat.lt_succ_self m, hL⟩, (by repeat (first | exact Fr.le_nil | refine Fr.le_cons rfl ?_)), lo', hek1, hek2, hlt', rfl⟩
                      · have hld1 : ¬ 1 < ld := by
                          rcases hld with ⟨h1, _⟩ | ⟨h1, _⟩ <;> omega
                        ((conv => whnf); repeat ((first | refine SIf.df hld1 ?_ | refine yf rfl ?_ | refine yt rfl ?_ | refine yo rfl ?_ | refine yc rfl ?_ | refine ys rfl ?_ | refine ye rfl ?_ | refine yn rfl ?_ | refine zw ?_ | refine zdt ?_ | refine zdf ?_ | refine znt ?_ | refine znf ?_ | refine zcd ?_ | refine zci ?_ | refine zc3 ?_) <;> (conv => whnf)))
                        exact hR (150 - (i + 1)) _ _ (by omega) ⟨i + 1, h2, lo', _, _, _, _, _, _, _, _, ([] ++ [(k, (E k).rev)]), _, _, _, (.sl (some (.l (lo.next + 1 + 1 + 1))) 3 (([] ++ [(k, (E k).rev)]).map lateR)), by omega, by omega, rfl, W', hlt', hek2, hek1, (by repeat (first | exact Fr.le_nil | refine Fr.le_cons rfl ?_)), rfl⟩
                  · have gL : ∀ o1 o2 o3 o4 o5, (((((lo.push o1).set lo.next o2).push o3).set (lo.next + 1) o4).push o5).get lk = some .spare := fun _ _ _ _ _ => Heap.gp (show lk ≠ lo.next + 1 + 1 by omega) (((Kp4 _ _ _ _).same lk hlkn id).trans hlks)
                    have hne : ek ≠ lk := fun e => by rw [e, hlks] at heks; cases heks
                    ((conv => whnf); repeat ((first | refine SChk.mk (by simp [roomOk]; omega) ?_ | refine SEx.of (Heap.get_push_self _ _) ?_ | refine SEx.of (gA _ _ _ _) ?_ | refine SEx.of (gD _ _ _ _) ?_ | refine SEx.of (gL _ _ _ _ _) ?_ | refine yf rfl ?_ | refine yt rfl ?_ | refine yo rfl ?_ | refine yc rfl ?_ | refine ys rfl ?_ | refine ye rfl ?_ | refine yn rfl ?_ | refine zw ?_ | refine zdt ?_ | refine zdf ?_ | refine znt ?_ | refine znf ?_ | refine zcd ?_ | refine zci ?_ | refine zc3 ?_) <;> (conv => whnf)))
                    have hdr := fun (K : V → Heap → Prop) (hK : ∀ dd : Int, K (.i .i64 dd) h2) => drift_ok hG W'.clk (by omega) (fun a b _ _ => by have := W'.low (a * 8 + b); omega) (K := K) (fun dd _ _ _ => hK dd)
                    ((conv => whnf); repeat ((first | refine SCall.app (hdr _) ?_ | refine yf rfl ?_ | refine yt rfl ?_ | refine yo rfl ?_ | refine yc rfl ?_ | refine ys rfl ?_ | refine ye rfl ?_ | refine yn rfl ?_ | refine zw ?_ | refine zdt ?_ | refine zdf ?_ | refine znt ?_ | refine znf ?_ | refine zcd ?_ | refine zci ?_ | refine zc3 ?_) <;> (conv => whnf)))
                    intro dd
                    (conv => whnf)
                    refine SIf.ds (fun _ => ?_) (fun hdd => ?_)
                    · ((conv => whnf); repeat ((first | refine yf rfl ?_ | refine yt rfl ?_ | refine yo rfl ?_ | refine yc rfl ?_ | refine ys rfl ?_ | refine ye rfl ?_ | refine yn rfl ?_ | refine zw ?_ | refine zdt ?_ | refine zdf ?_ | refine znt ?_ | refine znf ?_ | refine zcd ?_ | refine zci ?_ | refine zc3 ?_) <;> (conv => whnf)))
                    · ((conv => whnf); repeat ((first | refine yf rfl ?_ | refine yt rfl ?_ | refine yo rfl ?_ | refine yc rfl ?_ | refine ys rfl ?_ | refine ye rfl ?_ | refine yn rfl ?_ | refine zw ?_ | refine zdt ?_ | refine zdf ?_ | refine znt ?_ | refine znf ?_ | refine zcd ?_ | refine zci ?_ | refine zc3 ?_) <;> (conv => whnf)))
                      refine SLoopV.by (fun q fr st => ∃ (m : Nat) (ld : Int), m ≤ n ∧ q = n - m ∧ ((ld = 0 ∧ ∀ j, j < m → leadsE ((updE E k e1) j) (now j) = false) ∨ (ld = 1 ∧ ∃ j0, j0 < m ∧ leadsE ((updE E k e1) j0) (now j0) = true)) ∧
                          Fr.le [(208, .i .i64 m), (207, .i .i64 n), (30, .i .i64 ld), (12, .i .i64 i), (11, .i .i64 d), (10, (.sl (some (.l (lo.next + 1 + 1 + 1))) 3 (Ls.map lateR ++ [lateR (k, (E k).rev)]))), (8, .ms (.l ek) 1 0 n), (7, .p (.g 5) 0), (6, .p (.g 3) 0), (1, .sl none 3 (ops.map opR)), (0, .i .i64 n)] fr ∧ ∃ lo', lo'.get ek = some (.arr 1 (esR n)) ∧ ek < lo'.next ∧ LateAt lo' (.sl (some (.l (lo.next + 1 + 1 + 1))) 3 (Ls.map lateR ++ [lateR (k, (E k).rev)])) (Ls ++ [(k, (E k).rev)]) ∧ st = ⟨h2, lo'⟩)
                        n ⟨0, 0, Nat.zero_le _, rfl, .inl ⟨rfl, fun j hj => absurd hj (Nat.not_lt_zero _)⟩, (by repeat (first | exact Fr.le_nil | refine Fr.le_cons rfl ?_)), _, (Heap.gp (show ek ≠ lo.next + 1 + 1 + 1 by omega) (Heap.gr hne (Heap.gp (show ek ≠ lo.next + 1 + 1 by omega) (((Kp4 _ _ _ _).same ek hekn id).trans heks)))), (Nat.lt_of_lt_of_le hekn (show lo.next ≤ lo.next + 1 + 1 + 1 + 1 by omega)), (.inr ⟨by simp, lo.next + 1 + 1 + 1, by rw [List.map_append]; rfl, Nat.lt_succ_self _, Heap.get_push_self _ _⟩), rfl⟩ ?_
                      rintro q fr st ⟨m, ld, hm, rfl, hld, hle1, lo', hek1, hek2, hlt', rfl⟩
                      refine ⟨_, hle1, fun R' hR' => ?_⟩
                      by_cases hmn : m < n
                      · have hget := esR_get (i := 0 + (m : Int).toNat) (n := n) (by omega) hmn
                        have hnow2 := fun (K : V → Heap → Prop) (hK : K (.i .i64 (now m)) h2) => now_ok hG W'.clk W'.row (m : Int) (K := K) (fun x h1 _ => by rw [h1 (by omega) (by omega)]; simpa using hK)
                        have hix2 : idxOk (m : Int) n = true := by unfold idxOk; rw [decide_eq_true (by omega), decide_eq_true (by omega)]; rfl
                        have htm : TimeOk (now m) := by
                          have h1 := W'.one.clk m hmn
                          have h2 := W'.time
                          unfold TimeOk
                          omega
                        have hlead := fun (K : V → Heap → Prop) => eleads_at hG (W'.els.at_ m hmn) (W'.ok m hmn) htm (K := K)
                        cases hL : leadsE ((updE E k e1) m) (now m) with
                        | false =>
                          rw [hL] at hlead
                          ((conv => whnf); repeat ((first | refine SChk.mk hix2 ?_ | refine SChk.mk (decide_eq_true (show 0 + n ≤ (esR n).length by omega)) ?_ | refine SCall.app (hnow2 _) ?_ | refine SCall.app (hlead _) ?_ | refine SEx.of (hek1) ?_ | refine SEx.of (hget) ?_ | refine yf rfl ?_ | refine yt rfl ?_ | refine yo rfl ?_ | refine yc rfl ?_ | refine ys rfl ?_ | refine ye rfl ?_ | refine yn rfl ?_ | refine zw ?_ | refine zdt ?_ | refine zdf ?_ | refine znt ?_ | refine znf ?_ | refine zcd ?_ | refine zci ?_ | refine zc3 ?_) <;> (conv => whnf)))
                          refine hR' (n - (m + 1)) _ _ (by omega) ⟨m + 1, ld, by omega, rfl, ?_, (by repeat (first | exact Fr.le_nil | refine Fr.le_cons rfl ?_)), lo', hek1, hek2, hlt', rfl⟩
                          rcases hld with ⟨h1, h2⟩ | h1
                          · exact .inl ⟨h1, fun j hj => by
                              by_cases e : j = m
                              · subst e; exact hL
                              · exact h2 j (by omega)⟩
                          · obtain ⟨h2, j0, h3, h4⟩ := h1
                            exact .inr ⟨h2, j0, by omega, h4⟩
                        | true =>
                          rw [hL] at hlead
                          have hld0 : ld = 0 := by
                            rcases hld with ⟨h1, _⟩ | ⟨_, j0, hj0, hj1⟩
                            · exact h1
                            · exact absurd (W'.one.one (show j0 < n by omega) hmn hj1 hL) (by omega)
                          subst hld0
                          ((conv => whnf); repeat ((first | refine SChk.mk hix2 ?_ | refine SChk.mk (decide_eq_true (show 0 + n ≤ (esR n).length by omega)) ?_ | refine SCall.app (hnow2 _) ?_ | refine SCall.app (hlead _) ?_ | refine SEx.of (hek1) ?_ | refine SEx.of (hget) ?_ | refine yf rfl ?_ | refine yt rfl ?_ | refine yo rfl ?_ | refine yc rfl ?_ | refine ys rfl ?_ | refine ye rfl ?_ | refine yn rfl ?_ | refine zw ?_ | refine zdt ?_ | refine zdf ?_ | refine znt ?_ | refine znf ?_ | refine zcd ?_ | refine zci ?_ | refine zc3 ?_) <;> (conv => whnf)))
                          exact hR' (n - (m + 1)) _ _ (by omega) ⟨m + 1, 0 + 1, by omega, rfl, .inr ⟨rfl, m, Nat.lt_succ_self m, hL⟩, (by repeat (first | exact Fr.le_nil | refine Fr.le_cons rfl ?_)), lo', hek1, hek2, hlt', rfl⟩
                      · have hld1 : ¬ 1 < ld := by
                          rcases hld with ⟨h1, _⟩ | ⟨h1, _⟩ <;> omega
                        ((conv => whnf); repeat ((first | refine SIf.df hld1 ?_ | refine yf rfl ?_ | refine yt rfl ?_ | refine yo rfl ?_ | refine yc rfl ?_ | refine ys rfl ?_ | refine ye rfl ?_ | refine yn rfl ?_ | refine zw ?_ | refine zdt ?_ | refine zdf ?_ | refine znt ?_ | refine znf ?_ | refine zcd ?_ | refine zci ?_ | refine zc3 ?_) <;> (conv => whnf)))
                        exact hR (150 - (i + 1)) _ _ (by omega) ⟨i + 1, h2, lo', _, _, _, _, _, _, _, _, (Ls ++ [(k, (E k).rev)]), _, _, _, (.sl (some (.l (lo.next + 1 + 1 + 1))) 3 (Ls.map lateR ++ [lateR (k, (E k).rev)])), by omega, by omega, rfl, W', hlt', hek2, hek1, (by repeat (first | exact Fr.le_nil | refine Fr.le_cons rfl ?_)), rfl⟩
            · have q2 : ¬ o.1 = 2 := by omega
              have q3 : ¬ o.1 = 3 := by omega
              obtain ⟨D, hD⟩ : ∃ D : Int, (if 0 < (if 700 < o.2.2 then 700 else o.2.2) then (if 700 < o.2.2 then 700 else o.2.2) else 0) = D := ⟨_, rfl⟩
              have hDb : 0 ≤ D ∧ D ≤ 700 := by
                rw [← hD]
                split <;> split <;> omega
              ((conv => whnf); repeat ((first | refine SChk.mk (by simp [roomOk]; omega) ?_ | refine SEx.of (x := arrI n fun _ => 0) (by rw [Int.toNat_natCast, rep_arrI]; exact own_arrI _ _ _) ?_ | refine SEx.of (g2 _ _) ?_ | refine yf rfl ?_ | refine yt rfl ?_ | refine yo rfl ?_ | refine yc rfl ?_ | refine ys rfl ?_ | refine ye rfl ?_ | refine yn rfl ?_ | refine zw ?_ | refine zdt ?_ | refine zdf ?_ | refine znt ?_ | refine znf ?_ | refine zcd ?_ | refine zci ?_ | refine zc3 ?_) <;> (conv => whnf)))
              rw [hD, arrI_len]
              refine SLoopV.by (fun q fr st => ∃ (m : Nat) (g' : Heap), m ≤ n ∧ q = n - m ∧ Heap.Keeps (fun _ => False) h g' ∧ h.next < g'.next ∧ g'.get h.next = some (.arr 1 (arrI n fun q => if q < m then D else 0)) ∧
                  Fr.le [(92, .i .i64 m), (91, .i .i64 n), (27, .ms (.g h.next) 1 0 n), (26, .i .i64 D), (14, .i .i64 k), (12, .i .i64 i), (11, .i .i64 d), (10, lv), (8, .ms (.l ek) 1 0 n), (7, .p (.g 5) 0), (6, .p (.g 3) 0), (1, .sl none 3 (ops.map opR)), (0, .i .i64 n)] fr ∧ ∃ lo', lo'.get ek = some (.arr 1 (esR n)) ∧ ek < lo'.next ∧ LateAt lo' lv Ls ∧ st = ⟨g', lo'⟩)
                n ⟨0, _, Nat.zero_le _, rfl, (Heap.Keeps.refl _ h).push _, Nat.lt_succ_self _, Heap.get_push_self _ _, (by repeat (first | exact Fr.le_nil | refine Fr.le_cons rfl ?_)), _, e1 _ _, e1n _ _, hlt1 _ _, rfl⟩ ?_
              rintro q fr st ⟨m, g', hm, rfl, hkg, hgn, hrow, hle1, lo', hek1, hek2, hlt', rfl⟩
              refine ⟨_, hle1, fun R' hR' => ?_⟩
              by_cases hmn : m < n
              · have hix2 : idxOk (m : Int) n = true := by unfold idxOk; rw [decide_eq_true (by omega), decide_eq_true (by omega)]; rfl
                have hset : (arrI n fun q => if q < m then D else 0).set (0 + (m : Int).toNat) [V.i .i64 D] = arrI n fun q => if q < m + 1 then D else 0 := by
                  rw [arrI_set (j := m) (by omega)]
                  refine arrI_congr fun q _ => ?_
                  by_cases hq : q = m
                  · subst hq; rw [if_pos rfl, if_pos (by omega)]
                  · rw [if_neg hq]
                    by_cases hq2 : q < m
                    · rw [if_pos hq2, if_pos (by omega)]
                    · rw [if_neg hq2, if_neg (by omega)]
                ((conv => whnf); repeat ((first | refine SChk.mk hix2 ?_ | refine SEx.of (congrArg some hset) ?_ | refine SEx.of (hrow) ?_ | refine SEx.of (arrI_get (j := m) (i := 0 + (m : Int).toNat) (n := n) (by omega) hmn) ?_ | refine yf rfl ?_ | refine yt rfl ?_ | refine yo rfl ?_ | refine yc rfl ?_ | refine ys rfl ?_ | refine ye rfl ?_ | refine yn rfl ?_ | refine zw ?_ | refine zdt ?_ | refine zdf ?_ | refine znt ?_ | refine znf ?_ | refine zcd ?_ | refine zci ?_ | refine zc3 ?_) <;> (conv => whnf)))
                exact hR' (n - (m + 1)) _ _ (by omega) ⟨m + 1, _, by omega, rfl, hkg.set (.inr (Nat.le_refl _)) _, hgn, Heap.get_set_self hrow, (by repeat (first | exact Fr.le_nil | refine Fr.le_cons rfl ?_)), lo', hek1, hek2, hlt', rfl⟩
              · obtain rfl : n = m := by omega
                have hrow0 : (arrI n fun q => if q < n then D else 0) = arrI n (rowA k D 0) := arrI_congr fun q hq => by
                  unfold rowA
                  rw [if_pos hq]
                  split <;> omega
                rw [hrow0] at hrow
                have hl0 := W.els.lt
                have h70 := Int.tmod_lt_of_pos D (b := 7) (by decide)
                have h71 := Int.tmod_nonneg 7 hDb.1
                have hdr := W.drift
                obtain ⟨x, hx⟩ : ∃ x : Int, D.tmod 7 = x := ⟨_, rfl⟩
                rw [hx] at h70 h71
                ((conv => whnf); repeat ((first | refine yf rfl ?_ | refine yt rfl ?_ | refine yo rfl ?_ | refine yc rfl ?_ | refine ys rfl ?_ | refine ye rfl ?_ | refine yn rfl ?_ | refine zw ?_ | refine zdt ?_ | refine zdf ?_ | refine znt ?_ | refine znf ?_ | refine zcd ?_ | refine zci ?_ | refine zc3 ?_) <;> (conv => whnf)))
                rw [hx]
                have htb : ∀ j, j < n → 0 ≤ now j ∧ now j ≤ 1125899906842624 := fun j hj => by
                  have h1 := W.one.clk j hj
                  have h2 := W.time
                  omega
                have hg5 : g'.get 5 = some (.cs (clkC 4 n lw hw)) := (hkg.same 5 (by omega) id).trans W.clk
                have hg4 : g'.get 4 = some (.arr 1 (arrI n now)) := (hkg.same 4 (by omega) id).trans W.row
                have hgk : (arrI n (rowA k D 0))[0 + (k : Int).toNat]? = some [V.i .i64 D] := by
                  rw [arrI_get (j := k) (by omega) hkn]
                  unfold rowA
                  rw [if_pos rfl, Int.add_zero]
                have hset : (arrI n (rowA k D 0)).set (0 + (k : Int).toNat) [V.i .i64 (D + x)] = arrI n (rowA k D x) := by
                  rw [arrI_set (j := k) (by omega)]
                  refine arrI_congr fun q _ => ?_
                  unfold rowA
                  by_cases hq : q = k
                  · rw [if_pos hq, if_pos hq]
                  · rw [if_neg hq, if_neg hq, if_neg hq]
                by_cases hdx : d + x ≤ 100
                · have htk := fun (o' : Obj) (ho : o' = .arr 1 (arrI n (rowA k D x))) (K : V → Heap → Prop) (hK : ∀ h3, Heap.Keeps (fun j => j = 5 ∨ j = 4) (g'.set h.next o') h3 → h3.get 5 = some (.cs (clkC 4 n (tickLo n (tickNow (min n n) now (rowA k D x)) lw) (tickHi n (tickNow (min n n) now (rowA k D x)) hw))) →
                      h3.get 4 = some (.arr 1 (arrI n (tickNow (min n n) now (rowA k D x)))) → K (.b true) h3) =>
                    tick_ms hG (h := g'.set h.next o') (c := 5) (k := 4) (m := n) (n := n) (b := h.next) (nb := n) (a := rowA k D x) (Heap.gs (by omega) hg5) (Heap.gs (by omega) hg4) (by decide) hn8 (by rw [ho]; exact Heap.get_set_self hrow) (Nat.le_refl _) (by omega) htb (fun hn => absurd (W.may hi150 k hDb ⟨h71, by omega⟩) hn) (fun _ h3 a b c => hK h3 a b c)
                  ((conv => whnf); repeat ((first | refine SWrap.w64 (by omega) (by omega) ?_ | refine SChk.mk hix ?_ | refine SEx.of (congrArg some hset) ?_ | refine SCall.app (htk _ rfl _) ?_ | refine SEx.of (hrow) ?_ | refine SEx.of (hgk) ?_ | refine yf rfl ?_ | refine yt rfl ?_ | refine yo rfl ?_ | refine yc rfl ?_ | refine ys rfl ?_ | refine ye rfl ?_ | refine yn rfl ?_ | refine zw ?_ | refine zdt ?_ | refine zdf ?_ | refine znt ?_ | refine znf ?_ | refine zcd ?_ | refine zci ?_ | refine zc3 ?_) <;> (conv => whnf)))
                  intro h3 k3 h35 h34
                  have W' := W.tick k hDb ⟨h71, hdx⟩ (((hkg.mono (fun _ _ hf => hf.elim)).set (.inr (Nat.le_refl _)) _).trans k3) h35 h34
                  have hdr := fun (K : V → Heap → Prop) (hK : ∀ dd : Int, K (.i .i64 dd) h3) => drift_ok hG W'.clk (by omega) (fun a b _ _ => by have := W'.low (a * 8 + b); omega) (K := K) (fun dd _ _ _ => hK dd)
                  ((conv => whnf); repeat ((first | refine SCall.app (hdr _) ?_ | refine yf rfl ?_ | refine yt rfl ?_ | refine yo rfl ?_ | refine yc rfl ?_ | refine ys rfl ?_ | refine ye rfl ?_ | refine yn rfl ?_ | refine zw ?_ | refine zdt ?_ | refine zdf ?_ | refine znt ?_ | refine znf ?_ | refine zcd ?_ | refine zci ?_ | refine zc3 ?_) <;> (conv => whnf)))
                  intro dd
                  (conv => whnf)
                  refine SIf.ds (fun _ => ?_) (fun hdd => ?_)
                  · ((conv => whnf); repeat ((first | refine yf rfl ?_ | refine yt rfl ?_ | refine yo rfl ?_ | refine yc rfl ?_ | refine ys rfl ?_ | refine ye rfl ?_ | refine yn rfl ?_ | refine zw ?_ | refine zdt ?_ | refine zdf ?_ | refine znt ?_ | refine znf ?_ | refine zcd ?_ | refine zci ?_ | refine zc3 ?_) <;> (conv => whnf)))
                  · ((conv => whnf); repeat ((first | refine yf rfl ?_ | refine yt rfl ?_ | refine yo rfl ?_ | refine yc rfl ?_ | refine ys rfl ?_ | refine ye rfl ?_ | refine yn rfl ?_ | refine zw ?_ | refine zdt ?_ | refine zdf ?_ | refine znt ?_ | refine znf ?_ | refine zcd ?_ | refine zci ?_ | refine zc3 ?_) <;> (conv => whnf)))
                    refine SLoopV.by (fun q fr st => ∃ (m : Nat) (ld : Int), m ≤ n ∧ q = n - m ∧ ((ld = 0 ∧ ∀ j, j < m → leadsE (E j) ((tickNow (min n n) now (rowA k D x)) j) = false) ∨ (ld = 1 ∧ ∃ j0, j0 < m ∧ leadsE (E j0) ((tickNow (min n n) now (rowA k D x)) j0) = true)) ∧
                        Fr.le [(208, .i .i64 m), (207, .i .i64 n), (30, .i .i64 ld), (12, .i .i64 i), (11, .i .i64 (d + x)), (10, lv), (8, .ms (.l ek) 1 0 n), (7, .p (.g 5) 0), (6, .p (.g 3) 0), (1, .sl none 3 (ops.map opR)), (0, .i .i64 n)] fr ∧ ∃ lo', lo'.get ek = some (.arr 1 (esR n)) ∧ ek < lo'.next ∧ LateAt lo' lv Ls ∧ st = ⟨h3, lo'⟩)
                      n ⟨0, 0, Nat.zero_le _, rfl, .inl ⟨rfl, fun j hj => absurd hj (Nat.not_lt_zero _)⟩, (by repeat (first | exact Fr.le_nil | refine Fr.le_cons rfl ?_)), _, hek1, hek2, hlt', rfl⟩ ?_
                    rintro q fr st ⟨m, ld, hm, rfl, hld, hle1, lo', hek1, hek2, hlt', rfl⟩
                    refine ⟨_, hle1, fun R' hR' => ?_⟩
                    by_cases hmn : m < n
                    · have hget := esR_get (i := 0 + (m : Int).toNat) (n := n) (by omega) hmn
                      have hnow2 := fun (K : V → Heap → Prop) (hK : K (.i .i64 ((tickNow (min n n) now (rowA k D x)) m)) h3) => now_ok hG W'.clk W'.row (m : Int) (K := K) (fun x h1 _ => by rw [h1 (by omega) (by omega)]; simpa using hK)
                      have hix2 : idxOk (m : Int) n = true := by unfold idxOk; rw [decide_eq_true (by omega), decide_eq_true (by omega)]; rfl
                      have htm : TimeOk ((tickNow (min n n) now (rowA k D x)) m) := by
                        have h1 := W'.one.clk m hmn
                        have h2 := W'.time
                        unfold TimeOk
                        omega
                      have hlead := fun (K : V → Heap → Prop) => eleads_at hG (W'.els.at_ m hmn) (W'.ok m hmn) htm (K := K)
                      cases hL : leadsE (E m) ((tickNow (min n n) now (rowA k D x)) m) with
                      | false =>
                        rw [hL] at hlead
                        ((conv => whnf); repeat ((first | refine SChk.mk hix2 ?_ | refine SChk.mk (decide_eq_true (show 0 + n ≤ (esR n).length by omega)) ?_ | refine SCall.app (hnow2 _) ?_ | refine SCall.app (hlead _) ?_ | refine SEx.of (hek1) ?_ | refine SEx.of (hget) ?_ | refine yf rfl ?_ | refine yt rfl ?_ | refine yo rfl ?_ | refine yc rfl ?_ | refine ys rfl ?_ | refine ye rfl ?_ | refine yn rfl ?_ | refine zw ?_ | refine zdt ?_ | refine zdf ?_ | refine znt ?_ | refine znf ?_ | refine zcd ?_ | refine zci ?_ | refine zc3 ?_) <;> (conv => whnf)))
                        refine hR' (n - (m + 1)) _ _ (by omega) ⟨m + 1, ld, by omega, rfl, ?_, (by repeat (first | exact Fr.le_nil | refine Fr.le_cons rfl ?_)), lo', hek1, hek2, hlt', rfl⟩
                        rcases hld with ⟨h1, h2⟩ | h1
                        · exact .inl ⟨h1, fun j hj => by
                            by_cases e : j = m
                            · subst e; exact hL
                            · exact h2 j (by omega)⟩
                        · obtain ⟨h2, j0, h3, h4⟩ := h1
                          exact .inr ⟨h2, j0, by omega, h4⟩
                      | true =>
                        rw [hL] at hlead
                        have hld0 : ld = 0 := by
                          rcases hld with ⟨h1, _⟩ | ⟨_, j0, hj0, hj1⟩
                          · exact h1
                          · exact absurd (W'.one.one (show j0 < n by omega) hmn hj1 hL) (by omega)
                        subst hld0
                        ((conv => whnf); repeat ((first | refine SChk.mk hix2 ?_ | refine SChk.mk (decide_eq_true (show 0 + n ≤ (esR n).length by omega)) ?_ | refine SCall.app (hnow2 _) ?_ | refine SCall.app (hlead _) ?_ | refine SEx.of (hek1) ?_ | refine SEx.of (hget) ?_ | refine yf rfl ?_ | refine yt rfl ?_ | refine yo rfl ?_ | refine yc rfl ?_ | refine ys rfl ?_ | refine ye rfl ?_ | refine yn rfl ?_ | refine zw ?_ | refine zdt ?_ | refine zdf ?_ | refine znt ?_ | refine znf ?_ | refine zcd ?_ | refine zci ?_ | refine zc3 ?_) <;> (conv => whnf)))
                        exact hR' (n - (m + 1)) _ _ (by omega) ⟨m + 1, 0 + 1, by omega, rfl, .inr ⟨rfl, m, Nat.lt_succ_self m, hL⟩, (by repeat (first | exact Fr.le_nil | refine Fr.le_cons rfl ?_)), lo', hek1, hek2, hlt', rfl⟩
                    · have hld1 : ¬ 1 < ld := by
                        rcases hld with ⟨h1, _⟩ | ⟨h1, _⟩ <;> omega
                      ((conv => whnf); repeat ((first | refine SIf.df hld1 ?_ | refine yf rfl ?_ | refine yt rfl ?_ | refine yo rfl ?_ | refine yc rfl ?_ | refine ys rfl ?_ | refine ye rfl ?_ | refine yn rfl ?_ | refine zw ?_ | refine zdt ?_ | refine zdf ?_ | refine znt ?_ | refine znf ?_ | refine zcd ?_ | refine zci ?_ | refine zc3 ?_) <;> (conv => whnf)))
                      exact hR (150 - (i + 1)) _ _ (by omega) ⟨i + 1, h3, lo', _, _, _, _, _, _, _, _, Ls, _, _, _, lv, by omega, by omega, rfl, W', hlt', hek2, hek1, (by repeat (first | exact Fr.le_nil | refine Fr.le_cons rfl ?_)), rfl⟩
                · have htk := fun (K : V → Heap → Prop) (hK : ∀ h3, Heap.Keeps (fun j => j = 5 ∨ j = 4) g' h3 → h3.get 5 = some (.cs (clkC 4 n (tickLo n (tickNow (min n n) now (rowA k D 0)) lw) (tickHi n (tickNow (min n n) now (rowA k D 0)) hw))) →
                      h3.get 4 = some (.arr 1 (arrI n (tickNow (min n n) now (rowA k D 0)))) → K (.b true) h3) =>
                    tick_ms hG (h := g') (c := 5) (k := 4) (m := n) (n := n) (b := h.next) (nb := n) (a := rowA k D 0) hg5 hg4 (by decide) hn8 hrow (Nat.le_refl _) (by omega) htb (fun hn => absurd (W.may hi150 k hDb ⟨Int.le_refl 0, by decide⟩) hn) (fun _ h3 a b c => hK h3 a b c)
                  ((conv => whnf); repeat ((first | refine SWrap.w64 (by omega) (by omega) ?_ | refine SChk.mk hix ?_ | refine SCall.app (htk _) ?_ | refine SEx.of (hrow) ?_ | refine yf rfl ?_ | refine yt rfl ?_ | refine yo rfl ?_ | refine yc rfl ?_ | refine ys rfl ?_ | refine ye rfl ?_ | refine yn rfl ?_ | refine zw ?_ | refine zdt ?_ | refine zdf ?_ | refine znt ?_ | refine znf ?_ | refine zcd ?_ | refine zci ?_ | refine zc3 ?_) <;> (conv => whnf)))
                  intro h3 k3 h35 h34
                  have W' := W.tick k hDb ⟨Int.le_refl 0, by omega⟩ ((hkg.mono (fun _ _ hf => hf.elim)).trans k3) h35 h34
                  rw [Int.add_zero] at W'
                  have hdr := fun (K : V → Heap → Prop) (hK : ∀ dd : Int, K (.i .i64 dd) h3) => drift_ok hG W'.clk (by omega) (fun a b _ _ => by have := W'.low (a * 8 + b); omega) (K := K) (fun dd _ _ _ => hK dd)
                  ((conv => whnf); repeat ((first | refine SCall.app (hdr _) ?_ | refine yf rfl ?_ | refine yt rfl ?_ | refine yo rfl ?_ | refine yc rfl ?_ | refine ys rfl ?_ | refine ye rfl ?_ | refine yn rfl ?_ | refine zw ?_ | refine zdt ?_ | refine zdf ?_ | refine znt ?_ | refine znf ?_ | refine zcd ?_ | refine zci ?_ | refine zc3 ?_) <;> (conv => whnf)))
                  intro dd
                  (conv => whnf)
                  refine SIf.ds (fun _ => ?_) (fun hdd => ?_)
                  · ((conv => whnf); repeat ((first | refine yf rfl ?_ | refine yt rfl ?_ | refine yo rfl ?_ | refine yc rfl ?_ | refine ys rfl ?_ | refine ye rfl ?_ | refine yn rfl ?_ | refine zw ?_ | refine zdt ?_ | refine zdf ?_ | refine znt ?_ | refine znf ?_ | refine zcd ?_ | refine zci ?_ | refine zc3 ?_) <;> (conv => whnf)))
                  · ((conv => whnf); repeat ((first | refine yf rfl ?_ | refine yt rfl ?_ | refine yo rfl ?_ | refine yc rfl ?_ | refine ys rfl ?_ | refine ye rfl ?_ | refine yn rfl ?_ | refine zw ?_ | refine zdt ?_ | refine zdf ?_ | refine znt ?_ | refine znf ?_ | refine zcd ?_ | refine zci ?_ | refine zc3 ?_) <;> (conv => whnf)))
                    refine SLoopV.by (fun q fr st => ∃ (m : Nat) (ld : Int), m ≤ n ∧ q = n - m ∧ ((ld = 0 ∧ ∀ j, j < m → leadsE (E j) ((tickNow (min n n) now (rowA k D 0)) j) = false) ∨ (ld = 1 ∧ ∃ j0, j0 < m ∧ leadsE (E j0) ((tickNow (min n n) now (rowA k D 0)) j0) = true)) ∧
                        Fr.le [(208, .i .i64 m), (207, .i .i64 n), (30, .i .i64 ld), (12, .i .i64 i), (11, .i .i64 d), (10, lv), (8, .ms (.l ek) 1 0 n), (7, .p (.g 5) 0), (6, .p (.g 3) 0), (1, .sl none 3 (ops.map opR)), (0, .i .i64 n)] fr ∧ ∃ lo', lo'.get ek = some (.arr 1 (esR n)) ∧ ek < lo'.next ∧ LateAt lo' lv Ls ∧ st = ⟨h3, lo'⟩)
                      n ⟨0, 0, Nat.zero_le _, rfl, .inl ⟨rfl, fun j hj => absurd hj (Nat.not_lt_zero _)⟩, (by repeat (first | exact Fr.le_nil | refine Fr.le_cons rfl ?_)), _, hek1, hek2, hlt', rfl⟩ ?_
                    rintro q fr st ⟨m, ld, hm, rfl, hld, hle1, lo', hek1, hek2, hlt', rfl⟩
                    refine ⟨_, hle1, fun R' hR' => ?_⟩
                    by_cases hmn : m < n
                    · have hget := esR_get (i := 0 + (m : Int).toNat) (n := n) (by omega) hmn
                      have hnow2 := fun (K : V → Heap → Prop) (hK : K (.i .i64 ((tickNow (min n n) now (rowA k D 0)) m)) h3) => now_ok hG W'.clk W'.row (m : Int) (K := K) (fun x h1 _ => by rw [h1 (by omega) (by omega)]; simpa using hK)
                      have hix2 : idxOk (m : Int) n = true := by unfold idxOk; rw [decide_eq_true (by omega), decide_eq_true (by omega)]; rfl
                      have htm : TimeOk ((tickNow (min n n) now (rowA k D 0)) m) := by
                        have h1 := W'.one.clk m hmn
                        have h2 := W'.time
                        unfold TimeOk
                        omega
                      have hlead := fun (K : V → Heap → Prop) => eleads_at hG (W'.els.at_ m hmn) (W'.ok m hmn) htm (K := K)
                      cases hL : leadsE (E m) ((tickNow (min n n) now (rowA k D 0)) m) with
                      | false =>
                        rw [hL] at hlead
                        ((conv => whnf); repeat ((first | refine SChk.mk hix2 ?_ | refine SChk.mk (decide_eq_true (show 0 + n ≤ (esR n).length by omega)) ?_ | refine SCall.app (hnow2 _) ?_ | refine SCall.app (hlead _) ?_ | refine SEx.of (hek1) ?_ | refine SEx.of (hget) ?_ | refine yf rfl ?_ | refine yt rfl ?_ | refine yo rfl ?_ | refine yc rfl ?_ | refine ys rfl ?_ | refine ye rfl ?_ | refine yn rfl ?_ | refine zw ?_ | refine zdt ?_ | refine zdf ?_ | refine znt ?_ | refine znf ?_ | refine zcd ?_ | refine zci ?_ | refine zc3 ?_) <;> (conv => whnf)))
                        refine hR' (n - (m + 1)) _ _ (by omega) ⟨m + 1, ld, by omega, rfl, ?_, (by repeat (first | exact Fr.le_nil | refine Fr.le_cons rfl ?_)), lo', hek1, hek2, hlt', rfl⟩
                        rcases hld with ⟨h1, h2⟩ | h1
                        · exact .inl ⟨h1, fun j hj => by
                            by_cases e : j = m
                            · subst e; exact hL
                            · exact h2 j (by omega)⟩
                        · obtain ⟨h2, j0, h3, h4⟩ := h1
                          exact .inr ⟨h2, j0, by omega, h4⟩
                      | true =>
                        rw [hL] at hlead
                        have hld0 : ld = 0 := by
                          rcases hld with ⟨h1, _⟩ | ⟨_, j0, hj0, hj1⟩
                          · exact h1
                          · exact absurd (W'.one.one (show j0 < n by omega) hmn hj1 hL) (by omega)
                        subst hld0
                        ((conv => whnf); repeat ((first | refine SChk.mk hix2 ?_ | refine SChk.mk (decide_eq_true (show 0 + n ≤ (esR n).length by omega)) ?_ | refine SCall.app (hnow2 _) ?_ | refine SCall.app (hlead _) ?_ | refine SEx.of (hek1) ?_ | refine SEx.of (hget) ?_ | refine yf rfl ?_ | refine yt rfl ?_ | refine yo rfl ?_ | refine yc rfl ?_ | refine ys rfl ?_ | refine ye rfl ?_ | refine yn rfl ?_ | refine zw ?_ | refine zdt ?_ | refine zdf ?_ | refine znt ?_ | refine znf ?_ | refine zcd ?_ | refine zci ?_ | refine zc3 ?_) <;> (conv => whnf)))
                        exact hR' (n - (m + 1)) _ _ (by omega) ⟨m + 1, 0 + 1, by omega, rfl, .inr ⟨rfl, m, Nat.lt_succ_self m, hL⟩, (by repeat (first | exact Fr.le_nil | refine Fr.le_cons rfl ?_)), lo', hek1, hek2, hlt', rfl⟩
                    · have hld1 : ¬ 1 < ld := by
                        rcases hld with ⟨h1, _⟩ | ⟨h1, _⟩ <;> omega
                      ((conv => whnf); repeat ((first | refine SIf.df hld1 ?_ | refine yf rfl ?_ | refine yt rfl ?_ | refine yo rfl ?_ | refine yc rfl ?_ | refine ys rfl ?_ | refine ye rfl ?_ | refine yn rfl ?_ | refine zw ?_ | refine zdt ?_ | refine zdf ?_ | refine znt ?_ | refine znf ?_ | refine zcd ?_ | refine zci ?_ | refine zc3 ?_) <;> (conv => whnf)))
                      exact hR (150 - (i + 1)) _ _ (by omega) ⟨i + 1, h3, lo', _, _, _, _, _, _, _, _, Ls, _, _, _, lv, by omega, by omega, rfl, W', hlt', hek2, hek1, (by repeat (first | exact Fr.le_nil | refine Fr.le_cons rfl ?_)), rfl⟩
      · have h6 : ¬ i < ops.length ∨ (i < ops.length ∧ ¬ i < 150) := by omega
        rcases h6 with h1 | ⟨h1, h2⟩
        all_goals ((conv => whnf); repeat ((first | refine yf rfl ?_ | refine yt rfl ?_ | refine yo rfl ?_ | refine yc rfl ?_ | refine ys rfl ?_ | refine ye rfl ?_ | refine yn rfl ?_ | refine zw ?_ | refine zdt ?_ | refine zdf ?_ | refine znt ?_ | refine znf ?_ | refine zcd ?_ | refine zci ?_ | refine zc3 ?_) <;> (conv => whnf)))
end
end Go.Eng
