/-
RelistTrue: whatever is lost, late, compacted: what one knows is what the store was at that revision, or it is nothing.
-/
import Derived.Test.YtcckglahpbmakaaGreatRe1
set_option linter.unusedVariables false
set_option linter.unusedSimpArgs false
namespace Go.Eng
open Go
structure AnE where
  id : Int
  kind : Int
  err : Int
  rev : Int
  es : List EnD
  xs : List EvD
def anR (a : AnE) : List V := ansR 3 a.id a.kind a.err a.rev (.sl none 3 (a.es.map enR)) (.sl none 4 (a.xs.map evR))
def wasV (all : List EvD) (j : Nat) : V := if j = 0 then .nils else .sl none 3 ((atR all j).map enR)
def wasM (all : List EvD) (n : Nat) : List (V × V) := (List.range (n + 1)).map fun (j : Nat) => (V.i .i64 (j : Int), wasV all j)
theorem keyEq_i (x y : Int) : keyEq (.i .i64 x) (.i .i64 y) = decide (x = y) := by simp [keyEq]
theorem mfind_app (k : V) : ∀ (A B : List (V × V)), mfind (A ++ B) k = (mfind A k).or (mfind B k)
  | [], B => rfl
  | (a, b) :: r, B => by
    simp only [List.cons_append, mfind]
    split
    · rfl
    · exact mfind_app k r B
theorem mput_app (k v : V) : ∀ {A : List (V × V)}, mfind A k = none → mput A k v = A ++ [(k, v)]
  | [], _ => rfl
  | (a, b) :: r, h => by
    simp only [mfind] at h
    simp only [mput, List.cons_append]
    split at h
    · cases h
    · rename_i hc
      rw [if_neg hc, mput_app k v h]
theorem wasM_find (all : List EvD) : ∀ (n : Nat) (j : Int), mfind (wasM all n) (.i .i64 j) = if 0 ≤ j ∧ j ≤ n then some (wasV all j.toNat) else none
  | 0, j => by
    show mfind [(V.i .i64 0, wasV all 0)] _ = _
    simp only [mfind, keyEq_i]
    by_cases c : j = 0
    · subst c; rfl
    · rw [if_neg (by simpa using c), if_neg (by omega)]
  | n + 1, j => by
    have h1 : wasM all (n + 1) = wasM all n ++ [(V.i .i64 ((n + 1 : Nat) : Int), wasV all (n + 1))] := by
      unfold wasM; rw [List.range_succ, List.map_append]; rfl
    rw [h1, mfind_app, wasM_find all n j]
    simp only [mfind, keyEq_i]
    by_cases c : j = ((n + 1 : Nat) : Int)
    · rw [if_neg (by omega), if_pos (by simpa using c), if_pos (by omega)]
      subst c
      simp
    · rw [decide_eq_false c]
      by_cases d : 0 ≤ j ∧ j ≤ n
      · have d2 : 0 ≤ j ∧ j ≤ ((n + 1 : Nat) : Int) := by omega
        rw [if_pos d, if_pos d2]; rfl
      · have d2 : ¬ (0 ≤ j ∧ j ≤ ((n + 1 : Nat) : Int)) := by omega
        rw [if_neg d, if_neg d2]; rfl
theorem wasM_put {all : List EvD} {n : Nat} (ws : List WrD) : mput (wasM all n) (.i .i64 ((n : Int) + 1)) (.sl none 3 ((atR (all ++ evW ((n : Int) + 1) ws) ((n : Int) + 1)).map enR)) = wasM (all ++ evW ((n : Int) + 1) ws) (n + 1) := by
  rw [mput_app _ _ (by rw [wasM_find, if_neg (by omega)])]
  unfold wasM
  rw [List.range_succ (n := n + 1), List.map_append]
  congr 1
  refine List.map_congr_left fun j hj => ?_
  have hjn : j ≤ n := by have := List.mem_range.1 hj; omega
  unfold wasV
  rw [atR_txn (by omega)]
theorem RW.rho {h : Heap} {w : Option Obj} {me : Int} {all : List EvD} {R id at_ fresh : Int} {out : Bool} {k : CallD} {ρ : Int} (hw : RW h w me all R id at_ fresh out k ρ) : ρ = -1 ∨ (0 ≤ ρ ∧ ρ ≤ R) := by
  obtain ⟨_, _, _, _, _, _, _, _, _, _, _, h6, _⟩ := hw.ex
  rcases h6 with ⟨c, _⟩ | ⟨c1, c2, _⟩
  · exact .inl c
  · exact .inr ⟨c1, c2⟩
theorem atR_zero {all : List EvD} {R : Int} (h : AllOk all R) : atR all 0 = [] := by
  unfold atR
  rw [List.filter_eq_nil_iff.2 fun x hx => by have := (h.each x hx).1.1; simp; omega]
  rfl
theorem wasV_rows (all : List EvD) {r : Int} (h0 : 0 ≤ r) (h : ¬ r = 0) : wasV all r.toNat = .sl none 3 ((atR all r).map enR) := by
  unfold wasV
  rw [if_neg (by omega), show ((r.toNat : Nat) : Int) = r by omega]
def ElV (lo : Heap) (lv : V) (rows : List AnE) : Prop := (lv = .nils ∧ rows = []) ∨ (0 < rows.length ∧ ∃ t, lv = .sl (some (.l t)) 7 (rows.map anR) ∧ t < lo.next ∧ lo.get t = some .spare)
theorem ElV.keep {lo lj : Heap} {lv : V} {rows : List AnE} (h : ElV lo lv rows) (hk : Heap.Keeps (fun _ => False) lo lj) : ElV lj lv rows := by
  rcases h with h | ⟨h1, t, h2, h3, h4⟩
  · exact .inl h
  · exact .inr ⟨h1, t, h2, Nat.lt_of_lt_of_le h3 hk.1, by rw [hk.2 t h3 (fun x => x)]; exact h4⟩
section
variable {P : Program} (hG : FnsOk P AF.fns.get)
include hG
set_option maxHeartbeats 64000000 in
set_option maxRecDepth 20000 in
theorem relistTrue_ok (hA : AddAt P) (hS : SortedOk P) (hb0 : ACall P 8 [] noG (fun r _ => r = .b true)) (ops : List OpT) (hops : ∀ o ∈ ops, OpTOk o) :
    ACall P 3 [.sl none 7 (ops.map opT)] noG (fun r _ => r = .b true) := by
  have hol : (ops.map opT).length = ops.length := List.length_map _
  refine fn_sv (hG _ AF.f3 rfl) rfl ?_
  ((conv => whnf); repeat ((first | refine yf rfl ?_ | refine yt rfl ?_ | refine yo rfl ?_ | refine yc rfl ?_ | refine ys rfl ?_ | refine ye rfl ?_ | refine yn rfl ?_ | refine zw ?_ | refine zdt ?_ | refine zdf ?_ | refine znt ?_ | refine znf ?_ | refine zcd ?_ | refine zci ?_ | refine zc3 ?_) <;> (conv => whnf)))
  refine ⟨hb0.frame rfl fun v h' hv => ?_⟩
  subst hv
  refine ⟨rfl, ?_⟩
  have hsn := fun (K : V → Heap → Prop) hK => snew_at (K := K) hG (h := noG) hK
  ((conv => whnf); repeat ((first | refine SCall.app (hsn _) ?_ | refine yf rfl ?_ | refine yt rfl ?_ | refine yo rfl ?_ | refine yc rfl ?_ | refine ys rfl ?_ | refine ye rfl ?_ | refine yn rfl ?_ | refine zw ?_ | refine zdt ?_ | refine zdf ?_ | refine znt ?_ | refine znf ?_ | refine zcd ?_ | refine zci ?_ | refine zc3 ?_) <;> (conv => whnf)))
  intro h1 hs1 k1 hn1
  have hrn := fun (K : V → Heap → Prop) hK => rlnew_at (K := K) hG (h := h1) 3 (by omega) hK
  have hn1' : h1.next = 4 := hn1
  rw [hn1'] at hrn
  ((conv => whnf); repeat ((first | refine SCall.app (hrn _) ?_ | refine yf rfl ?_ | refine yt rfl ?_ | refine yo rfl ?_ | refine yc rfl ?_ | refine ys rfl ?_ | refine ye rfl ?_ | refine yn rfl ?_ | refine zw ?_ | refine zdt ?_ | refine zdf ?_ | refine znt ?_ | refine znf ?_ | refine zcd ?_ | refine zci ?_ | refine zc3 ?_) <;> (conv => whnf)))
  intro h2 hr2 hc2 k2 hn2
  have hn2' : h2.next = 6 := by omega
  obtain ⟨h3, hh3⟩ : ∃ h3 : Heap, h3 = (h2.push (.mp (some .i64) [])).set 6 (.mp (some .i64) (wasM [] 0)) := ⟨_, rfl⟩
  have g2 : ∀ x, (h2.push x).get 6 = some x := fun x => by rw [← hn2']; exact Heap.get_push_self _ _
  have kp : Heap.Keeps (fun _ => False) h2 h3 := by
    rw [hh3]
    exact Heap.Keeps.set (b := fun _ => False) (.push (.refl _ _) _) (.inr (by omega)) _
  have hw0 := rw_begin (w := some (.mp (some .i64) (wasM [] 0))) hs1 (k2.trans kp) (hr2.keep kp (fun x => x)) (hc2.keep kp) (fun o ho => by cases ho; exact ⟨by rw [hh3]; show 6 < h2.next + 1; omega, by rw [hh3]; exact Heap.get_set_self (g2 _)⟩) (by rw [hh3]; show 7 ≤ h2.next + 1; omega)
  have hmp0 : mput [] (.i .i64 0) .nils = wasM [] 0 := rfl
  ((conv => whnf); repeat ((first | refine yf rfl ?_ | refine yt rfl ?_ | refine yo rfl ?_ | refine yc rfl ?_ | refine ys rfl ?_ | refine ye rfl ?_ | refine yn rfl ?_ | refine zw ?_ | refine zdt ?_ | refine zdf ?_ | refine znt ?_ | refine znf ?_ | refine zcd ?_ | refine zci ?_ | refine zc3 ?_) <;> (conv => whnf)))
  rw [hn2']
  ((conv => whnf); repeat ((first | refine SEx.of (g2 _) ?_ | refine yf rfl ?_ | refine yt rfl ?_ | refine yo rfl ?_ | refine yc rfl ?_ | refine ys rfl ?_ | refine ye rfl ?_ | refine yn rfl ?_ | refine zw ?_ | refine zdt ?_ | refine zdf ?_ | refine znt ?_ | refine znf ?_ | refine zcd ?_ | refine zci ?_ | refine zc3 ?_) <;> (conv => whnf)))
  refine SLoopV.by (fun q fr st => ∃ (i : Nat) (hh lo : Heap) (all : List EvD) (Rn : Nat) (id at_ fresh now : Int) (out : Bool) (k : CallD) (ρ : Int) (lv : V) (rows : List AnE), i ≤ ops.length ∧ i ≤ 60 ∧ q = ops.length - i ∧
      RW hh (some (.mp (some .i64) (wasM all Rn))) 3 all Rn id at_ fresh out k ρ ∧ all.length ≤ 5 * i ∧ Rn ≤ i ∧ (0 ≤ id ∧ id ≤ i) ∧ (0 ≤ at_ ∧ at_ ≤ 300 * i) ∧ (0 ≤ now ∧ now ≤ 300 * i) ∧ (0 ≤ fresh ∧ fresh ≤ i) ∧
      ElV lo lv rows ∧ rows.length ≤ i ∧ (∀ a ∈ rows, a.id ≤ id) ∧
      Fr.le [(9, .i .i64 i), (8, .i .i64 now), (7, lv), (6, .m (.g 6)), (5, .p (.g 5) 0), (4, .p (.g 3) 0), (0, .sl none 7 (ops.map opT))] fr ∧ st = ⟨hh, lo⟩)
    ops.length ⟨0, _, _, [], 0, 0, 0, 0, 0, false, ⟨0, 0, 0, 0⟩, -1, .nils, [], Nat.zero_le _, by omega, rfl, ?_, Nat.zero_le _, Nat.le_refl _, by omega, by omega, by omega, by omega, .inl ⟨rfl, rfl⟩, Nat.le_refl _, (fun _ h => by cases h), (by repeat (first | exact Fr.le_nil | refine Fr.le_cons rfl ?_)), rfl⟩ ?_
  · rw [hh3] at hw0; exact hw0
  clear hw0 kp hh3 hr2 hc2 hs1 k1 k2
  rintro q fr st ⟨i, hh, lo, all, Rn, id, at_, fresh, now, out, k, ρ, lv, rows, hi, hi60, rfl, hw, hal, hR, hid, hat, hnow, hfr, hlv, hrl, hrid, hle0, rfl⟩
  refine ⟨_, hle0, fun R1 hR1 => ?_⟩
  by_cases hin : i < ops.length ∧ i < 60
  case neg =>
    by_cases hin2 : i < ops.length
    all_goals
      ((conv => whnf); repeat ((first | refine yf rfl ?_ | refine yt rfl ?_ | refine yo rfl ?_ | refine yc rfl ?_ | refine ys rfl ?_ | refine ye rfl ?_ | refine yn rfl ?_ | refine zw ?_ | refine zdt ?_ | refine zdf ?_ | refine znt ?_ | refine znf ?_ | refine zcd ?_ | refine zci ?_ | refine zc3 ?_) <;> (conv => whnf)))
  obtain ⟨hin1, hin2⟩ := hin
  have he := List.getElem?_eq_getElem hin1
  have heo := hops _ (List.getElem_mem hin1)
  generalize ops[i] = o at he heo
  have hge := map_get' (f := opT) (j := ((i : Nat) : Int).toNat) (show i = ((i : Nat) : Int).toNat by omega) he
  obtain ⟨d, hd, hd1, hd2⟩ : ∃ d : Int, d = (if (0 : Int) < (if (300 : Int) < o.now then 300 else o.now) then (if (300 : Int) < o.now then 300 else o.now) else 0) ∧ 0 ≤ d ∧ d ≤ 300 := ⟨_, rfl, by split <;> split <;> omega, by split <;> split <;> omega⟩
  have a1 : ∀ x, (lo.push x).get lo.next = some x := fun x => Heap.get_push_self _ _
  have a2 : ∀ x y, ((lo.push x).set lo.next y).get lo.next = some y := fun x y => Heap.get_set_self (a1 x)
  have klo : ∀ x y, Heap.Keeps (fun _ => False) lo ((lo.push x).set lo.next y) := fun x y => Heap.Keeps.set (b := fun _ => False) (.push (.refl _ _) _) (.inr (Nat.le_refl _)) _
  by_cases k0 : o.kind = 0
  · obtain ⟨Q, hQ⟩ : ∃ Q, Q = min o.ws.length 5 := ⟨_, rfl⟩
    have hwl : (o.ws.map wrR).length = o.ws.length := List.length_map _
    have hwo := heo.ws
    have hN := take5 o.ws Q hQ
    have htx := fun (K : V → Heap → Prop) (hK : _ ∧ _) => rw_txn (K := K) hG hA hw (by omega) (by omega) (o.ws.take 5) (fun w hm => heo.each w (List.mem_of_mem_take hm)) (by simp; omega) hK.1 hK.2
    have a3 : ∀ x y z, (((lo.push x).set lo.next y).push z).get (lo.next + 1) = some z := fun x y z => Heap.get_push_self _ _
    have a4 : ∀ x y z u, ((((lo.push x).set lo.next y).push z).set (lo.next + 1) u).get (lo.next + 1) = some u := fun x y z u => Heap.get_set_self (a3 x y z)
    have klo2 : ∀ x y z u, Heap.Keeps (fun _ => False) lo ((((lo.push x).set lo.next y).push z).set (lo.next + 1) u) := fun x y z u => Heap.Keeps.set (b := fun _ => False) (.push (klo _ _) _) (.inr (Nat.le_succ _)) _
    ((conv => whnf); repeat ((first | refine SIf.dt k0 ?_ | refine SChk.ix (by omega) (by omega) ?_ | refine SWrap.w64 (by omega) (by omega) ?_ | refine SOpt.of (mn2 (z := if (300 : Int) < o.now then 300 else o.now) rfl) ?_ | refine SOpt.of (mx2 hd.symm) ?_ | refine SOpt.of (mn2 (z := (Q : Int)) (by rw [hwl]; split <;> omega)) ?_ | refine SChk.d3 (by omega) (by omega) (by omega) ?_ | refine SEx.of (hge) ?_ | refine SEx.of (a2 _ _) ?_ | refine SEx.of (a1 _) ?_ | refine yf rfl ?_ | refine yt rfl ?_ | refine yo rfl ?_ | refine yc rfl ?_ | refine ys rfl ?_ | refine ye rfl ?_ | refine yn rfl ?_ | refine zw ?_ | refine zdt ?_ | refine zdf ?_ | refine znt ?_ | refine znf ?_ | refine zcd ?_ | refine zci ?_ | refine zc3 ?_) <;> (conv => whnf)))
    rw [hN]
    ((conv => whnf); repeat ((first | refine SCall.app (htx _) ?_ | refine SEx.of (a4 _ _ _ _) ?_ | refine SEx.of (a3 _ _ _) ?_ | refine yf rfl ?_ | refine yt rfl ?_ | refine yo rfl ?_ | refine yc rfl ?_ | refine ys rfl ?_ | refine ye rfl ?_ | refine yn rfl ?_ | refine zw ?_ | refine zdt ?_ | refine zdf ?_ | refine znt ?_ | refine znf ?_ | refine zcd ?_ | refine zci ?_ | refine zc3 ?_) <;> (conv => whnf)))
    refine ⟨fun e h' he0 hw' => ?_, fun h' hwm hw' => ?_⟩
    · ((conv => whnf); repeat ((first | refine SIf.df he0 ?_ | refine yf rfl ?_ | refine yt rfl ?_ | refine yo rfl ?_ | refine yc rfl ?_ | refine ys rfl ?_ | refine ye rfl ?_ | refine yn rfl ?_ | refine zw ?_ | refine zdt ?_ | refine zdf ?_ | refine znt ?_ | refine znf ?_ | refine zcd ?_ | refine zci ?_ | refine zc3 ?_) <;> (conv => whnf)))
      have hcc := fun (K : V → Heap → Prop) hK => rw_cache (K := K) hG hw' hK
      have hcr := fun (K : V → Heap → Prop) hK => rw_crev (K := K) hG hw' hK
      have hws := (hw'.was _ rfl).2
      have hfd := wasM_find (all) (Rn) ρ
      have hall := hw'.all
      have hcl := fun (K : V → Heap → Prop) hK => rw_callC (K := K) hG hS hw' (by first | omega | (unfold evW; simp; omega)) hK
      have hlen := atR_len (all) ρ
      have hla : (all).length ≤ 5 * (i + 1) := by first | omega | (unfold evW; simp; omega)
      have hel := hlv.keep (klo2 (.cs [.i .i64 0, .nils, .nils, .i .i64 0, .i .i64 0, .b false, .b false]) (.cs (opT o)) (.cs [.nils, .nils]) (.cs [.nils, .sl none 3 ((o.ws.take 5).map wrR)]))
      rcases hw'.rho with hρ | ⟨hρ0, hρR⟩
      · subst hρ
        rw [if_neg (by omega)] at hfd
        have hkn : knows (all) (-1) = [] := if_neg (by decide)
        rw [hkn] at hcl
        ((conv => whnf); repeat ((first | refine SCall.app (hcc _) ?_ | refine SCall.app (hcr _) ?_ | refine SOpt.no hfd ?_ | refine SIf.df (show ¬ (-1 : Int) ≥ 0 by decide) ?_ | refine SIf.dt (show (-1 : Int) < 0 by decide) ?_ | refine SCall.app (hcl _) ?_ | refine SEx.of (hws) ?_ | refine yf rfl ?_ | refine yt rfl ?_ | refine yo rfl ?_ | refine yc rfl ?_ | refine ys rfl ?_ | refine ye rfl ?_ | refine yn rfl ?_ | refine zw ?_ | refine zdt ?_ | refine zdf ?_ | refine znt ?_ | refine znf ?_ | refine zcd ?_ | refine zci ?_ | refine zc3 ?_) <;> (conv => whnf)))
        intro h9 hw9
        ((conv => whnf); repeat ((first | refine SWrap.w64 (by omega) (by omega) ?_ | refine yf rfl ?_ | refine yt rfl ?_ | refine yo rfl ?_ | refine yc rfl ?_ | refine ys rfl ?_ | refine ye rfl ?_ | refine yn rfl ?_ | refine zw ?_ | refine zdt ?_ | refine zdf ?_ | refine znt ?_ | refine znf ?_ | refine zcd ?_ | refine zci ?_ | refine zc3 ?_) <;> (conv => whnf)))
        exact hR1 (ops.length - (i + 1)) _ _ (by omega) ⟨i + 1, h9, _, _, Rn, id, at_, fresh, now + d, out, k, _, lv, rows, by omega, by omega, rfl, hw9, hla, by omega, by omega, by omega, by omega, by omega, hel, by first | omega | (simp; done) | (simp; omega), hrid, (by repeat (first | exact Fr.le_nil | refine Fr.le_cons rfl ?_)), rfl⟩
      · rw [if_pos ⟨hρ0, by omega⟩] at hfd
        have hkn : knows (all) ρ = atR (all) ρ := if_pos hρ0
        rw [hkn] at hcl
        by_cases hz : ρ = 0
        · subst hz
          have hfd1 : mfind (wasM (all) (Rn)) (.i .i64 0) = some .nils := hfd
          rw [atR_zero hall] at hcl
          ((conv => whnf); repeat ((first | refine SCall.app (hcc _) ?_ | refine SCall.app (hcr _) ?_ | refine SOpt.of hfd1 ?_ | refine SIf.dt (show (0 : Int) ≥ 0 by decide) ?_ | refine SCall.app (hcl _) ?_ | refine SEx.of (hws) ?_ | refine yf rfl ?_ | refine yt rfl ?_ | refine yo rfl ?_ | refine yc rfl ?_ | refine ys rfl ?_ | refine ye rfl ?_ | refine yn rfl ?_ | refine zw ?_ | refine zdt ?_ | refine zdf ?_ | refine znt ?_ | refine znf ?_ | refine zcd ?_ | refine zci ?_ | refine zc3 ?_) <;> (conv => whnf)))
          intro h9 hw9
          have heq := fun (K : V → Heap → Prop) hK => eqEns_at (K := K) hG (h := h9) (lv := .sl none 3 []) (lw := .nils) (L := []) (.inr rfl) (.inl ⟨rfl, rfl⟩) (by simp) hK
          have hcr9 := fun (K : V → Heap → Prop) hK => rw_crev (K := K) hG hw9 hK
          ((conv => whnf); repeat ((first | refine SCall.app (heq _) ?_ | refine SCall.app (hcr9 _) ?_ | refine SWrap.w64 (by omega) (by omega) ?_ | refine yf rfl ?_ | refine yt rfl ?_ | refine yo rfl ?_ | refine yc rfl ?_ | refine ys rfl ?_ | refine ye rfl ?_ | refine yn rfl ?_ | refine zw ?_ | refine zdt ?_ | refine zdf ?_ | refine znt ?_ | refine znf ?_ | refine zcd ?_ | refine zci ?_ | refine zc3 ?_) <;> (conv => whnf)))
          exact hR1 (ops.length - (i + 1)) _ _ (by omega) ⟨i + 1, h9, _, _, Rn, id, at_, fresh, now + d, out, k, _, lv, rows, by omega, by omega, rfl, hw9, hla, by omega, by omega, by omega, by omega, by omega, hel, by first | omega | (simp; done) | (simp; omega), hrid, (by repeat (first | exact Fr.le_nil | refine Fr.le_cons rfl ?_)), rfl⟩
        · rw [wasV_rows _ hρ0 hz] at hfd
          ((conv => whnf); repeat ((first | refine SCall.app (hcc _) ?_ | refine SCall.app (hcr _) ?_ | refine SOpt.of hfd ?_ | refine SIf.dt (show ρ ≥ 0 from hρ0) ?_ | refine SCall.app (hcl _) ?_ | refine SEx.of (hws) ?_ | refine yf rfl ?_ | refine yt rfl ?_ | refine yo rfl ?_ | refine yc rfl ?_ | refine ys rfl ?_ | refine ye rfl ?_ | refine yn rfl ?_ | refine zw ?_ | refine zdt ?_ | refine zdf ?_ | refine znt ?_ | refine znf ?_ | refine zcd ?_ | refine zci ?_ | refine zc3 ?_) <;> (conv => whnf)))
          intro h9 hw9
          have heq := fun (K : V → Heap → Prop) hK => eqEns_at (K := K) hG (h := h9) (L := atR (all) ρ) (.inr rfl) (.inr rfl) (by omega) hK
          have hcr9 := fun (K : V → Heap → Prop) hK => rw_crev (K := K) hG hw9 hK
          ((conv => whnf); repeat ((first | refine SCall.app (heq _) ?_ | refine SCall.app (hcr9 _) ?_ | refine SIf.df (show ¬ ρ < 0 by omega) ?_ | refine SWrap.w64 (by omega) (by omega) ?_ | refine yf rfl ?_ | refine yt rfl ?_ | refine yo rfl ?_ | refine yc rfl ?_ | refine ys rfl ?_ | refine ye rfl ?_ | refine yn rfl ?_ | refine zw ?_ | refine zdt ?_ | refine zdf ?_ | refine znt ?_ | refine znf ?_ | refine zcd ?_ | refine zci ?_ | refine zc3 ?_) <;> (conv => whnf)))
          exact hR1 (ops.length - (i + 1)) _ _ (by omega) ⟨i + 1, h9, _, _, Rn, id, at_, fresh, now + d, out, k, _, lv, rows, by omega, by omega, rfl, hw9, hla, by omega, by omega, by omega, by omega, by omega, hel, by first | omega | (simp; done) | (simp; omega), hrid, (by repeat (first | exact Fr.le_nil | refine Fr.le_cons rfl ?_)), rfl⟩
    · have hw'' : RW h' (some (.mp (some .i64) (wasM all Rn))) 3 (all ++ evW ((Rn : Int) + 1) (o.ws.take 5)) ((Rn + 1 : Nat) : Int) id at_ fresh out k ρ := hw'
      have hrv := fun (K : V → Heap → Prop) hK => rw_rev (K := K) hG hw'' hK
      have hli := fun (K : V → Heap → Prop) hK => rw_slistC (K := K) hG hA hS hw'' (by unfold evW; simp; omega) hK
      ((conv => whnf); repeat ((first | refine SCall.app (hrv _) ?_ | refine SCall.app (hli _) ?_ | refine yf rfl ?_ | refine yt rfl ?_ | refine yo rfl ?_ | refine yc rfl ?_ | refine ys rfl ?_ | refine ye rfl ?_ | refine yn rfl ?_ | refine zw ?_ | refine zdt ?_ | refine zdf ?_ | refine znt ?_ | refine znf ?_ | refine zcd ?_ | refine zci ?_ | refine zc3 ?_) <;> (conv => whnf)))
      intro h5 hw5
      have hws5 := (hw5.was _ rfl).2
      have hput : mput (wasM all Rn) (.i .i64 ((Rn + 1 : Nat) : Int)) (.sl none 3 ((atR (all ++ evW ((Rn : Int) + 1) (o.ws.take 5)) ((Rn + 1 : Nat) : Int)).map enR)) = wasM (all ++ evW ((Rn : Int) + 1) (o.ws.take 5)) (Rn + 1) := wasM_put (all := all) (n := Rn) (o.ws.take 5)
      have hw6 : RW (h5.set 6 (.mp (some .i64) (mput (wasM all Rn) (.i .i64 ((Rn + 1 : Nat) : Int)) (.sl none 3 ((atR (all ++ evW ((Rn : Int) + 1) (o.ws.take 5)) ((Rn + 1 : Nat) : Int)).map enR))))) (some (.mp (some .i64) (wasM (all ++ evW ((Rn : Int) + 1) (o.ws.take 5)) (Rn + 1)))) 3 (all ++ evW ((Rn : Int) + 1) (o.ws.take 5)) ((Rn + 1 : Nat) : Int) id at_ fresh out k ρ := by
        have := RW.set hw5 (o' := .mp (some .i64) (wasM (all ++ evW ((Rn : Int) + 1) (o.ws.take 5)) (Rn + 1)))
        rw [hput]; exact this
      have hcc := fun (K : V → Heap → Prop) hK => rw_cache (K := K) hG hw6 hK
      have hcr := fun (K : V → Heap → Prop) hK => rw_crev (K := K) hG hw6 hK
      have hws := (hw6.was _ rfl).2
      have hfd := wasM_find (all ++ evW ((Rn : Int) + 1) (o.ws.take 5)) (Rn + 1) ρ
      have hall := hw6.all
      have hcl := fun (K : V → Heap → Prop) hK => rw_callC (K := K) hG hS hw6 (by first | omega | (unfold evW; simp; omega)) hK
      have hlen := atR_len (all ++ evW ((Rn : Int) + 1) (o.ws.take 5)) ρ
      have hla : (all ++ evW ((Rn : Int) + 1) (o.ws.take 5)).length ≤ 5 * (i + 1) := by first | omega | (unfold evW; simp; omega)
      have hel := hlv.keep (klo2 (.cs [.i .i64 0, .nils, .nils, .i .i64 0, .i .i64 0, .b false, .b false]) (.cs (opT o)) (.cs [.nils, .nils]) (.cs [.nils, .sl none 3 ((o.ws.take 5).map wrR)]))
      rcases hw6.rho with hρ | ⟨hρ0, hρR⟩
      · subst hρ
        rw [if_neg (by omega)] at hfd
        have hkn : knows (all ++ evW ((Rn : Int) + 1) (o.ws.take 5)) (-1) = [] := if_neg (by decide)
        rw [hkn] at hcl
        ((conv => whnf); repeat ((first | refine SCall.app (hcc _) ?_ | refine SCall.app (hcr _) ?_ | refine SOpt.no hfd ?_ | refine SIf.df (show ¬ (-1 : Int) ≥ 0 by decide) ?_ | refine SIf.dt (show (-1 : Int) < 0 by decide) ?_ | refine SCall.app (hcl _) ?_ | refine SEx.of (hws5) ?_ | refine SEx.of (hws) ?_ | refine yf rfl ?_ | refine yt rfl ?_ | refine yo rfl ?_ | refine yc rfl ?_ | refine ys rfl ?_ | refine ye rfl ?_ | refine yn rfl ?_ | refine zw ?_ | refine zdt ?_ | refine zdf ?_ | refine znt ?_ | refine znf ?_ | refine zcd ?_ | refine zci ?_ | refine zc3 ?_) <;> (conv => whnf)))
        intro h9 hw9
        ((conv => whnf); repeat ((first | refine SWrap.w64 (by omega) (by omega) ?_ | refine yf rfl ?_ | refine yt rfl ?_ | refine yo rfl ?_ | refine yc rfl ?_ | refine ys rfl ?_ | refine ye rfl ?_ | refine yn rfl ?_ | refine zw ?_ | refine zdt ?_ | refine zdf ?_ | refine znt ?_ | refine znf ?_ | refine zcd ?_ | refine zci ?_ | refine zc3 ?_) <;> (conv => whnf)))
        exact hR1 (ops.length - (i + 1)) _ _ (by omega) ⟨i + 1, h9, _, _, Rn + 1, id, at_, fresh, now + d, out, k, _, lv, rows, by omega, by omega, rfl, hw9, hla, by omega, by omega, by omega, by omega, by omega, hel, by first | omega | (simp; done) | (simp; omega), hrid, (by repeat (first | exact Fr.le_nil | refine Fr.le_cons rfl ?_)), rfl⟩
      · rw [if_pos ⟨hρ0, by omega⟩] at hfd
        have hkn : knows (all ++ evW ((Rn : Int) + 1) (o.ws.take 5)) ρ = atR (all ++ evW ((Rn : Int) + 1) (o.ws.take 5)) ρ := if_pos hρ0
        rw [hkn] at hcl
        by_cases hz : ρ = 0
        · subst hz
          have hfd1 : mfind (wasM (all ++ evW ((Rn : Int) + 1) (o.ws.take 5)) (Rn + 1)) (.i .i64 0) = some .nils := hfd
          rw [atR_zero hall] at hcl
          ((conv => whnf); repeat ((first | refine SCall.app (hcc _) ?_ | refine SCall.app (hcr _) ?_ | refine SOpt.of hfd1 ?_ | refine SIf.dt (show (0 : Int) ≥ 0 by decide) ?_ | refine SCall.app (hcl _) ?_ | refine SEx.of (hws5) ?_ | refine SEx.of (hws) ?_ | refine yf rfl ?_ | refine yt rfl ?_ | refine yo rfl ?_ | refine yc rfl ?_ | refine ys rfl ?_ | refine ye rfl ?_ | refine yn rfl ?_ | refine zw ?_ | refine zdt ?_ | refine zdf ?_ | refine znt ?_ | refine znf ?_ | refine zcd ?_ | refine zci ?_ | refine zc3 ?_) <;> (conv => whnf)))
          intro h9 hw9
          have heq := fun (K : V → Heap → Prop) hK => eqEns_at (K := K) hG (h := h9) (lv := .sl none 3 []) (lw := .nils) (L := []) (.inr rfl) (.inl ⟨rfl, rfl⟩) (by simp) hK
          have hcr9 := fun (K : V → Heap → Prop) hK => rw_crev (K := K) hG hw9 hK
          ((conv => whnf); repeat ((first | refine SCall.app (heq _) ?_ | refine SCall.app (hcr9 _) ?_ | refine SWrap.w64 (by omega) (by omega) ?_ | refine yf rfl ?_ | refine yt rfl ?_ | refine yo rfl ?_ | refine yc rfl ?_ | refine ys rfl ?_ | refine ye rfl ?_ | refine yn rfl ?_ | refine zw ?_ | refine zdt ?_ | refine zdf ?_ | refine znt ?_ | refine znf ?_ | refine zcd ?_ | refine zci ?_ | refine zc3 ?_) <;> (conv => whnf)))
          exact hR1 (ops.length - (i + 1)) _ _ (by omega) ⟨i + 1, h9, _, _, Rn + 1, id, at_, fresh, now + d, out, k, _, lv, rows, by omega, by omega, rfl, hw9, hla, by omega, by omega, by omega, by omega, by omega, hel, by first | omega | (simp; done) | (simp; omega), hrid, (by repeat (first | exact Fr.le_nil | refine Fr.le_cons rfl ?_)), rfl⟩
        · rw [wasV_rows _ hρ0 hz] at hfd
          ((conv => whnf); repeat ((first | refine SCall.app (hcc _) ?_ | refine SCall.app (hcr _) ?_ | refine SOpt.of hfd ?_ | refine SIf.dt (show ρ ≥ 0 from hρ0) ?_ | refine SCall.app (hcl _) ?_ | refine SEx.of (hws5) ?_ | refine SEx.of (hws) ?_ | refine yf rfl ?_ | refine yt rfl ?_ | refine yo rfl ?_ | refine yc rfl ?_ | refine ys rfl ?_ | refine ye rfl ?_ | refine yn rfl ?_ | refine zw ?_ | refine zdt ?_ | refine zdf ?_ | refine znt ?_ | refine znf ?_ | refine zcd ?_ | refine zci ?_ | refine zc3 ?_) <;> (conv => whnf)))
          intro h9 hw9
          have heq := fun (K : V → Heap → Prop) hK => eqEns_at (K := K) hG (h := h9) (L := atR (all ++ evW ((Rn : Int) + 1) (o.ws.take 5)) ρ) (.inr rfl) (.inr rfl) (by omega) hK
          have hcr9 := fun (K : V → Heap → Prop) hK => rw_crev (K := K) hG hw9 hK
          ((conv => whnf); repeat ((first | refine SCall.app (heq _) ?_ | refine SCall.app (hcr9 _) ?_ | refine SIf.df (show ¬ ρ < 0 by omega) ?_ | refine SWrap.w64 (by omega) (by omega) ?_ | refine yf rfl ?_ | refine yt rfl ?_ | refine yo rfl ?_ | refine yc rfl ?_ | refine ys rfl ?_ | refine ye rfl ?_ | refine yn rfl ?_ | refine zw ?_ | refine zdt ?_ | refine zdf ?_ | refine znt ?_ | refine znf ?_ | refine zcd ?_ | refine zci ?_ | refine zc3 ?_) <;> (conv => whnf)))
          exact hR1 (ops.length - (i + 1)) _ _ (by omega) ⟨i + 1, h9, _, _, Rn + 1, id, at_, fresh, now + d, out, k, _, lv, rows, by omega, by omega, rfl, hw9, hla, by omega, by omega, by omega, by omega, by omega, hel, by first | omega | (simp; done) | (simp; omega), hrid, (by repeat (first | exact Fr.le_nil | refine Fr.le_cons rfl ?_)), rfl⟩
  by_cases k1 : o.kind = 1
  · have hco := fun (K : V → Heap → Prop) hK => rw_compact (K := K) hG hw o.rev hK
    ((conv => whnf); repeat ((first | refine SIf.df k0 ?_ | refine SIf.dt k1 ?_ | refine SChk.ix (by omega) (by omega) ?_ | refine SWrap.w64 (by omega) (by omega) ?_ | refine SOpt.of (mn2 (z := if (300 : Int) < o.now then 300 else o.now) rfl) ?_ | refine SOpt.of (mx2 hd.symm) ?_ | refine SCall.app (hco _) ?_ | refine SEx.of (hge) ?_ | refine SEx.of (a2 _ _) ?_ | refine SEx.of (a1 _) ?_ | refine yf rfl ?_ | refine yt rfl ?_ | refine yo rfl ?_ | refine yc rfl ?_ | refine ys rfl ?_ | refine ye rfl ?_ | refine yn rfl ?_ | refine zw ?_ | refine zdt ?_ | refine zdf ?_ | refine znt ?_ | refine znf ?_ | refine zcd ?_ | refine zci ?_ | refine zc3 ?_) <;> (conv => whnf)))
    intro h' hw'
    have hcc := fun (K : V → Heap → Prop) hK => rw_cache (K := K) hG hw' hK
    have hcr := fun (K : V → Heap → Prop) hK => rw_crev (K := K) hG hw' hK
    have hws := (hw'.was _ rfl).2
    have hfd := wasM_find (all) (Rn) ρ
    have hall := hw'.all
    have hcl := fun (K : V → Heap → Prop) hK => rw_callC (K := K) hG hS hw' (by first | omega | (unfold evW; simp; omega)) hK
    have hlen := atR_len (all) ρ
    have hla : (all).length ≤ 5 * (i + 1) := by first | omega | (unfold evW; simp; omega)
    have hel := hlv.keep (klo (.cs [.i .i64 0, .nils, .nils, .i .i64 0, .i .i64 0, .b false, .b false]) (.cs (opT o)))
    rcases hw'.rho with hρ | ⟨hρ0, hρR⟩
    · subst hρ
      rw [if_neg (by omega)] at hfd
      have hkn : knows (all) (-1) = [] := if_neg (by decide)
      rw [hkn] at hcl
      ((conv => whnf); repeat ((first | refine SCall.app (hcc _) ?_ | refine SCall.app (hcr _) ?_ | refine SOpt.no hfd ?_ | refine SIf.df (show ¬ (-1 : Int) ≥ 0 by decide) ?_ | refine SIf.dt (show (-1 : Int) < 0 by decide) ?_ | refine SCall.app (hcl _) ?_ | refine SEx.of (hws) ?_ | refine yf rfl ?_ | refine yt rfl ?_ | refine yo rfl ?_ | refine yc rfl ?_ | refine ys rfl ?_ | refine ye rfl ?_ | refine yn rfl ?_ | refine zw ?_ | refine zdt ?_ | refine zdf ?_ | refine znt ?_ | refine znf ?_ | refine zcd ?_ | refine zci ?_ | refine zc3 ?_) <;> (conv => whnf)))
      intro h9 hw9
      ((conv => whnf); repeat ((first | refine SWrap.w64 (by omega) (by omega) ?_ | refine yf rfl ?_ | refine yt rfl ?_ | refine yo rfl ?_ | refine yc rfl ?_ | refine ys rfl ?_ | refine ye rfl ?_ | refine yn rfl ?_ | refine zw ?_ | refine zdt ?_ | refine zdf ?_ | refine znt ?_ | refine znf ?_ | refine zcd ?_ | refine zci ?_ | refine zc3 ?_) <;> (conv => whnf)))
      exact hR1 (ops.length - (i + 1)) _ _ (by omega) ⟨i + 1, h9, _, _, Rn, id, at_, fresh, now + d, out, k, _, lv, rows, by omega, by omega, rfl, hw9, hla, by omega, by omega, by omega, by omega, by omega, hel, by first | omega | (simp; done) | (simp; omega), hrid, (by repeat (first | exact Fr.le_nil | refine Fr.le_cons rfl ?_)), rfl⟩
    · rw [if_pos ⟨hρ0, by omega⟩] at hfd
      have hkn : knows (all) ρ = atR (all) ρ := if_pos hρ0
      rw [hkn] at hcl
      by_cases hz : ρ = 0
      · subst hz
        have hfd1 : mfind (wasM (all) (Rn)) (.i .i64 0) = some .nils := hfd
        rw [atR_zero hall] at hcl
        ((conv => whnf); repeat ((first | refine SCall.app (hcc _) ?_ | refine SCall.app (hcr _) ?_ | refine SOpt.of hfd1 ?_ | refine SIf.dt (show (0 : Int) ≥ 0 by decide) ?_ | refine SCall.app (hcl _) ?_ | refine SEx.of (hws) ?_ | refine yf rfl ?_ | refine yt rfl ?_ | refine yo rfl ?_ | refine yc rfl ?_ | refine ys rfl ?_ | refine ye rfl ?_ | refine yn rfl ?_ | refine zw ?_ | refine zdt ?_ | refine zdf ?_ | refine znt ?_ | refine znf ?_ | refine zcd ?_ | refine zci ?_ | refine zc3 ?_) <;> (conv => whnf)))
        intro h9 hw9
        have heq := fun (K : V → Heap → Prop) hK => eqEns_at (K := K) hG (h := h9) (lv := .sl none 3 []) (lw := .nils) (L := []) (.inr rfl) (.inl ⟨rfl, rfl⟩) (by simp) hK
        have hcr9 := fun (K : V → Heap → Prop) hK => rw_crev (K := K) hG hw9 hK
        ((conv => whnf); repeat ((first | refine SCall.app (heq _) ?_ | refine SCall.app (hcr9 _) ?_ | refine SWrap.w64 (by omega) (by omega) ?_ | refine yf rfl ?_ | refine yt rfl ?_ | refine yo rfl ?_ | refine yc rfl ?_ | refine ys rfl ?_ | refine ye rfl ?_ | refine yn rfl ?_ | refine zw ?_ | refine zdt ?_ | refine zdf ?_ | refine znt ?_ | refine znf ?_ | refine zcd ?_ | refine zci ?_ | refine zc3 ?_) <;> (conv => whnf)))
        exact hR1 (ops.length - (i + 1)) _ _ (by omega) ⟨i + 1, h9, _, _, Rn, id, at_, fresh, now + d, out, k, _, lv, rows, by omega, by omega, rfl, hw9, hla, by omega, by omega, by omega, by omega, by omega, hel, by first | omega | (simp; done) | (simp; omega), hrid, (by repeat (first | exact Fr.le_nil | refine Fr.le_cons rfl ?_)), rfl⟩
      · rw [wasV_rows _ hρ0 hz] at hfd
        ((conv => whnf); repeat ((first | refine SCall.app (hcc _) ?_ | refine SCall.app (hcr _) ?_ | refine SOpt.of hfd ?_ | refine SIf.dt (show ρ ≥ 0 from hρ0) ?_ | refine SCall.app (hcl _) ?_ | refine SEx.of (hws) ?_ | refine yf rfl ?_ | refine yt rfl ?_ | refine yo rfl ?_ | refine yc rfl ?_ | refine ys rfl ?_ | refine ye rfl ?_ | refine yn rfl ?_ | refine zw ?_ | refine zdt ?_ | refine zdf ?_ | refine znt ?_ | refine znf ?_ | refine zcd ?_ | refine zci ?_ | refine zc3 ?_) <;> (conv => whnf)))
        intro h9 hw9
        have heq := fun (K : V → Heap → Prop) hK => eqEns_at (K := K) hG (h := h9) (L := atR (all) ρ) (.inr rfl) (.inr rfl) (by omega) hK
        have hcr9 := fun (K : V → Heap → Prop) hK => rw_crev (K := K) hG hw9 hK
        ((conv => whnf); repeat ((first | refine SCall.app (heq _) ?_ | refine SCall.app (hcr9 _) ?_ | refine SIf.df (show ¬ ρ < 0 by omega) ?_ | refine SWrap.w64 (by omega) (by omega) ?_ | refine yf rfl ?_ | refine yt rfl ?_ | refine yo rfl ?_ | refine yc rfl ?_ | refine ys rfl ?_ | refine ye rfl ?_ | refine yn rfl ?_ | refine zw ?_ | refine zdt ?_ | refine zdf ?_ | refine znt ?_ | refine znf ?_ | refine zcd ?_ | refine zci ?_ | refine zc3 ?_) <;> (conv => whnf)))
        exact hR1 (ops.length - (i + 1)) _ _ (by omega) ⟨i + 1, h9, _, _, Rn, id, at_, fresh, now + d, out, k, _, lv, rows, by omega, by omega, rfl, hw9, hla, by omega, by omega, by omega, by omega, by omega, hel, by first | omega | (simp; done) | (simp; omega), hrid, (by repeat (first | exact Fr.le_nil | refine Fr.le_cons rfl ?_)), rfl⟩
  have hwant := fun (K : V → Heap → Prop) (hK : _ ∧ _) => rw_want (K := K) hG hw (now := now + d) (by omega) (by omega) (by omega) hK.1 hK.2
  have a3 : ∀ x y z, (((lo.push x).set lo.next y).push z).get (lo.next + 1) = some z := fun x y z => Heap.get_push_self _ _
  have a4 : ∀ x y z u, ((((lo.push x).set lo.next y).push z).set (lo.next + 1) u).get (lo.next + 1) = some u := fun x y z u => Heap.get_set_self (a3 x y z)
  have klo2 : ∀ x y z u, Heap.Keeps (fun _ => False) lo ((((lo.push x).set lo.next y).push z).set (lo.next + 1) u) := fun x y z u => Heap.Keeps.set (b := fun _ => False) (.push (klo _ _) _) (.inr (Nat.le_succ _)) _
  ((conv => whnf); repeat ((first | refine SIf.df k0 ?_ | refine SIf.df k1 ?_ | refine SChk.ix (by omega) (by omega) ?_ | refine SWrap.w64 (by omega) (by omega) ?_ | refine SOpt.of (mn2 (z := if (300 : Int) < o.now then 300 else o.now) rfl) ?_ | refine SOpt.of (mx2 hd.symm) ?_ | refine SCall.app (hwant _) ?_ | refine SEx.of (hge) ?_ | refine SEx.of (a2 _ _) ?_ | refine SEx.of (a1 _) ?_ | refine yf rfl ?_ | refine yt rfl ?_ | refine yo rfl ?_ | refine yc rfl ?_ | refine ys rfl ?_ | refine ye rfl ?_ | refine yn rfl ?_ | refine zw ?_ | refine zdt ?_ | refine zdf ?_ | refine znt ?_ | refine znf ?_ | refine zcd ?_ | refine zci ?_ | refine zc3 ?_) <;> (conv => whnf)))
  refine ⟨fun ho hl => ?_, fun _ h3 hw3 => ?_⟩
  · ((conv => whnf); repeat ((first | refine SEx.of (a4 _ _ _ _) ?_ | refine SEx.of (a3 _ _ _) ?_ | refine yf rfl ?_ | refine yt rfl ?_ | refine yo rfl ?_ | refine yc rfl ?_ | refine ys rfl ?_ | refine ye rfl ?_ | refine yn rfl ?_ | refine zw ?_ | refine zdt ?_ | refine zdf ?_ | refine znt ?_ | refine znf ?_ | refine zcd ?_ | refine zci ?_ | refine zc3 ?_) <;> (conv => whnf)))
    have hcc := fun (K : V → Heap → Prop) hK => rw_cache (K := K) hG hw hK
    have hcr := fun (K : V → Heap → Prop) hK => rw_crev (K := K) hG hw hK
    have hws := (hw.was _ rfl).2
    have hfd := wasM_find (all) (Rn) ρ
    have hall := hw.all
    have hcl := fun (K : V → Heap → Prop) hK => rw_callC (K := K) hG hS hw (by first | omega | (unfold evW; simp; omega)) hK
    have hlen := atR_len (all) ρ
    have hla : (all).length ≤ 5 * (i + 1) := by first | omega | (unfold evW; simp; omega)
    have hel := hlv.keep (klo2 (.cs [.i .i64 0, .nils, .nils, .i .i64 0, .i .i64 0, .b false, .b false]) (.cs (opT o)) (.cs [.i .i64 0, .i .i64 0, .i .i64 0, .s [], .i .i64 0, .nils, .nils]) (.cs (callR ⟨0, 0, 0, 0⟩)))
    rcases hw.rho with hρ | ⟨hρ0, hρR⟩
    · subst hρ
      rw [if_neg (by omega)] at hfd
      have hkn : knows (all) (-1) = [] := if_neg (by decide)
      rw [hkn] at hcl
      ((conv => whnf); repeat ((first | refine SCall.app (hcc _) ?_ | refine SCall.app (hcr _) ?_ | refine SOpt.no hfd ?_ | refine SIf.df (show ¬ (-1 : Int) ≥ 0 by decide) ?_ | refine SIf.dt (show (-1 : Int) < 0 by decide) ?_ | refine SCall.app (hcl _) ?_ | refine SEx.of (hws) ?_ | refine yf rfl ?_ | refine yt rfl ?_ | refine yo rfl ?_ | refine yc rfl ?_ | refine ys rfl ?_ | refine ye rfl ?_ | refine yn rfl ?_ | refine zw ?_ | refine zdt ?_ | refine zdf ?_ | refine znt ?_ | refine znf ?_ | refine zcd ?_ | refine zci ?_ | refine zc3 ?_) <;> (conv => whnf)))
      intro h9 hw9
      ((conv => whnf); repeat ((first | refine SWrap.w64 (by omega) (by omega) ?_ | refine yf rfl ?_ | refine yt rfl ?_ | refine yo rfl ?_ | refine yc rfl ?_ | refine ys rfl ?_ | refine ye rfl ?_ | refine yn rfl ?_ | refine zw ?_ | refine zdt ?_ | refine zdf ?_ | refine znt ?_ | refine znf ?_ | refine zcd ?_ | refine zci ?_ | refine zc3 ?_) <;> (conv => whnf)))
      exact hR1 (ops.length - (i + 1)) _ _ (by omega) ⟨i + 1, h9, _, _, Rn, id, at_, fresh, now + d, out, k, _, lv, rows, by omega, by omega, rfl, hw9, hla, by omega, by omega, by omega, by omega, by omega, hel, by first | omega | (simp; done) | (simp; omega), hrid, (by repeat (first | exact Fr.le_nil | refine Fr.le_cons rfl ?_)), rfl⟩
    · rw [if_pos ⟨hρ0, by omega⟩] at hfd
      have hkn : knows (all) ρ = atR (all) ρ := if_pos hρ0
      rw [hkn] at hcl
      by_cases hz : ρ = 0
      · subst hz
        have hfd1 : mfind (wasM (all) (Rn)) (.i .i64 0) = some .nils := hfd
        rw [atR_zero hall] at hcl
        ((conv => whnf); repeat ((first | refine SCall.app (hcc _) ?_ | refine SCall.app (hcr _) ?_ | refine SOpt.of hfd1 ?_ | refine SIf.dt (show (0 : Int) ≥ 0 by decide) ?_ | refine SCall.app (hcl _) ?_ | refine SEx.of (hws) ?_ | refine yf rfl ?_ | refine yt rfl ?_ | refine yo rfl ?_ | refine yc rfl ?_ | refine ys rfl ?_ | refine ye rfl ?_ | refine yn rfl ?_ | refine zw ?_ | refine zdt ?_ | refine zdf ?_ | refine znt ?_ | refine znf ?_ | refine zcd ?_ | refine zci ?_ | refine zc3 ?_) <;> (conv => whnf)))
        intro h9 hw9
        have heq := fun (K : V → Heap → Prop) hK => eqEns_at (K := K) hG (h := h9) (lv := .sl none 3 []) (lw := .nils) (L := []) (.inr rfl) (.inl ⟨rfl, rfl⟩) (by simp) hK
        have hcr9 := fun (K : V → Heap → Prop) hK => rw_crev (K := K) hG hw9 hK
        ((conv => whnf); repeat ((first | refine SCall.app (heq _) ?_ | refine SCall.app (hcr9 _) ?_ | refine SWrap.w64 (by omega) (by omega) ?_ | refine yf rfl ?_ | refine yt rfl ?_ | refine yo rfl ?_ | refine yc rfl ?_ | refine ys rfl ?_ | refine ye rfl ?_ | refine yn rfl ?_ | refine zw ?_ | refine zdt ?_ | refine zdf ?_ | refine znt ?_ | refine znf ?_ | refine zcd ?_ | refine zci ?_ | refine zc3 ?_) <;> (conv => whnf)))
        exact hR1 (ops.length - (i + 1)) _ _ (by omega) ⟨i + 1, h9, _, _, Rn, id, at_, fresh, now + d, out, k, _, lv, rows, by omega, by omega, rfl, hw9, hla, by omega, by omega, by omega, by omega, by omega, hel, by first | omega | (simp; done) | (simp; omega), hrid, (by repeat (first | exact Fr.le_nil | refine Fr.le_cons rfl ?_)), rfl⟩
      · rw [wasV_rows _ hρ0 hz] at hfd
        ((conv => whnf); repeat ((first | refine SCall.app (hcc _) ?_ | refine SCall.app (hcr _) ?_ | refine SOpt.of hfd ?_ | refine SIf.dt (show ρ ≥ 0 from hρ0) ?_ | refine SCall.app (hcl _) ?_ | refine SEx.of (hws) ?_ | refine yf rfl ?_ | refine yt rfl ?_ | refine yo rfl ?_ | refine yc rfl ?_ | refine ys rfl ?_ | refine ye rfl ?_ | refine yn rfl ?_ | refine zw ?_ | refine zdt ?_ | refine zdf ?_ | refine znt ?_ | refine znf ?_ | refine zcd ?_ | refine zci ?_ | refine zc3 ?_) <;> (conv => whnf)))
        intro h9 hw9
        have heq := fun (K : V → Heap → Prop) hK => eqEns_at (K := K) hG (h := h9) (L := atR (all) ρ) (.inr rfl) (.inr rfl) (by omega) hK
        have hcr9 := fun (K : V → Heap → Prop) hK => rw_crev (K := K) hG hw9 hK
        ((conv => whnf); repeat ((first | refine SCall.app (heq _) ?_ | refine SCall.app (hcr9 _) ?_ | refine SIf.df (show ¬ ρ < 0 by omega) ?_ | refine SWrap.w64 (by omega) (by omega) ?_ | refine yf rfl ?_ | refine yt rfl ?_ | refine yo rfl ?_ | refine yc rfl ?_ | refine ys rfl ?_ | refine ye rfl ?_ | refine yn rfl ?_ | refine zw ?_ | refine zdt ?_ | refine zdf ?_ | refine znt ?_ | refine znf ?_ | refine zcd ?_ | refine zci ?_ | refine zc3 ?_) <;> (conv => whnf)))
        exact hR1 (ops.length - (i + 1)) _ _ (by omega) ⟨i + 1, h9, _, _, Rn, id, at_, fresh, now + d, out, k, _, lv, rows, by omega, by omega, rfl, hw9, hla, by omega, by omega, by omega, by omega, by omega, hel, by first | omega | (simp; done) | (simp; omega), hrid, (by repeat (first | exact Fr.le_nil | refine Fr.le_cons rfl ?_)), rfl⟩
  obtain ⟨e1, e2⟩ := wantC_from 3 id ρ
  have hkk := wantC_kind 3 id ρ
  obtain ⟨k3, hk3⟩ : ∃ k3, k3 = wantC 3 id ρ := ⟨_, rfl⟩
  rw [← hk3] at hw3 e1 e2 hkk
  rw [← hk3]
  have hcc := fun (K : V → Heap → Prop) hK => rw_cache (K := K) hG hw3 hK
  have hcr := fun (K : V → Heap → Prop) hK => rw_crev (K := K) hG hw3 hK
  have hof := fun (K : V → Heap → Prop) hK => rw_ofC (K := K) hG hA hS hw3 (by omega) hkk hK
  rw [e1] at hof
  unfold ansC ansR callR at hof
  have b5 : ∀ x y z u v, (((((lo.push x).set lo.next y).push z).set (lo.next + 1) u).push v).get (lo.next + 2) = some v := fun x y z u v => Heap.get_push_self _ _
  have b6 : ∀ x y z u v w, ((((((lo.push x).set lo.next y).push z).set (lo.next + 1) u).push v).set (lo.next + 2) w).get (lo.next + 2) = some w := fun x y z u v w => Heap.get_set_self (b5 x y z u v)
  have b7 : ∀ x y z u v w, ((((((lo.push x).set lo.next y).push z).set (lo.next + 1) u).push v).set (lo.next + 2) w).get lo.next = some y := fun x y z u v w => Heap.gs (by omega) (Heap.gp (by show lo.next ≠ lo.next + 1 + 1; omega) (Heap.gs (by omega) (Heap.gp (by show lo.next ≠ lo.next + 1; omega) (a2 x y))))
  have klo3 : ∀ x y z u v w, Heap.Keeps (fun _ => False) lo ((((((lo.push x).set lo.next y).push z).set (lo.next + 1) u).push v).set (lo.next + 2) w) := fun x y z u v w => Heap.Keeps.set (b := fun _ => False) (.push (klo2 _ _ _ _) _) (.inr (by omega)) _
  have c6 : ∀ x y z u v w s1, (((((((lo.push x).set lo.next y).push z).set (lo.next + 1) u).push v).set (lo.next + 2) w).push s1).get (lo.next + 2) = some w := fun x y z u v w s1 => Heap.gp (by show lo.next + 2 ≠ lo.next + 1 + 1 + 1; omega) (b6 x y z u v w)
  have c7 : ∀ x y z u v w s1, (((((((lo.push x).set lo.next y).push z).set (lo.next + 1) u).push v).set (lo.next + 2) w).push s1).get lo.next = some y := fun x y z u v w s1 => Heap.gp (by show lo.next ≠ lo.next + 1 + 1 + 1; omega) (b7 x y z u v w)
  have n6 : ∀ x y z u v w s1 s2, ((((((((lo.push x).set lo.next y).push z).set (lo.next + 1) u).push v).set (lo.next + 2) w).push s1).push s2).get (lo.next + 2) = some w := fun x y z u v w s1 s2 => Heap.gp (by show lo.next + 2 ≠ lo.next + 1 + 1 + 1 + 1; omega) (c6 x y z u v w s1)
  have n7 : ∀ x y z u v w s1 s2, ((((((((lo.push x).set lo.next y).push z).set (lo.next + 1) u).push v).set (lo.next + 2) w).push s1).push s2).get lo.next = some y := fun x y z u v w s1 s2 => Heap.gp (by show lo.next ≠ lo.next + 1 + 1 + 1 + 1; omega) (c7 x y z u v w s1)
  have hid1 : ¬ k3.id < 1 := by omega
  have hfin : ∀ (v : Bool), True := fun _ => trivial
  by_cases hρn : ρ < 0
  all_goals
    have hkk2 := hkk
    first
    | (have hkd := hkk2.1 hρn
       have hkq : (!(decide (k3.kind = 2) == decide (ρ < 0) && true)) = false := by rw [decide_eq_true hkd, decide_eq_true hρn]; rfl
       ((conv => whnf); repeat ((first | refine SIf.nf e1 ?_ | refine SIf.df hid1 ?_ | refine SIf.ff hkq ?_ | refine SIf.dt hkd ?_ | refine SIf.df (show ¬ k3.kind = 3 by omega) ?_ | refine SCall.app (hcc _) ?_ | refine SCall.app (hcr _) ?_ | refine SIf.dt hρn ?_ | refine SCall.app (hof _) ?_ | refine SEx.of (a4 _ _ _ _) ?_ | refine SEx.of (a3 _ _ _) ?_ | refine yf rfl ?_ | refine yt rfl ?_ | refine yo rfl ?_ | refine yc rfl ?_ | refine ys rfl ?_ | refine ye rfl ?_ | refine yn rfl ?_ | refine zw ?_ | refine zdt ?_ | refine zdf ?_ | refine znt ?_ | refine znf ?_ | refine zcd ?_ | refine zci ?_ | refine zc3 ?_) <;> (conv => whnf))))
    | (obtain ⟨hkd, hkr⟩ := hkk2.2 (by omega)
       have hkq : (!(decide (k3.kind = 2) == decide (ρ < 0) && true)) = false := by rw [decide_eq_false (show ¬ k3.kind = 2 by omega), decide_eq_false hρn]; rfl
       ((conv => whnf); repeat ((first | refine SIf.nf e1 ?_ | refine SIf.df hid1 ?_ | refine SIf.ff hkq ?_ | refine SIf.dt hkd ?_ | refine SIf.df (show ¬ k3.kind = 2 by omega) ?_ | refine SCall.app (hcc _) ?_ | refine SCall.app (hcr _) ?_ | refine SIf.df hρn ?_ | refine SIf.nf hkr ?_ | refine SCall.app (hof _) ?_ | refine SEx.of (a4 _ _ _ _) ?_ | refine SEx.of (a3 _ _ _) ?_ | refine yf rfl ?_ | refine yt rfl ?_ | refine yo rfl ?_ | refine yc rfl ?_ | refine ys rfl ?_ | refine ye rfl ?_ | refine yn rfl ?_ | refine zw ?_ | refine zdt ?_ | refine zdf ?_ | refine znt ?_ | refine znf ?_ | refine zcd ?_ | refine zci ?_ | refine zc3 ?_) <;> (conv => whnf))))
    intro es xs err h4 hans hw4
    obtain ⟨an, han⟩ : ∃ an : AnE, an = ⟨k3.id, k3.kind, err, Rn, es, xs⟩ := ⟨_, rfl⟩
    have hanr : anR an = [.i .i64 3, .i .i64 k3.id, .i .i64 k3.kind, .i .i64 err, .i .i64 Rn, .sl none 3 (es.map enR), .sl none 4 (xs.map evR)] := by rw [han]; rfl
    have hanid : an.id = id + 1 := by rw [han]; exact e2
    have hridn : ∀ x ∈ rows ++ [an], x.id ≤ id + 1 := fun x hx => by
      rcases List.mem_append.1 hx with hx | hx
      · have := hrid x hx; omega
      · rw [List.mem_singleton.1 hx]; omega
    have htk := fun (K : V → Heap → Prop) hK => rw_take (K := K) hG hw4 (by omega) (by omega) hans hK
    unfold ansC ansR at htk
    rcases hlv with ⟨rfl, rfl⟩ | ⟨hr0, t, rfl, ht1, ht2⟩
    · have hrow0 : [([.i .i64 3, .i .i64 k3.id, .i .i64 k3.kind, .i .i64 err, .i .i64 (Rn : Int), .sl none 3 (es.map enR), .sl none 4 (xs.map evR)] : List V)] = ([] ++ [an] : List AnE).map anR := by rw [← hanr]; rfl
      ((conv => whnf); repeat ((first | refine SEx.of (b6 _ _ _ _ _ _) ?_ | refine SEx.of (b5 _ _ _ _ _) ?_ | refine SEx.of (c6 _ _ _ _ _ _ _) ?_ | refine SEx.of (n7 _ _ _ _ _ _ _ _) ?_ | refine SEx.of (n6 _ _ _ _ _ _ _ _) ?_ | refine yf rfl ?_ | refine yt rfl ?_ | refine yo rfl ?_ | refine yc rfl ?_ | refine ys rfl ?_ | refine ye rfl ?_ | refine yn rfl ?_ | refine zw ?_ | refine zdt ?_ | refine zdf ?_ | refine znt ?_ | refine znf ?_ | refine zcd ?_ | refine zci ?_ | refine zc3 ?_) <;> (conv => whnf)))
      cases hla : o.late
      · cases hlo : o.lost
        · -- taken
          ((conv => whnf); repeat ((first | refine SIf.ff hla ?_ | refine SIf.tt (show (!o.lost) = true by rw [hlo]; rfl) ?_ | refine SCall.app (htk _) ?_ | refine SEx.of (n7 _ _ _ _ _ _ _ _) ?_ | refine SEx.of (n6 _ _ _ _ _ _ _ _) ?_ | refine yf rfl ?_ | refine yt rfl ?_ | refine yo rfl ?_ | refine yc rfl ?_ | refine ys rfl ?_ | refine ye rfl ?_ | refine yn rfl ?_ | refine zw ?_ | refine zdt ?_ | refine zdf ?_ | refine znt ?_ | refine znf ?_ | refine zcd ?_ | refine zci ?_ | refine zc3 ?_) <;> (conv => whnf)))
          intro v5 h5 fr5 ρ5 hf5 _ _ hw5
          have hcc := fun (K : V → Heap → Prop) hK => rw_cache (K := K) hG hw5 hK
          have hcr := fun (K : V → Heap → Prop) hK => rw_crev (K := K) hG hw5 hK
          have hws := (hw5.was _ rfl).2
          have hfd := wasM_find (all) (Rn) ρ5
          have hall := hw5.all
          have hcl := fun (K : V → Heap → Prop) hK => rw_callC (K := K) hG hS hw5 (by first | omega | (unfold evW; simp; omega)) hK
          have hlen := atR_len (all) ρ5
          have hla : (all).length ≤ 5 * (i + 1) := by first | omega | (unfold evW; simp; omega)
          rcases hw5.rho with hρ | ⟨hρ0, hρR⟩
          · subst hρ
            rw [if_neg (by omega)] at hfd
            have hkn : knows (all) (-1) = [] := if_neg (by decide)
            rw [hkn] at hcl
            ((conv => whnf); repeat ((first | refine SCall.app (hcc _) ?_ | refine SCall.app (hcr _) ?_ | refine SOpt.no hfd ?_ | refine SIf.df (show ¬ (-1 : Int) ≥ 0 by decide) ?_ | refine SIf.dt (show (-1 : Int) < 0 by decide) ?_ | refine SCall.app (hcl _) ?_ | refine SEx.of (hws) ?_ | refine yf rfl ?_ | refine yt rfl ?_ | refine yo rfl ?_ | refine yc rfl ?_ | refine ys rfl ?_ | refine ye rfl ?_ | refine yn rfl ?_ | refine zw ?_ | refine zdt ?_ | refine zdf ?_ | refine znt ?_ | refine znf ?_ | refine zcd ?_ | refine zci ?_ | refine zc3 ?_) <;> (conv => whnf)))
            intro h9 hw9
            ((conv => whnf); repeat ((first | refine SWrap.w64 (by omega) (by omega) ?_ | refine yf rfl ?_ | refine yt rfl ?_ | refine yo rfl ?_ | refine yc rfl ?_ | refine ys rfl ?_ | refine ye rfl ?_ | refine yn rfl ?_ | refine zw ?_ | refine zdt ?_ | refine zdf ?_ | refine znt ?_ | refine znf ?_ | refine zcd ?_ | refine zci ?_ | refine zc3 ?_) <;> (conv => whnf)))
            exact hR1 (ops.length - (i + 1)) _ _ (by omega) ⟨i + 1, h9, _, _, Rn, id + 1, now + d, fr5, now + d, false, k3, _, .sl (some (.l (lo.next + 1 + 1 + 1 + 1))) 7 [([.i .i64 3, .i .i64 k3.id, .i .i64 k3.kind, .i .i64 err, .i .i64 (Rn : Int), .sl none 3 (es.map enR), .sl none 4 (xs.map evR)] : List V)], ([] ++ [an]), by omega, by omega, rfl, hw9, hla, by omega, by omega, by omega, by omega, by omega, .inr ⟨by simp, lo.next + 1 + 1 + 1 + 1, by rw [← hrow0], Nat.lt_succ_self _, Heap.get_push_self _ _⟩, by first | omega | (simp; done) | (simp; omega), hridn, (by repeat (first | exact Fr.le_nil | refine Fr.le_cons rfl ?_)), rfl⟩
          · rw [if_pos ⟨hρ0, by omega⟩] at hfd
            have hkn : knows (all) ρ5 = atR (all) ρ5 := if_pos hρ0
            rw [hkn] at hcl
            by_cases hz : ρ5 = 0
            · subst hz
              have hfd1 : mfind (wasM (all) (Rn)) (.i .i64 0) = some .nils := hfd
              rw [atR_zero hall] at hcl
              ((conv => whnf); repeat ((first | refine SCall.app (hcc _) ?_ | refine SCall.app (hcr _) ?_ | refine SOpt.of hfd1 ?_ | refine SIf.dt (show (0 : Int) ≥ 0 by decide) ?_ | refine SCall.app (hcl _) ?_ | refine SEx.of (hws) ?_ | refine yf rfl ?_ | refine yt rfl ?_ | refine yo rfl ?_ | refine yc rfl ?_ | refine ys rfl ?_ | refine ye rfl ?_ | refine yn rfl ?_ | refine zw ?_ | refine zdt ?_ | refine zdf ?_ | refine znt ?_ | refine znf ?_ | refine zcd ?_ | refine zci ?_ | refine zc3 ?_) <;> (conv => whnf)))
              intro h9 hw9
              have heq := fun (K : V → Heap → Prop) hK => eqEns_at (K := K) hG (h := h9) (lv := .sl none 3 []) (lw := .nils) (L := []) (.inr rfl) (.inl ⟨rfl, rfl⟩) (by simp) hK
              have hcr9 := fun (K : V → Heap → Prop) hK => rw_crev (K := K) hG hw9 hK
              ((conv => whnf); repeat ((first | refine SCall.app (heq _) ?_ | refine SCall.app (hcr9 _) ?_ | refine SWrap.w64 (by omega) (by omega) ?_ | refine yf rfl ?_ | refine yt rfl ?_ | refine yo rfl ?_ | refine yc rfl ?_ | refine ys rfl ?_ | refine ye rfl ?_ | refine yn rfl ?_ | refine zw ?_ | refine zdt ?_ | refine zdf ?_ | refine znt ?_ | refine znf ?_ | refine zcd ?_ | refine zci ?_ | refine zc3 ?_) <;> (conv => whnf)))
              exact hR1 (ops.length - (i + 1)) _ _ (by omega) ⟨i + 1, h9, _, _, Rn, id + 1, now + d, fr5, now + d, false, k3, _, .sl (some (.l (lo.next + 1 + 1 + 1 + 1))) 7 [([.i .i64 3, .i .i64 k3.id, .i .i64 k3.kind, .i .i64 err, .i .i64 (Rn : Int), .sl none 3 (es.map enR), .sl none 4 (xs.map evR)] : List V)], ([] ++ [an]), by omega, by omega, rfl, hw9, hla, by omega, by omega, by omega, by omega, by omega, .inr ⟨by simp, lo.next + 1 + 1 + 1 + 1, by rw [← hrow0], Nat.lt_succ_self _, Heap.get_push_self _ _⟩, by first | omega | (simp; done) | (simp; omega), hridn, (by repeat (first | exact Fr.le_nil | refine Fr.le_cons rfl ?_)), rfl⟩
            · rw [wasV_rows _ hρ0 hz] at hfd
              ((conv => whnf); repeat ((first | refine SCall.app (hcc _) ?_ | refine SCall.app (hcr _) ?_ | refine SOpt.of hfd ?_ | refine SIf.dt (show ρ5 ≥ 0 from hρ0) ?_ | refine SCall.app (hcl _) ?_ | refine SEx.of (hws) ?_ | refine yf rfl ?_ | refine yt rfl ?_ | refine yo rfl ?_ | refine yc rfl ?_ | refine ys rfl ?_ | refine ye rfl ?_ | refine yn rfl ?_ | refine zw ?_ | refine zdt ?_ | refine zdf ?_ | refine znt ?_ | refine znf ?_ | refine zcd ?_ | refine zci ?_ | refine zc3 ?_) <;> (conv => whnf)))
              intro h9 hw9
              have heq := fun (K : V → Heap → Prop) hK => eqEns_at (K := K) hG (h := h9) (L := atR (all) ρ5) (.inr rfl) (.inr rfl) (by omega) hK
              have hcr9 := fun (K : V → Heap → Prop) hK => rw_crev (K := K) hG hw9 hK
              ((conv => whnf); repeat ((first | refine SCall.app (heq _) ?_ | refine SCall.app (hcr9 _) ?_ | refine SIf.df (show ¬ ρ5 < 0 by omega) ?_ | refine SWrap.w64 (by omega) (by omega) ?_ | refine yf rfl ?_ | refine yt rfl ?_ | refine yo rfl ?_ | refine yc rfl ?_ | refine ys rfl ?_ | refine ye rfl ?_ | refine yn rfl ?_ | refine zw ?_ | refine zdt ?_ | refine zdf ?_ | refine znt ?_ | refine znf ?_ | refine zcd ?_ | refine zci ?_ | refine zc3 ?_) <;> (conv => whnf)))
              exact hR1 (ops.length - (i + 1)) _ _ (by omega) ⟨i + 1, h9, _, _, Rn, id + 1, now + d, fr5, now + d, false, k3, _, .sl (some (.l (lo.next + 1 + 1 + 1 + 1))) 7 [([.i .i64 3, .i .i64 k3.id, .i .i64 k3.kind, .i .i64 err, .i .i64 (Rn : Int), .sl none 3 (es.map enR), .sl none 4 (xs.map evR)] : List V)], ([] ++ [an]), by omega, by omega, rfl, hw9, hla, by omega, by omega, by omega, by omega, by omega, .inr ⟨by simp, lo.next + 1 + 1 + 1 + 1, by rw [← hrow0], Nat.lt_succ_self _, Heap.get_push_self _ _⟩, by first | omega | (simp; done) | (simp; omega), hridn, (by repeat (first | exact Fr.le_nil | refine Fr.le_cons rfl ?_)), rfl⟩
        · -- lost
          ((conv => whnf); repeat ((first | refine SIf.ff hla ?_ | refine SIf.ff (show (!o.lost) = false by rw [hlo]; rfl) ?_ | refine SEx.of (n7 _ _ _ _ _ _ _ _) ?_ | refine SEx.of (n6 _ _ _ _ _ _ _ _) ?_ | refine yf rfl ?_ | refine yt rfl ?_ | refine yo rfl ?_ | refine yc rfl ?_ | refine ys rfl ?_ | refine ye rfl ?_ | refine yn rfl ?_ | refine zw ?_ | refine zdt ?_ | refine zdf ?_ | refine znt ?_ | refine znf ?_ | refine zcd ?_ | refine zci ?_ | refine zc3 ?_) <;> (conv => whnf)))
          have hcc := fun (K : V → Heap → Prop) hK => rw_cache (K := K) hG hw4 hK
          have hcr := fun (K : V → Heap → Prop) hK => rw_crev (K := K) hG hw4 hK
          have hws := (hw4.was _ rfl).2
          have hfd := wasM_find (all) (Rn) ρ
          have hall := hw4.all
          have hcl := fun (K : V → Heap → Prop) hK => rw_callC (K := K) hG hS hw4 (by first | omega | (unfold evW; simp; omega)) hK
          have hlen := atR_len (all) ρ
          have hla : (all).length ≤ 5 * (i + 1) := by first | omega | (unfold evW; simp; omega)
          rcases hw4.rho with hρ | ⟨hρ0, hρR⟩
          · subst hρ
            rw [if_neg (by omega)] at hfd
            have hkn : knows (all) (-1) = [] := if_neg (by decide)
            rw [hkn] at hcl
            ((conv => whnf); repeat ((first | refine SCall.app (hcc _) ?_ | refine SCall.app (hcr _) ?_ | refine SOpt.no hfd ?_ | refine SIf.df (show ¬ (-1 : Int) ≥ 0 by decide) ?_ | refine SIf.dt (show (-1 : Int) < 0 by decide) ?_ | refine SCall.app (hcl _) ?_ | refine SEx.of (hws) ?_ | refine yf rfl ?_ | refine yt rfl ?_ | refine yo rfl ?_ | refine yc rfl ?_ | refine ys rfl ?_ | refine ye rfl ?_ | refine yn rfl ?_ | refine zw ?_ | refine zdt ?_ | refine zdf ?_ | refine znt ?_ | refine znf ?_ | refine zcd ?_ | refine zci ?_ | refine zc3 ?_) <;> (conv => whnf)))
            intro h9 hw9
            ((conv => whnf); repeat ((first | refine SWrap.w64 (by omega) (by omega) ?_ | refine yf rfl ?_ | refine yt rfl ?_ | refine yo rfl ?_ | refine yc rfl ?_ | refine ys rfl ?_ | refine ye rfl ?_ | refine yn rfl ?_ | refine zw ?_ | refine zdt ?_ | refine zdf ?_ | refine znt ?_ | refine znf ?_ | refine zcd ?_ | refine zci ?_ | refine zc3 ?_) <;> (conv => whnf)))
            exact hR1 (ops.length - (i + 1)) _ _ (by omega) ⟨i + 1, h9, _, _, Rn, id + 1, now + d, fresh, now + d, true, k3, _, .sl (some (.l (lo.next + 1 + 1 + 1 + 1))) 7 [([.i .i64 3, .i .i64 k3.id, .i .i64 k3.kind, .i .i64 err, .i .i64 (Rn : Int), .sl none 3 (es.map enR), .sl none 4 (xs.map evR)] : List V)], ([] ++ [an]), by omega, by omega, rfl, hw9, hla, by omega, by omega, by omega, by omega, by omega, .inr ⟨by simp, lo.next + 1 + 1 + 1 + 1, by rw [← hrow0], Nat.lt_succ_self _, Heap.get_push_self _ _⟩, by first | omega | (simp; done) | (simp; omega), hridn, (by repeat (first | exact Fr.le_nil | refine Fr.le_cons rfl ?_)), rfl⟩
          · rw [if_pos ⟨hρ0, by omega⟩] at hfd
            have hkn : knows (all) ρ = atR (all) ρ := if_pos hρ0
            rw [hkn] at hcl
            by_cases hz : ρ = 0
            · subst hz
              have hfd1 : mfind (wasM (all) (Rn)) (.i .i64 0) = some .nils := hfd
              rw [atR_zero hall] at hcl
              ((conv => whnf); repeat ((first | refine SCall.app (hcc _) ?_ | refine SCall.app (hcr _) ?_ | refine SOpt.of hfd1 ?_ | refine SIf.dt (show (0 : Int) ≥ 0 by decide) ?_ | refine SCall.app (hcl _) ?_ | refine SEx.of (hws) ?_ | refine yf rfl ?_ | refine yt rfl ?_ | refine yo rfl ?_ | refine yc rfl ?_ | refine ys rfl ?_ | refine ye rfl ?_ | refine yn rfl ?_ | refine zw ?_ | refine zdt ?_ | refine zdf ?_ | refine znt ?_ | refine znf ?_ | refine zcd ?_ | refine zci ?_ | refine zc3 ?_) <;> (conv => whnf)))
              intro h9 hw9
              have heq := fun (K : V → Heap → Prop) hK => eqEns_at (K := K) hG (h := h9) (lv := .sl none 3 []) (lw := .nils) (L := []) (.inr rfl) (.inl ⟨rfl, rfl⟩) (by simp) hK
              have hcr9 := fun (K : V → Heap → Prop) hK => rw_crev (K := K) hG hw9 hK
              ((conv => whnf); repeat ((first | refine SCall.app (heq _) ?_ | refine SCall.app (hcr9 _) ?_ | refine SWrap.w64 (by omega) (by omega) ?_ | refine yf rfl ?_ | refine yt rfl ?_ | refine yo rfl ?_ | refine yc rfl ?_ | refine ys rfl ?_ | refine ye rfl ?_ | refine yn rfl ?_ | refine zw ?_ | refine zdt ?_ | refine zdf ?_ | refine znt ?_ | refine znf ?_ | refine zcd ?_ | refine zci ?_ | refine zc3 ?_) <;> (conv => whnf)))
              exact hR1 (ops.length - (i + 1)) _ _ (by omega) ⟨i + 1, h9, _, _, Rn, id + 1, now + d, fresh, now + d, true, k3, _, .sl (some (.l (lo.next + 1 + 1 + 1 + 1))) 7 [([.i .i64 3, .i .i64 k3.id, .i .i64 k3.kind, .i .i64 err, .i .i64 (Rn : Int), .sl none 3 (es.map enR), .sl none 4 (xs.map evR)] : List V)], ([] ++ [an]), by omega, by omega, rfl, hw9, hla, by omega, by omega, by omega, by omega, by omega, .inr ⟨by simp, lo.next + 1 + 1 + 1 + 1, by rw [← hrow0], Nat.lt_succ_self _, Heap.get_push_self _ _⟩, by first | omega | (simp; done) | (simp; omega), hridn, (by repeat (first | exact Fr.le_nil | refine Fr.le_cons rfl ?_)), rfl⟩
            · rw [wasV_rows _ hρ0 hz] at hfd
              ((conv => whnf); repeat ((first | refine SCall.app (hcc _) ?_ | refine SCall.app (hcr _) ?_ | refine SOpt.of hfd ?_ | refine SIf.dt (show ρ ≥ 0 from hρ0) ?_ | refine SCall.app (hcl _) ?_ | refine SEx.of (hws) ?_ | refine yf rfl ?_ | refine yt rfl ?_ | refine yo rfl ?_ | refine yc rfl ?_ | refine ys rfl ?_ | refine ye rfl ?_ | refine yn rfl ?_ | refine zw ?_ | refine zdt ?_ | refine zdf ?_ | refine znt ?_ | refine znf ?_ | refine zcd ?_ | refine zci ?_ | refine zc3 ?_) <;> (conv => whnf)))
              intro h9 hw9
              have heq := fun (K : V → Heap → Prop) hK => eqEns_at (K := K) hG (h := h9) (L := atR (all) ρ) (.inr rfl) (.inr rfl) (by omega) hK
              have hcr9 := fun (K : V → Heap → Prop) hK => rw_crev (K := K) hG hw9 hK
              ((conv => whnf); repeat ((first | refine SCall.app (heq _) ?_ | refine SCall.app (hcr9 _) ?_ | refine SIf.df (show ¬ ρ < 0 by omega) ?_ | refine SWrap.w64 (by omega) (by omega) ?_ | refine yf rfl ?_ | refine yt rfl ?_ | refine yo rfl ?_ | refine yc rfl ?_ | refine ys rfl ?_ | refine ye rfl ?_ | refine yn rfl ?_ | refine zw ?_ | refine zdt ?_ | refine zdf ?_ | refine znt ?_ | refine znf ?_ | refine zcd ?_ | refine zci ?_ | refine zc3 ?_) <;> (conv => whnf)))
              exact hR1 (ops.length - (i + 1)) _ _ (by omega) ⟨i + 1, h9, _, _, Rn, id + 1, now + d, fresh, now + d, true, k3, _, .sl (some (.l (lo.next + 1 + 1 + 1 + 1))) 7 [([.i .i64 3, .i .i64 k3.id, .i .i64 k3.kind, .i .i64 err, .i .i64 (Rn : Int), .sl none 3 (es.map enR), .sl none 4 (xs.map evR)] : List V)], ([] ++ [an]), by omega, by omega, rfl, hw9, hla, by omega, by omega, by omega, by omega, by omega, .inr ⟨by simp, lo.next + 1 + 1 + 1 + 1, by rw [← hrow0], Nat.lt_succ_self _, Heap.get_push_self _ _⟩, by first | omega | (simp; done) | (simp; omega), hridn, (by repeat (first | exact Fr.le_nil | refine Fr.le_cons rfl ?_)), rfl⟩
      · cases hlo : o.lost
        · -- late taken
          ((conv => whnf); repeat ((first | refine SIf.tt hla ?_ | refine SIf.tt (show (!o.lost) = true by rw [hlo]; rfl) ?_ | refine SCall.app (htk _) ?_ | refine SEx.of (n7 _ _ _ _ _ _ _ _) ?_ | refine SEx.of (n6 _ _ _ _ _ _ _ _) ?_ | refine yf rfl ?_ | refine yt rfl ?_ | refine yo rfl ?_ | refine yc rfl ?_ | refine ys rfl ?_ | refine ye rfl ?_ | refine yn rfl ?_ | refine zw ?_ | refine zdt ?_ | refine zdf ?_ | refine znt ?_ | refine znf ?_ | refine zcd ?_ | refine zci ?_ | refine zc3 ?_) <;> (conv => whnf)))
          intro v5 h5 fr5 ρ5 hf5 _ _ hw5
          have hcc := fun (K : V → Heap → Prop) hK => rw_cache (K := K) hG hw5 hK
          have hcr := fun (K : V → Heap → Prop) hK => rw_crev (K := K) hG hw5 hK
          have hws := (hw5.was _ rfl).2
          have hfd := wasM_find (all) (Rn) ρ5
          have hall := hw5.all
          have hcl := fun (K : V → Heap → Prop) hK => rw_callC (K := K) hG hS hw5 (by first | omega | (unfold evW; simp; omega)) hK
          have hlen := atR_len (all) ρ5
          have hla : (all).length ≤ 5 * (i + 1) := by first | omega | (unfold evW; simp; omega)
          rcases hw5.rho with hρ | ⟨hρ0, hρR⟩
          · subst hρ
            rw [if_neg (by omega)] at hfd
            have hkn : knows (all) (-1) = [] := if_neg (by decide)
            rw [hkn] at hcl
            ((conv => whnf); repeat ((first | refine SCall.app (hcc _) ?_ | refine SCall.app (hcr _) ?_ | refine SOpt.no hfd ?_ | refine SIf.df (show ¬ (-1 : Int) ≥ 0 by decide) ?_ | refine SIf.dt (show (-1 : Int) < 0 by decide) ?_ | refine SCall.app (hcl _) ?_ | refine SEx.of (hws) ?_ | refine yf rfl ?_ | refine yt rfl ?_ | refine yo rfl ?_ | refine yc rfl ?_ | refine ys rfl ?_ | refine ye rfl ?_ | refine yn rfl ?_ | refine zw ?_ | refine zdt ?_ | refine zdf ?_ | refine znt ?_ | refine znf ?_ | refine zcd ?_ | refine zci ?_ | refine zc3 ?_) <;> (conv => whnf)))
            intro h9 hw9
            ((conv => whnf); repeat ((first | refine SWrap.w64 (by omega) (by omega) ?_ | refine yf rfl ?_ | refine yt rfl ?_ | refine yo rfl ?_ | refine yc rfl ?_ | refine ys rfl ?_ | refine ye rfl ?_ | refine yn rfl ?_ | refine zw ?_ | refine zdt ?_ | refine zdf ?_ | refine znt ?_ | refine znf ?_ | refine zcd ?_ | refine zci ?_ | refine zc3 ?_) <;> (conv => whnf)))
            exact hR1 (ops.length - (i + 1)) _ _ (by omega) ⟨i + 1, h9, _, _, Rn, id + 1, now + d, fr5, now + d, false, k3, _, .sl (some (.l (lo.next + 1 + 1 + 1 + 1))) 7 [([.i .i64 3, .i .i64 k3.id, .i .i64 k3.kind, .i .i64 err, .i .i64 (Rn : Int), .sl none 3 (es.map enR), .sl none 4 (xs.map evR)] : List V)], ([] ++ [an]), by omega, by omega, rfl, hw9, hla, by omega, by omega, by omega, by omega, by omega, .inr ⟨by simp, lo.next + 1 + 1 + 1 + 1, by rw [← hrow0], Nat.lt_succ_self _, Heap.get_push_self _ _⟩, by first | omega | (simp; done) | (simp; omega), hridn, (by repeat (first | exact Fr.le_nil | refine Fr.le_cons rfl ?_)), rfl⟩
          · rw [if_pos ⟨hρ0, by omega⟩] at hfd
            have hkn : knows (all) ρ5 = atR (all) ρ5 := if_pos hρ0
            rw [hkn] at hcl
            by_cases hz : ρ5 = 0
            · subst hz
              have hfd1 : mfind (wasM (all) (Rn)) (.i .i64 0) = some .nils := hfd
              rw [atR_zero hall] at hcl
              ((conv => whnf); repeat ((first | refine SCall.app (hcc _) ?_ | refine SCall.app (hcr _) ?_ | refine SOpt.of hfd1 ?_ | refine SIf.dt (show (0 : Int) ≥ 0 by decide) ?_ | refine SCall.app (hcl _) ?_ | refine SEx.of (hws) ?_ | refine yf rfl ?_ | refine yt rfl ?_ | refine yo rfl ?_ | refine yc rfl ?_ | refine ys rfl ?_ | refine ye rfl ?_ | refine yn rfl ?_ | refine zw ?_ | refine zdt ?_ | refine zdf ?_ | refine znt ?_ | refine znf ?_ | refine zcd ?_ | refine zci ?_ | refine zc3 ?_) <;> (conv => whnf)))
              intro h9 hw9
              have heq := fun (K : V → Heap → Prop) hK => eqEns_at (K := K) hG (h := h9) (lv := .sl none 3 []) (lw := .nils) (L := []) (.inr rfl) (.inl ⟨rfl, rfl⟩) (by simp) hK
              have hcr9 := fun (K : V → Heap → Prop) hK => rw_crev (K := K) hG hw9 hK
              ((conv => whnf); repeat ((first | refine SCall.app (heq _) ?_ | refine SCall.app (hcr9 _) ?_ | refine SWrap.w64 (by omega) (by omega) ?_ | refine yf rfl ?_ | refine yt rfl ?_ | refine yo rfl ?_ | refine yc rfl ?_ | refine ys rfl ?_ | refine ye rfl ?_ | refine yn rfl ?_ | refine zw ?_ | refine zdt ?_ | refine zdf ?_ | refine znt ?_ | refine znf ?_ | refine zcd ?_ | refine zci ?_ | refine zc3 ?_) <;> (conv => whnf)))
              exact hR1 (ops.length - (i + 1)) _ _ (by omega) ⟨i + 1, h9, _, _, Rn, id + 1, now + d, fr5, now + d, false, k3, _, .sl (some (.l (lo.next + 1 + 1 + 1 + 1))) 7 [([.i .i64 3, .i .i64 k3.id, .i .i64 k3.kind, .i .i64 err, .i .i64 (Rn : Int), .sl none 3 (es.map enR), .sl none 4 (xs.map evR)] : List V)], ([] ++ [an]), by omega, by omega, rfl, hw9, hla, by omega, by omega, by omega, by omega, by omega, .inr ⟨by simp, lo.next + 1 + 1 + 1 + 1, by rw [← hrow0], Nat.lt_succ_self _, Heap.get_push_self _ _⟩, by first | omega | (simp; done) | (simp; omega), hridn, (by repeat (first | exact Fr.le_nil | refine Fr.le_cons rfl ?_)), rfl⟩
            · rw [wasV_rows _ hρ0 hz] at hfd
              ((conv => whnf); repeat ((first | refine SCall.app (hcc _) ?_ | refine SCall.app (hcr _) ?_ | refine SOpt.of hfd ?_ | refine SIf.dt (show ρ5 ≥ 0 from hρ0) ?_ | refine SCall.app (hcl _) ?_ | refine SEx.of (hws) ?_ | refine yf rfl ?_ | refine yt rfl ?_ | refine yo rfl ?_ | refine yc rfl ?_ | refine ys rfl ?_ | refine ye rfl ?_ | refine yn rfl ?_ | refine zw ?_ | refine zdt ?_ | refine zdf ?_ | refine znt ?_ | refine znf ?_ | refine zcd ?_ | refine zci ?_ | refine zc3 ?_) <;> (conv => whnf)))
              intro h9 hw9
              have heq := fun (K : V → Heap → Prop) hK => eqEns_at (K := K) hG (h := h9) (L := atR (all) ρ5) (.inr rfl) (.inr rfl) (by omega) hK
              have hcr9 := fun (K : V → Heap → Prop) hK => rw_crev (K := K) hG hw9 hK
              ((conv => whnf); repeat ((first | refine SCall.app (heq _) ?_ | refine SCall.app (hcr9 _) ?_ | refine SIf.df (show ¬ ρ5 < 0 by omega) ?_ | refine SWrap.w64 (by omega) (by omega) ?_ | refine yf rfl ?_ | refine yt rfl ?_ | refine yo rfl ?_ | refine yc rfl ?_ | refine ys rfl ?_ | refine ye rfl ?_ | refine yn rfl ?_ | refine zw ?_ | refine zdt ?_ | refine zdf ?_ | refine znt ?_ | refine znf ?_ | refine zcd ?_ | refine zci ?_ | refine zc3 ?_) <;> (conv => whnf)))
              exact hR1 (ops.length - (i + 1)) _ _ (by omega) ⟨i + 1, h9, _, _, Rn, id + 1, now + d, fr5, now + d, false, k3, _, .sl (some (.l (lo.next + 1 + 1 + 1 + 1))) 7 [([.i .i64 3, .i .i64 k3.id, .i .i64 k3.kind, .i .i64 err, .i .i64 (Rn : Int), .sl none 3 (es.map enR), .sl none 4 (xs.map evR)] : List V)], ([] ++ [an]), by omega, by omega, rfl, hw9, hla, by omega, by omega, by omega, by omega, by omega, .inr ⟨by simp, lo.next + 1 + 1 + 1 + 1, by rw [← hrow0], Nat.lt_succ_self _, Heap.get_push_self _ _⟩, by first | omega | (simp; done) | (simp; omega), hridn, (by repeat (first | exact Fr.le_nil | refine Fr.le_cons rfl ?_)), rfl⟩
        · -- late lost
          ((conv => whnf); repeat ((first | refine SIf.tt hla ?_ | refine SIf.ff (show (!o.lost) = false by rw [hlo]; rfl) ?_ | refine SEx.of (n7 _ _ _ _ _ _ _ _) ?_ | refine SEx.of (n6 _ _ _ _ _ _ _ _) ?_ | refine yf rfl ?_ | refine yt rfl ?_ | refine yo rfl ?_ | refine yc rfl ?_ | refine ys rfl ?_ | refine ye rfl ?_ | refine yn rfl ?_ | refine zw ?_ | refine zdt ?_ | refine zdf ?_ | refine znt ?_ | refine znf ?_ | refine zcd ?_ | refine zci ?_ | refine zc3 ?_) <;> (conv => whnf)))
          have hcc := fun (K : V → Heap → Prop) hK => rw_cache (K := K) hG hw4 hK
          have hcr := fun (K : V → Heap → Prop) hK => rw_crev (K := K) hG hw4 hK
          have hws := (hw4.was _ rfl).2
          have hfd := wasM_find (all) (Rn) ρ
          have hall := hw4.all
          have hcl := fun (K : V → Heap → Prop) hK => rw_callC (K := K) hG hS hw4 (by first | omega | (unfold evW; simp; omega)) hK
          have hlen := atR_len (all) ρ
          have hla : (all).length ≤ 5 * (i + 1) := by first | omega | (unfold evW; simp; omega)
          rcases hw4.rho with hρ | ⟨hρ0, hρR⟩
          · subst hρ
            rw [if_neg (by omega)] at hfd
            have hkn : knows (all) (-1) = [] := if_neg (by decide)
            rw [hkn] at hcl
            ((conv => whnf); repeat ((first | refine SCall.app (hcc _) ?_ | refine SCall.app (hcr _) ?_ | refine SOpt.no hfd ?_ | refine SIf.df (show ¬ (-1 : Int) ≥ 0 by decide) ?_ | refine SIf.dt (show (-1 : Int) < 0 by decide) ?_ | refine SCall.app (hcl _) ?_ | refine SEx.of (hws) ?_ | refine yf rfl ?_ | refine yt rfl ?_ | refine yo rfl ?_ | refine yc rfl ?_ | refine ys rfl ?_ | refine ye rfl ?_ | refine yn rfl ?_ | refine zw ?_ | refine zdt ?_ | refine zdf ?_ | refine znt ?_ | refine znf ?_ | refine zcd ?_ | refine zci ?_ | refine zc3 ?_) <;> (conv => whnf)))
            intro h9 hw9
            ((conv => whnf); repeat ((first | refine SWrap.w64 (by omega) (by omega) ?_ | refine yf rfl ?_ | refine yt rfl ?_ | refine yo rfl ?_ | refine yc rfl ?_ | refine ys rfl ?_ | refine ye rfl ?_ | refine yn rfl ?_ | refine zw ?_ | refine zdt ?_ | refine zdf ?_ | refine znt ?_ | refine znf ?_ | refine zcd ?_ | refine zci ?_ | refine zc3 ?_) <;> (conv => whnf)))
            exact hR1 (ops.length - (i + 1)) _ _ (by omega) ⟨i + 1, h9, _, _, Rn, id + 1, now + d, fresh, now + d, true, k3, _, .sl (some (.l (lo.next + 1 + 1 + 1 + 1))) 7 [([.i .i64 3, .i .i64 k3.id, .i .i64 k3.kind, .i .i64 err, .i .i64 (Rn : Int), .sl none 3 (es.map enR), .sl none 4 (xs.map evR)] : List V)], ([] ++ [an]), by omega, by omega, rfl, hw9, hla, by omega, by omega, by omega, by omega, by omega, .inr ⟨by simp, lo.next + 1 + 1 + 1 + 1, by rw [← hrow0], Nat.lt_succ_self _, Heap.get_push_self _ _⟩, by first | omega | (simp; done) | (simp; omega), hridn, (by repeat (first | exact Fr.le_nil | refine Fr.le_cons rfl ?_)), rfl⟩
          · rw [if_pos ⟨hρ0, by omega⟩] at hfd
            have hkn : knows (all) ρ = atR (all) ρ := if_pos hρ0
            rw [hkn] at hcl
            by_cases hz : ρ = 0
            · subst hz
              have hfd1 : mfind (wasM (all) (Rn)) (.i .i64 0) = some .nils := hfd
              rw [atR_zero hall] at hcl
              ((conv => whnf); repeat ((first | refine SCall.app (hcc _) ?_ | refine SCall.app (hcr _) ?_ | refine SOpt.of hfd1 ?_ | refine SIf.dt (show (0 : Int) ≥ 0 by decide) ?_ | refine SCall.app (hcl _) ?_ | refine SEx.of (hws) ?_ | refine yf rfl ?_ | refine yt rfl ?_ | refine yo rfl ?_ | refine yc rfl ?_ | refine ys rfl ?_ | refine ye rfl ?_ | refine yn rfl ?_ | refine zw ?_ | refine zdt ?_ | refine zdf ?_ | refine znt ?_ | refine znf ?_ | refine zcd ?_ | refine zci ?_ | refine zc3 ?_) <;> (conv => whnf)))
              intro h9 hw9
              have heq := fun (K : V → Heap → Prop) hK => eqEns_at (K := K) hG (h := h9) (lv := .sl none 3 []) (lw := .nils) (L := []) (.inr rfl) (.inl ⟨rfl, rfl⟩) (by simp) hK
              have hcr9 := fun (K : V → Heap → Prop) hK => rw_crev (K := K) hG hw9 hK
              ((conv => whnf); repeat ((first | refine SCall.app (heq _) ?_ | refine SCall.app (hcr9 _) ?_ | refine SWrap.w64 (by omega) (by omega) ?_ | refine yf rfl ?_ | refine yt rfl ?_ | refine yo rfl ?_ | refine yc rfl ?_ | refine ys rfl ?_ | refine ye rfl ?_ | refine yn rfl ?_ | refine zw ?_ | refine zdt ?_ | refine zdf ?_ | refine znt ?_ | refine znf ?_ | refine zcd ?_ | refine zci ?_ | refine zc3 ?_) <;> (conv => whnf)))
              exact hR1 (ops.length - (i + 1)) _ _ (by omega) ⟨i + 1, h9, _, _, Rn, id + 1, now + d, fresh, now + d, true, k3, _, .sl (some (.l (lo.next + 1 + 1 + 1 + 1))) 7 [([.i .i64 3, .i .i64 k3.id, .i .i64 k3.kind, .i .i64 err, .i .i64 (Rn : Int), .sl none 3 (es.map enR), .sl none 4 (xs.map evR)] : List V)], ([] ++ [an]), by omega, by omega, rfl, hw9, hla, by omega, by omega, by omega, by omega, by omega, .inr ⟨by simp, lo.next + 1 + 1 + 1 + 1, by rw [← hrow0], Nat.lt_succ_self _, Heap.get_push_self _ _⟩, by first | omega | (simp; done) | (simp; omega), hridn, (by repeat (first | exact Fr.le_nil | refine Fr.le_cons rfl ?_)), rfl⟩
            · rw [wasV_rows _ hρ0 hz] at hfd
              ((conv => whnf); repeat ((first | refine SCall.app (hcc _) ?_ | refine SCall.app (hcr _) ?_ | refine SOpt.of hfd ?_ | refine SIf.dt (show ρ ≥ 0 from hρ0) ?_ | refine SCall.app (hcl _) ?_ | refine SEx.of (hws) ?_ | refine yf rfl ?_ | refine yt rfl ?_ | refine yo rfl ?_ | refine yc rfl ?_ | refine ys rfl ?_ | refine ye rfl ?_ | refine yn rfl ?_ | refine zw ?_ | refine zdt ?_ | refine zdf ?_ | refine znt ?_ | refine znf ?_ | refine zcd ?_ | refine zci ?_ | refine zc3 ?_) <;> (conv => whnf)))
              intro h9 hw9
              have heq := fun (K : V → Heap → Prop) hK => eqEns_at (K := K) hG (h := h9) (L := atR (all) ρ) (.inr rfl) (.inr rfl) (by omega) hK
              have hcr9 := fun (K : V → Heap → Prop) hK => rw_crev (K := K) hG hw9 hK
              ((conv => whnf); repeat ((first | refine SCall.app (heq _) ?_ | refine SCall.app (hcr9 _) ?_ | refine SIf.df (show ¬ ρ < 0 by omega) ?_ | refine SWrap.w64 (by omega) (by omega) ?_ | refine yf rfl ?_ | refine yt rfl ?_ | refine yo rfl ?_ | refine yc rfl ?_ | refine ys rfl ?_ | refine ye rfl ?_ | refine yn rfl ?_ | refine zw ?_ | refine zdt ?_ | refine zdf ?_ | refine znt ?_ | refine znf ?_ | refine zcd ?_ | refine zci ?_ | refine zc3 ?_) <;> (conv => whnf)))
              exact hR1 (ops.length - (i + 1)) _ _ (by omega) ⟨i + 1, h9, _, _, Rn, id + 1, now + d, fresh, now + d, true, k3, _, .sl (some (.l (lo.next + 1 + 1 + 1 + 1))) 7 [([.i .i64 3, .i .i64 k3.id, .i .i64 k3.kind, .i .i64 err, .i .i64 (Rn : Int), .sl none 3 (es.map enR), .sl none 4 (xs.map evR)] : List V)], ([] ++ [an]), by omega, by omega, rfl, hw9, hla, by omega, by omega, by omega, by omega, by omega, .inr ⟨by simp, lo.next + 1 + 1 + 1 + 1, by rw [← hrow0], Nat.lt_succ_self _, Heap.get_push_self _ _⟩, by first | omega | (simp; done) | (simp; omega), hridn, (by repeat (first | exact Fr.le_nil | refine Fr.le_cons rfl ?_)), rfl⟩
    · have hrowT : rows.map anR ++ [([.i .i64 3, .i .i64 k3.id, .i .i64 k3.kind, .i .i64 err, .i .i64 (Rn : Int), .sl none 3 (es.map enR), .sl none 4 (xs.map evR)] : List V)] = (rows ++ [an]).map anR := by rw [← hanr]; simp
      have hwl1 : (rows.map anR ++ [([.i .i64 3, .i .i64 k3.id, .i .i64 k3.kind, .i .i64 err, .i .i64 (Rn : Int), .sl none 3 (es.map enR), .sl none 4 (xs.map evR)] : List V)]).length = rows.length + 1 := by simp
      have hwl0 : (rows.map anR).length = rows.length := List.length_map _
      have p0 : ∀ x y z u v w, (((((((lo.push x).set lo.next y).push z).set (lo.next + 1) u).push v).set (lo.next + 2) w).push .spare).get t = some .spare := fun x y z u v w => Heap.gp (by show t ≠ lo.next + 1 + 1 + 1; omega) ((klo3 x y z u v w).2 t ht1 (fun x => x) ▸ ht2)
      have t6 : ∀ x y z u v w s1 s2, (((((((((lo.push x).set lo.next y).push z).set (lo.next + 1) u).push v).set (lo.next + 2) w).push s1).remove t).push s2).get (lo.next + 2) = some w := fun x y z u v w s1 s2 => Heap.gp (by show lo.next + 2 ≠ lo.next + 1 + 1 + 1 + 1; omega) (Heap.gr (by omega) (c6 x y z u v w s1))
      have t7 : ∀ x y z u v w s1 s2, (((((((((lo.push x).set lo.next y).push z).set (lo.next + 1) u).push v).set (lo.next + 2) w).push s1).remove t).push s2).get lo.next = some y := fun x y z u v w s1 s2 => Heap.gp (by show lo.next ≠ lo.next + 1 + 1 + 1 + 1; omega) (Heap.gr (by omega) (c7 x y z u v w s1))
      obtain ⟨J, hJ, hJl⟩ : ∃ J : Nat, Int.tmod ((i : Int) * 7) (rows.length : Int) = (J : Int) ∧ J < rows.length := ⟨(i * 7) % rows.length, rfl, Nat.mod_lt _ hr0⟩
      have hidx : Int.tmod ((i : Int) * 7) (((rows.map anR ++ [([.i .i64 3, .i .i64 k3.id, .i .i64 k3.kind, .i .i64 err, .i .i64 (Rn : Int), .sl none 3 (es.map enR), .sl none 4 (xs.map evR)] : List V)]).length : Nat) - 1 : Int) = (J : Int) := by rw [show (((rows.map anR ++ [([.i .i64 3, .i .i64 k3.id, .i .i64 k3.kind, .i .i64 err, .i .i64 (Rn : Int), .sl none 3 (es.map enR), .sl none 4 (xs.map evR)] : List V)]).length : Nat) - 1 : Int) = (rows.length : Int) by omega]; exact hJ
      have hbJ := List.getElem?_eq_getElem hJl
      have hbm := hrid _ (List.getElem_mem hJl)
      generalize rows[J] = b at hbJ hbm
      have hgetJ : (rows.map anR ++ [([.i .i64 3, .i .i64 k3.id, .i .i64 k3.kind, .i .i64 err, .i .i64 (Rn : Int), .sl none 3 (es.map enR), .sl none 4 (xs.map evR)] : List V)])[(Int.tmod ((i : Int) * 7) (((rows.map anR ++ [([.i .i64 3, .i .i64 k3.id, .i .i64 k3.kind, .i .i64 err, .i .i64 (Rn : Int), .sl none 3 (es.map enR), .sl none 4 (xs.map evR)] : List V)]).length : Nat) - 1 : Int)).toNat]? = some (anR b) := by
        rw [hidx, Int.toNat_natCast, List.getElem?_append_left (by omega), List.getElem?_map, hbJ]; rfl
      have hel2 := fun (K : V → Heap → Prop) hK => rw_elder (K := K) hG hw4 b.id b.kind b.err b.rev (ens := .sl none 3 (b.es.map enR)) (evs := .sl none 4 (b.xs.map evR)) (.inr ⟨_, rfl⟩) (.inr ⟨_, rfl⟩) (by omega) hK
      unfold ansR at hel2
      ((conv => whnf); repeat ((first | refine SChk.mk (by simp [roomOk]; omega) ?_ | refine SEx.of (b6 _ _ _ _ _ _) ?_ | refine SEx.of (b5 _ _ _ _ _) ?_ | refine SEx.of (p0 _ _ _ _ _ _) ?_ | refine SEx.of (c6 _ _ _ _ _ _ _) ?_ | refine SEx.of (t7 _ _ _ _ _ _ _ _) ?_ | refine SEx.of (t6 _ _ _ _ _ _ _ _) ?_ | refine yf rfl ?_ | refine yt rfl ?_ | refine yo rfl ?_ | refine yc rfl ?_ | refine ys rfl ?_ | refine ye rfl ?_ | refine yn rfl ?_ | refine zw ?_ | refine zdt ?_ | refine zdf ?_ | refine znt ?_ | refine znf ?_ | refine zcd ?_ | refine zci ?_ | refine zc3 ?_) <;> (conv => whnf)))
      cases hla : o.late
      · cases hlo : o.lost
        · -- taken
          ((conv => whnf); repeat ((first | refine SIf.ff hla ?_ | refine SIf.tt (show (!o.lost) = true by rw [hlo]; rfl) ?_ | refine SCall.app (htk _) ?_ | refine SEx.of (t7 _ _ _ _ _ _ _ _) ?_ | refine SEx.of (t6 _ _ _ _ _ _ _ _) ?_ | refine yf rfl ?_ | refine yt rfl ?_ | refine yo rfl ?_ | refine yc rfl ?_ | refine ys rfl ?_ | refine ye rfl ?_ | refine yn rfl ?_ | refine zw ?_ | refine zdt ?_ | refine zdf ?_ | refine znt ?_ | refine znf ?_ | refine zcd ?_ | refine zci ?_ | refine zc3 ?_) <;> (conv => whnf)))
          intro v5 h5 fr5 ρ5 hf5 _ _ hw5
          have hcc := fun (K : V → Heap → Prop) hK => rw_cache (K := K) hG hw5 hK
          have hcr := fun (K : V → Heap → Prop) hK => rw_crev (K := K) hG hw5 hK
          have hws := (hw5.was _ rfl).2
          have hfd := wasM_find (all) (Rn) ρ5
          have hall := hw5.all
          have hcl := fun (K : V → Heap → Prop) hK => rw_callC (K := K) hG hS hw5 (by first | omega | (unfold evW; simp; omega)) hK
          have hlen := atR_len (all) ρ5
          have hla : (all).length ≤ 5 * (i + 1) := by first | omega | (unfold evW; simp; omega)
          rcases hw5.rho with hρ | ⟨hρ0, hρR⟩
          · subst hρ
            rw [if_neg (by omega)] at hfd
            have hkn : knows (all) (-1) = [] := if_neg (by decide)
            rw [hkn] at hcl
            ((conv => whnf); repeat ((first | refine SCall.app (hcc _) ?_ | refine SCall.app (hcr _) ?_ | refine SOpt.no hfd ?_ | refine SIf.df (show ¬ (-1 : Int) ≥ 0 by decide) ?_ | refine SIf.dt (show (-1 : Int) < 0 by decide) ?_ | refine SCall.app (hcl _) ?_ | refine SEx.of (hws) ?_ | refine yf rfl ?_ | refine yt rfl ?_ | refine yo rfl ?_ | refine yc rfl ?_ | refine ys rfl ?_ | refine ye rfl ?_ | refine yn rfl ?_ | refine zw ?_ | refine zdt ?_ | refine zdf ?_ | refine znt ?_ | refine znf ?_ | refine zcd ?_ | refine zci ?_ | refine zc3 ?_) <;> (conv => whnf)))
            intro h9 hw9
            ((conv => whnf); repeat ((first | refine SWrap.w64 (by omega) (by omega) ?_ | refine yf rfl ?_ | refine yt rfl ?_ | refine yo rfl ?_ | refine yc rfl ?_ | refine ys rfl ?_ | refine ye rfl ?_ | refine yn rfl ?_ | refine zw ?_ | refine zdt ?_ | refine zdf ?_ | refine znt ?_ | refine znf ?_ | refine zcd ?_ | refine zci ?_ | refine zc3 ?_) <;> (conv => whnf)))
            exact hR1 (ops.length - (i + 1)) _ _ (by omega) ⟨i + 1, h9, _, _, Rn, id + 1, now + d, fr5, now + d, false, k3, _, .sl (some (.l (lo.next + 1 + 1 + 1 + 1))) 7 (rows.map anR ++ [([.i .i64 3, .i .i64 k3.id, .i .i64 k3.kind, .i .i64 err, .i .i64 (Rn : Int), .sl none 3 (es.map enR), .sl none 4 (xs.map evR)] : List V)]), (rows ++ [an]), by omega, by omega, rfl, hw9, hla, by omega, by omega, by omega, by omega, by omega, .inr ⟨by simp, lo.next + 1 + 1 + 1 + 1, by rw [← hrowT], Nat.lt_succ_self _, Heap.get_push_self _ _⟩, by first | omega | (simp; done) | (simp; omega), hridn, (by repeat (first | exact Fr.le_nil | refine Fr.le_cons rfl ?_)), rfl⟩
          · rw [if_pos ⟨hρ0, by omega⟩] at hfd
            have hkn : knows (all) ρ5 = atR (all) ρ5 := if_pos hρ0
            rw [hkn] at hcl
            by_cases hz : ρ5 = 0
            · subst hz
              have hfd1 : mfind (wasM (all) (Rn)) (.i .i64 0) = some .nils := hfd
              rw [atR_zero hall] at hcl
              ((conv => whnf); repeat ((first | refine SCall.app (hcc _) ?_ | refine SCall.app (hcr _) ?_ | refine SOpt.of hfd1 ?_ | refine SIf.dt (show (0 : Int) ≥ 0 by decide) ?_ | refine SCall.app (hcl _) ?_ | refine SEx.of (hws) ?_ | refine yf rfl ?_ | refine yt rfl ?_ | refine yo rfl ?_ | refine yc rfl ?_ | refine ys rfl ?_ | refine ye rfl ?_ | refine yn rfl ?_ | refine zw ?_ | refine zdt ?_ | refine zdf ?_ | refine znt ?_ | refine znf ?_ | refine zcd ?_ | refine zci ?_ | refine zc3 ?_) <;> (conv => whnf)))
              intro h9 hw9
              have heq := fun (K : V → Heap → Prop) hK => eqEns_at (K := K) hG (h := h9) (lv := .sl none 3 []) (lw := .nils) (L := []) (.inr rfl) (.inl ⟨rfl, rfl⟩) (by simp) hK
              have hcr9 := fun (K : V → Heap → Prop) hK => rw_crev (K := K) hG hw9 hK
              ((conv => whnf); repeat ((first | refine SCall.app (heq _) ?_ | refine SCall.app (hcr9 _) ?_ | refine SWrap.w64 (by omega) (by omega) ?_ | refine yf rfl ?_ | refine yt rfl ?_ | refine yo rfl ?_ | refine yc rfl ?_ | refine ys rfl ?_ | refine ye rfl ?_ | refine yn rfl ?_ | refine zw ?_ | refine zdt ?_ | refine zdf ?_ | refine znt ?_ | refine znf ?_ | refine zcd ?_ | refine zci ?_ | refine zc3 ?_) <;> (conv => whnf)))
              exact hR1 (ops.length - (i + 1)) _ _ (by omega) ⟨i + 1, h9, _, _, Rn, id + 1, now + d, fr5, now + d, false, k3, _, .sl (some (.l (lo.next + 1 + 1 + 1 + 1))) 7 (rows.map anR ++ [([.i .i64 3, .i .i64 k3.id, .i .i64 k3.kind, .i .i64 err, .i .i64 (Rn : Int), .sl none 3 (es.map enR), .sl none 4 (xs.map evR)] : List V)]), (rows ++ [an]), by omega, by omega, rfl, hw9, hla, by omega, by omega, by omega, by omega, by omega, .inr ⟨by simp, lo.next + 1 + 1 + 1 + 1, by rw [← hrowT], Nat.lt_succ_self _, Heap.get_push_self _ _⟩, by first | omega | (simp; done) | (simp; omega), hridn, (by repeat (first | exact Fr.le_nil | refine Fr.le_cons rfl ?_)), rfl⟩
            · rw [wasV_rows _ hρ0 hz] at hfd
              ((conv => whnf); repeat ((first | refine SCall.app (hcc _) ?_ | refine SCall.app (hcr _) ?_ | refine SOpt.of hfd ?_ | refine SIf.dt (show ρ5 ≥ 0 from hρ0) ?_ | refine SCall.app (hcl _) ?_ | refine SEx.of (hws) ?_ | refine yf rfl ?_ | refine yt rfl ?_ | refine yo rfl ?_ | refine yc rfl ?_ | refine ys rfl ?_ | refine ye rfl ?_ | refine yn rfl ?_ | refine zw ?_ | refine zdt ?_ | refine zdf ?_ | refine znt ?_ | refine znf ?_ | refine zcd ?_ | refine zci ?_ | refine zc3 ?_) <;> (conv => whnf)))
              intro h9 hw9
              have heq := fun (K : V → Heap → Prop) hK => eqEns_at (K := K) hG (h := h9) (L := atR (all) ρ5) (.inr rfl) (.inr rfl) (by omega) hK
              have hcr9 := fun (K : V → Heap → Prop) hK => rw_crev (K := K) hG hw9 hK
              ((conv => whnf); repeat ((first | refine SCall.app (heq _) ?_ | refine SCall.app (hcr9 _) ?_ | refine SIf.df (show ¬ ρ5 < 0 by omega) ?_ | refine SWrap.w64 (by omega) (by omega) ?_ | refine yf rfl ?_ | refine yt rfl ?_ | refine yo rfl ?_ | refine yc rfl ?_ | refine ys rfl ?_ | refine ye rfl ?_ | refine yn rfl ?_ | refine zw ?_ | refine zdt ?_ | refine zdf ?_ | refine znt ?_ | refine znf ?_ | refine zcd ?_ | refine zci ?_ | refine zc3 ?_) <;> (conv => whnf)))
              exact hR1 (ops.length - (i + 1)) _ _ (by omega) ⟨i + 1, h9, _, _, Rn, id + 1, now + d, fr5, now + d, false, k3, _, .sl (some (.l (lo.next + 1 + 1 + 1 + 1))) 7 (rows.map anR ++ [([.i .i64 3, .i .i64 k3.id, .i .i64 k3.kind, .i .i64 err, .i .i64 (Rn : Int), .sl none 3 (es.map enR), .sl none 4 (xs.map evR)] : List V)]), (rows ++ [an]), by omega, by omega, rfl, hw9, hla, by omega, by omega, by omega, by omega, by omega, .inr ⟨by simp, lo.next + 1 + 1 + 1 + 1, by rw [← hrowT], Nat.lt_succ_self _, Heap.get_push_self _ _⟩, by first | omega | (simp; done) | (simp; omega), hridn, (by repeat (first | exact Fr.le_nil | refine Fr.le_cons rfl ?_)), rfl⟩
        · -- lost
          ((conv => whnf); repeat ((first | refine SIf.ff hla ?_ | refine SIf.ff (show (!o.lost) = false by rw [hlo]; rfl) ?_ | refine SEx.of (t7 _ _ _ _ _ _ _ _) ?_ | refine SEx.of (t6 _ _ _ _ _ _ _ _) ?_ | refine yf rfl ?_ | refine yt rfl ?_ | refine yo rfl ?_ | refine yc rfl ?_ | refine ys rfl ?_ | refine ye rfl ?_ | refine yn rfl ?_ | refine zw ?_ | refine zdt ?_ | refine zdf ?_ | refine znt ?_ | refine znf ?_ | refine zcd ?_ | refine zci ?_ | refine zc3 ?_) <;> (conv => whnf)))
          have hcc := fun (K : V → Heap → Prop) hK => rw_cache (K := K) hG hw4 hK
          have hcr := fun (K : V → Heap → Prop) hK => rw_crev (K := K) hG hw4 hK
          have hws := (hw4.was _ rfl).2
          have hfd := wasM_find (all) (Rn) ρ
          have hall := hw4.all
          have hcl := fun (K : V → Heap → Prop) hK => rw_callC (K := K) hG hS hw4 (by first | omega | (unfold evW; simp; omega)) hK
          have hlen := atR_len (all) ρ
          have hla : (all).length ≤ 5 * (i + 1) := by first | omega | (unfold evW; simp; omega)
          rcases hw4.rho with hρ | ⟨hρ0, hρR⟩
          · subst hρ
            rw [if_neg (by omega)] at hfd
            have hkn : knows (all) (-1) = [] := if_neg (by decide)
            rw [hkn] at hcl
            ((conv => whnf); repeat ((first | refine SCall.app (hcc _) ?_ | refine SCall.app (hcr _) ?_ | refine SOpt.no hfd ?_ | refine SIf.df (show ¬ (-1 : Int) ≥ 0 by decide) ?_ | refine SIf.dt (show (-1 : Int) < 0 by decide) ?_ | refine SCall.app (hcl _) ?_ | refine SEx.of (hws) ?_ | refine yf rfl ?_ | refine yt rfl ?_ | refine yo rfl ?_ | refine yc rfl ?_ | refine ys rfl ?_ | refine ye rfl ?_ | refine yn rfl ?_ | refine zw ?_ | refine zdt ?_ | refine zdf ?_ | refine znt ?_ | refine znf ?_ | refine zcd ?_ | refine zci ?_ | refine zc3 ?_) <;> (conv => whnf)))
            intro h9 hw9
            ((conv => whnf); repeat ((first | refine SWrap.w64 (by omega) (by omega) ?_ | refine yf rfl ?_ | refine yt rfl ?_ | refine yo rfl ?_ | refine yc rfl ?_ | refine ys rfl ?_ | refine ye rfl ?_ | refine yn rfl ?_ | refine zw ?_ | refine zdt ?_ | refine zdf ?_ | refine znt ?_ | refine znf ?_ | refine zcd ?_ | refine zci ?_ | refine zc3 ?_) <;> (conv => whnf)))
            exact hR1 (ops.length - (i + 1)) _ _ (by omega) ⟨i + 1, h9, _, _, Rn, id + 1, now + d, fresh, now + d, true, k3, _, .sl (some (.l (lo.next + 1 + 1 + 1 + 1))) 7 (rows.map anR ++ [([.i .i64 3, .i .i64 k3.id, .i .i64 k3.kind, .i .i64 err, .i .i64 (Rn : Int), .sl none 3 (es.map enR), .sl none 4 (xs.map evR)] : List V)]), (rows ++ [an]), by omega, by omega, rfl, hw9, hla, by omega, by omega, by omega, by omega, by omega, .inr ⟨by simp, lo.next + 1 + 1 + 1 + 1, by rw [← hrowT], Nat.lt_succ_self _, Heap.get_push_self _ _⟩, by first | omega | (simp; done) | (simp; omega), hridn, (by repeat (first | exact Fr.le_nil | refine Fr.le_cons rfl ?_)), rfl⟩
          · rw [if_pos ⟨hρ0, by omega⟩] at hfd
            have hkn : knows (all) ρ = atR (all) ρ := if_pos hρ0
            rw [hkn] at hcl
            by_cases hz : ρ = 0
            · subst hz
              have hfd1 : mfind (wasM (all) (Rn)) (.i .i64 0) = some .nils := hfd
              rw [atR_zero hall] at hcl
              ((conv => whnf); repeat ((first | refine SCall.app (hcc _) ?_ | refine SCall.app (hcr _) ?_ | refine SOpt.of hfd1 ?_ | refine SIf.dt (show (0 : Int) ≥ 0 by decide) ?_ | refine SCall.app (hcl _) ?_ | refine SEx.of (hws) ?_ | refine yf rfl ?_ | refine yt rfl ?_ | refine yo rfl ?_ | refine yc rfl ?_ | refine ys rfl ?_ | refine ye rfl ?_ | refine yn rfl ?_ | refine zw ?_ | refine zdt ?_ | refine zdf ?_ | refine znt ?_ | refine znf ?_ | refine zcd ?_ | refine zci ?_ | refine zc3 ?_) <;> (conv => whnf)))
              intro h9 hw9
              have heq := fun (K : V → Heap → Prop) hK => eqEns_at (K := K) hG (h := h9) (lv := .sl none 3 []) (lw := .nils) (L := []) (.inr rfl) (.inl ⟨rfl, rfl⟩) (by simp) hK
              have hcr9 := fun (K : V → Heap → Prop) hK => rw_crev (K := K) hG hw9 hK
              ((conv => whnf); repeat ((first | refine SCall.app (heq _) ?_ | refine SCall.app (hcr9 _) ?_ | refine SWrap.w64 (by omega) (by omega) ?_ | refine yf rfl ?_ | refine yt rfl ?_ | refine yo rfl ?_ | refine yc rfl ?_ | refine ys rfl ?_ | refine ye rfl ?_ | refine yn rfl ?_ | refine zw ?_ | refine zdt ?_ | refine zdf ?_ | refine znt ?_ | refine znf ?_ | refine zcd ?_ | refine zci ?_ | refine zc3 ?_) <;> (conv => whnf)))
              exact hR1 (ops.length - (i + 1)) _ _ (by omega) ⟨i + 1, h9, _, _, Rn, id + 1, now + d, fresh, now + d, true, k3, _, .sl (some (.l (lo.next + 1 + 1 + 1 + 1))) 7 (rows.map anR ++ [([.i .i64 3, .i .i64 k3.id, .i .i64 k3.kind, .i .i64 err, .i .i64 (Rn : Int), .sl none 3 (es.map enR), .sl none 4 (xs.map evR)] : List V)]), (rows ++ [an]), by omega, by omega, rfl, hw9, hla, by omega, by omega, by omega, by omega, by omega, .inr ⟨by simp, lo.next + 1 + 1 + 1 + 1, by rw [← hrowT], Nat.lt_succ_self _, Heap.get_push_self _ _⟩, by first | omega | (simp; done) | (simp; omega), hridn, (by repeat (first | exact Fr.le_nil | refine Fr.le_cons rfl ?_)), rfl⟩
            · rw [wasV_rows _ hρ0 hz] at hfd
              ((conv => whnf); repeat ((first | refine SCall.app (hcc _) ?_ | refine SCall.app (hcr _) ?_ | refine SOpt.of hfd ?_ | refine SIf.dt (show ρ ≥ 0 from hρ0) ?_ | refine SCall.app (hcl _) ?_ | refine SEx.of (hws) ?_ | refine yf rfl ?_ | refine yt rfl ?_ | refine yo rfl ?_ | refine yc rfl ?_ | refine ys rfl ?_ | refine ye rfl ?_ | refine yn rfl ?_ | refine zw ?_ | refine zdt ?_ | refine zdf ?_ | refine znt ?_ | refine znf ?_ | refine zcd ?_ | refine zci ?_ | refine zc3 ?_) <;> (conv => whnf)))
              intro h9 hw9
              have heq := fun (K : V → Heap → Prop) hK => eqEns_at (K := K) hG (h := h9) (L := atR (all) ρ) (.inr rfl) (.inr rfl) (by omega) hK
              have hcr9 := fun (K : V → Heap → Prop) hK => rw_crev (K := K) hG hw9 hK
              ((conv => whnf); repeat ((first | refine SCall.app (heq _) ?_ | refine SCall.app (hcr9 _) ?_ | refine SIf.df (show ¬ ρ < 0 by omega) ?_ | refine SWrap.w64 (by omega) (by omega) ?_ | refine yf rfl ?_ | refine yt rfl ?_ | refine yo rfl ?_ | refine yc rfl ?_ | refine ys rfl ?_ | refine ye rfl ?_ | refine yn rfl ?_ | refine zw ?_ | refine zdt ?_ | refine zdf ?_ | refine znt ?_ | refine znf ?_ | refine zcd ?_ | refine zci ?_ | refine zc3 ?_) <;> (conv => whnf)))
              exact hR1 (ops.length - (i + 1)) _ _ (by omega) ⟨i + 1, h9, _, _, Rn, id + 1, now + d, fresh, now + d, true, k3, _, .sl (some (.l (lo.next + 1 + 1 + 1 + 1))) 7 (rows.map anR ++ [([.i .i64 3, .i .i64 k3.id, .i .i64 k3.kind, .i .i64 err, .i .i64 (Rn : Int), .sl none 3 (es.map enR), .sl none 4 (xs.map evR)] : List V)]), (rows ++ [an]), by omega, by omega, rfl, hw9, hla, by omega, by omega, by omega, by omega, by omega, .inr ⟨by simp, lo.next + 1 + 1 + 1 + 1, by rw [← hrowT], Nat.lt_succ_self _, Heap.get_push_self _ _⟩, by first | omega | (simp; done) | (simp; omega), hridn, (by repeat (first | exact Fr.le_nil | refine Fr.le_cons rfl ?_)), rfl⟩
      · cases hlo : o.lost
        · -- late taken
          ((conv => whnf); repeat ((first | refine SIf.tt hla ?_ | refine SIf.dt (show (1 : Int) < ((rows.map anR ++ [([.i .i64 3, .i .i64 k3.id, .i .i64 k3.kind, .i .i64 err, .i .i64 (Rn : Int), .sl none 3 (es.map enR), .sl none 4 (xs.map evR)] : List V)]).length : Nat) by omega) ?_ | refine SWrap.w64 (by omega) (by omega) ?_ | refine SChk.mk (show (!decide ((((rows.map anR ++ [([.i .i64 3, .i .i64 k3.id, .i .i64 k3.kind, .i .i64 err, .i .i64 (Rn : Int), .sl none 3 (es.map enR), .sl none 4 (xs.map evR)] : List V)]).length : Nat) : Int) - 1 = 0)) = true by rw [decide_eq_false (by omega)]; rfl) ?_ | refine SChk.ix (by rw [hidx]; omega) (by rw [hidx]; omega) ?_ | refine SIf.tt (show (!o.lost) = true by rw [hlo]; rfl) ?_ | refine SCall.app (hel2 _) ?_ | refine SCall.app (htk _) ?_ | refine SEx.of (hgetJ) ?_ | refine SEx.of (t7 _ _ _ _ _ _ _ _) ?_ | refine SEx.of (t6 _ _ _ _ _ _ _ _) ?_ | refine yf rfl ?_ | refine yt rfl ?_ | refine yo rfl ?_ | refine yc rfl ?_ | refine ys rfl ?_ | refine ye rfl ?_ | refine yn rfl ?_ | refine zw ?_ | refine zdt ?_ | refine zdf ?_ | refine znt ?_ | refine znf ?_ | refine zcd ?_ | refine zci ?_ | refine zc3 ?_) <;> (conv => whnf)))
          intro v5 h5 fr5 ρ5 hf5 _ _ hw5
          have hcc := fun (K : V → Heap → Prop) hK => rw_cache (K := K) hG hw5 hK
          have hcr := fun (K : V → Heap → Prop) hK => rw_crev (K := K) hG hw5 hK
          have hws := (hw5.was _ rfl).2
          have hfd := wasM_find (all) (Rn) ρ5
          have hall := hw5.all
          have hcl := fun (K : V → Heap → Prop) hK => rw_callC (K := K) hG hS hw5 (by first | omega | (unfold evW; simp; omega)) hK
          have hlen := atR_len (all) ρ5
          have hla : (all).length ≤ 5 * (i + 1) := by first | omega | (unfold evW; simp; omega)
          rcases hw5.rho with hρ | ⟨hρ0, hρR⟩
          · subst hρ
            rw [if_neg (by omega)] at hfd
            have hkn : knows (all) (-1) = [] := if_neg (by decide)
            rw [hkn] at hcl
            ((conv => whnf); repeat ((first | refine SCall.app (hcc _) ?_ | refine SCall.app (hcr _) ?_ | refine SOpt.no hfd ?_ | refine SIf.df (show ¬ (-1 : Int) ≥ 0 by decide) ?_ | refine SIf.dt (show (-1 : Int) < 0 by decide) ?_ | refine SCall.app (hcl _) ?_ | refine SEx.of (hws) ?_ | refine yf rfl ?_ | refine yt rfl ?_ | refine yo rfl ?_ | refine yc rfl ?_ | refine ys rfl ?_ | refine ye rfl ?_ | refine yn rfl ?_ | refine zw ?_ | refine zdt ?_ | refine zdf ?_ | refine znt ?_ | refine znf ?_ | refine zcd ?_ | refine zci ?_ | refine zc3 ?_) <;> (conv => whnf)))
            intro h9 hw9
            ((conv => whnf); repeat ((first | refine SWrap.w64 (by omega) (by omega) ?_ | refine yf rfl ?_ | refine yt rfl ?_ | refine yo rfl ?_ | refine yc rfl ?_ | refine ys rfl ?_ | refine ye rfl ?_ | refine yn rfl ?_ | refine zw ?_ | refine zdt ?_ | refine zdf ?_ | refine znt ?_ | refine znf ?_ | refine zcd ?_ | refine zci ?_ | refine zc3 ?_) <;> (conv => whnf)))
            exact hR1 (ops.length - (i + 1)) _ _ (by omega) ⟨i + 1, h9, _, _, Rn, id + 1, now + d, fr5, now + d, false, k3, _, .sl (some (.l (lo.next + 1 + 1 + 1 + 1))) 7 (rows.map anR ++ [([.i .i64 3, .i .i64 k3.id, .i .i64 k3.kind, .i .i64 err, .i .i64 (Rn : Int), .sl none 3 (es.map enR), .sl none 4 (xs.map evR)] : List V)]), (rows ++ [an]), by omega, by omega, rfl, hw9, hla, by omega, by omega, by omega, by omega, by omega, .inr ⟨by simp, lo.next + 1 + 1 + 1 + 1, by rw [← hrowT], Nat.lt_succ_self _, Heap.get_push_self _ _⟩, by first | omega | (simp; done) | (simp; omega), hridn, (by repeat (first | exact Fr.le_nil | refine Fr.le_cons rfl ?_)), rfl⟩
          · rw [if_pos ⟨hρ0, by omega⟩] at hfd
            have hkn : knows (all) ρ5 = atR (all) ρ5 := if_pos hρ0
            rw [hkn] at hcl
            by_cases hz : ρ5 = 0
            · subst hz
              have hfd1 : mfind (wasM (all) (Rn)) (.i .i64 0) = some .nils := hfd
              rw [atR_zero hall] at hcl
              ((conv => whnf); repeat ((first | refine SCall.app (hcc _) ?_ | refine SCall.app (hcr _) ?_ | refine SOpt.of hfd1 ?_ | refine SIf.dt (show (0 : Int) ≥ 0 by decide) ?_ | refine SCall.app (hcl _) ?_ | refine SEx.of (hws) ?_ | refine yf rfl ?_ | refine yt rfl ?_ | refine yo rfl ?_ | refine yc rfl ?_ | refine ys rfl ?_ | refine ye rfl ?_ | refine yn rfl ?_ | refine zw ?_ | refine zdt ?_ | refine zdf ?_ | refine znt ?_ | refine znf ?_ | refine zcd ?_ | refine zci ?_ | refine zc3 ?_) <;> (conv => whnf)))
              intro h9 hw9
              have heq := fun (K : V → Heap → Prop) hK => eqEns_at (K := K) hG (h := h9) (lv := .sl none 3 []) (lw := .nils) (L := []) (.inr rfl) (.inl ⟨rfl, rfl⟩) (by simp) hK
              have hcr9 := fun (K : V → Heap → Prop) hK => rw_crev (K := K) hG hw9 hK
              ((conv => whnf); repeat ((first | refine SCall.app (heq _) ?_ | refine SCall.app (hcr9 _) ?_ | refine SWrap.w64 (by omega) (by omega) ?_ | refine yf rfl ?_ | refine yt rfl ?_ | refine yo rfl ?_ | refine yc rfl ?_ | refine ys rfl ?_ | refine ye rfl ?_ | refine yn rfl ?_ | refine zw ?_ | refine zdt ?_ | refine zdf ?_ | refine znt ?_ | refine znf ?_ | refine zcd ?_ | refine zci ?_ | refine zc3 ?_) <;> (conv => whnf)))
              exact hR1 (ops.length - (i + 1)) _ _ (by omega) ⟨i + 1, h9, _, _, Rn, id + 1, now + d, fr5, now + d, false, k3, _, .sl (some (.l (lo.next + 1 + 1 + 1 + 1))) 7 (rows.map anR ++ [([.i .i64 3, .i .i64 k3.id, .i .i64 k3.kind, .i .i64 err, .i .i64 (Rn : Int), .sl none 3 (es.map enR), .sl none 4 (xs.map evR)] : List V)]), (rows ++ [an]), by omega, by omega, rfl, hw9, hla, by omega, by omega, by omega, by omega, by omega, .inr ⟨by simp, lo.next + 1 + 1 + 1 + 1, by rw [← hrowT], Nat.lt_succ_self _, Heap.get_push_self _ _⟩, by first | omega | (simp; done) | (simp; omega), hridn, (by repeat (first | exact Fr.le_nil | refine Fr.le_cons rfl ?_)), rfl⟩
            · rw [wasV_rows _ hρ0 hz] at hfd
              ((conv => whnf); repeat ((first | refine SCall.app (hcc _) ?_ | refine SCall.app (hcr _) ?_ | refine SOpt.of hfd ?_ | refine SIf.dt (show ρ5 ≥ 0 from hρ0) ?_ | refine SCall.app (hcl _) ?_ | refine SEx.of (hws) ?_ | refine yf rfl ?_ | refine yt rfl ?_ | refine yo rfl ?_ | refine yc rfl ?_ | refine ys rfl ?_ | refine ye rfl ?_ | refine yn rfl ?_ | refine zw ?_ | refine zdt ?_ | refine zdf ?_ | refine znt ?_ | refine znf ?_ | refine zcd ?_ | refine zci ?_ | refine zc3 ?_) <;> (conv => whnf)))
              intro h9 hw9
              have heq := fun (K : V → Heap → Prop) hK => eqEns_at (K := K) hG (h := h9) (L := atR (all) ρ5) (.inr rfl) (.inr rfl) (by omega) hK
              have hcr9 := fun (K : V → Heap → Prop) hK => rw_crev (K := K) hG hw9 hK
              ((conv => whnf); repeat ((first | refine SCall.app (heq _) ?_ | refine SCall.app (hcr9 _) ?_ | refine SIf.df (show ¬ ρ5 < 0 by omega) ?_ | refine SWrap.w64 (by omega) (by omega) ?_ | refine yf rfl ?_ | refine yt rfl ?_ | refine yo rfl ?_ | refine yc rfl ?_ | refine ys rfl ?_ | refine ye rfl ?_ | refine yn rfl ?_ | refine zw ?_ | refine zdt ?_ | refine zdf ?_ | refine znt ?_ | refine znf ?_ | refine zcd ?_ | refine zci ?_ | refine zc3 ?_) <;> (conv => whnf)))
              exact hR1 (ops.length - (i + 1)) _ _ (by omega) ⟨i + 1, h9, _, _, Rn, id + 1, now + d, fr5, now + d, false, k3, _, .sl (some (.l (lo.next + 1 + 1 + 1 + 1))) 7 (rows.map anR ++ [([.i .i64 3, .i .i64 k3.id, .i .i64 k3.kind, .i .i64 err, .i .i64 (Rn : Int), .sl none 3 (es.map enR), .sl none 4 (xs.map evR)] : List V)]), (rows ++ [an]), by omega, by omega, rfl, hw9, hla, by omega, by omega, by omega, by omega, by omega, .inr ⟨by simp, lo.next + 1 + 1 + 1 + 1, by rw [← hrowT], Nat.lt_succ_self _, Heap.get_push_self _ _⟩, by first | omega | (simp; done) | (simp; omega), hridn, (by repeat (first | exact Fr.le_nil | refine Fr.le_cons rfl ?_)), rfl⟩
        · -- late lost
          ((conv => whnf); repeat ((first | refine SIf.tt hla ?_ | refine SIf.dt (show (1 : Int) < ((rows.map anR ++ [([.i .i64 3, .i .i64 k3.id, .i .i64 k3.kind, .i .i64 err, .i .i64 (Rn : Int), .sl none 3 (es.map enR), .sl none 4 (xs.map evR)] : List V)]).length : Nat) by omega) ?_ | refine SWrap.w64 (by omega) (by omega) ?_ | refine SChk.mk (show (!decide ((((rows.map anR ++ [([.i .i64 3, .i .i64 k3.id, .i .i64 k3.kind, .i .i64 err, .i .i64 (Rn : Int), .sl none 3 (es.map enR), .sl none 4 (xs.map evR)] : List V)]).length : Nat) : Int) - 1 = 0)) = true by rw [decide_eq_false (by omega)]; rfl) ?_ | refine SChk.ix (by rw [hidx]; omega) (by rw [hidx]; omega) ?_ | refine SIf.ff (show (!o.lost) = false by rw [hlo]; rfl) ?_ | refine SCall.app (hel2 _) ?_ | refine SEx.of (hgetJ) ?_ | refine SEx.of (t7 _ _ _ _ _ _ _ _) ?_ | refine SEx.of (t6 _ _ _ _ _ _ _ _) ?_ | refine yf rfl ?_ | refine yt rfl ?_ | refine yo rfl ?_ | refine yc rfl ?_ | refine ys rfl ?_ | refine ye rfl ?_ | refine yn rfl ?_ | refine zw ?_ | refine zdt ?_ | refine zdf ?_ | refine znt ?_ | refine znf ?_ | refine zcd ?_ | refine zci ?_ | refine zc3 ?_) <;> (conv => whnf)))
          have hcc := fun (K : V → Heap → Prop) hK => rw_cache (K := K) hG hw4 hK
          have hcr := fun (K : V → Heap → Prop) hK => rw_crev (K := K) hG hw4 hK
          have hws := (hw4.was _ rfl).2
          have hfd := wasM_find (all) (Rn) ρ
          have hall := hw4.all
          have hcl := fun (K : V → Heap → Prop) hK => rw_callC (K := K) hG hS hw4 (by first | omega | (unfold evW; simp; omega)) hK
          have hlen := atR_len (all) ρ
          have hla : (all).length ≤ 5 * (i + 1) := by first | omega | (unfold evW; simp; omega)
          rcases hw4.rho with hρ | ⟨hρ0, hρR⟩
          · subst hρ
            rw [if_neg (by omega)] at hfd
            have hkn : knows (all) (-1) = [] := if_neg (by decide)
            rw [hkn] at hcl
            ((conv => whnf); repeat ((first | refine SCall.app (hcc _) ?_ | refine SCall.app (hcr _) ?_ | refine SOpt.no hfd ?_ | refine SIf.df (show ¬ (-1 : Int) ≥ 0 by decide) ?_ | refine SIf.dt (show (-1 : Int) < 0 by decide) ?_ | refine SCall.app (hcl _) ?_ | refine SEx.of (hws) ?_ | refine yf rfl ?_ | refine yt rfl ?_ | refine yo rfl ?_ | refine yc rfl ?_ | refine ys rfl ?_ | refine ye rfl ?_ | refine yn rfl ?_ | refine zw ?_ | refine zdt ?_ | refine zdf ?_ | refine znt ?_ | refine znf ?_ | refine zcd ?_ | refine zci ?_ | refine zc3 ?_) <;> (conv => whnf)))
            intro h9 hw9
            ((conv => whnf); repeat ((first | refine SWrap.w64 (by omega) (by omega) ?_ | refine yf rfl ?_ | refine yt rfl ?_ | refine yo rfl ?_ | refine yc rfl ?_ | refine ys rfl ?_ | refine ye rfl ?_ | refine yn rfl ?_ | refine zw ?_ | refine zdt ?_ | refine zdf ?_ | refine znt ?_ | refine znf ?_ | refine zcd ?_ | refine zci ?_ | refine zc3 ?_) <;> (conv => whnf)))
            exact hR1 (ops.length - (i + 1)) _ _ (by omega) ⟨i + 1, h9, _, _, Rn, id + 1, now + d, fresh, now + d, true, k3, _, .sl (some (.l (lo.next + 1 + 1 + 1 + 1))) 7 (rows.map anR ++ [([.i .i64 3, .i .i64 k3.id, .i .i64 k3.kind, .i .i64 err, .i .i64 (Rn : Int), .sl none 3 (es.map enR), .sl none 4 (xs.map evR)] : List V)]), (rows ++ [an]), by omega, by omega, rfl, hw9, hla, by omega, by omega, by omega, by omega, by omega, .inr ⟨by simp, lo.next + 1 + 1 + 1 + 1, by rw [← hrowT], Nat.lt_succ_self _, Heap.get_push_self _ _⟩, by first | omega | (simp; done) | (simp; omega), hridn, (by repeat (first | exact Fr.le_nil | refine Fr.le_cons rfl ?_)), rfl⟩
          · rw [if_pos ⟨hρ0, by omega⟩] at hfd
            have hkn : knows (all) ρ = atR (all) ρ := if_pos hρ0
            rw [hkn] at hcl
            by_cases hz : ρ = 0
            · subst hz
              have hfd1 : mfind (wasM (all) (Rn)) (.i .i64 0) = some .nils := hfd
              rw [atR_zero hall] at hcl
              ((conv => whnf); repeat ((first | refine SCall.app (hcc _) ?_ | refine SCall.app (hcr _) ?_ | refine SOpt.of hfd1 ?_ | refine SIf.dt (show (0 : Int) ≥ 0 by decide) ?_ | refine SCall.app (hcl _) ?_ | refine SEx.of (hws) ?_ | refine yf rfl ?_ | refine yt rfl ?_ | refine yo rfl ?_ | refine yc rfl ?_ | refine ys rfl ?_ | refine ye rfl ?_ | refine yn rfl ?_ | refine zw ?_ | refine zdt ?_ | refine zdf ?_ | refine znt ?_ | refine znf ?_ | refine zcd ?_ | refine zci ?_ | refine zc3 ?_) <;> (conv => whnf)))
              intro h9 hw9
              have heq := fun (K : V → Heap → Prop) hK => eqEns_at (K := K) hG (h := h9) (lv := .sl none 3 []) (lw := .nils) (L := []) (.inr rfl) (.inl ⟨rfl, rfl⟩) (by simp) hK
              have hcr9 := fun (K : V → Heap → Prop) hK => rw_crev (K := K) hG hw9 hK
              ((conv => whnf); repeat ((first | refine SCall.app (heq _) ?_ | refine SCall.app (hcr9 _) ?_ | refine SWrap.w64 (by omega) (by omega) ?_ | refine yf rfl ?_ | refine yt rfl ?_ | refine yo rfl ?_ | refine yc rfl ?_ | refine ys rfl ?_ | refine ye rfl ?_ | refine yn rfl ?_ | refine zw ?_ | refine zdt ?_ | refine zdf ?_ | refine znt ?_ | refine znf ?_ | refine zcd ?_ | refine zci ?_ | refine zc3 ?_) <;> (conv => whnf)))
              exact hR1 (ops.length - (i + 1)) _ _ (by omega) ⟨i + 1, h9, _, _, Rn, id + 1, now + d, fresh, now + d, true, k3, _, .sl (some (.l (lo.next + 1 + 1 + 1 + 1))) 7 (rows.map anR ++ [([.i .i64 3, .i .i64 k3.id, .i .i64 k3.kind, .i .i64 err, .i .i64 (Rn : Int), .sl none 3 (es.map enR), .sl none 4 (xs.map evR)] : List V)]), (rows ++ [an]), by omega, by omega, rfl, hw9, hla, by omega, by omega, by omega, by omega, by omega, .inr ⟨by simp, lo.next + 1 + 1 + 1 + 1, by rw [← hrowT], Nat.lt_succ_self _, Heap.get_push_self _ _⟩, by first | omega | (simp; done) | (simp; omega), hridn, (by repeat (first | exact Fr.le_nil | refine Fr.le_cons rfl ?_)), rfl⟩
            · rw [wasV_rows _ hρ0 hz] at hfd
              ((conv => whnf); repeat ((first | refine SCall.app (hcc _) ?_ | refine SCall.app (hcr _) ?_ | refine SOpt.of hfd ?_ | refine SIf.dt (show ρ ≥ 0 from hρ0) ?_ | refine SCall.app (hcl _) ?_ | refine SEx.of (hws) ?_ | refine yf rfl ?_ | refine yt rfl ?_ | refine yo rfl ?_ | refine yc rfl ?_ | refine ys rfl ?_ | refine ye rfl ?_ | refine yn rfl ?_ | refine zw ?_ | refine zdt ?_ | refine zdf ?_ | refine znt ?_ | refine znf ?_ | refine zcd ?_ | refine zci ?_ | refine zc3 ?_) <;> (conv => whnf)))
              intro h9 hw9
              have heq := fun (K : V → Heap → Prop) hK => eqEns_at (K := K) hG (h := h9) (L := atR (all) ρ) (.inr rfl) (.inr rfl) (by omega) hK
              have hcr9 := fun (K : V → Heap → Prop) hK => rw_crev (K := K) hG hw9 hK
              ((conv => whnf); repeat ((first | refine SCall.app (heq _) ?_ | refine SCall.app (hcr9 _) ?_ | refine SIf.df (show ¬ ρ < 0 by omega) ?_ | refine SWrap.w64 (by omega) (by omega) ?_ | refine yf rfl ?_ | refine yt rfl ?_ | refine yo rfl ?_ | refine yc rfl ?_ | refine ys rfl ?_ | refine ye rfl ?_ | refine yn rfl ?_ | refine zw ?_ | refine zdt ?_ | refine zdf ?_ | refine znt ?_ | refine znf ?_ | refine zcd ?_ | refine zci ?_ | refine zc3 ?_) <;> (conv => whnf)))
              exact hR1 (ops.length - (i + 1)) _ _ (by omega) ⟨i + 1, h9, _, _, Rn, id + 1, now + d, fresh, now + d, true, k3, _, .sl (some (.l (lo.next + 1 + 1 + 1 + 1))) 7 (rows.map anR ++ [([.i .i64 3, .i .i64 k3.id, .i .i64 k3.kind, .i .i64 err, .i .i64 (Rn : Int), .sl none 3 (es.map enR), .sl none 4 (xs.map evR)] : List V)]), (rows ++ [an]), by omega, by omega, rfl, hw9, hla, by omega, by omega, by omega, by omega, by omega, .inr ⟨by simp, lo.next + 1 + 1 + 1 + 1, by rw [← hrowT], Nat.lt_succ_self _, Heap.get_push_self _ _⟩, by first | omega | (simp; done) | (simp; omega), hridn, (by repeat (first | exact Fr.le_nil | refine Fr.le_cons rfl ?_)), rfl⟩
end
end Go.Eng
