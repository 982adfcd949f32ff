/-
PlanFirst: where a pod may go as it is nobody goes for it.
-/
import Derived.Test.YtllgfkpmblhbmaaGreatEvT
import Derived.Test.YtllgfkpmblhbmaaGreatSc4q
import Derived.Test.YtllgfkpmblhbmaaGreatAfP
set_option linter.unusedVariables false
set_option linter.unusedSimpArgs false
namespace Go.Eng
open Go
theorem step_vict {s : StD} {p : PodD} {b : BestV} {n : NodeD} (h : ∀ d, b = some d → victD s p d.1 = some d.2.1) : ∀ d, bestStep s p b n = some d → victD s p d.1 = some d.2.1 := by
  intro d hd
  unfold bestStep at hd
  cases hv : victD s p n.name with
  | none => rw [hv] at hd; exact h d hd
  | some l =>
    rw [hv] at hd
    cases b with
    | none => cases hd; exact hv
    | some e =>
      dsimp only at hd
      split at hd
      · cases hd; exact hv
      · exact h d hd
theorem fold_vict {s : StD} {p : PodD} : ∀ (N : List NodeD) (b : BestV), (∀ d, b = some d → victD s p d.1 = some d.2.1) → ∀ d, N.foldl (bestStep s p) b = some d → victD s p d.1 = some d.2.1
  | [], _, h => h
  | n :: r, b, h => by
    rw [List.foldl_cons]
    exact fold_vict r _ (step_vict h)
theorem evict_vict {s : StD} {p : PodD} {d : Str × List Str × (Int × Int × Int)} (h : evictD s p = some d) : victD s p d.1 = some d.2.1 := fold_vict s.nodes none (fun d hd => by cases hd) d h
theorem feas_node {s : StD} {p : PodD} {x : Str} (h : feasD s p x = true) : p.node = [] := by
  unfold feasD at h
  cases hf : s.nodes.find? (fun n => n.name == x) with
  | none => rw [hf] at h; cases h
  | some n =>
    rw [hf] at h
    dsimp only at h
    simp only [eachD, Bool.and_eq_true] at h
    simpa using h.1
theorem best_where {s : StD} {p : PodD} {pack : Bool} : (whereD s p = [] → decide ((bestD s p pack).1 ≥ 0) = false) ∧ (whereD s p ≠ [] → decide ((bestD s p pack).1 ≥ 0) = true ∧ (bestD s p pack).2 ∈ whereD s p) := by
  constructor
  · intro h
    unfold bestD
    rw [h]
    rfl
  · intro h
    cases hw : whereD s p with
    | nil => exact absurd hw h
    | cons x r =>
      have hx : x ∈ whereD s p := by rw [hw]; exact .head _
      have h1 := (score_in (pack := pack) (where_mem hx)).1
      have h2 := (best_ge (s := s) (p := p) (pack := pack) (L := whereD s p) (b := -1) (a := [])).2 x hx
      have h3 := best_of (s := s) (p := p) (pack := pack) (L := whereD s p) (b := -1) (a := [])
      rw [hw] at h2 h3
      unfold bestD
      rw [hw]
      have h4 : 0 ≤ (bestGo s p pack (x :: r) (-1) []).1 := by omega
      refine ⟨decide_eq_true h4, ?_⟩
      rcases h3 with h3 | ⟨h3, _⟩
      · rw [h3] at h4
        exact absurd h4 (by decide)
      · exact h3
section
variable {P : Program} (hG : FnsOk P AF.fns.get)
include hG
theorem plan_ok (s : StD) (p : PodD) (pack : Bool) (n : Str) (x : Bool) (E : BestV) (h1 : Pure P 22 [stV s, .agg (podR p), .b pack] (· = .tup [.s n, .b x])) (h2 : Pure P 12 [stV s, .agg (podR p)] (· = .tup [.agg (doC p.name E), .b E.isSome])) :
    Pure P 21 [stV s, .agg (podR p), .b pack] (· = if x then .tup [.agg [.s p.name, .s n, .sl none 1 []], .b true] else .tup [.agg (doC p.name E), .b E.isSome]) := by
  refine pure_fn (hG _ AF.f21 rfl) rfl ?_
  cases x
  · cases E
    all_goals ((conv => whnf); repeat ((first | refine SCall.app (Pure.go h1 rfl) ?_ | refine SCall.app (Pure.go h2 rfl) ?_ | refine yf rfl ?_ | refine yt rfl ?_ | refine yo rfl ?_ | refine yc rfl ?_ | refine ys rfl ?_ | refine ye rfl ?_ | refine yn rfl ?_ | refine zw ?_ | refine zdt ?_ | refine zdf ?_ | refine znt ?_ | refine znf ?_ | refine zcd ?_ | refine zci ?_ | refine zc3 ?_) <;> (conv => whnf)))
    all_goals exact pure_free rfl rfl
  · ((conv => whnf); repeat ((first | refine SCall.app (Pure.go h1 rfl) ?_ | refine SCall.app (Pure.go h2 rfl) ?_ | refine yf rfl ?_ | refine yt rfl ?_ | refine yo rfl ?_ | refine yc rfl ?_ | refine ys rfl ?_ | refine ye rfl ?_ | refine yn rfl ?_ | refine zw ?_ | refine zdt ?_ | refine zdf ?_ | refine znt ?_ | refine znf ?_ | refine zcd ?_ | refine zci ?_ | refine zc3 ?_) <;> (conv => whnf)))
    exact pure_tup1 (ds := [.s p.name, .s n, .sl none 1 []]) (by ((repeat (first | exact trivial | refine ⟨by first | exact ce_flat rfl | exact .nil | exact .tok | exact .ren rfl (Nat.le_of_ble_eq_true rfl) | exact .rows (by ((repeat (first | exact .nil | refine .cons (by ((repeat (first | exact .nil | refine .cons (by first | exact .refl _ | exact .nil _) ?_)); first | done | fail)) ?_)); first | done | fail)), ?_⟩)); first | done | fail)) rfl rfl
theorem eqDo_ok (pod node : Str) (l : List Str) (hl : l.length ≤ 1000) : Pure P 14 [.agg [.s pod, .s node, .sl none 1 (l.map strR)], .agg [.s pod, .s node, .sl none 1 (l.map strR)]] (· = .b true) := by
  have hlm : (l.map strR).length = l.length := List.length_map _
  have e1 : (!(pod == pod)) = false := by simp
  have e2 : (!(node == node)) = false := by simp
  have e3 : (!decide (((l.map strR).length : Int) = ((l.map strR).length : Int))) = false := by simp
  refine pure_fn (hG _ AF.f14 rfl) rfl ?_
  ((conv => whnf); repeat ((first | refine SIf.ff e1 ?_ | refine SIf.ff e2 ?_ | refine SIf.ff e3 ?_ | refine yf rfl ?_ | refine yt rfl ?_ | refine yo rfl ?_ | refine yc rfl ?_ | refine ys rfl ?_ | refine ye rfl ?_ | refine yn rfl ?_ | refine zw ?_ | refine zdt ?_ | refine zdf ?_ | refine znt ?_ | refine znf ?_ | refine zcd ?_ | refine zci ?_ | refine zc3 ?_) <;> (conv => whnf)))
  refine SLoopZ.by (fun q fr st => ∃ i : Nat, i ≤ l.length ∧ q = l.length - i ∧
      fr = [(30, .i .i64 i), (29, .i .i64 (l.map strR).length), (3, .p (.l 1) 0), (2, .p (.l 0) 0)] ∧
      st = ⟨noG, ⟨2, [(1, .cs [.s pod, .s node, .sl none 1 (l.map strR)]), (0, .cs [.s pod, .s node, .sl none 1 (l.map strR)])]⟩⟩)
    l.length ⟨_, _, ?_, 0, Nat.zero_le _, rfl, rfl, rfl⟩ ?_
  · exact tL [0, 1]
  rintro q fr st ⟨i, hi, rfl, rfl, rfl⟩ R hR
  (conv => whnf)
  refine SIf.ds (fun hlt => ?_) (fun hge => ?_)
  · have hi' : i < l.length := by omega
    have he := List.getElem?_eq_getElem hi'
    generalize l[i] = e at he
    have e4 : (!(e == e)) = false := by simp
    ((conv => whnf); repeat ((first | refine SIf.ff e4 ?_ | refine SEx.of (map_get' (by omega) he) ?_ | refine yf rfl ?_ | refine yt rfl ?_ | refine yo rfl ?_ | refine yc rfl ?_ | refine ys rfl ?_ | refine ye rfl ?_ | refine yn rfl ?_ | refine zw ?_ | refine zdt ?_ | refine zdf ?_ | refine znt ?_ | refine znf ?_ | refine zcd ?_ | refine zci ?_ | refine zc3 ?_) <;> (conv => whnf)))
    refine hR (l.length - (i + 1)) _ _ (by omega) ⟨_, _, ?_, i + 1, by omega, rfl, rfl, rfl⟩
    exact tL [0, 1]
  · ((conv => whnf); repeat ((first | refine yf rfl ?_ | refine yt rfl ?_ | refine yo rfl ?_ | refine yc rfl ?_ | refine ys rfl ?_ | refine ye rfl ?_ | refine yn rfl ?_ | refine zw ?_ | refine zdt ?_ | refine zdf ?_ | refine znt ?_ | refine znf ?_ | refine zcd ?_ | refine zci ?_ | refine zc3 ?_) <;> (conv => whnf)))
    exact pure_free rfl rfl
set_option maxHeartbeats 16000000 in
set_option maxRecDepth 20000 in
theorem planFirst_ok (hk : okFn P 6 AF.pf = true) (hb : ACall P 8 [] noG (fun r _ => r = .b true)) (hcmp : CmpOk P) (hS : SortOk P 49 45)
    (s : StD) (p : PodD) (pack : Bool) (hs : s.arg) (hp : p.fit ∧ p.sok) : ACall P 6 [stV s, .agg (podR p), .b pack] noG (fun r _ => r = .b true) := by
  refine fn_sz hk rfl ?_
  ((conv => whnf); repeat ((first | refine yf rfl ?_ | refine yt rfl ?_ | refine yo rfl ?_ | refine yc rfl ?_ | refine ys rfl ?_ | refine ye rfl ?_ | refine yn rfl ?_ | refine zw ?_ | refine zdt ?_ | refine zdf ?_ | refine znt ?_ | refine znf ?_ | refine zcd ?_ | refine zci ?_ | refine zc3 ?_) <;> (conv => whnf)))
  refine ⟨hb.frame rfl fun v h' hv => ?_⟩
  subst hv
  refine ⟨rfl, ?_⟩
  ((conv => whnf); repeat ((first | refine yf rfl ?_ | refine yt rfl ?_ | refine yo rfl ?_ | refine yc rfl ?_ | refine ys rfl ?_ | refine ye rfl ?_ | refine yn rfl ?_ | refine zw ?_ | refine zdt ?_ | refine zdf ?_ | refine znt ?_ | refine znf ?_ | refine zcd ?_ | refine zci ?_ | refine zc3 ?_) <;> (conv => whnf)))
  refine SCall.mk (Pure.state (hs.cut hG) rfl fun w hw => ?_)
  have hwo := hw.ok hs
  have hsm : Small w := fun n hn => by
    have := hw.nodes.sub n hn
    omega
  have h6 : w.nodes.length ≤ 6 := hw.nodes.len
  have h16 := hw.plen
  have hroom : ∀ q ∈ w.pods, PodRoom q := fun q hq => (hw.pmay q hq).room
  have hnam := hw.pnam
  have hso := hw.nodes.so
  have hwl : (whereD w p).length ≤ 6 := by
    rw [whereD, List.length_map]
    exact Nat.le_trans (List.length_filter_le _ _) h6
  have k1 := best_ok hG w p pack hwl (where_ok hG hcmp w p hwo hp.1 hsm h6 hso) (fun node => score_all hG w p node pack hwo hp.1 hsm hroom)
  have k2 := evbest_ok hG hcmp hS w p hwo hp.1 hsm h6 (by omega) hroom hso
  obtain ⟨b1, b2⟩ := best_where (s := w) (p := p) (pack := pack)
  obtain ⟨c1, c2⟩ := evict_first (p := p) hnam
  have hpn : (!(p.name == p.name)) = false := by simp
  generalize (bestD w p pack).2 = n at k1 b2
  generalize decide ((bestD w p pack).1 ≥ 0) = x at k1 b1 b2
  have k3 := plan_ok hG w p pack n x (evictD w p) k1 k2
  cases hwd : whereD w p with
  | nil =>
    have := b1 hwd
    subst this
    rw [if_neg (by decide)] at k3
    cases hev : evictD w p with
    | none =>
      rw [hev] at k2 k3
      ((conv => whnf); repeat ((first | refine SCall.app (Pure.go k3 rfl) ?_ | refine SCall.app (Pure.go k1 rfl) ?_ | refine SCall.app (Pure.go k2 rfl) ?_ | refine yf rfl ?_ | refine yt rfl ?_ | refine yo rfl ?_ | refine yc rfl ?_ | refine ys rfl ?_ | refine ye rfl ?_ | refine yn rfl ?_ | refine zw ?_ | refine zdt ?_ | refine zdf ?_ | refine znt ?_ | refine znf ?_ | refine zcd ?_ | refine zci ?_ | refine zc3 ?_) <;> (conv => whnf)))
      rfl
    | some d =>
      have hvd := evict_vict hev
      have hll := vict_len hvd
      obtain ⟨hf, _⟩ := vict_some hvd
      have hnd : (!(p.node == ([] : Str))) = false := by rw [feas_node hf]; rfl
      obtain ⟨d1, d2, dc⟩ := d
      rw [hev] at k2 k3
      have k4 := eqDo_ok hG p.name d1 d2 (by dsimp only at hll; omega)
      have k5 := without_ok hG w d2 (by omega) hwo hsm hroom (by unfold LenOk; dsimp only at hll; omega)
      have k6 := feas_ok hG (withoutD w d2) p d1 (hwo.without d2) hp.1 (show Small (withoutD w d2) from hsm)
      rw [show feasD (withoutD w d2) p d1 = true from hf] at k6
      ((conv => whnf); repeat ((first | refine SCall.app (Pure.go k3 rfl) ?_ | refine SCall.app (Pure.go k1 rfl) ?_ | refine SCall.app (Pure.go k2 rfl) ?_ | refine SCall.app (Pure.go k4 rfl) ?_ | refine SCall.app (Pure.go k5 rfl) ?_ | refine SCall.app (Pure.go k6 rfl) ?_ | refine SIf.ff hpn ?_ | refine SIf.ff hnd ?_ | refine yf rfl ?_ | refine yt rfl ?_ | refine yo rfl ?_ | refine yc rfl ?_ | refine ys rfl ?_ | refine ye rfl ?_ | refine yn rfl ?_ | refine zw ?_ | refine zdt ?_ | refine zdf ?_ | refine znt ?_ | refine znf ?_ | refine zcd ?_ | refine zci ?_ | refine zc3 ?_) <;> (conv => whnf)))
  | cons y r =>
    obtain ⟨hx, hn⟩ := b2 (by rw [hwd]; exact List.cons_ne_nil _ _)
    subst hx
    rw [if_pos rfl] at k3
    have hf := where_mem hn
    have hnd : (!(p.node == ([] : Str))) = false := by rw [feas_node hf]; rfl
    rw [c1 y r hwd] at k2
    have k5 := without_ok hG w [] (by omega) hwo hsm hroom (Nat.zero_le _)
    rw [without_nil] at k5
    have k6 := feas_ok hG w p n hwo hp.1 hsm
    rw [hf] at k6
    have hnn : (!(n == n)) = false := by simp
    ((conv => whnf); repeat ((first | refine SCall.app (Pure.go k3 rfl) ?_ | refine SCall.app (Pure.go k1 rfl) ?_ | refine SCall.app (Pure.go k2 rfl) ?_ | refine SCall.app (Pure.go k5 rfl) ?_ | refine SCall.app (Pure.go k6 rfl) ?_ | refine SIf.ff hpn ?_ | refine SIf.ff hnd ?_ | refine SIf.ff hnn ?_ | refine yf rfl ?_ | refine yt rfl ?_ | refine yo rfl ?_ | refine yc rfl ?_ | refine ys rfl ?_ | refine ye rfl ?_ | refine yn rfl ?_ | refine zw ?_ | refine zdt ?_ | refine zdf ?_ | refine znt ?_ | refine znf ?_ | refine zcd ?_ | refine zci ?_ | refine zc3 ?_) <;> (conv => whnf)))
end
end Go.Eng
