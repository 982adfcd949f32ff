/-
FeasLess, as the abstract run has it.
-/
import Derived.Test.YtabnhgnnolfpgaaGreatLaw0
import Derived.Test.YtabnhgnnolfpgaaGreatFitW3
set_option linter.unusedVariables false
set_option linter.unusedSimpArgs false
namespace Go.Eng
open Go
theorem CutOf.small {s w : StD} (h : CutOf s w) : Small w := fun n hn => by
  have := h.nodes.sub n hn
  omega
def mkP (p : PodD) (T : List TolD) : PodD := ⟨p.name, p.uid, p.prio, p.req, p.ports, p.labels, p.sel, T, p.topo, p.anti, p.skew, p.even, p.node, p.term⟩
/-- A pod that asks for less. -/
def lessD (p : PodD) (r : ResD) : PodD := ⟨p.name, p.uid, p.prio, ⟨maxI 0 (minI p.req.a r.a), maxI 0 (minI p.req.b r.b), maxI 0 (minI p.req.c r.c)⟩, [], p.labels, [], p.tols ++ [⟨[], [], true⟩], p.topo, [], 0, p.even, p.node, p.term⟩
theorem clip_le {x y : Int} (h : 0 ≤ x) : 0 ≤ maxI 0 (minI x y) ∧ maxI 0 (minI x y) ≤ x := by unfold maxI minI; split <;> split <;> omega
theorem less_feas {s : StD} {p : PodD} {r : ResD} {node : Str} (h : feasD s p node = true) : feasD s (lessD p r) node = true := by
  unfold feasD at h ⊢
  cases hf : s.nodes.find? (fun n => n.name == node) with
  | none => rw [hf] at h; cases h
  | some n =>
    rw [hf] at h
    dsimp only at h ⊢
    simp only [eachD, Bool.and_eq_true] at h ⊢
    obtain ⟨h0, h1, h2, h3, h4, h5, h6⟩ := h
    refine ⟨h0, ?_, ?_, rfl, ?_, ?_, rfl⟩
    · unfold roomD at h1 ⊢
      cases hu : usedD s n.name with
      | none => rw [hu] at h1; cases h1
      | some u =>
        rw [hu] at h1
        dsimp only at h1 ⊢
        cases ha : addD u p.req with
        | none => rw [ha] at h1; cases h1
        | some t =>
          rw [ha] at h1
          obtain ⟨g1, rfl⟩ := addD_some ha
          have ca := clip_le (y := r.a) g1.1.2.1
          have cb := clip_le (y := r.b) g1.2.1.2.1
          have cc := clip_le (y := r.c) g1.2.2.2.1
          have hq : (lessD p r).req = ⟨maxI 0 (minI p.req.a r.a), maxI 0 (minI p.req.b r.b), maxI 0 (minI p.req.c r.c)⟩ := rfl
          rw [hq]
          generalize maxI 0 (minI p.req.a r.a) = za at ca
          generalize maxI 0 (minI p.req.b r.b) = zb at cb
          generalize maxI 0 (minI p.req.c r.c) = zc at cc
          rw [addD_t (by dsimp only; omega)]
          simp only [fitsD, Bool.and_eq_true, decide_eq_true_eq] at h1 ⊢
          omega
    · unfold portsD lessD
      simp
    · unfold borneD lessD allD
      rw [List.all_eq_true]
      intro x _
      rw [List.any_eq_true]
      exact ⟨⟨[], [], true⟩, by simp, by simp [bearsD]⟩
    · unfold apartD at h5 ⊢
      rw [Bool.and_eq_true, Bool.not_eq_true', Bool.not_eq_true'] at h5 ⊢
      refine ⟨rfl, ?_⟩
      rw [List.any_eq_false] at h5 ⊢
      intro q hq hb
      refine h5.2 q hq ?_
      have e1 : keepsD s (lessD p r) q q.node node = false := rfl
      have e2 : keepsD s q (lessD p r) q.node node = keepsD s q p q.node node := rfl
      have e3 : (lessD p r).name = p.name := rfl
      unfold badD at hb ⊢
      rw [e1, e2, e3, Bool.false_or] at hb
      rw [Bool.and_eq_true] at hb ⊢
      exact ⟨hb.1, by rw [hb.2, Bool.or_true]⟩
section
variable {P : Program} (hG : FnsOk P AF.fns.get)
include hG
set_option maxHeartbeats 8000000 in
set_option maxRecDepth 10000 in
theorem feasLess_aux (hb : ACall P 10 [] noG (fun r _ => r = .b true)) (hcmp : ∀ (a b : Str) (h : Heap) (K : V → Heap → Prop), K (.i .i64 (cmpB a b)) h → ACall P 111 [.s a, .s b] h K) (s : StD) (p : PodD) (r : ResD) (T : List TolD) (hs : s.arg) (hp : (mkP p T).fit) (hqf : (lessD (mkP p T) r).fit) (htl : T.length * 40 + 40 ≤ 140737488355328) :
    ACall P 8 [stV s, .agg (podR (mkP p T)), .agg (resR r)] noG (fun r _ => r = .b true) := by
  have hlm : (T.map tolR).length = T.length := List.length_map _
  have hint : T.map tolR ++ [tolR ⟨[], [], true⟩] = (T ++ [(⟨[], [], true⟩ : TolD)]).map tolR := by rw [List.map_append]; rfl
  refine fn_sz (hG _ AF.f8 rfl) rfl ?_
  ((conv => whnf); repeat ((first | refine yf rfl ?_ | refine yt rfl ?_ | refine yo rfl ?_ | refine yc rfl ?_ | refine ys rfl ?_ | refine ye rfl ?_ | refine yn rfl ?_ | refine zw ?_ | refine zdt ?_ | refine zdf ?_ | refine znt ?_ | refine znf ?_ | refine zcd ?_ | refine zci ?_ | refine zc3 ?_) <;> (conv => whnf)))
  refine ⟨hb.frame rfl fun v h' hv => ?_⟩
  subst hv
  refine ⟨rfl, ?_⟩
  ((conv => whnf); repeat ((first | refine yf rfl ?_ | refine yt rfl ?_ | refine yo rfl ?_ | refine yc rfl ?_ | refine ys rfl ?_ | refine ye rfl ?_ | refine yn rfl ?_ | refine zw ?_ | refine zdt ?_ | refine zdf ?_ | refine znt ?_ | refine znf ?_ | refine zcd ?_ | refine zci ?_ | refine zc3 ?_) <;> (conv => whnf)))
  refine SCall.mk (Pure.state (hs.cut hG) rfl fun w hw => ?_)
  have hwo := hw.ok hs
  have hsm := hw.small
  have a1 := where_ok hG hcmp w (mkP p T) hwo hp hsm hw.nodes.len hw.nodes.so
  have hwh : ∀ x ∈ whereD w (mkP p T), feasD w (lessD (mkP p T) r) x = true := fun x hx => less_feas (where_mem hx)
  have hwl : (whereD w (mkP p T)).length ≤ 6 := by
    rw [whereD, List.length_map]
    exact Nat.le_trans (List.length_filter_le _ _) hw.nodes.len
  generalize whereD w (mkP p T) = l at a1 hwh hwl
  have hlm2 : (l.map strR).length = l.length := List.length_map _
  cases T with
  | nil =>
    ((conv => whnf); repeat ((first | refine SOpt.of (mn2 (z := minI p.req.a r.a) rfl) ?_ | refine SOpt.of (mx2 (z := maxI 0 (minI p.req.a r.a)) rfl) ?_ | refine SOpt.of (mn2 (z := minI p.req.b r.b) rfl) ?_ | refine SOpt.of (mx2 (z := maxI 0 (minI p.req.b r.b)) rfl) ?_ | refine SOpt.of (mn2 (z := minI p.req.c r.c) rfl) ?_ | refine SOpt.of (mx2 (z := maxI 0 (minI p.req.c r.c)) rfl) ?_ | refine SCall.app (Pure.go a1 rfl) ?_ | refine yf rfl ?_ | refine yt rfl ?_ | refine yo rfl ?_ | refine yc rfl ?_ | refine ys rfl ?_ | refine ye rfl ?_ | refine yn rfl ?_ | refine zw ?_ | refine zdt ?_ | refine zdf ?_ | refine znt ?_ | refine znf ?_ | refine zcd ?_ | refine zci ?_ | refine zc3 ?_) <;> (conv => whnf)))
    refine SLoopZ.un rfl ?_
    ((conv => whnf); repeat ((first | refine SOpt.of (mn2 (z := minI p.req.a r.a) rfl) ?_ | refine SOpt.of (mx2 (z := maxI 0 (minI p.req.a r.a)) rfl) ?_ | refine SOpt.of (mn2 (z := minI p.req.b r.b) rfl) ?_ | refine SOpt.of (mx2 (z := maxI 0 (minI p.req.b r.b)) rfl) ?_ | refine SOpt.of (mn2 (z := minI p.req.c r.c) rfl) ?_ | refine SOpt.of (mx2 (z := maxI 0 (minI p.req.c r.c)) rfl) ?_ | refine SCall.app (Pure.go a1 rfl) ?_ | refine yf rfl ?_ | refine yt rfl ?_ | refine yo rfl ?_ | refine yc rfl ?_ | refine ys rfl ?_ | refine ye rfl ?_ | refine yn rfl ?_ | refine zw ?_ | refine zdt ?_ | refine zdf ?_ | refine znt ?_ | refine znf ?_ | refine zcd ?_ | refine zci ?_ | refine zc3 ?_) <;> (conv => whnf)))
    refine SLoopZ.un rfl ?_
    ((conv => whnf); repeat ((first | refine SOpt.of (mn2 (z := minI p.req.a r.a) rfl) ?_ | refine SOpt.of (mx2 (z := maxI 0 (minI p.req.a r.a)) rfl) ?_ | refine SOpt.of (mn2 (z := minI p.req.b r.b) rfl) ?_ | refine SOpt.of (mx2 (z := maxI 0 (minI p.req.b r.b)) rfl) ?_ | refine SOpt.of (mn2 (z := minI p.req.c r.c) rfl) ?_ | refine SOpt.of (mx2 (z := maxI 0 (minI p.req.c r.c)) rfl) ?_ | refine SCall.app (Pure.go a1 rfl) ?_ | refine yf rfl ?_ | refine yt rfl ?_ | refine yo rfl ?_ | refine yc rfl ?_ | refine ys rfl ?_ | refine ye rfl ?_ | refine yn rfl ?_ | refine zw ?_ | refine zdt ?_ | refine zdf ?_ | refine znt ?_ | refine znf ?_ | refine zcd ?_ | refine zci ?_ | refine zc3 ?_) <;> (conv => whnf)))
    refine SLoopZ.un rfl ?_
    ((conv => whnf); repeat ((first | refine SOpt.of (mn2 (z := minI p.req.a r.a) rfl) ?_ | refine SOpt.of (mx2 (z := maxI 0 (minI p.req.a r.a)) rfl) ?_ | refine SOpt.of (mn2 (z := minI p.req.b r.b) rfl) ?_ | refine SOpt.of (mx2 (z := maxI 0 (minI p.req.b r.b)) rfl) ?_ | refine SOpt.of (mn2 (z := minI p.req.c r.c) rfl) ?_ | refine SOpt.of (mx2 (z := maxI 0 (minI p.req.c r.c)) rfl) ?_ | refine SCall.app (Pure.go a1 rfl) ?_ | refine yf rfl ?_ | refine yt rfl ?_ | refine yo rfl ?_ | refine yc rfl ?_ | refine ys rfl ?_ | refine ye rfl ?_ | refine yn rfl ?_ | refine zw ?_ | refine zdt ?_ | refine zdf ?_ | refine znt ?_ | refine znf ?_ | refine zcd ?_ | refine zci ?_ | refine zc3 ?_) <;> (conv => whnf)))
    refine SLoopZ.un rfl ?_
    ((conv => whnf); repeat ((first | refine SOpt.of (mn2 (z := minI p.req.a r.a) rfl) ?_ | refine SOpt.of (mx2 (z := maxI 0 (minI p.req.a r.a)) rfl) ?_ | refine SOpt.of (mn2 (z := minI p.req.b r.b) rfl) ?_ | refine SOpt.of (mx2 (z := maxI 0 (minI p.req.b r.b)) rfl) ?_ | refine SOpt.of (mn2 (z := minI p.req.c r.c) rfl) ?_ | refine SOpt.of (mx2 (z := maxI 0 (minI p.req.c r.c)) rfl) ?_ | refine SCall.app (Pure.go a1 rfl) ?_ | refine yf rfl ?_ | refine yt rfl ?_ | refine yo rfl ?_ | refine yc rfl ?_ | refine ys rfl ?_ | refine ye rfl ?_ | refine yn rfl ?_ | refine zw ?_ | refine zdt ?_ | refine zdf ?_ | refine znt ?_ | refine znf ?_ | refine zcd ?_ | refine zci ?_ | refine zc3 ?_) <;> (conv => whnf)))
    refine SLoopZ.by (fun q fr st => ∃ i : Nat, i ≤ l.length ∧ q = l.length - i ∧
        fr = [(49, .i .i64 i), (48, .i .i64 (l.map strR).length), (47, .sl none 1 (l.map strR)), (8, .p (.l 2) 0), (4, .p (.l 1) 0), (3, .p (.l 0) 0)] ∧
        st = ⟨noG, ⟨3, [(2, .cs (podR (lessD (mkP p ([])) r))), (1, .cs (podR (mkP p ([])))), (0, .cs [.sl none 6 (w.nodes.map nodeR), .sl none 16 (w.pods.map podR)])]⟩⟩)
      l.length ⟨_, _, ?_, 0, Nat.zero_le _, rfl, rfl, rfl⟩ ?_
    · exact tL [0, 1, 3]
    rintro q fr st ⟨i, hi, rfl, rfl, rfl⟩ R hR
    (conv => whnf)
    refine SIf.ds (fun hlt => ?_) (fun hge => ?_)
    · have hi' : i < l.length := by omega
      have he := List.getElem?_eq_getElem hi'
      have hm := List.getElem_mem hi'
      generalize l[i] = e at he hm
      have c1 := feas_ok hG w (lessD (mkP p ([])) r) e hwo hqf hsm
      rw [hwh e hm] at c1
      ((conv => whnf); repeat ((first | refine SEx.of (map_get' (by omega) he) ?_ | refine yf rfl ?_ | refine yt rfl ?_ | refine yo rfl ?_ | refine yc rfl ?_ | refine ys rfl ?_ | refine ye rfl ?_ | refine yn rfl ?_ | refine zw ?_ | refine zdt ?_ | refine zdf ?_ | refine znt ?_ | refine znf ?_ | refine zcd ?_ | refine zci ?_ | refine zc3 ?_) <;> (conv => whnf)))
      refine SCall.mk (Pure.any (rmay_ok hG p.req) rfl fun r hr => ?_)
      cases r
      all_goals ((conv => whnf); repeat ((first | refine SCall.app (Pure.go c1 rfl) ?_ | refine SEx.of (map_get' (by omega) he) ?_ | refine yf rfl ?_ | refine yt rfl ?_ | refine yo rfl ?_ | refine yc rfl ?_ | refine ys rfl ?_ | refine ye rfl ?_ | refine yn rfl ?_ | refine zw ?_ | refine zdt ?_ | refine zdf ?_ | refine znt ?_ | refine znf ?_ | refine zcd ?_ | refine zci ?_ | refine zc3 ?_) <;> (conv => whnf)))
      all_goals
        refine hR (l.length - (i + 1)) _ _ (by omega) ⟨_, _, ?_, i + 1, by omega, rfl, rfl, rfl⟩
        exact tL [0, 1, 2]
    · ((conv => whnf); repeat ((first | refine yf rfl ?_ | refine yt rfl ?_ | refine yo rfl ?_ | refine yc rfl ?_ | refine ys rfl ?_ | refine ye rfl ?_ | refine yn rfl ?_ | refine zw ?_ | refine zdt ?_ | refine zdf ?_ | refine znt ?_ | refine znf ?_ | refine zcd ?_ | refine zci ?_ | refine zc3 ?_) <;> (conv => whnf)))
  | cons t0 tr =>
    have hroom1 : roomOk ((t0 :: tr).map tolR).length 40 = true := by
      rw [roomOk, List.length_map]
      exact decide_eq_true (by omega)
    have hroom2 : roomOk (((t0 :: tr).map tolR).length + [tolR (⟨[], [], true⟩ : TolD)].length) 40 = true := by
      rw [roomOk, List.length_map]
      refine decide_eq_true ?_
      show ((t0 :: tr).length + 1) * 40 ≤ _
      omega
    ((conv => whnf); repeat ((first | refine SOpt.of (mn2 (z := minI p.req.a r.a) rfl) ?_ | refine SOpt.of (mx2 (z := maxI 0 (minI p.req.a r.a)) rfl) ?_ | refine SOpt.of (mn2 (z := minI p.req.b r.b) rfl) ?_ | refine SOpt.of (mx2 (z := maxI 0 (minI p.req.b r.b)) rfl) ?_ | refine SOpt.of (mn2 (z := minI p.req.c r.c) rfl) ?_ | refine SOpt.of (mx2 (z := maxI 0 (minI p.req.c r.c)) rfl) ?_ | refine SEx.of (deep_map (R := tolR) (fun _ => rfl) (t0 :: tr)) ?_ | refine SEx.of (congrArg some hint) ?_ | refine SChk.mk hroom1 ?_ | refine SChk.mk hroom2 ?_ | refine SCall.app (Pure.go a1 rfl) ?_ | refine yf rfl ?_ | refine yt rfl ?_ | refine yo rfl ?_ | refine yc rfl ?_ | refine ys rfl ?_ | refine ye rfl ?_ | refine yn rfl ?_ | refine zw ?_ | refine zdt ?_ | refine zdf ?_ | refine znt ?_ | refine znf ?_ | refine zcd ?_ | refine zci ?_ | refine zc3 ?_) <;> (conv => whnf)))
    refine SLoopZ.un rfl ?_
    ((conv => whnf); repeat ((first | refine SOpt.of (mn2 (z := minI p.req.a r.a) rfl) ?_ | refine SOpt.of (mx2 (z := maxI 0 (minI p.req.a r.a)) rfl) ?_ | refine SOpt.of (mn2 (z := minI p.req.b r.b) rfl) ?_ | refine SOpt.of (mx2 (z := maxI 0 (minI p.req.b r.b)) rfl) ?_ | refine SOpt.of (mn2 (z := minI p.req.c r.c) rfl) ?_ | refine SOpt.of (mx2 (z := maxI 0 (minI p.req.c r.c)) rfl) ?_ | refine SEx.of (deep_map (R := tolR) (fun _ => rfl) (t0 :: tr)) ?_ | refine SEx.of (congrArg some hint) ?_ | refine SChk.mk hroom1 ?_ | refine SChk.mk hroom2 ?_ | refine SCall.app (Pure.go a1 rfl) ?_ | refine yf rfl ?_ | refine yt rfl ?_ | refine yo rfl ?_ | refine yc rfl ?_ | refine ys rfl ?_ | refine ye rfl ?_ | refine yn rfl ?_ | refine zw ?_ | refine zdt ?_ | refine zdf ?_ | refine znt ?_ | refine znf ?_ | refine zcd ?_ | refine zci ?_ | refine zc3 ?_) <;> (conv => whnf)))
    refine SLoopZ.un rfl ?_
    ((conv => whnf); repeat ((first | refine SOpt.of (mn2 (z := minI p.req.a r.a) rfl) ?_ | refine SOpt.of (mx2 (z := maxI 0 (minI p.req.a r.a)) rfl) ?_ | refine SOpt.of (mn2 (z := minI p.req.b r.b) rfl) ?_ | refine SOpt.of (mx2 (z := maxI 0 (minI p.req.b r.b)) rfl) ?_ | refine SOpt.of (mn2 (z := minI p.req.c r.c) rfl) ?_ | refine SOpt.of (mx2 (z := maxI 0 (minI p.req.c r.c)) rfl) ?_ | refine SEx.of (deep_map (R := tolR) (fun _ => rfl) (t0 :: tr)) ?_ | refine SEx.of (congrArg some hint) ?_ | refine SChk.mk hroom1 ?_ | refine SChk.mk hroom2 ?_ | refine SCall.app (Pure.go a1 rfl) ?_ | refine yf rfl ?_ | refine yt rfl ?_ | refine yo rfl ?_ | refine yc rfl ?_ | refine ys rfl ?_ | refine ye rfl ?_ | refine yn rfl ?_ | refine zw ?_ | refine zdt ?_ | refine zdf ?_ | refine znt ?_ | refine znf ?_ | refine zcd ?_ | refine zci ?_ | refine zc3 ?_) <;> (conv => whnf)))
    refine SLoopZ.un rfl ?_
    ((conv => whnf); repeat ((first | refine SOpt.of (mn2 (z := minI p.req.a r.a) rfl) ?_ | refine SOpt.of (mx2 (z := maxI 0 (minI p.req.a r.a)) rfl) ?_ | refine SOpt.of (mn2 (z := minI p.req.b r.b) rfl) ?_ | refine SOpt.of (mx2 (z := maxI 0 (minI p.req.b r.b)) rfl) ?_ | refine SOpt.of (mn2 (z := minI p.req.c r.c) rfl) ?_ | refine SOpt.of (mx2 (z := maxI 0 (minI p.req.c r.c)) rfl) ?_ | refine SEx.of (deep_map (R := tolR) (fun _ => rfl) (t0 :: tr)) ?_ | refine SEx.of (congrArg some hint) ?_ | refine SChk.mk hroom1 ?_ | refine SChk.mk hroom2 ?_ | refine SCall.app (Pure.go a1 rfl) ?_ | refine yf rfl ?_ | refine yt rfl ?_ | refine yo rfl ?_ | refine yc rfl ?_ | refine ys rfl ?_ | refine ye rfl ?_ | refine yn rfl ?_ | refine zw ?_ | refine zdt ?_ | refine zdf ?_ | refine znt ?_ | refine znf ?_ | refine zcd ?_ | refine zci ?_ | refine zc3 ?_) <;> (conv => whnf)))
    refine SLoopZ.un rfl ?_
    ((conv => whnf); repeat ((first | refine SOpt.of (mn2 (z := minI p.req.a r.a) rfl) ?_ | refine SOpt.of (mx2 (z := maxI 0 (minI p.req.a r.a)) rfl) ?_ | refine SOpt.of (mn2 (z := minI p.req.b r.b) rfl) ?_ | refine SOpt.of (mx2 (z := maxI 0 (minI p.req.b r.b)) rfl) ?_ | refine SOpt.of (mn2 (z := minI p.req.c r.c) rfl) ?_ | refine SOpt.of (mx2 (z := maxI 0 (minI p.req.c r.c)) rfl) ?_ | refine SEx.of (deep_map (R := tolR) (fun _ => rfl) (t0 :: tr)) ?_ | refine SEx.of (congrArg some hint) ?_ | refine SChk.mk hroom1 ?_ | refine SChk.mk hroom2 ?_ | refine SCall.app (Pure.go a1 rfl) ?_ | refine yf rfl ?_ | refine yt rfl ?_ | refine yo rfl ?_ | refine yc rfl ?_ | refine ys rfl ?_ | refine ye rfl ?_ | refine yn rfl ?_ | refine zw ?_ | refine zdt ?_ | refine zdf ?_ | refine znt ?_ | refine znf ?_ | refine zcd ?_ | refine zci ?_ | refine zc3 ?_) <;> (conv => whnf)))
    refine SLoopZ.by (fun q fr st => ∃ i : Nat, i ≤ l.length ∧ q = l.length - i ∧
        fr = [(49, .i .i64 i), (48, .i .i64 (l.map strR).length), (47, .sl none 1 (l.map strR)), (8, .p (.l 2) 0), (4, .p (.l 1) 0), (3, .p (.l 0) 0)] ∧
        st = ⟨noG, ⟨3, [(2, .cs (podR (lessD (mkP p (t0 :: tr)) r))), (1, .cs (podR (mkP p (t0 :: tr)))), (0, .cs [.sl none 6 (w.nodes.map nodeR), .sl none 16 (w.pods.map podR)])]⟩⟩)
      l.length ⟨_, _, ?_, 0, Nat.zero_le _, rfl, rfl, rfl⟩ ?_
    · exact tL [0, 1, 3]
    rintro q fr st ⟨i, hi, rfl, rfl, rfl⟩ R hR
    (conv => whnf)
    refine SIf.ds (fun hlt => ?_) (fun hge => ?_)
    · have hi' : i < l.length := by omega
      have he := List.getElem?_eq_getElem hi'
      have hm := List.getElem_mem hi'
      generalize l[i] = e at he hm
      have c1 := feas_ok hG w (lessD (mkP p (t0 :: tr)) r) e hwo hqf hsm
      rw [hwh e hm] at c1
      ((conv => whnf); repeat ((first | refine SEx.of (map_get' (by omega) he) ?_ | refine yf rfl ?_ | refine yt rfl ?_ | refine yo rfl ?_ | refine yc rfl ?_ | refine ys rfl ?_ | refine ye rfl ?_ | refine yn rfl ?_ | refine zw ?_ | refine zdt ?_ | refine zdf ?_ | refine znt ?_ | refine znf ?_ | refine zcd ?_ | refine zci ?_ | refine zc3 ?_) <;> (conv => whnf)))
      refine SCall.mk (Pure.any (rmay_ok hG p.req) rfl fun r hr => ?_)
      cases r
      all_goals ((conv => whnf); repeat ((first | refine SCall.app (Pure.go c1 rfl) ?_ | refine SEx.of (map_get' (by omega) he) ?_ | refine yf rfl ?_ | refine yt rfl ?_ | refine yo rfl ?_ | refine yc rfl ?_ | refine ys rfl ?_ | refine ye rfl ?_ | refine yn rfl ?_ | refine zw ?_ | refine zdt ?_ | refine zdf ?_ | refine znt ?_ | refine znf ?_ | refine zcd ?_ | refine zci ?_ | refine zc3 ?_) <;> (conv => whnf)))
      all_goals
        refine hR (l.length - (i + 1)) _ _ (by omega) ⟨_, _, ?_, i + 1, by omega, rfl, rfl, rfl⟩
        exact tL [0, 1, 2]
    · ((conv => whnf); repeat ((first | refine yf rfl ?_ | refine yt rfl ?_ | refine yo rfl ?_ | refine yc rfl ?_ | refine ys rfl ?_ | refine ye rfl ?_ | refine yn rfl ?_ | refine zw ?_ | refine zdt ?_ | refine zdf ?_ | refine znt ?_ | refine znf ?_ | refine zcd ?_ | refine zci ?_ | refine zc3 ?_) <;> (conv => whnf)))
theorem feasLess_ok (hb : ACall P 10 [] noG (fun r _ => r = .b true)) (hcmp : ∀ (a b : Str) (h : Heap) (K : V → Heap → Prop), K (.i .i64 (cmpB a b)) h → ACall P 111 [.s a, .s b] h K) (s : StD) (p : PodD) (r : ResD) (hs : s.arg) (hp : p.fit ∧ p.sok) (hr : r.ok) (htl : p.tols.length * 40 + 40 ≤ 140737488355328) :
    ACall P 8 [stV s, .agg (podR p), .agg (resR r)] noG (fun r _ => r = .b true) := by
  have hpo := hp.1.toOk
  refine feasLess_aux hG hb hcmp s p r p.tols hs hp.1 ?_ htl
  have c64 : ∀ {x y : Int}, in64 x → in64 y → in64 (maxI 0 (minI x y)) := fun hx hy => by
    unfold in64 maxI minI at *
    split <;> split <;> omega
  obtain ⟨q1, q2, q3⟩ := hp.1.req
  obtain ⟨r1, r2, r3⟩ := hr
  have z0 : ∀ {α : Type}, LenOk ([] : List α) := Nat.zero_le _
  have zt : TermsOk [] := ⟨z0, fun _ h => by cases h⟩
  refine ⟨⟨z0, hpo.labels, ?_, zt, zt, hpo.even⟩, c64 q1 r1, c64 q2 r2, c64 q3 r3⟩
  show (p.tols ++ [_]).length ≤ 9223372036854775807
  rw [List.length_append]
  simp
  omega
end
end Go.Eng
