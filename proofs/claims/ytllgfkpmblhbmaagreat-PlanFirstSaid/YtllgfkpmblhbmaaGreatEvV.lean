/-
Who has to go from a node for a pod.
-/
import Derived.Test.YtllgfkpmblhbmaaGreatEvA
import Derived.Test.YtllgfkpmblhbmaaGreatFitG
set_option linter.unusedVariables false
set_option linter.unusedSimpArgs false
namespace Go.Eng
open Go
/-- What slices.SortFunc is taken for, of names in a row that is written to. -/
def SortOk (P : Program) (f g : Nat) : Prop :=
  ∀ (l : List Str) (r : Nat) (h : Heap) (K : V → Heap → Prop), l.length ≤ 1000 → h.get r = some (.arr 1 (l.map strR)) → K (.tup []) (h.set r (.arr 1 ((sortS l).map strR))) → ACall P f [.ms (.g r) 1 0 l.length, .fn g [] []] h K
def victV (o : Option (List Str)) : V :=
  match o with
  | some l => .tup [.sl none 1 (l.map strR), .b true]
  | none => .tup [.sl none 1 [], .b false]
theorem pure_tupm {Q : V → Prop} {k sz a n : Nat} {b : Bool} {es ds : List (List V)} {h' : Heap} (h : h'.get k = some (.arr sz es)) (hd : deepElems es = some ds) (hn : a + n ≤ ds.length) (hq : Q (.tup [.sl none sz ((ds.drop a).take n), .b b])) : PureAt Q (.tup [.ms (.g k) sz a n, .b b]) h' :=
  pure_ce (u := .tup [.sl none sz ((ds.drop a).take n), .b b]) (fz1 k sz ds) (fz1_of h hd) (.inr ⟨_, _, rfl, rfl, .inl (.frz (by simp [fz1]) hn rfl), ce1_free rfl, trivial⟩) rfl hq
theorem pure_tupn {Q : V → Prop} {sz : Nat} {b : Bool} {h' : Heap} (hq : Q (.tup [.sl none sz [], .b b])) : PureAt Q (.tup [.nils, .b b]) h' :=
  pure_ce (u := .tup [.sl none sz [], .b b]) noFz fzOf_no (.inr ⟨_, _, rfl, rfl, .inl .nil, ce1_free rfl, trivial⟩) rfl hq
def gonM (b : Bool) (n : Nat) : V :=
  match b with
  | true => .ms (.g 2) 1 0 n
  | false => .nils
def gonG (b : Bool) (p : PodD) (lo : List PodD) (gs : List Str) : Heap :=
  match b with
  | true => ⟨3, [(2, .arr 1 (gs.map strR)), (1, .arr 16 (lo.map podR)), (0, .cs (podR p))]⟩
  | false => ⟨2, [(1, .arr 16 (lo.map podR)), (0, .cs (podR p))]⟩
theorem StD.ok.without {s : StD} (h : s.ok) (gs : List Str) : (withoutD s gs).ok := by
  have hl : (withoutD s gs).pods.length ≤ s.pods.length := List.length_filter_le _ _
  exact ⟨h.nodes, Nat.le_trans hl h.pods, h.node, fun q hq => h.pod q (List.mem_filter.1 hq).1, Nat.le_trans (Nat.mul_le_mul_right _ hl) h.some⟩
section
variable {P : Program} (hG : FnsOk P AF.fns.get)
include hG
set_option maxHeartbeats 16000000 in
set_option maxRecDepth 20000 in
theorem vict_ok (hcmp : CmpOk P) (hS : SortOk P 49 45)
    (s : StD) (p : PodD) (node : Str) (hs : s.ok) (hp : p.fit) (hsm : Small s) (h6 : s.nodes.length ≤ 1000) (h19 : s.pods.length ≤ 19) (hr : ∀ q ∈ s.pods, PodRoom q) :
    Pure P 10 [stV s, .agg (podR p), .s node] (· = victV (victD s p node)) := by
  have hlow : (onD s node).length ≤ 19 := Nat.le_trans (List.length_filter_le _ _) h19
  have hfe := fun gs => feas_ok hG (withoutD s gs) p node (hs.without gs) hp (show Small (withoutD s gs) from hsm)
  have hw0 := without_ok hG s [] h6 hs hsm hr (Nat.zero_le _)
  refine pure_fn (hG _ AF.f10 rfl) rfl ?_
  cases hon : onD s node with
  | nil =>
    have ho := on_ok hG s node hs hr
    rw [hon] at ho
    have hv : victD s p node = if feasD (withoutD s []) p node then some [] else none := by
      unfold victD lowerD
      rw [hon]
      simp [isortD, keepGo, sortS]
    rw [hv]
    have hf := hfe []
    generalize feasD (withoutD s []) p node = x at hf
    cases x
    · ((conv => whnf); repeat ((first | refine SCall.app (Pure.go ho rfl) ?_ | refine SCall.app (Pure.call1 hw0 (by ((repeat (first | exact trivial | refine ⟨by first | exact ce1_free rfl | exact .inl .nil | exact .inl .tok | exact .inl (.rows (by ((repeat (first | exact .nil | refine .cons (by ((repeat (first | exact .nil | refine .cons (by first | exact .refl _ | exact .nil _) ?_)); first | done | fail)) ?_)); first | done | fail))) | exact .inr (.inl ⟨_, _, rfl, rfl, (by ((repeat (first | exact trivial | refine ⟨by first | exact ce_flat rfl | exact .nil | exact .tok | exact .ren rfl (Nat.le_of_ble_eq_true rfl) | exact .rows (by ((repeat (first | exact .nil | refine .cons (by ((repeat (first | exact .nil | refine .cons (by first | exact .refl _ | exact .nil _) ?_)); first | done | fail)) ?_)); first | done | fail)), ?_⟩)); first | done | fail))⟩), ?_⟩)); first | done | fail)) rfl) ?_ | refine SCall.app (Pure.go hf rfl) ?_ | refine SCall.app (fn_sf (hG _ _ rfl) rfl) ?_ | refine SLoopB.un rfl ?_ | refine yf rfl ?_ | refine yt rfl ?_ | refine yo rfl ?_ | refine yc rfl ?_ | refine ys rfl ?_ | refine ye rfl ?_ | refine yn rfl ?_ | refine zw ?_ | refine zdt ?_ | refine zdf ?_ | refine znt ?_ | refine znf ?_ | refine zcd ?_ | refine zci ?_ | refine zc3 ?_ | refine SLoopZ.un rfl ?_) <;> (conv => whnf)))
      exact pure_tupn (sz := 1) rfl
    · ((conv => whnf); repeat ((first | refine SCall.app (Pure.go ho rfl) ?_ | refine SCall.app (Pure.call1 hw0 (by ((repeat (first | exact trivial | refine ⟨by first | exact ce1_free rfl | exact .inl .nil | exact .inl .tok | exact .inl (.rows (by ((repeat (first | exact .nil | refine .cons (by ((repeat (first | exact .nil | refine .cons (by first | exact .refl _ | exact .nil _) ?_)); first | done | fail)) ?_)); first | done | fail))) | exact .inr (.inl ⟨_, _, rfl, rfl, (by ((repeat (first | exact trivial | refine ⟨by first | exact ce_flat rfl | exact .nil | exact .tok | exact .ren rfl (Nat.le_of_ble_eq_true rfl) | exact .rows (by ((repeat (first | exact .nil | refine .cons (by ((repeat (first | exact .nil | refine .cons (by first | exact .refl _ | exact .nil _) ?_)); first | done | fail)) ?_)); first | done | fail)), ?_⟩)); first | done | fail))⟩), ?_⟩)); first | done | fail)) rfl) ?_ | refine SCall.app (Pure.go hf rfl) ?_ | refine SCall.app (fn_sf (hG _ _ rfl) rfl) ?_ | refine SLoopB.un rfl ?_ | refine SWrap.of (by decide) (by decide) ?_ | refine yf rfl ?_ | refine yt rfl ?_ | refine yo rfl ?_ | refine yc rfl ?_ | refine ys rfl ?_ | refine ye rfl ?_ | refine yn rfl ?_ | refine zw ?_ | refine zdt ?_ | refine zdf ?_ | refine znt ?_ | refine znf ?_ | refine zcd ?_ | refine zci ?_ | refine zc3 ?_ | refine SLoopZ.un rfl ?_) <;> (conv => whnf)))
      exact pure_tupn (sz := 1) rfl
  | cons q0 r0 =>
    have hm := on_made hG s node hs hr (by rw [hon]; exact List.cons_ne_nil _ _)
    clear hon
    obtain ⟨on, hone⟩ : ∃ on, on = onD s node := ⟨_, rfl⟩
    rw [← hone] at hm hlow
    obtain ⟨lo, hlo⟩ : ∃ lo, lo = lowerD s p node := ⟨_, rfl⟩
    have hlo' : isortD (fun a b => decide (cmpV a b < 0)) (on.filter fun q => !decide (p.prio ≤ q.prio)) = lo := by rw [hlo, hone]; rfl
    have hfl : (on.filter fun q => !decide (p.prio ≤ q.prio)).length ≤ 19 := Nat.le_trans (List.length_filter_le _ _) hlow
    have hlol : lo.length = (on.filter fun q => !decide (p.prio ≤ q.prio)).length := by rw [← hlo', isortD, isortD_len]; simp
    have hdel : ∀ (h : Heap) (K : V → Heap → Prop), h.get 1 = some (.arr 16 (on.map podR)) → h.get 0 = some (.cs (podR p)) → K (.ms (.g 1) 16 0 (on.filter fun q => !decide (p.prio ≤ q.prio)).length) (h.set 1 (.arr 16 ((on.filter fun q => !decide (p.prio ≤ q.prio)).map podR))) →
        ACall P 39 [.ms (.g 1) 16 0 on.length, .fn 41 [] [.p (.g 0) 0]] h K := fun h K h1 h0 hK =>
      delms_pod hG (p := fun q => decide (p.prio ≤ q.prio)) (by omega) h1 (fun e _ rows K hK => prioGe_ok hG (by rw [Heap.get_set_ne (by decide)]; exact h0) hK) hK
    have hsort : ∀ (h : Heap) (K : V → Heap → Prop), h.get 1 = some (.arr 16 ((on.filter fun q => !decide (p.prio ≤ q.prio)).map podR)) → K (.tup []) (h.set 1 (.arr 16 (lo.map podR))) →
        ACall P 42 [.ms (.g 1) 16 0 (on.filter fun q => !decide (p.prio ≤ q.prio)).length, .fn 43 [] []] h K := fun h K h1 hK =>
      stable_pod hG cmpV _ (fun a b => cmpV_ok hG hcmp a b) _ hfl h1 (by rw [hlo']; exact hK)
    ((conv => whnf); repeat ((first | refine SCall.app (Made.row hm rfl) ?_ | refine SCall.app (hdel _ _ rfl rfl) ?_ | refine SCall.app (hsort _ _ rfl) ?_ | refine yf rfl ?_ | refine yt rfl ?_ | refine yo rfl ?_ | refine yc rfl ?_ | refine ys rfl ?_ | refine ye rfl ?_ | refine yn rfl ?_ | refine zw ?_ | refine zdt ?_ | refine zdf ?_ | refine znt ?_ | refine znf ?_ | refine zcd ?_ | refine zci ?_ | refine zc3 ?_) <;> (conv => whnf)))
    have hlm : (lo.map podR).length = lo.length := List.length_map _
    rw [← hlol]
    refine SLoopZ.by (fun q fr st => ∃ (i : Nat) (b : Bool) (es : List Str) (n : Nat), i ≤ lo.length ∧ q = lo.length - i ∧ es = (lo.take i).map (·.name) ∧ (b = false → es = []) ∧ n = es.length ∧
        fr = [(24, .i .i64 i), (23, .i .i64 lo.length), (22, .ms (.g 1) 16 0 lo.length), (9, gonM b n), (8, .ms (.g 1) 16 0 lo.length), (4, .p (.g 0) 0), (3, .p (.l 0) 0), (2, .s node)] ∧
        st = ⟨gonG b p lo es, ⟨1, [(0, .cs [.sl none 6 (s.nodes.map nodeR), .sl none 16 (s.pods.map podR)])]⟩⟩)
      lo.length ⟨_, _, ?_, 0, false, [], 0, Nat.zero_le _, rfl, rfl, fun _ => rfl, rfl, rfl, rfl⟩ ?_
    · exact tG [0, 1] [0]
    rintro q fr st ⟨i, b, es, n, hi, rfl, hes, hb, hn, rfl, rfl⟩ R hR
    have hesl : es.length = i := by rw [hes, List.length_map, List.length_take]; omega
    (conv => whnf)
    refine SIf.ds (fun hlt => ?_) (fun hge => ?_)
    · have hi' : i < lo.length := by omega
      have he := List.getElem?_eq_getElem hi'
      generalize lo[i] = e at he
      have h1 : es ++ [e.name] = (lo.take (i + 1)).map (·.name) := by rw [take_succ' he, List.map_append, ← hes]; rfl
      cases b
      · obtain rfl : es = [] := hb rfl
        ((conv => whnf); repeat ((first | refine SEx.of (map_get' (by omega) he) ?_ | refine yf rfl ?_ | refine yt rfl ?_ | refine yo rfl ?_ | refine yc rfl ?_ | refine ys rfl ?_ | refine ye rfl ?_ | refine yn rfl ?_ | refine zw ?_ | refine zdt ?_ | refine zdf ?_ | refine znt ?_ | refine znf ?_ | refine zcd ?_ | refine zci ?_ | refine zc3 ?_) <;> (conv => whnf)))
        refine hR (lo.length - (i + 1)) _ _ (by omega) ⟨_, _, ?_, i + 1, true, [] ++ [e.name], 1, by omega, rfl, h1, (fun h => by cases h), rfl, rfl, rfl⟩
        exact tG [0, 1, 3] [0]
      · have hem : (es.map strR).length = es.length := List.length_map _
        have hint : List.drop 0 (List.take (0 + n) (es.map strR)) ++ [strR e.name] = (es ++ [e.name]).map strR := by
          rw [Nat.zero_add, List.drop_zero, List.take_of_length_le (by omega), List.map_append]; rfl
        ((conv => whnf); repeat ((first | refine SEx.of (congrArg some hint) ?_ | refine SChk.mk (by simp [roomOk]; omega) ?_ | refine SIf.df (by simp only [List.length_cons, List.length_nil, List.length_map]; omega) ?_ | refine SEx.of (map_get' (by omega) he) ?_ | refine yf rfl ?_ | refine yt rfl ?_ | refine yo rfl ?_ | refine yc rfl ?_ | refine ys rfl ?_ | refine ye rfl ?_ | refine yn rfl ?_ | refine zw ?_ | refine zdt ?_ | refine zdf ?_ | refine znt ?_ | refine znf ?_ | refine zcd ?_ | refine zci ?_ | refine zc3 ?_) <;> (conv => whnf)))
        refine hR (lo.length - (i + 1)) _ _ (by omega) ⟨_, _, ?_, i + 1, true, es ++ [e.name], n + 1, by omega, rfl, h1, (fun h => by cases h), by simp [hn], rfl, rfl⟩
        exact tG [0, 1, 4] [0]
    clear hR
    have hall : es = lo.map (·.name) := by rw [hes, List.take_of_length_le (by omega)]
    have hv : victD s p node = if feasD (withoutD s es) p node then some (sortS (keepGo s p node lo es)) else none := by
      unfold victD
      rw [← hlo, hall]
    rw [hv]
    have hf := hfe es
    cases b
    · obtain rfl : es = [] := hb rfl
      have hlo0 : lo = [] := List.map_eq_nil_iff.1 hall.symm
      subst hlo0
      have hk0 : sortS (keepGo s p node [] []) = [] := by simp [keepGo, sortS]
      rw [hk0]
      generalize feasD (withoutD s []) p node = x at hf
      cases x
      · ((conv => whnf); repeat ((first | refine SCall.app (Pure.call1 hw0 (by ((repeat (first | exact trivial | refine ⟨by first | exact ce1_free rfl | exact .inl .nil | exact .inl .tok | exact .inl (.rows (by ((repeat (first | exact .nil | refine .cons (by ((repeat (first | exact .nil | refine .cons (by first | exact .refl _ | exact .nil _) ?_)); first | done | fail)) ?_)); first | done | fail))) | exact .inr (.inl ⟨_, _, rfl, rfl, (by ((repeat (first | exact trivial | refine ⟨by first | exact ce_flat rfl | exact .nil | exact .tok | exact .ren rfl (Nat.le_of_ble_eq_true rfl) | exact .rows (by ((repeat (first | exact .nil | refine .cons (by ((repeat (first | exact .nil | refine .cons (by first | exact .refl _ | exact .nil _) ?_)); first | done | fail)) ?_)); first | done | fail)), ?_⟩)); first | done | fail))⟩), ?_⟩)); first | done | fail)) rfl) ?_ | refine SCall.app (Pure.go hf rfl) ?_ | refine yf rfl ?_ | refine yt rfl ?_ | refine yo rfl ?_ | refine yc rfl ?_ | refine ys rfl ?_ | refine ye rfl ?_ | refine yn rfl ?_ | refine zw ?_ | refine zdt ?_ | refine zdf ?_ | refine znt ?_ | refine znf ?_ | refine zcd ?_ | refine zci ?_ | refine zc3 ?_ | refine SLoopZ.un rfl ?_) <;> (conv => whnf)))
        exact pure_tupn (sz := 1) rfl
      · ((conv => whnf); repeat ((first | refine SCall.app (Pure.call1 hw0 (by ((repeat (first | exact trivial | refine ⟨by first | exact ce1_free rfl | exact .inl .nil | exact .inl .tok | exact .inl (.rows (by ((repeat (first | exact .nil | refine .cons (by ((repeat (first | exact .nil | refine .cons (by first | exact .refl _ | exact .nil _) ?_)); first | done | fail)) ?_)); first | done | fail))) | exact .inr (.inl ⟨_, _, rfl, rfl, (by ((repeat (first | exact trivial | refine ⟨by first | exact ce_flat rfl | exact .nil | exact .tok | exact .ren rfl (Nat.le_of_ble_eq_true rfl) | exact .rows (by ((repeat (first | exact .nil | refine .cons (by ((repeat (first | exact .nil | refine .cons (by first | exact .refl _ | exact .nil _) ?_)); first | done | fail)) ?_)); first | done | fail)), ?_⟩)); first | done | fail))⟩), ?_⟩)); first | done | fail)) rfl) ?_ | refine SCall.app (Pure.go hf rfl) ?_ | refine SCall.app (fn_sf (hG _ _ rfl) rfl) ?_ | refine SLoopB.un rfl ?_ | refine SWrap.of (by decide) (by decide) ?_ | refine yf rfl ?_ | refine yt rfl ?_ | refine yo rfl ?_ | refine yc rfl ?_ | refine ys rfl ?_ | refine ye rfl ?_ | refine yn rfl ?_ | refine zw ?_ | refine zdt ?_ | refine zdf ?_ | refine znt ?_ | refine znf ?_ | refine zcd ?_ | refine zci ?_ | refine zc3 ?_ | refine SLoopZ.un rfl ?_) <;> (conv => whnf)))
        exact pure_tupn (sz := 1) rfl
    · have hwl : ∀ (gs : List Str) (k : Nat) (h : Heap) (K : V → Heap → Prop), gs.length ≤ 1000 → h.get k = some (.arr 1 (gs.map strR)) → K (stV (withoutD s gs)) h → ACall P 24 [stV s, .ms (.g k) 1 0 gs.length] h K := fun gs k h K hgl hk hK => without_lent hG s gs hgl h6 hs hsm hr hk hK
      have hesn : es.length ≤ 19 := by omega
      subst hn
      generalize feasD (withoutD s es) p node = x at hf
      cases x
      · ((conv => whnf); repeat ((first | refine SCall.app (hwl es 2 _ _ (by omega) rfl) ?_ | refine SCall.app (Pure.go hf rfl) ?_ | refine yf rfl ?_ | refine yt rfl ?_ | refine yo rfl ?_ | refine yc rfl ?_ | refine ys rfl ?_ | refine ye rfl ?_ | refine yn rfl ?_ | refine zw ?_ | refine zdt ?_ | refine zdf ?_ | refine znt ?_ | refine znf ?_ | refine zcd ?_ | refine zci ?_ | refine zc3 ?_) <;> (conv => whnf)))
        exact pure_tupn (sz := 1) rfl
      · ((conv => whnf); repeat ((first | refine SCall.app (hwl es 2 _ _ (by omega) rfl) ?_ | refine SCall.app (Pure.go hf rfl) ?_ | refine yf rfl ?_ | refine yt rfl ?_ | refine yo rfl ?_ | refine yc rfl ?_ | refine ys rfl ?_ | refine ye rfl ?_ | refine yn rfl ?_ | refine zw ?_ | refine zdt ?_ | refine zdf ?_ | refine znt ?_ | refine znf ?_ | refine zcd ?_ | refine zci ?_ | refine zc3 ?_) <;> (conv => whnf)))
        clear hall hv hes
        refine SLoopZ.by (fun q fr st => ∃ (i : Nat) (G : List Str), i ≤ lo.length ∧ q = lo.length - i ∧ G.length ≤ 19 ∧ keepGo s p node lo es = keepGo s p node (lo.drop i) G ∧
            fr = [(43, .i .i64 i), (42, .i .i64 lo.length), (41, .ms (.g 1) 16 0 lo.length), (9, .ms (.g 2) 1 0 G.length), (4, .p (.g 0) 0), (3, .p (.l 0) 0), (2, .s node)] ∧
            st = ⟨gonG true p lo G, ⟨1, [(0, .cs [.sl none 6 (s.nodes.map nodeR), .sl none 16 (s.pods.map podR)])]⟩⟩)
          lo.length ⟨_, _, ?_, 0, es, Nat.zero_le _, rfl, hesn, rfl, rfl, rfl⟩ ?_
        · exact tG [0, 1, 2] [0]
        clear hf hesn
        generalize keepGo s p node lo es = KK
        rintro q fr st ⟨i, G, hi, rfl, hGl, hK, rfl, rfl⟩ R hR
        (conv => whnf)
        refine SIf.ds (fun hlt => ?_) (fun hge => ?_)
        · have hi' : i < lo.length := by omega
          have he := List.getElem?_eq_getElem hi'
          have hdr : lo.drop i = lo[i] :: lo.drop (i + 1) := List.drop_eq_getElem_cons hi'
          rw [hdr, keepGo] at hK
          generalize lo[i] = e at he hK
          have hf := hfe (lessG G e)
          have hll : (lessG G e).length ≤ 19 := Nat.le_trans (List.length_filter_le _ _) hGl
          have hdel : ∀ (c : Nat) (h : Heap) (K : V → Heap → Prop), c ≠ 3 → h.get c = some (.arr 1 (G.map strR)) → h.get 3 = some (.cs (podR e)) → K (.ms (.g c) 1 0 (lessG G e).length) (h.set c (.arr 1 ((lessG G e).map strR))) →
              ACall P 46 [.ms (.g c) 1 0 G.length, .fn 48 [] [.p (.g 3) 0]] h K := fun c h K hc h1 h0 hK =>
            delms_str hG (p := fun n => n == e.name) (by omega) h1 (fun n _ rows K hK => nameIs_ok hG (by rw [Heap.get_set_ne (Ne.symm hc)]; exact h0) hK) hK
          generalize lessG G e = L at hf hll hdel hK
          generalize feasD (withoutD s L) p node = y at hf hK
          cases G with
          | nil =>
            cases y
            · ((conv => whnf); repeat ((first | refine SCall.app (clonems_nil hG (Nat.ne_of_beq_eq_false rfl) rfl) ?_ | refine SCall.app (hdel 4 _ _ (by decide) rfl rfl) ?_ | refine SCall.app (hwl L 4 _ _ (by omega) rfl) ?_ | refine SCall.app (Pure.go hf rfl) ?_ | refine SEx.of (map_get' (by omega) he) ?_ | refine yf rfl ?_ | refine yt rfl ?_ | refine yo rfl ?_ | refine yc rfl ?_ | refine ys rfl ?_ | refine ye rfl ?_ | refine yn rfl ?_ | refine zw ?_ | refine zdt ?_ | refine zdf ?_ | refine znt ?_ | refine znf ?_ | refine zcd ?_ | refine zci ?_ | refine zc3 ?_) <;> (conv => whnf)))
              refine hR (lo.length - (i + 1)) _ _ (by omega) ⟨_, _, ?_, i + 1, [], by omega, rfl, by simp, hK, rfl, rfl⟩
              exact tG [0, 1, 2] [0]
            · ((conv => whnf); repeat ((first | refine SCall.app (clonems_nil hG (Nat.ne_of_beq_eq_false rfl) rfl) ?_ | refine SCall.app (hdel 4 _ _ (by decide) rfl rfl) ?_ | refine SCall.app (hwl L 4 _ _ (by omega) rfl) ?_ | refine SCall.app (Pure.go hf rfl) ?_ | refine SEx.of (map_get' (by omega) he) ?_ | refine yf rfl ?_ | refine yt rfl ?_ | refine yo rfl ?_ | refine yc rfl ?_ | refine ys rfl ?_ | refine ye rfl ?_ | refine yn rfl ?_ | refine zw ?_ | refine zdt ?_ | refine zdf ?_ | refine znt ?_ | refine znf ?_ | refine zcd ?_ | refine zci ?_ | refine zc3 ?_) <;> (conv => whnf)))
              refine hR (lo.length - (i + 1)) _ _ (by omega) ⟨_, _, ?_, i + 1, L, by omega, rfl, hll, hK, rfl, rfl⟩
              exact tG [0, 1, 4] [0]
          | cons g0 gr =>
            cases y
            · ((conv => whnf); repeat ((first | refine SCall.app (clonems_cons hG g0 gr (by omega) (Nat.ne_of_beq_eq_false rfl) rfl) ?_ | refine SCall.app (hdel 5 _ _ (by decide) rfl rfl) ?_ | refine SCall.app (hwl L 5 _ _ (by omega) rfl) ?_ | refine SCall.app (Pure.go hf rfl) ?_ | refine SEx.of (map_get' (by omega) he) ?_ | refine yf rfl ?_ | refine yt rfl ?_ | refine yo rfl ?_ | refine yc rfl ?_ | refine ys rfl ?_ | refine ye rfl ?_ | refine yn rfl ?_ | refine zw ?_ | refine zdt ?_ | refine zdf ?_ | refine znt ?_ | refine znf ?_ | refine zcd ?_ | refine zci ?_ | refine zc3 ?_) <;> (conv => whnf)))
              refine hR (lo.length - (i + 1)) _ _ (by omega) ⟨_, _, ?_, i + 1, g0 :: gr, by omega, rfl, hGl, hK, rfl, rfl⟩
              exact tG [0, 1, 2] [0]
            · ((conv => whnf); repeat ((first | refine SCall.app (clonems_cons hG g0 gr (by omega) (Nat.ne_of_beq_eq_false rfl) rfl) ?_ | refine SCall.app (hdel 5 _ _ (by decide) rfl rfl) ?_ | refine SCall.app (hwl L 5 _ _ (by omega) rfl) ?_ | refine SCall.app (Pure.go hf rfl) ?_ | refine SEx.of (map_get' (by omega) he) ?_ | refine yf rfl ?_ | refine yt rfl ?_ | refine yo rfl ?_ | refine yc rfl ?_ | refine ys rfl ?_ | refine ye rfl ?_ | refine yn rfl ?_ | refine zw ?_ | refine zdt ?_ | refine zdf ?_ | refine znt ?_ | refine znf ?_ | refine zcd ?_ | refine zci ?_ | refine zc3 ?_) <;> (conv => whnf)))
              refine hR (lo.length - (i + 1)) _ _ (by omega) ⟨_, _, ?_, i + 1, L, by omega, rfl, hll, hK, rfl, rfl⟩
              exact tG [0, 1, 5] [0]
        · have hd0 : lo.drop i = [] := List.drop_of_length_le (by omega)
          rw [hd0, keepGo] at hK
          rw [hK]
          ((conv => whnf); repeat ((first | refine SCall.app (hS G 2 _ _ (by omega) rfl) ?_ | refine yf rfl ?_ | refine yt rfl ?_ | refine yo rfl ?_ | refine yc rfl ?_ | refine ys rfl ?_ | refine ye rfl ?_ | refine yn rfl ?_ | refine zw ?_ | refine zdt ?_ | refine zdf ?_ | refine znt ?_ | refine znf ?_ | refine zcd ?_ | refine zci ?_ | refine zc3 ?_) <;> (conv => whnf)))
          have hsl : (sortS G).length = G.length := (List.mergeSort_perm G _).length_eq
          refine pure_tupm rfl (deep_map (fun _ => rfl) (sortS G)) (by rw [List.length_map]; omega) ?_
          rw [List.drop_zero, List.take_of_length_le (by rw [List.length_map]; omega)]
          rfl
end
end Go.Eng
