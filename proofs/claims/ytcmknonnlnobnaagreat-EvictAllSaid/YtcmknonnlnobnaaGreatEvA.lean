/-
Rows that are written to: names looked for, copied, deleted.
-/
import Derived.Test.YtcmknonnlnobnaaGreatEngE
import Derived.Test.YtcmknonnlnobnaaGreatWiS
import Derived.Test.YtcmknonnlnobnaaGreatWiA
import Derived.Test.YtcmknonnlnobnaaGreatFitD
import Derived.Test.YtcmknonnlnobnaaGreatSta1
import Derived.Test.YtcmknonnlnobnaaGreatFitW2
set_option linter.unusedVariables false
set_option linter.unusedSimpArgs false
set_option maxHeartbeats 4000000
set_option maxRecDepth 10000
namespace Go.Eng
open Go
theorem tG1 (gs ls : List Nat) {n m : Nat} {gobjs lobjs : List (Nat × Obj)} {fr fr' : Fr} {st : St} (hn : gs.length = n := by rfl) (hm : ls.length = m := by rfl) (hd : gs.Nodup := by decide) (he : ls.Nodup := by decide) (hN : ∀ i, i < 1 → gs.getD i 0 = i := by exact fun i hi => match i, hi with | 0, _ => rfl) (hN2 : 1 ≤ n := by decide)
 (hg : ObsC ⟨fun i => gs.getD i 0, fun i => ls.getD i 0⟩ noFz .g (fun i => gs.getD i 0) n ⟨n, 0⟩ st.g gobjs := by ((repeat (first | exact trivial | refine ⟨⟨Nat.le_of_ble_eq_true rfl, rfl, _, rfl, by first | exact trivial | exact ⟨rfl, trivial⟩ | exact ceL_flat rfl | exact ⟨rfl, ceLL_map (fun _ => rfl) _⟩ | exact ⟨rfl, ceL_flat rfl, trivial⟩ | exact ⟨rfl, ceM_seen _⟩ | exact ⟨rfl, ceLL_acc (by assumption)⟩ | exact (by ((repeat (first | exact trivial | refine ⟨by first | exact ce_flat rfl | exact .nil | exact .tok | exact .ren rfl (Nat.le_of_ble_eq_true rfl) | exact .rows (by ((repeat (first | exact .nil | refine .cons (by ((repeat (first | exact .nil | refine .cons (by first | exact .refl _ | exact .nil _) ?_)); first | done | fail)) ?_)); first | done | fail)), ?_⟩)); first | done | fail))⟩, ?_⟩)); first | done | fail)) (hl : ObsC ⟨fun i => gs.getD i 0, fun i => ls.getD i 0⟩ noFz .l (fun i => ls.getD i 0) m ⟨n, m⟩ st.l lobjs := by ((repeat (first | exact trivial | refine ⟨⟨Nat.le_of_ble_eq_true rfl, rfl, _, rfl, by first | exact trivial | exact ⟨rfl, trivial⟩ | exact ceL_flat rfl | exact ⟨rfl, ceLL_map (fun _ => rfl) _⟩ | exact ⟨rfl, ceL_flat rfl, trivial⟩ | exact ⟨rfl, ceM_seen _⟩ | exact ⟨rfl, ceLL_acc (by assumption)⟩ | exact (by ((repeat (first | exact trivial | refine ⟨by first | exact ce_flat rfl | exact .nil | exact .tok | exact .ren rfl (Nat.le_of_ble_eq_true rfl) | exact .rows (by ((repeat (first | exact .nil | refine .cons (by ((repeat (first | exact .nil | refine .cons (by first | exact .refl _ | exact .nil _) ?_)); first | done | fail)) ?_)); first | done | fail)), ?_⟩)); first | done | fail))⟩, ?_⟩)); first | done | fail))
 (hf : FrC ⟨fun i => gs.getD i 0, fun i => ls.getD i 0⟩ ⟨n, m⟩ noFz fr' fr := by ((repeat (first | exact FrC.nil | refine FrC.cons (by first | exact ce2_free rfl | exact ce2_p rfl (Nat.le_of_ble_eq_true rfl) | exact ce2_ms rfl (Nat.le_of_ble_eq_true rfl) | exact ce2_m rfl (Nat.le_of_ble_eq_true rfl) | exact ce2_tok rfl (Nat.le_of_ble_eq_true rfl) | exact ce2_untok | exact ce2_nil | exact .inl (.inl (.rows (by ((repeat (first | exact .nil | refine .cons (by ((repeat (first | exact .nil | refine .cons (by first | exact .refl _ | exact .nil _) ?_)); first | done | fail)) ?_)); first | done | fail)))) | exact .inl (.inr (.inl ⟨_, _, rfl, rfl, (by ((repeat (first | exact trivial | refine ⟨by first | exact ce_flat rfl | exact .nil | exact .tok | exact .ren rfl (Nat.le_of_ble_eq_true rfl) | exact .rows (by ((repeat (first | exact .nil | refine .cons (by ((repeat (first | exact .nil | refine .cons (by first | exact .refl _ | exact .nil _) ?_)); first | done | fail)) ?_)); first | done | fail)), ?_⟩)); first | done | fail))⟩))) ?_)); first | done | fail)) : TelN 1 fr st fr' ⟨⟨n, gobjs⟩, ⟨m, lobjs⟩⟩ := telGLN 1 gs ls hn hm hd he hN hN2 hg hl hf
theorem lent_aggm {h' : Heap} {es ds : List (List V)} {gs : List Str} {ns : List (List V)} {n : Nat} (h0 : h'.get 0 = some (.arr 1 (gs.map strR))) (h1 : h'.get 1 = some (.arr 16 es)) (hd : deepElems es = some ds) (hn : 0 + n ≤ ds.length) :
 TelN 1 [(0, .agg [.sl none 6 ns, .ms (.g 1) 16 0 n])] (gst h') [(0, .agg [.sl none 6 ns, .sl none 16 ((ds.drop 0).take n)])] ⟨⟨1, [(0, .arr 1 (gs.map strR))]⟩, ⟨0, []⟩⟩ :=
 Tel.of (ρ := ren0) (F := fz1 1 16 ds) (fz1_of h1 hd) ⟨⟨Nat.zero_lt_one, rfl, _, h0, ⟨rfl, ceLL_map (fun _ => rfl) _⟩⟩, trivial⟩ trivial (fun i hi j hj _ => by
  have a : i < 1 := hi
  have b : j < 1 := hj
  omega) (fun i hi => absurd hi (Nat.not_lt_zero _)) (FrC.cons (.inl (.inr (.inl ⟨_, _, rfl, rfl, ⟨ce_flat rfl, .frz (by simp [fz1]) hn rfl, trivial⟩⟩))) FrC.nil) (fun i hi => rfl) (Nat.le_refl _)
theorem lent_aggn {h' : Heap} {gs : List Str} {ns : List (List V)} (h0 : h'.get 0 = some (.arr 1 (gs.map strR))) :
 TelN 1 [(0, .agg [.sl none 6 ns, .nils])] (gst h') [(0, .agg [.sl none 6 ns, .sl none 16 []])] ⟨⟨1, [(0, .arr 1 (gs.map strR))]⟩, ⟨0, []⟩⟩ :=
 Tel.of (ρ := ren0) (F := noFz) fzOf_no ⟨⟨Nat.zero_lt_one, rfl, _, h0, ⟨rfl, ceLL_map (fun _ => rfl) _⟩⟩, trivial⟩ trivial (fun i hi j hj _ => by
  have a : i < 1 := hi
  have b : j < 1 := hj
  omega) (fun i hi => absurd hi (Nat.not_lt_zero _)) (FrC.cons (.inl (.inr (.inl ⟨_, _, rfl, rfl, ⟨ce_flat rfl, .nil, trivial⟩⟩))) FrC.nil) (fun i hi => rfl) (Nat.le_refl _)
def lentM (b : Bool) (n : Nat) : V :=
 match b with
 | true => .ms (.g 1) 16 0 n
 | false => .nils
def lentG (b : Bool) (gs : List Str) (es : List PodD) : Heap :=
 match b with
 | true => ⟨2, [(1, .arr 16 (es.map podR)), (0, .arr 1 (gs.map strR))]⟩
 | false => ⟨1, [(0, .arr 1 (gs.map strR))]⟩
section
variable {P : Program} (hG : FnsOk P AF.fns.get)
include hG
theorem ixms_str (l : List Str) (x : Str) (hl : l.length ≤ 9223372036854775807) {k : Nat} {h : Heap} (hk : h.get k = some (.arr 1 (l.map strR))) {K : V → Heap → Prop} (hK : K (.i .i64 (ixRes (fun e => x == e) l)) h) : ACall P 224 [.ms (.g k) 1 0 l.length, .s x] h K := by
 have hlm : (l.map strR).length = l.length := List.length_map _
 refine fn_sp (hG _ AF.f224 rfl) rfl ?_
 ((conv => whnf); repeat ((first | refine SIf.ff rfl ?_ | refine SIf.tt rfl ?_ | refine SOpt.of rfl ?_ | refine SChk.mk rfl ?_ | refine SSame.mk rfl ?_ | refine ye rfl ?_) <;> (conv => whnf)))
 refine SLoop.by (fun q fr st => ∃ i : Nat, i ≤ l.length ∧ q = l.length - i ∧ NoneYet (fun e => x == e) l i ∧ Fr.le [(8, .i .i64 i), (7, .i .i64 l.length), (1, .s x), (0, .ms (.g k) 1 0 l.length)] fr ∧ st = gst h)
  l.length ⟨0, Nat.zero_le _, rfl, NoneYet.zero, fle, rfl⟩ ?_
 rintro q fr st ⟨i, hi, rfl, hok, hle, rfl⟩
 refine ⟨_, hle, fun R hR => ?_⟩
 ((conv => whnf); repeat ((first | refine SIf.ff rfl ?_ | refine SIf.tt rfl ?_ | refine SOpt.of rfl ?_ | refine SChk.mk rfl ?_ | refine SSame.mk rfl ?_ | refine ye rfl ?_) <;> (conv => whnf)))
 refine SIf.ds (fun hlt => ?_) (fun hge => ?_)
 · have hi' : i < l.length := by omega
   have he := gE hi'
   generalize l[i] = e at he
   ((conv => whnf); repeat ((first | refine SChk.ix (by omega) (by omega) ?_ | refine SIf.ff rfl ?_ | refine SIf.tt rfl ?_ | refine SOpt.of rfl ?_ | refine SChk.mk rfl ?_ | refine SSame.mk rfl ?_ | refine ye (hk) ?_ | refine ye (map_get' (by simp) he) ?_ | refine ye rfl ?_) <;> (conv => whnf)))
   refine SIf.mk (fun hp => ?_) (fun hp => ?_)
   · ((conv => whnf); repeat ((first | refine SIf.ff rfl ?_ | refine SIf.tt rfl ?_ | refine SOpt.of rfl ?_ | refine SChk.mk rfl ?_ | refine SSame.mk rfl ?_ | refine ye rfl ?_) <;> (conv => whnf)))
     rw [findIdx_some he hp hok] at hK
     exact hK
   · ((conv => whnf); repeat ((first | refine SWrap.w64 (by omega) (by omega) ?_ | refine SIf.ff rfl ?_ | refine SIf.tt rfl ?_ | refine SOpt.of rfl ?_ | refine SChk.mk rfl ?_ | refine SSame.mk rfl ?_ | refine ye rfl ?_) <;> (conv => whnf)))
     exact hR (l.length - (i + 1)) _ _ (by omega) ⟨i + 1, by omega, rfl, hok.succ he hp, fle, rfl⟩
 · ((conv => whnf); repeat ((first | refine SIf.ff rfl ?_ | refine SIf.tt rfl ?_ | refine SOpt.of rfl ?_ | refine SChk.mk rfl ?_ | refine SSame.mk rfl ?_ | refine ye rfl ?_) <;> (conv => whnf)))
   rw [findIdx_none fun j x hx => hok j x (by have := (List.getElem?_eq_some_iff.1 hx).1; omega) hx] at hK
   exact hK
theorem ctms_str (l : List Str) (x : Str) (hl : l.length ≤ 9223372036854775807) {k : Nat} {h : Heap} (hk : h.get k = some (.arr 1 (l.map strR))) {K : V → Heap → Prop} (hK : K (.b (l.any fun e => x == e)) h) : ACall P 119 [.ms (.g k) 1 0 l.length, .s x] h K := by
 refine fn_sp (hG _ AF.f119 rfl) rfl ?_
 ((conv => whnf); repeat ((first | refine cA (ixms_str hG l x hl hk) ?_ | refine SIf.ff rfl ?_ | refine SIf.tt rfl ?_ | refine SOpt.of rfl ?_ | refine SChk.mk rfl ?_ | refine SSame.mk rfl ?_ | refine ye rfl ?_) <;> (conv => whnf)))
 rw [← ixRes_any] at hK
 exact hK
theorem without_lent0 (s : StD) (gs : List Str) (hgl : gs.length ≤ 1000) (h6 : s.nodes.length ≤ 1000) (hs : s.ok) (hsm : Small s) (hr : ∀ q ∈ s.pods, PodRoom q) :
 ACall P 48 [stV s, .ms (.g 0) 1 0 gs.length] (oneG 1 (gs.map strR)) (LentAt 1 fun u es => u = stV (withoutD s gs) ∧ es = gs.map strR) := by
 have hlm : (s.pods.map podR).length = s.pods.length := List.length_map _
 have hl := hs.pods
 have hsome := hs.some
 unfold LenOk at hl
 have hn := nodes_ok hG s h6 hsm
 obtain ⟨f, hf⟩ : ∃ f : PodD → Bool, f = fun q => !(gs.any fun g => q.name == g) := ⟨_, rfl⟩
 refine fn_sn (hG _ AF.f48 rfl) rfl ?_
 ((conv => whnf); repeat ((first | refine cA (Pure.go hn rfl) ?_ | refine zz ?_) <;> (conv => whnf)))
 refine SLoopZ.by (fun q fr st => ∃ (i : Nat) (b : Bool) (es : List PodD) (n : Nat), i ≤ s.pods.length ∧ q = s.pods.length - i ∧ es = (s.pods.take i).filter f ∧ (b = false → es = []) ∧ n = es.length ∧
  fr = [(14, .i .i64 i), (13, .i .i64 (s.pods.map podR).length), (12, .sl none 16 (s.pods.map podR)), (5, .p (.l 1) 0), (4, .p (.l 0) 0), (1, .ms (.g 0) 1 0 gs.length)] ∧
  st = ⟨lentG b gs es, ⟨2, [(1, .cs [.sl none 6 (s.nodes.map nodeR), lentM b n]), (0, .cs [.nils, .nils])]⟩⟩)
  s.pods.length ⟨_, _, ?_, 0, false, [], 0, Nat.zero_le _, rfl, rfl, fun _ => rfl, rfl, rfl, rfl⟩ ?_
 · exact tG1 [0] [1, 2]
 rintro q fr st ⟨i, b, es, n, hi, rfl, hes, hb, hn, rfl, rfl⟩ R hR
 have hesl : es.length ≤ i := by
  rw [hes]
  exact Nat.le_trans (List.length_filter_le _ _) (List.length_take_le _ _)
 have hem : (es.map podR).length = es.length := List.length_map _
 (conv => whnf)
 refine SIf.ds (fun hlt => ?_) (fun hge => ?_)
 · have hi' : i < s.pods.length := by omega
   have he := gE hi'
   have hme := hr _ (List.getElem_mem hi')
   generalize s.pods[i] = e at he hme
   have hc := copyPod_ok hG e hme
   have hfe : f e = !(gs.any fun g => e.name == g) := by rw [hf]
   have h1 : f e = true → es ++ [e] = (s.pods.take (i + 1)).filter f := fun h => by
    rw [take_succ' he, List.filter_append, ← hes]
    simp [h]
   have h0 : f e = false → es = (s.pods.take (i + 1)).filter f := fun h => by
    rw [take_succ' he, List.filter_append, ← hes]
    simp [h]
   rw [hfe] at h1 h0
   have hct : ∀ (h : Heap) (K : V → Heap → Prop), h.get 0 = some (.arr 1 (gs.map strR)) → K (.b (gs.any fun g => e.name == g)) h → ACall P 119 [.ms (.g 0) 1 0 gs.length, .s e.name] h K := fun h K hh hK => ctms_str hG gs e.name (by omega) hh hK
   generalize (gs.any fun g => e.name == g) = a at hct h1 h0
   cases a <;> cases b
   · obtain rfl : es = [] := hb rfl
     ((conv => whnf); repeat ((first | refine cA (hct _ _ rfl) ?_ | refine cA (Pure.go hc rfl) ?_ | refine ye (map_get' (by omega) he) ?_ | refine zz ?_) <;> (conv => whnf)))
     refine hR (s.pods.length - (i + 1)) _ _ (by omega) ⟨_, _, ?_, i + 1, true, [] ++ [e], 1, by omega, rfl, h1 rfl, (fun h => by cases h), rfl, rfl, rfl⟩
     exact tG1 [0, 2] [0, 1]
   · ((conv => whnf); repeat ((first | refine cA (hct _ _ rfl) ?_ | refine cA (Pure.go hc rfl) ?_ | refine SChk.mk (by simp [roomOk]; omega) ?_ | refine SIf.df (by simp only [List.length_cons, List.length_nil, List.length_map]; omega) ?_ | refine ye (map_get' (by omega) he) ?_ | refine zz ?_) <;> (conv => whnf)))
     refine hR (s.pods.length - (i + 1)) _ _ (by omega) ⟨_, _, ?_, i + 1, true, es ++ [e], n + 1, by omega, rfl, h1 rfl, (fun h => by cases h), by simp [hn], rfl, rfl⟩
     exact tG1 [0, 3] [0, 1]
   · obtain rfl : es = [] := hb rfl
     ((conv => whnf); repeat ((first | refine cA (hct _ _ rfl) ?_ | refine ye (map_get' (by omega) he) ?_ | refine zz ?_) <;> (conv => whnf)))
     refine hR (s.pods.length - (i + 1)) _ _ (by omega) ⟨_, _, ?_, i + 1, false, [], 0, by omega, rfl, h0 rfl, (fun _ => rfl), rfl, rfl, rfl⟩
     exact tG1 [0] [0, 1]
   · ((conv => whnf); repeat ((first | refine cA (hct _ _ rfl) ?_ | refine ye (map_get' (by omega) he) ?_ | refine zz ?_) <;> (conv => whnf)))
     refine hR (s.pods.length - (i + 1)) _ _ (by omega) ⟨_, _, ?_, i + 1, true, es, n, by omega, rfl, h0 rfl, (fun h => by cases h), hn, rfl, rfl⟩
     exact tG1 [0, 1] [0, 1]
 · have hall : es = (withoutD s gs).pods := by
    rw [hes, List.take_of_length_le (by omega), hf]
    rfl
   have hst : stV (withoutD s gs) = .agg [.sl none 6 (s.nodes.map nodeR), .sl none 16 (((withoutD s gs).pods.map podR))] := rfl
   rw [← hall] at hst
   cases b
   · obtain rfl : es = [] := hb rfl
     ((conv => whnf); repeat ((first | refine zz ?_) <;> (conv => whnf)))
     exact LentAt.of (u := .agg [.sl none 6 (s.nodes.map nodeR), .sl none 16 []]) (es := gs.map strR) (lent_aggn rfl) rfl (fun e he => by obtain ⟨q, _, rfl⟩ := List.mem_map.1 he; rfl) ⟨hst.symm, rfl⟩
   · ((conv => whnf); repeat ((first | refine zz ?_) <;> (conv => whnf)))
     refine LentAt.of (u := .agg [.sl none 6 (s.nodes.map nodeR), .sl none 16 (((es.map podR).drop 0).take n)]) (es := gs.map strR) (lent_aggm rfl rfl (deep_map (fun _ => rfl) es) (by omega)) rfl (fun e he => by obtain ⟨q, _, rfl⟩ := List.mem_map.1 he; rfl) ⟨?_, rfl⟩
     rw [hst, List.drop_zero, List.take_of_length_le (by omega)]
theorem without_lent (s : StD) (gs : List Str) (hgl : gs.length ≤ 1000) (h6 : s.nodes.length ≤ 1000) (hs : s.ok) (hsm : Small s) (hr : ∀ q ∈ s.pods, PodRoom q) {k : Nat} {h : Heap} (hk : h.get k = some (.arr 1 (gs.map strR))) {K : V → Heap → Prop} (hK : K (stV (withoutD s gs)) h) :
 ACall P 48 [stV s, .ms (.g k) 1 0 gs.length] h K := by
 refine ACall.lent (args := [stV s, .ms (.g 0) 1 0 gs.length]) (without_lent0 hG s gs hgl h6 hs hsm hr) rfl (fun e he => by obtain ⟨q, _, rfl⟩ := List.mem_map.1 he; rfl) hk fun u es ⟨hu, hes⟩ => ?_
 subst hu; subst hes
 rw [heap_set_same hk]
 exact hK
end
end Go.Eng
/-
A row of names copied, and names deleted in it.
-/
namespace Go.Eng
open Go
section plain
variable {α : Type}
theorem set_take {l : List α} {i : Nat} {x : α} (h : i < l.length) : (l.set i x).take (i + 1) = l.take i ++ [x] := by
 rw [take_succ' (x := x) (by rw [List.getElem?_set_self h])]
 congr 1
 apply List.ext_getElem?
 intro t
 by_cases ht : t < i
 · rw [List.getElem?_take, List.getElem?_take, if_pos ht, if_pos ht, List.getElem?_set_ne (by omega)]
 · rw [List.getElem?_take, List.getElem?_take, if_neg ht, if_neg ht]
structure DelAt (keep : α → Bool) (l row : List α) (i j : Nat) : Prop where
 len : row.length = l.length
 pre : row.take i = (l.take j).filter keep
 cnt : i = ((l.take j).filter keep).length
 rest : ∀ t, j ≤ t → row[t]? = l[t]?
 lt : i < j
 le : j ≤ l.length
theorem DelAt.start {keep : α → Bool} {l : List α} {i : Nat} {x : α} (hx : l[i]? = some x) (hk : keep x = false) (h : ∀ (j : Nat) (y : α), j < i → l[j]? = some y → keep y = true) : DelAt keep l l i (i + 1) := by
 have hi := (List.getElem?_eq_some_iff.1 hx).1
 have h1 : (l.take (i + 1)).filter keep = l.take i := by
  rw [take_succ' hx, List.filter_append]
  have : (l.take i).filter keep = l.take i := List.filter_eq_self.2 fun y hy => by
   obtain ⟨j, hj⟩ := List.mem_iff_getElem?.1 hy
   have hji : j < i := by have := (List.getElem?_eq_some_iff.1 hj).1; rw [List.length_take] at this; omega
   rw [List.getElem?_take, if_pos hji] at hj
   exact h j y hji hj
  rw [this]
  simp [hk]
 refine ⟨rfl, by rw [h1], by rw [h1, List.length_take]; omega, fun t _ => rfl, by omega, hi⟩
theorem DelAt.skip {keep : α → Bool} {l row : List α} {i j : Nat} {x : α} (h : DelAt keep l row i j) (hx : l[j]? = some x) (hk : keep x = false) : DelAt keep l row i (j + 1) := by
 have h1 : (l.take (j + 1)).filter keep = (l.take j).filter keep := by
  rw [take_succ' hx, List.filter_append]; simp [hk]
 have hj := (List.getElem?_eq_some_iff.1 hx).1
 exact ⟨h.len, by rw [h1]; exact h.pre, by rw [h1]; exact h.cnt, fun t ht => h.rest t (by omega), by have := h.lt; omega, hj⟩
theorem DelAt.keep {keep : α → Bool} {l row : List α} {i j : Nat} {x : α} (h : DelAt keep l row i j) (hx : l[j]? = some x) (hk : keep x = true) : DelAt keep l (row.set i x) (i + 1) (j + 1) := by
 have h1 : (l.take (j + 1)).filter keep = (l.take j).filter keep ++ [x] := by
  rw [take_succ' hx, List.filter_append]; simp [hk]
 have hj := (List.getElem?_eq_some_iff.1 hx).1
 have hlt := h.lt
 have hi : i < row.length := by rw [h.len]; omega
 refine ⟨by rw [List.length_set]; exact h.len, by rw [h1, set_take hi, h.pre], by rw [h1, List.length_append, ← h.cnt]; rfl, fun t ht => by rw [List.getElem?_set_ne (by omega)]; exact h.rest t (by omega), by omega, hj⟩
theorem DelAt.end {keep : α → Bool} {l row : List α} {i j : Nat} (h : DelAt keep l row i j) (hj : l.length ≤ j) : i = (l.filter keep).length ∧ row.take i = l.filter keep := by
 have : l.take j = l := List.take_of_length_le hj
 exact ⟨by have := h.cnt; rwa [‹l.take j = l›] at this, by have := h.pre; rwa [‹l.take j = l›] at this⟩
end plain
theorem ixm_str {P : Program} {f : Nat} (hk : okFn P f (ixfText 1 none) = true) {l : List Str} {g : Nat} {k r : Nat} {h : Heap} {p : Str → Bool} (hl : l.length ≤ 9223372036854775807) (hr : h.get r = some (.arr 1 (l.map strR)))
 (hg : ∀ e ∈ l, ∀ K : V → Heap → Prop, K (.b (p e)) h → ACall P g [.s e, .p (.g k) 0] h K) {K : V → Heap → Prop} (hK : K (.i .i64 (ixRes p l)) h) : ACall P f [.ms (.g r) 1 0 l.length, .fn g [] [.p (.g k) 0]] h K := by
 have hlm : (l.map strR).length = l.length := List.length_map _
 refine fn_sp hk rfl ?_
 ((conv => whnf); repeat ((first | refine SIf.ff rfl ?_ | refine SIf.tt rfl ?_ | refine SOpt.of rfl ?_ | refine SChk.mk rfl ?_ | refine SSame.mk rfl ?_ | refine ye rfl ?_) <;> (conv => whnf)))
 refine SLoop.by (fun q fr st => ∃ i : Nat, i ≤ l.length ∧ q = l.length - i ∧ (∀ (j : Nat) (e : Str), j < i → l[j]? = some e → p e = false) ∧ Fr.le [(8, .i .i64 i), (7, .i .i64 l.length), (1, .fn g [] [.p (.g k) 0]), (0, .ms (.g r) 1 0 l.length)] fr ∧ st = gst h)
  l.length ⟨0, Nat.zero_le _, rfl, fun j e hj => absurd hj (Nat.not_lt_zero _), fle, rfl⟩ ?_
 rintro q fr st ⟨i, hi, rfl, hok, hle, rfl⟩
 refine ⟨_, hle, fun R hR => ?_⟩
 ((conv => whnf); repeat ((first | refine SIf.ff rfl ?_ | refine SIf.tt rfl ?_ | refine SOpt.of rfl ?_ | refine SChk.mk rfl ?_ | refine SSame.mk rfl ?_ | refine ye rfl ?_) <;> (conv => whnf)))
 refine SIf.ds (fun hlt => ?_) (fun hge => ?_)
 · have hi' : i < l.length := by omega
   have he := gE hi'
   have hm := List.getElem_mem hi'
   generalize l[i] = e at he hm
   ((conv => whnf); repeat ((first | refine SChk.ix (by omega) (by omega) ?_ | refine SIf.ff rfl ?_ | refine SIf.tt rfl ?_ | refine SOpt.of rfl ?_ | refine SChk.mk rfl ?_ | refine SSame.mk rfl ?_ | refine ye (hr) ?_ | refine ye (map_get' (by simp) he) ?_ | refine ye rfl ?_) <;> (conv => whnf)))
   refine SCall.mk (hg e hm _ ?_)
   ((conv => whnf); repeat ((first | refine SIf.ff rfl ?_ | refine SIf.tt rfl ?_ | refine SOpt.of rfl ?_ | refine SChk.mk rfl ?_ | refine SSame.mk rfl ?_ | refine ye rfl ?_) <;> (conv => whnf)))
   refine SIf.mk (fun hp => ?_) (fun hp => ?_)
   · ((conv => whnf); repeat ((first | refine SIf.ff rfl ?_ | refine SIf.tt rfl ?_ | refine SOpt.of rfl ?_ | refine SChk.mk rfl ?_ | refine SSame.mk rfl ?_ | refine ye rfl ?_) <;> (conv => whnf)))
     rw [findIdx_some he hp hok] at hK
     exact hK
   · ((conv => whnf); repeat ((first | refine SWrap.w64 (by omega) (by omega) ?_ | refine SIf.ff rfl ?_ | refine SIf.tt rfl ?_ | refine SOpt.of rfl ?_ | refine SChk.mk rfl ?_ | refine SSame.mk rfl ?_ | refine ye rfl ?_) <;> (conv => whnf)))
     refine hR (l.length - (i + 1)) _ _ (by omega) ⟨i + 1, by omega, rfl, fun j x hj hx => ?_, fle, rfl⟩
     by_cases hji : j < i
     · exact hok j x hji hx
     · obtain rfl : j = i := by omega
       rw [he] at hx; cases hx; exact hp
 · ((conv => whnf); repeat ((first | refine SIf.ff rfl ?_ | refine SIf.tt rfl ?_ | refine SOpt.of rfl ?_ | refine SChk.mk rfl ?_ | refine SSame.mk rfl ?_ | refine ye rfl ?_) <;> (conv => whnf)))
   rw [findIdx_none fun j x hx => hok j x (by have := (List.getElem?_eq_some_iff.1 hx).1; omega) hx] at hK
   exact hK
section
variable {P : Program} (hG : FnsOk P AF.fns.get)
include hG
theorem clonems_nil {k : Nat} {h : Heap} (hn : k ≠ h.next) (hk : h.get k = some (.arr 1 (([] : List Str).map strR))) {K : V → Heap → Prop} (hK : K (.ms (.g h.next) 1 0 0) (h.push (.arr 1 []))) : ACall P 50 [.ms (.g k) 1 0 0] h K := by
 refine fn_sp (hG _ AF.f50 rfl) rfl ?_
 ((conv => whnf); repeat ((first | refine SIf.ff rfl ?_ | refine SIf.tt rfl ?_ | refine SOpt.of rfl ?_ | refine SChk.mk rfl ?_ | refine SSame.mk rfl ?_ | refine ye (Heap.gp hn hk) ?_ | refine ye rfl ?_) <;> (conv => whnf)))
 exact hK
theorem clonems_cons (x : Str) (r : List Str) (hl : (x :: r).length ≤ 1000) {k : Nat} {h : Heap} (hn : k ≠ h.next) (hk : h.get k = some (.arr 1 ((x :: r).map strR))) {K : V → Heap → Prop}
 (hK : K (.ms (.g (h.next + 1)) 1 0 (x :: r).length) (((h.push (.arr 1 [])).remove h.next).push (.arr 1 ((x :: r).map strR)))) : ACall P 50 [.ms (.g k) 1 0 (x :: r).length] h K := by
 have hrows : List.take (x :: r).length (List.drop 0 (List.map strR (x :: r))) = (x :: r).map strR := by simp [List.take_of_length_le]
 refine fn_sp (hG _ AF.f50 rfl) rfl ?_
 ((conv => whnf); repeat ((first | refine SChk.d (by rw [List.length_map]; omega) ?_ | refine ye (by rw [hrows]; exact own_map (fun _ => rfl) (x :: r)) ?_ | refine SChk.mk (by rw [hrows]; simp [roomOk] at hl ⊢; omega) ?_ | refine SIf.df (by rw [List.length_map]; simp only [List.length_cons, List.length_nil]; omega) ?_ | refine SIf.ff rfl ?_ | refine SIf.tt rfl ?_ | refine SOpt.of rfl ?_ | refine SChk.mk rfl ?_ | refine SSame.mk rfl ?_ | refine ye (Heap.gp hn hk) ?_ | refine ye (Heap.get_push_self h (.arr 1 [])) ?_ | refine ye rfl ?_) <;> (conv => whnf)))
 rw [List.length_map]
 show K (.ms _ 1 0 (0 + (x :: r).length)) _
 rw [Nat.zero_add]
 exact hK
theorem delms_str {l : List Str} {g k r : Nat} {h : Heap} {p : Str → Bool} (hl : l.length ≤ 1000) (hr : h.get r = some (.arr 1 (l.map strR)))
 (hg : ∀ e ∈ l, ∀ (rows : List Str) (K : V → Heap → Prop), K (.b (p e)) (h.set r (.arr 1 (rows.map strR))) → ACall P g [.s e, .p (.g k) 0] (h.set r (.arr 1 (rows.map strR))) K) {K : V → Heap → Prop}
 (hK : K (.ms (.g r) 1 0 (l.filter fun e => !p e).length) (h.set r (.arr 1 ((l.filter fun e => !p e).map strR)))) :
 ACall P 49 [.ms (.g r) 1 0 l.length, .fn g [] [.p (.g k) 0]] h K := by
 have hix : ∀ (n : Int), ixRes p l = n → ∀ {K : V → Heap → Prop}, K (.i .i64 n) h → ACall P 120 [.ms (.g r) 1 0 l.length, .fn g [] [.p (.g k) 0]] h K := fun n hn K hK =>
  ixm_str (hG _ AF.f120 rfl) (p := p) (by omega) hr (fun e he K hK => by
   have := hg e he l K
   rw [heap_set_same hr] at this
   exact this hK) (hn ▸ hK)
 refine ACall.shrink (r := r) (sz := 1) (fn_sp (hG _ AF.f49 rfl) rfl ?_)
 cases hfi : l.findIdx? p with
 | none =>
   ((conv => whnf); repeat ((first | refine cA (hix (-1) (ixRes_none hfi)) ?_ | refine SIf.ff rfl ?_ | refine SIf.tt rfl ?_ | refine SOpt.of rfl ?_ | refine SChk.mk rfl ?_ | refine SSame.mk rfl ?_ | refine ye rfl ?_) <;> (conv => whnf)))
   have hall : (l.filter fun e => !p e) = l := List.filter_eq_self.2 fun e he => by
    have := List.findIdx?_eq_none_iff.1 hfi e he
    simp [this]
   rw [hall] at hK
   exact ⟨_, l.length, hr, by rw [List.take_of_length_le (by rw [List.length_map]; omega)]; exact hK⟩
 | some i0 =>
   rw [List.findIdx?_eq_some_iff_getElem] at hfi
   obtain ⟨hi0, hp0, hb0⟩ := hfi
   have hfi : l.findIdx? p = some i0 := by rw [List.findIdx?_eq_some_iff_getElem]; exact ⟨hi0, hp0, hb0⟩
   have hstart : DelAt (fun e => !p e) l l i0 (i0 + 1) := DelAt.start (gE hi0) (by simp [hp0]) fun j y hj hy => by
    have := hb0 j hj
    rw [gE (by omega)] at hy
    cases hy
    simpa using this
   ((conv => whnf); repeat ((first | refine cA (hix i0 (ixRes_some hfi)) ?_ | refine SIf.df (by omega) ?_ | refine SWrap.w64 (by omega) (by omega) ?_ | refine SIf.ff rfl ?_ | refine SIf.tt rfl ?_ | refine SOpt.of rfl ?_ | refine SChk.mk rfl ?_ | refine SSame.mk rfl ?_ | refine ye rfl ?_) <;> (conv => whnf)))
   refine SLoop.by (fun q fr st => ∃ (i j : Nat) (row : List Str), q = l.length - j ∧ DelAt (fun e => !p e) l row i j ∧
    Fr.le [(6, .i .i64 j), (5, .i .i64 i), (1, .fn g [] [.p (.g k) 0]), (0, .ms (.g r) 1 0 l.length)] fr ∧ st = gst (h.set r (.arr 1 (row.map strR))))
    (l.length - (i0 + 1)) ⟨i0, i0 + 1, l, rfl, hstart, fle, by rw [heap_set_same hr]⟩ ?_
   rintro q fr st ⟨i, j, row, rfl, hat, hle, rfl⟩
   refine ⟨_, hle, fun R hR => ?_⟩
   have hob : ∀ rows : List Str, (h.set r (.arr 1 (rows.map strR))).get r = some (.arr 1 (rows.map strR)) := fun rows => Heap.get_set_self hr
   have hrl := hat.len
   have hlt := hat.lt
   have hle' := hat.le
   have hrm : (row.map strR).length = row.length := List.length_map _
   ((conv => whnf); repeat ((first | refine SIf.ff rfl ?_ | refine SIf.tt rfl ?_ | refine SOpt.of rfl ?_ | refine SChk.mk rfl ?_ | refine SSame.mk rfl ?_ | refine ye rfl ?_) <;> (conv => whnf)))
   refine SIf.ds (fun hlt' => ?_) (fun hge => ?_)
   · have hj : j < l.length := by omega
     have he := gE hj
     have hm := List.getElem_mem hj
     generalize l[j] = e at he hm
     have her : row[j]? = some e := by rw [hat.rest j (Nat.le_refl _)]; exact he
     ((conv => whnf); repeat ((first | refine SChk.ix (by omega) (by omega) ?_ | refine SIf.ff rfl ?_ | refine SIf.tt rfl ?_ | refine SOpt.of rfl ?_ | refine SChk.mk rfl ?_ | refine SSame.mk rfl ?_ | refine ye (hob _) ?_ | refine ye (map_get' (by omega) her) ?_ | refine ye rfl ?_) <;> (conv => whnf)))
     refine SCall.mk (hg e hm row _ ?_)
     ((conv => whnf); repeat ((first | refine SIf.ff rfl ?_ | refine SIf.tt rfl ?_ | refine SOpt.of rfl ?_ | refine SChk.mk rfl ?_ | refine SSame.mk rfl ?_ | refine ye rfl ?_) <;> (conv => whnf)))
     cases hpe : p e
     · have hy := gE (by omega : i < row.length)
       generalize row[i]'(by omega) = y at hy
       ((conv => whnf); repeat ((first | refine SIf.tt (by rw [hpe]; rfl) ?_ | refine SChk.ix (by omega) (by omega) ?_ | refine SWrap.w64 (by omega) (by omega) ?_ | refine SIf.ff rfl ?_ | refine SIf.tt rfl ?_ | refine SOpt.of rfl ?_ | refine SChk.mk rfl ?_ | refine SSame.mk rfl ?_ | refine ye (hob _) ?_ | refine ye (map_get' (by omega) hy) ?_ | refine ye rfl ?_) <;> (conv => whnf)))
       refine hR (l.length - (j + 1)) _ _ (by omega) ⟨i + 1, j + 1, row.set i e, rfl, hat.keep he (by simp [hpe]), fle, ?_⟩
       show gst ((h.set r (.arr 1 (row.map strR))).set r (.arr 1 ((row.map strR).set (0 + ((i : Nat) : Int).toNat) (strR e)))) = _
       rw [heap_set2, map_set_of, Nat.zero_add]
       rfl
     · ((conv => whnf); repeat ((first | refine SIf.ff (by rw [hpe]; rfl) ?_ | refine SWrap.w64 (by omega) (by omega) ?_ | refine SIf.ff rfl ?_ | refine SIf.tt rfl ?_ | refine SOpt.of rfl ?_ | refine SChk.mk rfl ?_ | refine SSame.mk rfl ?_ | refine ye rfl ?_) <;> (conv => whnf)))
       exact hR (l.length - (j + 1)) _ _ (by omega) ⟨i, j + 1, row, rfl, hat.skip he (by simp [hpe]), fle, rfl⟩
   · obtain ⟨h1, h2⟩ := hat.end (by omega)
     have hi : i ≤ row.length := by omega
     ((conv => whnf); repeat ((first | refine SChk.d3 (by omega) (by omega) (by omega) ?_ | refine SChk.d (by omega) ?_ | refine SChk.d3 (by omega) (by omega) (by simp [hrl]; omega) ?_ | refine SIf.ff rfl ?_ | refine SIf.tt rfl ?_ | refine SOpt.of rfl ?_ | refine SChk.mk rfl ?_ | refine SSame.mk rfl ?_ | refine ye (hob _) ?_ | refine ye (Heap.get_set_self (hob _)) ?_ | refine ye rfl ?_) <;> (conv => whnf)))
     have e0 : ∀ X : List (List V), List.take i (List.take (0 + i) (row.map strR) ++ X ++ List.drop (0 + i + (l.length - i)) (row.map strR)) = (l.filter fun e => !p e).map strR := fun X => by
      rw [Nat.zero_add, List.append_assoc, List.take_append_of_le_length (by rw [List.length_take]; omega), List.take_of_length_le (by rw [List.length_take]; omega), ← List.map_take, h2]
     refine ⟨_, i, Heap.get_set_self (hob _), ?_⟩
     show K (.ms (.g r) 1 0 i) (((h.set r (.arr 1 (row.map strR))).set r _).set r (.arr 1 (List.take i (List.take (0 + i) (row.map strR) ++ List.replicate (l.length - i) [vS] ++ List.drop (0 + i + (l.length - i)) (row.map strR)))))
     rw [heap_set2, heap_set2, e0, h1]
     exact hK
end
end Go.Eng
/-
Pods deleted in a row.
-/
namespace Go.Eng
open Go
def zeroP : List V := [.s [], .i .i64 0, .i .i64 0, .i .i64 0, .i .i64 0, .i .i64 0, .nils, .nils, .nils, .nils, .s [], .nils, .i .i64 0, .nils, .s [], .i .i64 0]
section
variable {P : Program} (hG : FnsOk P AF.fns.get)
include hG
theorem delms_pod {l : List PodD} {g k r : Nat} {h : Heap} {p : PodD → Bool} (hl : l.length ≤ 1000) (hr : h.get r = some (.arr 16 (l.map podR)))
 (hg : ∀ e ∈ l, ∀ (rows : List PodD) (K : V → Heap → Prop), K (.b (p e)) (h.set r (.arr 16 (rows.map podR))) → ACall P g [.agg (podR e), .p (.g k) 0] (h.set r (.arr 16 (rows.map podR))) K) {K : V → Heap → Prop}
 (hK : K (.ms (.g r) 16 0 (l.filter fun e => !p e).length) (h.set r (.arr 16 ((l.filter fun e => !p e).map podR)))) :
 ACall P 41 [.ms (.g r) 16 0 l.length, .fn g [] [.p (.g k) 0]] h K := by
 have hix : ∀ (n : Int), ixRes p l = n → ∀ {K : V → Heap → Prop}, K (.i .i64 n) h → ACall P 98 [.ms (.g r) 16 0 l.length, .fn g [] [.p (.g k) 0]] h K := fun n hn K hK =>
  ixm_pod (hG _ AF.f98 rfl) (p := p) (by omega) hr (fun e he K hK => by
   have := hg e he l K
   rw [heap_set_same hr] at this
   exact this hK) n hn hK
 refine ACall.shrink (r := r) (sz := 16) (fn_sp (hG _ AF.f41 rfl) rfl ?_)
 cases hfi : l.findIdx? p with
 | none =>
   ((conv => whnf); repeat ((first | refine cA (hix (-1) (ixRes_none hfi)) ?_ | refine SIf.ff rfl ?_ | refine SIf.tt rfl ?_ | refine SOpt.of rfl ?_ | refine SChk.mk rfl ?_ | refine SSame.mk rfl ?_ | refine ye rfl ?_) <;> (conv => whnf)))
   have hall : (l.filter fun e => !p e) = l := List.filter_eq_self.2 fun e he => by
    have := List.findIdx?_eq_none_iff.1 hfi e he
    simp [this]
   rw [hall] at hK
   exact ⟨_, l.length, hr, by rw [List.take_of_length_le (by rw [List.length_map]; omega)]; exact hK⟩
 | some i0 =>
   rw [List.findIdx?_eq_some_iff_getElem] at hfi
   obtain ⟨hi0, hp0, hb0⟩ := hfi
   have hfi : l.findIdx? p = some i0 := by rw [List.findIdx?_eq_some_iff_getElem]; exact ⟨hi0, hp0, hb0⟩
   have hstart : DelAt (fun e => !p e) l l i0 (i0 + 1) := DelAt.start (gE hi0) (by simp [hp0]) fun j y hj hy => by
    have := hb0 j hj
    rw [gE (by omega)] at hy
    cases hy
    simpa using this
   ((conv => whnf); repeat ((first | refine cA (hix i0 (ixRes_some hfi)) ?_ | refine SIf.df (by omega) ?_ | refine SWrap.w64 (by omega) (by omega) ?_ | refine SIf.ff rfl ?_ | refine SIf.tt rfl ?_ | refine SOpt.of rfl ?_ | refine SChk.mk rfl ?_ | refine SSame.mk rfl ?_ | refine ye rfl ?_) <;> (conv => whnf)))
   refine SLoop.by (fun q fr st => ∃ (i j : Nat) (row : List PodD), q = l.length - j ∧ DelAt (fun e => !p e) l row i j ∧
    Fr.le [(6, .i .i64 j), (5, .i .i64 i), (1, .fn g [] [.p (.g k) 0]), (0, .ms (.g r) 16 0 l.length)] fr ∧ ∃ L : Heap, st = ⟨h.set r (.arr 16 (row.map podR)), L⟩)
    (l.length - (i0 + 1)) ⟨i0, i0 + 1, l, rfl, hstart, fle, noL, by rw [heap_set_same hr]⟩ ?_
   rintro q fr st ⟨i, j, row, rfl, hat, hle, L, rfl⟩
   refine ⟨_, hle, fun R hR => ?_⟩
   have hob : ∀ rows : List PodD, (h.set r (.arr 16 (rows.map podR))).get r = some (.arr 16 (rows.map podR)) := fun rows => Heap.get_set_self hr
   have hrl := hat.len
   have hlt := hat.lt
   have hle' := hat.le
   have hrm : (row.map podR).length = row.length := List.length_map _
   ((conv => whnf); repeat ((first | refine SIf.ff rfl ?_ | refine SIf.tt rfl ?_ | refine SOpt.of rfl ?_ | refine SChk.mk rfl ?_ | refine SSame.mk rfl ?_ | refine ye rfl ?_) <;> (conv => whnf)))
   refine SIf.ds (fun hlt' => ?_) (fun hge => ?_)
   · have hj : j < l.length := by omega
     have he := gE hj
     have hm := List.getElem_mem hj
     generalize l[j] = e at he hm
     have her : row[j]? = some e := by rw [hat.rest j (Nat.le_refl _)]; exact he
     ((conv => whnf); repeat ((first | refine SChk.ix (by omega) (by omega) ?_ | refine SIf.ff rfl ?_ | refine SIf.tt rfl ?_ | refine SOpt.of rfl ?_ | refine SChk.mk rfl ?_ | refine SSame.mk rfl ?_ | refine ye (hob _) ?_ | refine ye (map_get' (by omega) her) ?_ | refine ye rfl ?_) <;> (conv => whnf)))
     refine ye (Heap.get_push_self L _) ?_
     ((conv => whnf); repeat ((first | refine SIf.ff rfl ?_ | refine SIf.tt rfl ?_ | refine SOpt.of rfl ?_ | refine SChk.mk rfl ?_ | refine SSame.mk rfl ?_ | refine ye rfl ?_) <;> (conv => whnf)))
     refine ye (x := .cs (podR e)) (Heap.get_set_self (Heap.get_push_self L _)) ?_
     ((conv => whnf); repeat ((first | refine SIf.ff rfl ?_ | refine SIf.tt rfl ?_ | refine SOpt.of rfl ?_ | refine SChk.mk rfl ?_ | refine SSame.mk rfl ?_ | refine ye rfl ?_) <;> (conv => whnf)))
     refine SCall.mk (hg e hm row _ ?_)
     ((conv => whnf); repeat ((first | refine SIf.ff rfl ?_ | refine SIf.tt rfl ?_ | refine SOpt.of rfl ?_ | refine SChk.mk rfl ?_ | refine SSame.mk rfl ?_ | refine ye rfl ?_) <;> (conv => whnf)))
     cases hpe : p e
     · have hy := gE (by omega : i < row.length)
       generalize row[i]'(by omega) = y at hy
       ((conv => whnf); repeat ((first | refine SIf.tt (by rw [hpe]; rfl) ?_ | refine SChk.ix (by omega) (by omega) ?_ | refine SIf.ff rfl ?_ | refine SIf.tt rfl ?_ | refine SOpt.of rfl ?_ | refine SChk.mk rfl ?_ | refine SSame.mk rfl ?_ | refine ye (hob _) ?_ | refine ye rfl ?_) <;> (conv => whnf)))
       refine ye (x := .cs (podR e)) (Heap.get_set_self (Heap.get_push_self L _)) ?_
       ((conv => whnf); repeat ((first | refine SChk.ix (by omega) (by omega) ?_ | refine SWrap.w64 (by omega) (by omega) ?_ | refine SIf.ff rfl ?_ | refine SIf.tt rfl ?_ | refine SOpt.of rfl ?_ | refine SChk.mk rfl ?_ | refine SSame.mk rfl ?_ | refine ye (hob _) ?_ | refine ye (map_get' (by omega) hy) ?_ | refine ye rfl ?_) <;> (conv => whnf)))
       refine hR (l.length - (j + 1)) _ _ (by omega) ⟨i + 1, j + 1, row.set i e, rfl, hat.keep he (by simp [hpe]), fle, (L.push (.cs zeroP)).set L.next (.cs (podR e)), ?_⟩
       show (⟨(h.set r (.arr 16 (row.map podR))).set r (.arr 16 ((row.map podR).set (0 + ((i : Nat) : Int).toNat) (podR e))), (L.push (.cs zeroP)).set L.next (.cs (podR e))⟩ : St) = _
       rw [heap_set2, map_set_of, Nat.zero_add]
       rfl
     · ((conv => whnf); repeat ((first | refine SIf.ff (by rw [hpe]; rfl) ?_ | refine SWrap.w64 (by omega) (by omega) ?_ | refine SIf.ff rfl ?_ | refine SIf.tt rfl ?_ | refine SOpt.of rfl ?_ | refine SChk.mk rfl ?_ | refine SSame.mk rfl ?_ | refine ye rfl ?_) <;> (conv => whnf)))
       exact hR (l.length - (j + 1)) _ _ (by omega) ⟨i, j + 1, row, rfl, hat.skip he (by simp [hpe]), fle, _, rfl⟩
   · obtain ⟨h1, h2⟩ := hat.end (by omega)
     have hi : i ≤ row.length := by omega
     ((conv => whnf); repeat ((first | refine SChk.d3 (by omega) (by omega) (by omega) ?_ | refine SChk.d (by omega) ?_ | refine SChk.d3 (by omega) (by omega) (by simp [hrl]; omega) ?_ | refine SIf.ff rfl ?_ | refine SIf.tt rfl ?_ | refine SOpt.of rfl ?_ | refine SChk.mk rfl ?_ | refine SSame.mk rfl ?_ | refine ye (hob _) ?_ | refine ye (Heap.get_set_self (hob _)) ?_ | refine ye rfl ?_) <;> (conv => whnf)))
     have e0 : ∀ X : List (List V), List.take i (List.take (0 + i) (row.map podR) ++ X ++ List.drop (0 + i + (l.length - i)) (row.map podR)) = (l.filter fun e => !p e).map podR := fun X => by
      rw [Nat.zero_add, List.append_assoc, List.take_append_of_le_length (by rw [List.length_take]; omega), List.take_of_length_le (by rw [List.length_take]; omega), ← List.map_take, h2]
     refine ⟨_, i, Heap.get_set_self (hob _), ?_⟩
     show K (.ms (.g r) 16 0 i) (((h.set r (.arr 16 (row.map podR))).set r _).set r (.arr 16 (List.take i (List.take (0 + i) (row.map podR) ++ List.replicate (l.length - i) zeroP ++ List.drop (0 + i + (l.length - i)) (row.map podR)))))
     rw [heap_set2, heap_set2, e0, h1]
     exact hK
end
end Go.Eng
/-
Who is on a node, in a row that is written to; what Victims asks of two pods.
-/
namespace Go.Eng
open Go
theorem Made.row {P : Program} {f : Nat} {args : List V} {es : List PodD} (h0 : ACall P f args noG (MadeAt fun u sz rs => u = .ms (.g 0) 16 0 es.length ∧ sz = 16 ∧ rs = es.map podR)) (ha : args.all V.free = true) {h : Heap} {K : V → Heap → Prop}
 (hK : K (.ms (.g h.next) 16 0 es.length) (h.push (.arr 16 (es.map podR)))) : ACall P f args h K :=
 h0.made ha fun u sz rs ⟨h1, h2, h3⟩ => by subst h1; subst h2; subst h3; exact hK
section
variable {P : Program} (hG : FnsOk P AF.fns.get)
include hG
theorem on_made (s : StD) (node : Str) (hs : s.ok) (hr : ∀ q ∈ s.pods, PodRoom q) (hne : onD s node ≠ []) :
 ACall P 42 [stV s, .s node] noG (MadeAt fun u sz rs => u = .ms (.g 0) 16 0 (onD s node).length ∧ sz = 16 ∧ rs = (onD s node).map podR) := by
 have hlm : (s.pods.map podR).length = s.pods.length := List.length_map _
 have hl := hs.pods
 have hsm := hs.some
 unfold LenOk at hl
 obtain ⟨f, hf⟩ : ∃ f : PodD → Bool, f = fun p => p.node == node && !(node == []) := ⟨_, rfl⟩
 refine fn_sz (hG _ AF.f42 rfl) rfl ?_
 ((conv => whnf); repeat ((first | refine zz ?_) <;> (conv => whnf)))
 refine SLoopZ.by (fun q fr st => ∃ (i : Nat) (b : Bool) (es : List PodD) (n : Nat), i ≤ s.pods.length ∧ q = s.pods.length - i ∧ es = (s.pods.take i).filter f ∧ (b = false → es = []) ∧ n = es.length ∧
  fr = [(11, .i .i64 i), (10, .i .i64 (s.pods.map podR).length), (9, .sl none 16 (s.pods.map podR)), (5, accM b 16 n), (1, .s node)] ∧ st = ⟨accG b 16 (es.map podR), noL⟩)
  s.pods.length ⟨_, _, ?_, 0, false, [], 0, Nat.zero_le _, rfl, rfl, fun _ => rfl, rfl, rfl, rfl⟩ ?_
 · exact tL0
 rintro q fr st ⟨i, b, es, n, hi, rfl, hes, hb, hn, rfl, rfl⟩ R hR
 have hesl : es.length ≤ i := by
  rw [hes]
  exact Nat.le_trans (List.length_filter_le _ _) (List.length_take_le _ _)
 have hem : (es.map podR).length = es.length := List.length_map _
 (conv => whnf)
 refine SIf.ds (fun hlt => ?_) (fun hge => ?_)
 · have hi' : i < s.pods.length := by omega
   have he := gE hi'
   have hme := hr _ (List.getElem_mem hi')
   generalize s.pods[i] = e at he hme
   have hc := copyPod_ok hG e hme
   have h1 : f e = true → es ++ [e] = (s.pods.take (i + 1)).filter f := fun h => by
    rw [take_succ' he, List.filter_append, ← hes]
    simp [h]
   have h0 : f e = false → es = (s.pods.take (i + 1)).filter f := fun h => by
    rw [take_succ' he, List.filter_append, ← hes]
    simp [h]
   cases b
   · obtain rfl : es = [] := hb rfl
     ((conv => whnf); repeat' ((first | refine cA (Pure.go hc rfl) ?_ | refine ye (map_get' (by omega) he) ?_ | refine zz ?_ | refine SIf.ds (fun _ => ?_) (fun _ => ?_) | refine SIf.ns (fun _ => ?_) (fun _ => ?_) | refine SIf.mk (fun _ => ?_) (fun _ => ?_) | (intro r hr; cases r)) <;> (conv => whnf)))
     · have hfe : f e = true := by rw [hf]; simp_all
       refine hR (s.pods.length - (i + 1)) _ _ (by omega) ⟨_, _, ?_, i + 1, true, [] ++ [e], 1, by omega, rfl, h1 hfe, (fun h => by cases h), rfl, rfl, rfl⟩
       exact tG [1] []
     all_goals
      have hfe : f e = false := by rw [hf]; simp_all
      refine hR (s.pods.length - (i + 1)) _ _ (by omega) ⟨_, _, ?_, i + 1, false, [], 0, by omega, rfl, h0 hfe, (fun _ => rfl), rfl, rfl, rfl⟩
      exact tL0
   · ((conv => whnf); repeat' ((first | refine cA (Pure.go hc rfl) ?_ | refine SChk.mk (by simp [roomOk]; omega) ?_ | refine SIf.df (by simp only [List.length_cons, List.length_nil, List.length_map]; omega) ?_ | refine ye (map_get' (by omega) he) ?_ | refine zz ?_ | refine SIf.ds (fun _ => ?_) (fun _ => ?_) | refine SIf.ns (fun _ => ?_) (fun _ => ?_) | refine SIf.mk (fun _ => ?_) (fun _ => ?_) | (intro r hr; cases r)) <;> (conv => whnf)))
     · have hfe : f e = true := by rw [hf]; simp_all
       refine hR (s.pods.length - (i + 1)) _ _ (by omega) ⟨_, _, ?_, i + 1, true, es ++ [e], n + 1, by omega, rfl, h1 hfe, (fun h => by cases h), by simp [hn], rfl, rfl⟩
       exact tG [2] []
     all_goals
       have hfe : f e = false := by rw [hf]; simp_all
       refine hR (s.pods.length - (i + 1)) _ _ (by omega) ⟨_, _, ?_, i + 1, true, es, n, by omega, rfl, h0 hfe, (fun h => by cases h), hn, rfl, rfl⟩
       exact tG [0] []
 · have hall : es = onD s node := by
    rw [hes, List.take_of_length_le (by omega), hf]
    rfl
   cases b
   · exact absurd ((hb rfl).symm.trans hall).symm hne
   · ((conv => whnf); repeat ((first | refine zz ?_) <;> (conv => whnf)))
     rw [hn, hall]
     refine MadeAt.of (u := .ms (.g 0) 16 0 (onD s node).length) (sz := 16) (es := (onD s node).map podR) ?_ rfl (fun e he => by obtain ⟨q, _, rfl⟩ := List.mem_map.1 he; rfl) ⟨rfl, rfl, rfl⟩
     exact tG [0] []
theorem prioGe_ok {e p : PodD} {h : Heap} {k : Nat} (hc : h.get k = some (.cs (podR p))) {K : V → Heap → Prop} (hK : K (.b (decide (p.prio ≤ e.prio))) h) : ACall P 43 [.agg (podR e), .p (.g k) 0] h K := by
 refine fn_sp (hG _ AF.f43 rfl) rfl ?_
 ((conv => whnf); repeat ((first | refine SIf.ff rfl ?_ | refine SIf.tt rfl ?_ | refine SOpt.of rfl ?_ | refine SChk.mk rfl ?_ | refine SSame.mk rfl ?_ | refine ye (hc) ?_ | refine ye rfl ?_) <;> (conv => whnf)))
 exact hK
theorem nameIs_ok {n : Str} {q : PodD} {h : Heap} {k : Nat} (hc : h.get k = some (.cs (podR q))) {K : V → Heap → Prop} (hK : K (.b (n == q.name)) h) : ACall P 51 [.s n, .p (.g k) 0] h K := by
 refine fn_sp (hG _ AF.f51 rfl) rfl ?_
 ((conv => whnf); repeat ((first | refine SIf.ff rfl ?_ | refine SIf.tt rfl ?_ | refine SOpt.of rfl ?_ | refine SChk.mk rfl ?_ | refine SSame.mk rfl ?_ | refine ye (hc) ?_ | refine ye rfl ?_) <;> (conv => whnf)))
 exact hK
theorem cmpV_ok (hcmp : CmpOk P) (a b : PodD) : Pure P 45 [.agg (podR a), .agg (podR b)] (· = .i .i64 (cmpV a b)) := by
 have h1 := cmpInt_ok hG b.prio a.prio
 have h2 := compare_ok hG hcmp a.name b.name
 unfold cmpV
 generalize cmpI b.prio a.prio = u at h1
 generalize cmpB a.name b.name = v at h2
 refine pure_fn (hG _ AF.f45 rfl) rfl ?_
 by_cases h : u = 0
 · subst h
   ((conv => whnf); repeat ((first | refine cA (Pure.go h1 rfl) ?_ | refine cA (Pure.go h2 rfl) ?_ | refine zz ?_) <;> (conv => whnf)))
   exact pure_free rfl rfl
 · ((conv => whnf); repeat ((first | refine cA (Pure.go h1 rfl) ?_ | refine cA (Pure.go h2 rfl) ?_ | refine zz ?_) <;> (conv => whnf)))
   refine pure_free rfl ?_
   rw [if_neg h]
end
end Go.Eng
