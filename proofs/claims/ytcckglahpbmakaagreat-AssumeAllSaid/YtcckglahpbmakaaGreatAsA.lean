/-
A pod that may be can be read again.
-/
import Derived.Test.YtcckglahpbmakaaGreatObA
import Derived.Test.YtcckglahpbmakaaGreatRdB
import Derived.Test.YtcckglahpbmakaaGreatCa2
import Derived.Test.YtcckglahpbmakaaGreatFitA
import Derived.Test.YtcckglahpbmakaaGreatCa1
import Derived.Test.YtcckglahpbmakaaGreatEngSymV
set_option linter.unusedVariables false
set_option linter.unusedSimpArgs false
namespace Go.Eng
open Go
theorem nameOk_nil : NameOk [] := ⟨Nat.zero_le _, fun _ h => by cases h⟩
theorem portsB_ok : ∀ {l : List Int} {o : Option Int}, portsB o l = true → ∀ n ∈ l, 1 ≤ n ∧ n ≤ 65535
  | x :: r, o, h, n, hn => by
    rw [portsB_cons] at h
    simp only [Bool.and_eq_true, decide_eq_true_eq] at h
    cases hn with
    | head => exact h.1.1
    | tail _ hn => exact portsB_ok h.2 n hn
theorem pairsB_ok : ∀ {l : List PairD} {o : Option Str}, pairsB o l = true → ∀ q ∈ l, NameOk q.key ∧ NameOk q.val
  | x :: r, o, h, q, hq => by
    rw [pairsB_cons] at h
    simp only [Bool.and_eq_true] at h
    cases hq with
    | head => exact ⟨nameB_ok h.1.1.1, nameB_ok h.1.1.2⟩
    | tail _ hq => exact pairsB_ok h.2 q hq
theorem termB_ok {t : TermD} (h : termB t = true) : TermOk t := by
  unfold termB at h
  simp only [Bool.and_eq_true] at h
  obtain ⟨⟨h1, h2⟩, h3⟩ := h
  have hv : ∀ s ∈ t.vals, NameOk s := fun s hs => nameB_ok (List.all_eq_true.1 h3 s hs)
  by_cases k : t.kind = 1 ∨ t.kind = 2
  · rw [if_pos k] at h1
    simp only [Bool.and_eq_true, decide_eq_true_eq] at h1
    exact ⟨nameB_ok h2, by omega, by omega, hv⟩
  · rw [if_neg k] at h1
    simp only [Bool.and_eq_true, decide_eq_true_eq] at h1
    exact ⟨nameB_ok h2, by omega, by omega, hv⟩
theorem termsB_ok {l : List TermD} (h : termsB l = true) : l.length ≤ 6 ∧ ∀ t ∈ l, TermOk t := by
  unfold termsB at h
  simp only [Bool.and_eq_true, decide_eq_true_eq] at h
  exact ⟨h.1, fun t ht => termB_ok (List.all_eq_true.1 h.2 t ht)⟩
theorem tolB_ok {t : TolD} (h : tolB t = true) : NameOk t.key ∧ NameOk t.val := by
  unfold tolB at h
  simp only [Bool.and_eq_true, Bool.or_eq_true, decide_eq_true_eq] at h
  refine ⟨?_, ?_⟩
  · rcases h.1 with e | e
    · rw [e]; exact nameOk_nil
    · exact nameB_ok e
  · have h2 := h.2
    cases hA : t.any with
    | true => rw [hA, if_pos rfl, decide_eq_true_eq] at h2; rw [h2]; exact nameOk_nil
    | false => rw [hA, if_neg (by decide)] at h2; exact nameB_ok h2
theorem tolsB_ok {l : List TolD} (h : tolsB l = true) : l.length ≤ 6 ∧ ∀ t ∈ l, NameOk t.key ∧ NameOk t.val := by
  unfold tolsB at h
  simp only [Bool.and_eq_true, decide_eq_true_eq] at h
  exact ⟨h.1, fun t ht => tolB_ok (List.all_eq_true.1 h.2 t ht)⟩
theorem pod_read {p : PodD} (h : podB p = true) (ht : p.term ≤ 9223372036854775807) : PodRead p := by
  unfold podB at h
  simp only [Bool.and_eq_true, decide_eq_true_eq] at h
  obtain ⟨h1, h2, h3, h4, h5, h6, ⟨h7, h7'⟩, ⟨h8, h8'⟩, h9, h10, h11, h12⟩ := h
  unfold topoB at h11
  simp only [Bool.and_eq_true, Bool.or_eq_true, decide_eq_true_eq] at h11
  obtain ⟨t1, t2, t3, t4, t5⟩ := h11
  unfold nodeB at h12
  simp only [Bool.and_eq_true, Bool.or_eq_true, decide_eq_true_eq] at h12
  unfold resB amountB at h6
  simp only [Bool.and_eq_true, decide_eq_true_eq] at h6
  obtain ⟨s1, s2⟩ := termsB_ok h9
  obtain ⟨o1, o2⟩ := tolsB_ok h10
  obtain ⟨a1, a2⟩ := termsB_ok t3
  obtain ⟨e1, e2⟩ := termsB_ok t4
  have hp := portsB_ok h7
  exact {
    small := ⟨by omega, by omega, by omega, by omega, by omega, by omega, fun t hm => (s2 t hm).len, fun t hm => (a2 t hm).len, fun t hm => (e2 t hm).len⟩
    name := nameB_ok h1
    uid := by omega
    prio := by omega
    req := ⟨by omega, by omega, by omega⟩
    ports := fun n hn => by have := hp n hn; omega
    labels := pairsB_ok h8
    sel := s2
    tols := o2
    topo := by
      rcases t5 with e | ⟨e, _⟩
      · exact nameB_ok e
      · rw [e]; exact nameOk_nil
    anti := a2
    skew := by omega
    even := e2
    node := by
      rcases h12 with ⟨e, _⟩ | ⟨e, _⟩
      · exact nameB_ok e
      · rw [e]; exact nameOk_nil
    term := by rcases h12 with ⟨_, e⟩ | ⟨_, e⟩ <;> omega }
section
variable {P : Program} (hG : FnsOk P AF.fns.get)
include hG
theorem mpod_pure (p : PodD) (hp : PodLen p) : Pure P 66 [.agg (podR p)] (· = .b (podB p)) := by
  unfold Pure
  exact mpod_at hG p hp (pure_free rfl rfl)
theorem put_yes (hon : OnceOk P 161) (p : PodD) (hp : PodLen p) (hb : podB p = true) (ht : p.term ≤ 9223372036854775807) {h : Heap} {K : V → Heap → Prop}
    (hK : ∀ h', Heap.Keeps (fun _ => False) h h' → K (.sl none 1 ((encPod p).map byR)) h') : ACall P 22 [.agg (podR p)] h K :=
  wput_at hG hon p (pod_read hb ht).small (by have := mpod_pure hG p hp; rw [hb] at this; exact this) hK
theorem put_no (p : PodD) (hp : PodLen p) (hb : podB p = false) {h : Heap} {K : V → Heap → Prop} (hK : K .nils h) : ACall P 22 [.agg (podR p)] h K :=
  wput_no hG p (by have := mpod_pure hG p hp; rw [hb] at this; exact this) hK
theorem get_put (hon : OnceOk P 161) (p : PodD) (hp : PodLen p) (hb : podB p = true) (ht : p.term ≤ 9223372036854775807) {h : Heap} {K : V → Heap → Prop}
    (hK : ∀ h', Heap.Keeps (fun _ => False) h h' → K (.tup [.agg (podR p), .b true]) h') : ACall P 87 [.sl none 1 ((encPod p).map byR)] h K :=
  rget_at hG hon p (pod_read hb ht) (by have := mpod_pure hG p hp; rw [hb] at this; exact this) hK
end
end Go.Eng
/-
Whether a pod is known to wait.
-/
namespace Go.Eng
open Go
def keyP (s : Str) : Str := [112, 47] ++ s
section
variable {P : Program} (hG : FnsOk P AF.fns.get)
include hG
theorem keyp_at {h : Heap} (s : Str) (hl : s.length ≤ 9223372036854775807) (hs : nameB s = true) {K : V → Heap → Prop} (hK : K (.s (keyP s)) h) : ACall P 85 [.i .i64 1, .s s] h K := by
  have hk := fun K hK => name_at (K := K) hG (h := h) s hl hK
  rw [hs] at hk
  have hlen : s.length ≤ 12 := (nameB_ok hs).1
  refine fn_sp (hG _ AF.f85 rfl) rfl ?_
  ((conv => whnf); repeat ((first | refine SCall.app (hk _) ?_ | refine SChk.mk (decide_eq_true (show ((([112, 47] : Str).length + s.length : Nat) : Int) ≤ 9223372036854775807 by simp; omega)) ?_ | refine yf rfl ?_ | refine yt rfl ?_ | refine yo rfl ?_ | refine yc rfl ?_ | refine ys rfl ?_ | refine ye rfl ?_ | refine yn rfl ?_ | refine zw ?_ | refine zdt ?_ | refine zdf ?_ | refine znt ?_ | refine znf ?_ | refine zcd ?_ | refine zci ?_ | refine zc3 ?_) <;> (conv => whnf)))
  exact hK
theorem keyp_no {h : Heap} (s : Str) (hl : s.length ≤ 9223372036854775807) (hs : nameB s = false) {K : V → Heap → Prop} (hK : K (.s []) h) : ACall P 85 [.i .i64 1, .s s] h K := by
  have hk := fun K hK => name_at (K := K) hG (h := h) s hl hK
  rw [hs] at hk
  refine fn_sp (hG _ AF.f85 rfl) rfl ?_
  ((conv => whnf); repeat ((first | refine SCall.app (hk _) ?_ | refine yf rfl ?_ | refine yt rfl ?_ | refine yo rfl ?_ | refine yc rfl ?_ | refine ys rfl ?_ | refine ye rfl ?_ | refine yn rfl ?_ | refine zw ?_ | refine zdt ?_ | refine zdf ?_ | refine znt ?_ | refine znf ?_ | refine zcd ?_ | refine zci ?_ | refine zc3 ?_) <;> (conv => whnf)))
  exact hK
set_option maxHeartbeats 4000000 in
theorem waits_some (hon : OnceOk P 161) {h : Heap} {c : Nat} {m : Option Nat} {rev : Int} {D : List EnD} (hc : CacheAt h c m rev D) (hD : ∀ e ∈ D, EnOk e) (pod : Str) (hl : pod.length ≤ 9223372036854775807) (hs : nameB pod = true) (uid : Int)
    {e : EnD} (he : getE D (keyP pod) = some e) (p : PodD) (hp : PodLen p) (hb : podB p = true) (ht : p.term ≤ 9223372036854775807) (hv : e.val = encPod p) {K : V → Heap → Prop}
    (hK : ∀ h', Heap.Keeps (fun _ => False) h h' → K (.b (decide (p.uid = uid) && decide (p.node = []))) h') : ACall P 78 [.p (.g c) 0, .s pod, .i .i64 uid] h K := by
  have hk := fun K hK => keyp_at (K := K) hG (h := h) pod hl hs hK
  have hg := fun (K : V → Heap → Prop) (hK : K (.tup [.agg (enR e), .b true]) h) => cget_at (K := K) hG hc hD (keyP pod) (fun hn => by rw [he] at hn; cases hn) (fun e' h' => by rw [he] at h'; cases h'; exact hK)
  have hgp := fun (K : V → Heap → Prop) hK => get_put (K := K) hG hon p hp hb ht (h := h) hK
  rw [← hv] at hgp
  have hn : (p.node == []) = decide (p.node = []) := by
    by_cases c : p.node = []
    · rw [c]; rfl
    · rw [decide_eq_false c]; exact beq_false_of_ne c
  refine fn_sp (hG _ AF.f78 rfl) rfl ?_
  ((conv => whnf); repeat ((first | refine SCall.app (hk _) ?_ | refine SCall.app (hg _) ?_ | refine SCall.app (hgp _) ?_ | refine yf rfl ?_ | refine yt rfl ?_ | refine yo rfl ?_ | refine yc rfl ?_ | refine ys rfl ?_ | refine ye rfl ?_ | refine yn rfl ?_ | refine zw ?_ | refine zdt ?_ | refine zdf ?_ | refine znt ?_ | refine znf ?_ | refine zcd ?_ | refine zci ?_ | refine zc3 ?_) <;> (conv => whnf)))
  intro h' kh'
  by_cases cu : p.uid = uid
  · ((conv => whnf); repeat ((first | refine SIf.dt cu ?_ | refine yf rfl ?_ | refine yt rfl ?_ | refine yo rfl ?_ | refine yc rfl ?_ | refine ys rfl ?_ | refine ye rfl ?_ | refine yn rfl ?_ | refine zw ?_ | refine zdt ?_ | refine zdf ?_ | refine znt ?_ | refine znf ?_ | refine zcd ?_ | refine zci ?_ | refine zc3 ?_) <;> (conv => whnf)))
    rw [hn]
    have := hK h' kh'
    rw [decide_eq_true cu, Bool.true_and] at this
    exact this
  · ((conv => whnf); repeat ((first | refine SIf.df cu ?_ | refine yf rfl ?_ | refine yt rfl ?_ | refine yo rfl ?_ | refine yc rfl ?_ | refine ys rfl ?_ | refine ye rfl ?_ | refine yn rfl ?_ | refine zw ?_ | refine zdt ?_ | refine zdf ?_ | refine znt ?_ | refine znf ?_ | refine zcd ?_ | refine zci ?_ | refine zc3 ?_) <;> (conv => whnf)))
    have := hK h' kh'
    rw [decide_eq_false cu, Bool.false_and] at this
    exact this
end
end Go.Eng
/-
What is taken for done: a row of objects' cells; whether a pod is among them.
-/
namespace Go.Eng
open Go
structure AsD where
  pod : Str
  node : Str
  vic : List Str
  uid : Int
  term : Int
  until_ : Int
def asR (o : AsD) : List V := [.s o.pod, .s o.node, .sl none 1 (o.vic.map strR), .i .i64 o.uid, .i .i64 o.term, .i .i64 o.until_]
def as0 : List V := [.s [], .s [], .nils, .i .i64 0, .i .i64 0, .i .i64 0]
def AsAt (h : Heap) (a : Nat) (r : Option Nat) (L : List AsD) : Prop :=
  a < h.next ∧ ((r = none ∧ L = [] ∧ h.get a = some (.cs [.nils])) ∨ ∃ c d, r = some c ∧ c ≠ a ∧ c < h.next ∧ h.get a = some (.cs [.ms (.g c) 6 0 L.length]) ∧ h.get c = some (.arr 6 (L.map asR ++ List.replicate d as0)))
theorem as_len (L : List AsD) (d : Nat) : (L.map asR ++ List.replicate d as0).length = L.length + d := by simp
theorem as_get {L : List AsD} {d i : Nat} {x : AsD} {j : Nat} (hj : j = i) (h : L[i]? = some x) : (L.map asR ++ List.replicate d as0)[0 + j]? = some (asR x) := by
  subst hj
  have := (List.getElem?_eq_some_iff.1 h).1
  rw [Nat.zero_add, List.getElem?_append_left (by simpa using this), List.getElem?_map, h]; rfl
section
variable {P : Program} (hG : FnsOk P AF.fns.get)
include hG
theorem anew_at {h : Heap} {K : V → Heap → Prop} (hK : ∀ h', AsAt h' h.next none [] → Heap.Keeps (fun _ => False) h h' → K (.p (.g h.next) 0) h') : ACall P 23 [] h K := by
  refine fn_sp (hG _ AF.f23 rfl) rfl ?_
  ((conv => whnf); repeat ((first | refine yf rfl ?_ | refine yt rfl ?_ | refine yo rfl ?_ | refine yc rfl ?_ | refine ys rfl ?_ | refine ye rfl ?_ | refine yn rfl ?_ | refine zw ?_ | refine zdt ?_ | refine zdf ?_ | refine znt ?_ | refine znf ?_ | refine zcd ?_ | refine zci ?_ | refine zc3 ?_) <;> (conv => whnf)))
  exact hK _ ⟨Nat.lt_succ_self _, .inl ⟨rfl, rfl, Heap.get_push_self _ _⟩⟩ (.push (.refl _ _) _)
theorem aclear_at {h : Heap} {a : Nat} {r : Option Nat} {L : List AsD} (ha : AsAt h a r L) {K : V → Heap → Prop} (hK : ∀ h', AsAt h' a none [] → Heap.Keeps (fun n => n = a) h h' → K (.tup []) h') : ACall P 31 [.p (.g a) 0] h K := by
  obtain ⟨h1, ⟨_, _, h2⟩ | ⟨c, d, _, _, _, h2, _⟩⟩ := ha
  all_goals
    refine fn_sp (hG _ AF.f31 rfl) rfl ?_
    ((conv => whnf); repeat ((first | refine SEx.of (h2) ?_ | refine yf rfl ?_ | refine yt rfl ?_ | refine yo rfl ?_ | refine yc rfl ?_ | refine ys rfl ?_ | refine ye rfl ?_ | refine yn rfl ?_ | refine zw ?_ | refine zdt ?_ | refine zdf ?_ | refine znt ?_ | refine znf ?_ | refine zcd ?_ | refine zci ?_ | refine zc3 ?_) <;> (conv => whnf)))
    exact hK _ ⟨h1, .inl ⟨rfl, rfl, Heap.get_set_self h2⟩⟩ (Heap.Keeps.set (b := fun n => n = a) (.refl _ _) (.inl rfl) _)
set_option maxHeartbeats 4000000 in
theorem aidx_at {h : Heap} {c d g : Nat} {cap : List V} {L : List AsD} (hc : h.get c = some (.arr 6 (L.map asR ++ List.replicate d as0))) (hl : L.length ≤ 100000) (k : Nat) (hcap : cap = [.p (.g k) 0]) {p : AsD → Bool}
    (hg : ∀ e ∈ L, ∀ K : V → Heap → Prop, K (.b (p e)) h → ACall P g (.agg (asR e) :: cap) h K) {K : V → Heap → Prop} (hK : K (.i .i64 (ixRes p L)) h) : ACall P 118 [.ms (.g c) 6 0 L.length, .fn g [] cap] h K := by
  subst hcap
  have hrl := as_len L d
  refine fn_sp (hG _ AF.f118 rfl) rfl ?_
  ((conv => whnf); repeat ((first | refine yf rfl ?_ | refine yt rfl ?_ | refine yo rfl ?_ | refine yc rfl ?_ | refine ys rfl ?_ | refine ye rfl ?_ | refine yn rfl ?_ | refine zw ?_ | refine zdt ?_ | refine zdf ?_ | refine znt ?_ | refine znf ?_ | refine zcd ?_ | refine zci ?_ | refine zc3 ?_) <;> (conv => whnf)))
  refine SLoop.by (fun q fr st => ∃ (i : Nat) (lc : Heap), i ≤ L.length ∧ q = L.length - i ∧ (∀ (j : Nat) (e : AsD), j < i → L[j]? = some e → p e = false) ∧
      Fr.le [(8, .i .i64 i), (7, .i .i64 L.length), (1, .fn g [] [.p (.g k) 0]), (0, .ms (.g c) 6 0 L.length)] fr ∧ st = ⟨h, lc⟩)
    L.length ⟨0, _, Nat.zero_le _, rfl, (fun j e hj => absurd hj (Nat.not_lt_zero _)), (by repeat (first | exact Fr.le_nil | refine Fr.le_cons rfl ?_)), rfl⟩ ?_
  rintro q fr st ⟨i, lc, hi, rfl, hno, hle0, rfl⟩
  refine ⟨_, hle0, fun R hR => ?_⟩
  by_cases hin : i < L.length
  · have he := List.getElem?_eq_getElem hin
    have hem := List.getElem_mem hin
    generalize L[i] = e at he hem
    have hcl := fun K hK => hg e hem K hK
    ((conv => whnf); repeat ((first | refine SIf.dt (show (i : Int) < (L.length : Nat) by omega) ?_ | refine SChk.ix (by omega) (by omega) ?_ | refine SChk.mk (decide_eq_true (by omega)) ?_ | refine SCall.app (hcl _) ?_ | refine SEx.of (hc) ?_ | refine SEx.of (as_get (by omega) he) ?_ | refine yf rfl ?_ | refine yt rfl ?_ | refine yo rfl ?_ | refine yc rfl ?_ | refine ys rfl ?_ | refine ye rfl ?_ | refine yn rfl ?_ | refine zw ?_ | refine zdt ?_ | refine zdf ?_ | refine znt ?_ | refine znf ?_ | refine zcd ?_ | refine zci ?_ | refine zc3 ?_) <;> (conv => whnf)))
    cases hp : p e
    · ((conv => whnf); repeat ((first | refine SWrap.w64 (by omega) (by omega) ?_ | refine yf rfl ?_ | refine yt rfl ?_ | refine yo rfl ?_ | refine yc rfl ?_ | refine ys rfl ?_ | refine ye rfl ?_ | refine yn rfl ?_ | refine zw ?_ | refine zdt ?_ | refine zdf ?_ | refine znt ?_ | refine znf ?_ | refine zcd ?_ | refine zci ?_ | refine zc3 ?_) <;> (conv => whnf)))
      exact hR (L.length - (i + 1)) _ _ (by omega) ⟨i + 1, _, by omega, rfl, (fun j x hj hx => by
        by_cases hji : j < i
        · exact hno j x hji hx
        · obtain rfl : j = i := by omega
          rw [he] at hx; cases hx; exact hp), (by repeat (first | exact Fr.le_nil | refine Fr.le_cons rfl ?_)), rfl⟩
    · ((conv => whnf); repeat ((first | refine yf rfl ?_ | refine yt rfl ?_ | refine yo rfl ?_ | refine yc rfl ?_ | refine ys rfl ?_ | refine ye rfl ?_ | refine yn rfl ?_ | refine zw ?_ | refine zdt ?_ | refine zdf ?_ | refine znt ?_ | refine znf ?_ | refine zcd ?_ | refine zci ?_ | refine zc3 ?_) <;> (conv => whnf)))
      rw [findIdx_some he hp hno] at hK
      exact hK
  · ((conv => whnf); repeat ((first | refine SIf.df (show ¬ (i : Int) < (L.length : Nat) by omega) ?_ | refine yf rfl ?_ | refine yt rfl ?_ | refine yo rfl ?_ | refine yc rfl ?_ | refine ys rfl ?_ | refine ye rfl ?_ | refine yn rfl ?_ | refine zw ?_ | refine zdt ?_ | refine zdf ?_ | refine znt ?_ | refine znf ?_ | refine zcd ?_ | refine zci ?_ | refine zc3 ?_) <;> (conv => whnf)))
    rw [findIdx_none fun j x hx => hno j x (by have := (List.getElem?_eq_some_iff.1 hx).1; omega) hx] at hK
    exact hK
set_option maxHeartbeats 4000000 in
theorem ahas_at {h : Heap} {a : Nat} {r : Option Nat} {L : List AsD} (ha : AsAt h a r L) (hl : L.length ≤ 100000) (pod : Str) {K : V → Heap → Prop} (hK : ∀ h', Heap.Keeps (fun _ => False) h h' → K (.b (L.any fun o => o.pod == pod)) h') : ACall P 28 [.p (.g a) 0, .s pod] h K := by
  obtain ⟨h1, ⟨_, hL, h2⟩ | ⟨c, d, _, h2, h3, h4, h5⟩⟩ := ha
  · subst hL
    have g1 : ∀ o, (h.push o).get a = some (.cs [.nils]) := fun o => Heap.gp (by omega) h2
    refine fn_sp (hG _ AF.f28 rfl) rfl ?_
    ((conv => whnf); repeat ((first | refine SCall.app (fn_sp (hG _ AF.f79 rfl) rfl) ?_ | refine SCall.app (fn_sp (hG _ AF.f118 rfl) rfl) ?_ | refine SLoop.un ?_ | refine SEx.of (g1 _) ?_ | refine yf rfl ?_ | refine yt rfl ?_ | refine yo rfl ?_ | refine yc rfl ?_ | refine ys rfl ?_ | refine ye rfl ?_ | refine yn rfl ?_ | refine zw ?_ | refine zdt ?_ | refine zdf ?_ | refine znt ?_ | refine znf ?_ | refine zcd ?_ | refine zci ?_ | refine zc3 ?_) <;> (conv => whnf)))
    exact hK _ (.push (.refl _ _) _)
  · have g1 : ∀ o, (h.push o).get a = some (.cs [.ms (.g c) 6 0 L.length]) := fun o => Heap.gp (by omega) h4
    have g2 : ∀ o, (h.push o).get c = some (.arr 6 (L.map asR ++ List.replicate d as0)) := fun o => Heap.gp (by omega) h5
    have g3 : ∀ o, (h.push o).get h.next = some o := fun o => Heap.get_push_self _ _
    have hcl : ∀ e ∈ L, ∀ K : V → Heap → Prop, K (.b (e.pod == pod)) (h.push (.cs [.s pod])) → ACall P 80 [.agg (asR e), .p (.g h.next) 0] (h.push (.cs [.s pod])) K := by
      intro e _ K hK
      refine fn_sp (hG _ AF.f80 rfl) rfl ?_
      ((conv => whnf); repeat ((first | refine SEx.of (g3 _) ?_ | refine yf rfl ?_ | refine yt rfl ?_ | refine yo rfl ?_ | refine yc rfl ?_ | refine ys rfl ?_ | refine ye rfl ?_ | refine yn rfl ?_ | refine zw ?_ | refine zdt ?_ | refine zdf ?_ | refine znt ?_ | refine znf ?_ | refine zcd ?_ | refine zci ?_ | refine zc3 ?_) <;> (conv => whnf)))
      exact hK
    have hix := fun K hK => aidx_at (K := K) hG (g2 (.cs [.s pod])) hl h.next rfl (g := 80) (p := fun o => o.pod == pod) hcl hK
    refine fn_sp (hG _ AF.f28 rfl) rfl ?_
    ((conv => whnf); repeat ((first | refine SCall.app (fn_sp (hG _ AF.f79 rfl) rfl) ?_ | refine SCall.app (hix _) ?_ | refine SEx.of (g1 _) ?_ | refine yf rfl ?_ | refine yt rfl ?_ | refine yo rfl ?_ | refine yc rfl ?_ | refine ys rfl ?_ | refine ye rfl ?_ | refine yn rfl ?_ | refine zw ?_ | refine zdt ?_ | refine zdf ?_ | refine znt ?_ | refine znf ?_ | refine zcd ?_ | refine zci ?_ | refine zc3 ?_) <;> (conv => whnf)))
    have := hK (h.push (.cs [.s pod])) (.push (.refl _ _) _)
    rw [← ixRes_any] at this
    exact this
end
end Go.Eng
/-
Something is taken for done.
-/
namespace Go.Eng
open Go
def putA (L : List AsD) (o : AsD) : Bool := decide (L.length < 40) && (!decide (o.node = []) && !(L.any fun x => x.pod == o.pod))
theorem AsAt.keep {h h' : Heap} {a : Nat} {r : Option Nat} {L : List AsD} (ha : AsAt h a r L) {but : Nat → Prop} (hk : Heap.Keeps but h h') (hb : ¬ but a) (hr : ∀ k, r = some k → ¬ but k) : AsAt h' a r L := by
  obtain ⟨h1, ⟨h2, h3, h4⟩ | ⟨c, d, h2, h3, h4, h5, h6⟩⟩ := ha
  · exact ⟨Nat.lt_of_lt_of_le h1 hk.1, .inl ⟨h2, h3, by rw [hk.2 a h1 hb]; exact h4⟩⟩
  · exact ⟨Nat.lt_of_lt_of_le h1 hk.1, .inr ⟨c, d, h2, h3, Nat.lt_of_lt_of_le h4 hk.1, by rw [hk.2 a h1 hb]; exact h5, by rw [hk.2 c h4 (hr c h2)]; exact h6⟩⟩
theorem as_put (L : List AsD) (d : Nat) (o : AsD) : (L.map asR ++ List.replicate (d + 1) as0).take (0 + L.length) ++ [asR o] ++ (L.map asR ++ List.replicate (d + 1) as0).drop (0 + L.length + 1) = (L ++ [o]).map asR ++ List.replicate d as0 := by
  have h1 : (L.map asR).length = L.length := List.length_map _
  rw [Nat.zero_add, List.take_append_of_le_length (by omega), List.take_of_length_le (by omega), List.drop_append, List.drop_of_length_le (by omega), h1, List.replicate_succ]
  simp
theorem as_new (L : List AsD) (o : AsD) : List.drop 0 (List.take (0 + L.length) (L.map asR ++ List.replicate 0 as0)) ++ [asR o] = (L ++ [o]).map asR ++ List.replicate 0 as0 := by
  have h1 : (L.map asR).length = L.length := List.length_map _
  rw [Nat.zero_add, List.replicate_zero, List.append_nil, List.drop_zero, List.take_of_length_le (by omega)]
  simp
section
variable {P : Program} (hG : FnsOk P AF.fns.get)
include hG
theorem clone_strM (l : List Str) (hl : l.length * 16 ≤ 140737488355328) : Pure P 117 [.sl none 1 (l.map strR)] (· = .sl none 1 (l.map strR)) := by
  refine pure_fn (hG _ AF.f117 rfl) rfl ?_
  cases l with
  | nil =>
    ((conv => whnf); repeat ((first | refine yf rfl ?_ | refine yt rfl ?_ | refine yo rfl ?_ | refine yc rfl ?_ | refine ys rfl ?_ | refine ye rfl ?_ | refine yn rfl ?_ | refine zw ?_ | refine zdt ?_ | refine zdf ?_ | refine znt ?_ | refine znf ?_ | refine zcd ?_ | refine zci ?_ | refine zc3 ?_) <;> (conv => whnf)))
    refine SAny.mk fun b => ?_
    cases b
    · ((conv => whnf); repeat ((first | refine yf rfl ?_ | refine yt rfl ?_ | refine yo rfl ?_ | refine yc rfl ?_ | refine ys rfl ?_ | refine ye rfl ?_ | refine yn rfl ?_ | refine zw ?_ | refine zdt ?_ | refine zdf ?_ | refine znt ?_ | refine znf ?_ | refine zcd ?_ | refine zci ?_ | refine zc3 ?_) <;> (conv => whnf)))
      exact pure_ms (ds := []) rfl rfl (Nat.le_refl _) rfl
    · ((conv => whnf); repeat ((first | refine yf rfl ?_ | refine yt rfl ?_ | refine yo rfl ?_ | refine yc rfl ?_ | refine ys rfl ?_ | refine ye rfl ?_ | refine yn rfl ?_ | refine zw ?_ | refine zdt ?_ | refine zdf ?_ | refine znt ?_ | refine znf ?_ | refine zcd ?_ | refine zci ?_ | refine zc3 ?_) <;> (conv => whnf)))
      exact pure_nil rfl
  | cons x r =>
    have hown : ownElems true ((x :: r).map strR) = some ((x :: r).map strR) := own_mp (fun _ => rfl) _
    ((conv => whnf); repeat ((first | refine SEx.of hown ?_ | refine SChk.mk (by simp [roomOk] at hl ⊢; omega) ?_ | refine yf rfl ?_ | refine yt rfl ?_ | refine yo rfl ?_ | refine yc rfl ?_ | refine ys rfl ?_ | refine ye rfl ?_ | refine yn rfl ?_ | refine zw ?_ | refine zdt ?_ | refine zdf ?_ | refine znt ?_ | refine znf ?_ | refine zcd ?_ | refine zci ?_ | refine zc3 ?_) <;> (conv => whnf)))
    refine pure_ms (ds := (x :: r).map strR) rfl (deep_map (R := strR) (fun _ => rfl) (x :: r)) (by simp) ?_
    simp [List.take_of_length_le]
theorem acopied_ok (pod node : Str) (vic : List Str) (hv : vic.length * 16 ≤ 140737488355328) : Pure P 75 [.agg [.s pod, .s node, .sl none 1 (vic.map strR)]] (· = .agg [.s pod, .s node, .sl none 1 (vic.map strR)]) := by
  have hc := clone_strM hG vic hv
  refine pure_fn (hG _ AF.f75 rfl) rfl ?_
  ((conv => whnf); repeat ((first | refine SCall.app (Pure.go hc rfl) ?_ | refine yf rfl ?_ | refine yt rfl ?_ | refine yo rfl ?_ | refine yc rfl ?_ | refine ys rfl ?_ | refine ye rfl ?_ | refine yn rfl ?_ | refine zw ?_ | refine zdt ?_ | refine zdf ?_ | refine znt ?_ | refine znf ?_ | refine zcd ?_ | refine zci ?_ | refine zc3 ?_) <;> (conv => whnf)))
  exact pure_free rfl rfl
set_option maxHeartbeats 8000000 in
theorem aput_at {h : Heap} {a : Nat} {r : Option Nat} {L : List AsD} (ha : AsAt h a r L) (hl : L.length ≤ 100000) (o : AsD) (hv : o.vic.length * 16 ≤ 140737488355328) {K : V → Heap → Prop}
    (hno : putA L o = false → ∀ h', Heap.Keeps (fun _ => False) h h' → K (.b false) h')
    (hK : putA L o = true → ∀ h' r', AsAt h' a r' (L ++ [o]) → (∀ k, r' = some k → r = some k ∨ h.next ≤ k) → Heap.Keeps (fun n => n = a ∨ r = some n) h h' → K (.b true) h') :
    ACall P 25 [.p (.g a) 0, .agg [.s o.pod, .s o.node, .sl none 1 (o.vic.map strR)], .i .i64 o.uid, .i .i64 o.term, .i .i64 o.until_] h K := by
  have hcop := acopied_ok hG o.pod o.node o.vic hv
  have hhas := fun K hK => ahas_at (K := K) hG ha hl o.pod hK
  unfold putA at hno hK
  have hnb : (o.node == []) = decide (o.node = []) := by
    by_cases c : o.node = []
    · rw [c]; rfl
    · rw [decide_eq_false c]; exact beq_false_of_ne c
  obtain ⟨h1, ⟨hr0, hL, h2⟩ | ⟨c, d, hr0, h2, h3, h4, h5⟩⟩ := ha
  · subst hL
    by_cases c2 : o.node = []
    · have e2 : (o.node == []) = true := by rw [c2]; rfl
      rw [decide_eq_true c2] at hno
      refine fn_sp (hG _ AF.f25 rfl) rfl ?_
      ((conv => whnf); repeat ((first | refine SIf.tt e2 ?_ | refine SEx.of (h2) ?_ | refine yf rfl ?_ | refine yt rfl ?_ | refine yo rfl ?_ | refine yc rfl ?_ | refine ys rfl ?_ | refine ye rfl ?_ | refine yn rfl ?_ | refine zw ?_ | refine zdt ?_ | refine zdf ?_ | refine znt ?_ | refine znf ?_ | refine zcd ?_ | refine zci ?_ | refine zc3 ?_) <;> (conv => whnf)))
      exact hno rfl h (.refl _ _)
    · have e2 : (o.node == []) = false := beq_false_of_ne c2
      rw [decide_eq_false c2] at hK
      refine fn_sp (hG _ AF.f25 rfl) rfl ?_
      ((conv => whnf); repeat ((first | refine SIf.ff e2 ?_ | refine SCall.app (hhas _) ?_ | refine SEx.of (h2) ?_ | refine yf rfl ?_ | refine yt rfl ?_ | refine yo rfl ?_ | refine yc rfl ?_ | refine ys rfl ?_ | refine ye rfl ?_ | refine yn rfl ?_ | refine zw ?_ | refine zdt ?_ | refine zdf ?_ | refine znt ?_ | refine znf ?_ | refine zcd ?_ | refine zci ?_ | refine zc3 ?_) <;> (conv => whnf)))
      intro h' kh
      have g2 : h'.get a = some (.cs [.nils]) := by rw [kh.2 a h1 (fun x => x)]; exact h2
      have hne : a ≠ h'.next := by have := kh.1; omega
      have g3 : ∀ x, (h'.push x).get a = some (.cs [.nils]) := fun x => Heap.gp hne g2
      have g4 : ∀ x y, ((h'.push x).push y).get a = some (.cs [.nils]) := fun x y => Heap.gp (by show a ≠ h'.next + 1; have := kh.1; omega) (g3 x)
      ((conv => whnf); repeat ((first | refine SCall.app (Pure.go hcop rfl) ?_ | refine SEx.of (g2) ?_ | refine SEx.of (g3 _) ?_ | refine SEx.of (Heap.get_push_self _ _) ?_ | refine SEx.of (g4 _ _) ?_ | refine yf rfl ?_ | refine yt rfl ?_ | refine yo rfl ?_ | refine yc rfl ?_ | refine ys rfl ?_ | refine ye rfl ?_ | refine yn rfl ?_ | refine zw ?_ | refine zdt ?_ | refine zdf ?_ | refine znt ?_ | refine znf ?_ | refine zcd ?_ | refine zci ?_ | refine zc3 ?_) <;> (conv => whnf)))
      have hk2 : ∀ x y z, Heap.Keeps (fun n => n = a ∨ r = some n) h (((h'.push x).push y).set a z) := fun x y z => Heap.Keeps.set (b := fun n => n = a ∨ r = some n) (.push (.push (kh.mono fun _ _ e => e.elim) _) _) (.inl (.inl rfl)) _
      have hat : AsAt (((h'.push (.arr 6 [asR o])).push (.arr 6 [asR o])).set a (.cs [.ms (.g (h'.next + 1)) 6 0 1])) a (some (h'.next + 1)) ([] ++ [o]) := ⟨(by show a < h'.next + 1 + 1; have := kh.1; omega), .inr ⟨h'.next + 1, 0, rfl, by have := kh.1; omega, Nat.lt_succ_self _, Heap.get_set_self (g4 _ _), Heap.gs (by have := kh.1; omega) (Heap.get_push_self _ _)⟩⟩
      exact hK rfl _ _ hat (fun k hk => by cases hk; exact .inr (by have := kh.1; omega)) (hk2 _ _ _)
  · have hrl := as_len L d
    by_cases c1 : L.length < 40
    case neg =>
      rw [decide_eq_false c1] at hno
      refine fn_sp (hG _ AF.f25 rfl) rfl ?_
      ((conv => whnf); repeat ((first | refine SIf.dt (show ((L.length : Nat) : Int) ≥ 40 by omega) ?_ | refine SEx.of (h4) ?_ | refine yf rfl ?_ | refine yt rfl ?_ | refine yo rfl ?_ | refine yc rfl ?_ | refine ys rfl ?_ | refine ye rfl ?_ | refine yn rfl ?_ | refine zw ?_ | refine zdt ?_ | refine zdf ?_ | refine znt ?_ | refine znf ?_ | refine zcd ?_ | refine zci ?_ | refine zc3 ?_) <;> (conv => whnf)))
      exact hno rfl h (.refl _ _)
    rw [decide_eq_true c1, Bool.true_and] at hno hK
    by_cases c2 : o.node = []
    · have e2 : (o.node == []) = true := by rw [c2]; rfl
      rw [decide_eq_true c2] at hno
      refine fn_sp (hG _ AF.f25 rfl) rfl ?_
      ((conv => whnf); repeat ((first | refine SIf.df (show ¬ ((L.length : Nat) : Int) ≥ 40 by omega) ?_ | refine SIf.tt e2 ?_ | refine SEx.of (h4) ?_ | refine yf rfl ?_ | refine yt rfl ?_ | refine yo rfl ?_ | refine yc rfl ?_ | refine ys rfl ?_ | refine ye rfl ?_ | refine yn rfl ?_ | refine zw ?_ | refine zdt ?_ | refine zdf ?_ | refine znt ?_ | refine znf ?_ | refine zcd ?_ | refine zci ?_ | refine zc3 ?_) <;> (conv => whnf)))
      exact hno rfl h (.refl _ _)
    have e2 : (o.node == []) = false := beq_false_of_ne c2
    rw [decide_eq_false c2] at hK hno
    cases c3 : L.any fun x => x.pod == o.pod
    case true =>
      rw [c3] at hno hhas
      refine fn_sp (hG _ AF.f25 rfl) rfl ?_
      ((conv => whnf); repeat ((first | refine SIf.df (show ¬ ((L.length : Nat) : Int) ≥ 40 by omega) ?_ | refine SIf.ff e2 ?_ | refine SCall.app (hhas _) ?_ | refine SEx.of (h4) ?_ | refine yf rfl ?_ | refine yt rfl ?_ | refine yo rfl ?_ | refine yc rfl ?_ | refine ys rfl ?_ | refine ye rfl ?_ | refine yn rfl ?_ | refine zw ?_ | refine zdt ?_ | refine zdf ?_ | refine znt ?_ | refine znf ?_ | refine zcd ?_ | refine zci ?_ | refine zc3 ?_) <;> (conv => whnf)))
      intro h' kh
      ((conv => whnf); repeat ((first | refine yf rfl ?_ | refine yt rfl ?_ | refine yo rfl ?_ | refine yc rfl ?_ | refine ys rfl ?_ | refine ye rfl ?_ | refine yn rfl ?_ | refine zw ?_ | refine zdt ?_ | refine zdf ?_ | refine znt ?_ | refine znf ?_ | refine zcd ?_ | refine zci ?_ | refine zc3 ?_) <;> (conv => whnf)))
      exact hno rfl h' kh
    rw [c3] at hK hhas
    refine fn_sp (hG _ AF.f25 rfl) rfl ?_
    ((conv => whnf); repeat ((first | refine SIf.df (show ¬ ((L.length : Nat) : Int) ≥ 40 by omega) ?_ | refine SIf.ff e2 ?_ | refine SCall.app (hhas _) ?_ | refine SEx.of (h4) ?_ | refine yf rfl ?_ | refine yt rfl ?_ | refine yo rfl ?_ | refine yc rfl ?_ | refine ys rfl ?_ | refine ye rfl ?_ | refine yn rfl ?_ | refine zw ?_ | refine zdt ?_ | refine zdf ?_ | refine znt ?_ | refine znf ?_ | refine zcd ?_ | refine zci ?_ | refine zc3 ?_) <;> (conv => whnf)))
    intro h' kh
    have hnx := kh.1
    have g2 : h'.get a = some (.cs [.ms (.g c) 6 0 L.length]) := by rw [kh.2 a h1 (fun x => x)]; exact h4
    have g5 : h'.get c = some (.arr 6 (L.map asR ++ List.replicate d as0)) := by rw [kh.2 c h3 (fun x => x)]; exact h5
    have g3 : ∀ x, (h'.push x).get a = some (.cs [.ms (.g c) 6 0 L.length]) := fun x => Heap.gp (by omega) g2
    have g6 : ∀ x, (h'.push x).get c = some (.arr 6 (L.map asR ++ List.replicate d as0)) := fun x => Heap.gp (by omega) g5
    cases d with
    | zero =>
      have g4 : ∀ x y, (((h'.push x).remove c).push y).get a = some (.cs [.ms (.g c) 6 0 L.length]) := fun x y => Heap.gp (by show a ≠ h'.next + 1; omega) (Heap.gr (Ne.symm h2) (g3 x))
      ((conv => whnf); repeat ((first | refine SCall.app (Pure.go hcop rfl) ?_ | refine SChk.mk (by simp [roomOk]; omega) ?_ | refine SChk.mk (decide_eq_true (by rw [hrl]; omega)) ?_ | refine SIf.df (by rw [hrl]; show ¬ 0 + L.length + 1 ≤ L.length + 0; omega) ?_ | refine SEx.of (g2) ?_ | refine SEx.of (g3 _) ?_ | refine SEx.of (Heap.get_push_self _ _) ?_ | refine SEx.of (g6 _) ?_ | refine SEx.of (g4 _ _) ?_ | refine yf rfl ?_ | refine yt rfl ?_ | refine yo rfl ?_ | refine yc rfl ?_ | refine ys rfl ?_ | refine ye rfl ?_ | refine yn rfl ?_ | refine zw ?_ | refine zdt ?_ | refine zdf ?_ | refine znt ?_ | refine znf ?_ | refine zcd ?_ | refine zci ?_ | refine zc3 ?_) <;> (conv => whnf)))
      have hat : AsAt ((((h'.push (.arr 6 [asR o])).remove c).push (.arr 6 ((L ++ [o]).map asR ++ List.replicate 0 as0))).set a (.cs [.ms (.g (h'.next + 1)) 6 0 (L ++ [o]).length])) a (some (h'.next + 1)) (L ++ [o]) :=
        ⟨(by show a < h'.next + 1 + 1; omega), .inr ⟨h'.next + 1, 0, rfl, by omega, Nat.lt_succ_self _, Heap.get_set_self (g4 _ _), Heap.gs (by omega) (Heap.get_push_self _ _)⟩⟩
      rw [← as_new L o, List.length_append] at hat
      have hk2 : ∀ x y z, Heap.Keeps (fun n => n = a ∨ r = some n) h ((((h'.push x).remove c).push y).set a z) := fun x y z => Heap.Keeps.set (b := fun n => n = a ∨ r = some n) (.push (Heap.Keeps.remove (b := fun n => n = a ∨ r = some n) (.push (kh.mono fun _ _ e => e.elim) _) (.inl (.inr hr0))) _) (.inl (.inl rfl)) _
      exact hK rfl _ _ hat (fun k hk => by cases hk; exact .inr (by omega)) (hk2 _ _ _)
    | succ d =>
      have g4 : ∀ x y, ((h'.push x).set c y).get a = some (.cs [.ms (.g c) 6 0 L.length]) := fun x y => Heap.gs (Ne.symm h2) (g3 x)
      ((conv => whnf); repeat ((first | refine SCall.app (Pure.go hcop rfl) ?_ | refine SChk.mk (by simp [roomOk]; omega) ?_ | refine SChk.mk (decide_eq_true (by rw [hrl]; omega)) ?_ | refine SIf.dt (by rw [hrl]; show 0 + L.length + 1 ≤ L.length + (d + 1); omega) ?_ | refine SEx.of (g2) ?_ | refine SEx.of (g3 _) ?_ | refine SEx.of (Heap.get_push_self _ _) ?_ | refine SEx.of (g6 _) ?_ | refine SEx.of (g4 _ _) ?_ | refine yf rfl ?_ | refine yt rfl ?_ | refine yo rfl ?_ | refine yc rfl ?_ | refine ys rfl ?_ | refine ye rfl ?_ | refine yn rfl ?_ | refine zw ?_ | refine zdt ?_ | refine zdf ?_ | refine znt ?_ | refine znf ?_ | refine zcd ?_ | refine zci ?_ | refine zc3 ?_) <;> (conv => whnf)))
      have hat : AsAt (((h'.push (.arr 6 [asR o])).set c (.arr 6 ((L ++ [o]).map asR ++ List.replicate d as0))).set a (.cs [.ms (.g c) 6 0 (L ++ [o]).length])) a (some c) (L ++ [o]) :=
        ⟨(by show a < h'.next + 1; omega), .inr ⟨c, d, rfl, h2, (by show c < h'.next + 1; omega), Heap.get_set_self (g4 _ _), Heap.gs h2 (Heap.get_set_self (g6 _))⟩⟩
      rw [← as_put L d o, List.length_append] at hat
      have hk2 : ∀ x y z, Heap.Keeps (fun n => n = a ∨ r = some n) h (((h'.push x).set c y).set a z) := fun x y z => Heap.Keeps.set (b := fun n => n = a ∨ r = some n) (Heap.Keeps.set (b := fun n => n = a ∨ r = some n) (.push (kh.mono fun _ _ e => e.elim) _) (.inl (.inr hr0)) _) (.inl (.inl rfl)) _
      exact hK rfl _ _ hat (fun k hk => by cases hk; exact .inl hr0) (hk2 _ _ _)
end
end Go.Eng
/-
All that is taken for done.
-/
namespace Go.Eng
open Go
def doR (o : AsD) : List V := [.s o.pod, .s o.node, .sl none 1 (o.vic.map strR)]
def DosV (lv : V) (L : List AsD) : Prop := (lv = .nils ∧ L = []) ∨ lv = .sl none 3 (L.map doR)
section
variable {P : Program} (hG : FnsOk P AF.fns.get)
include hG
set_option maxHeartbeats 4000000 in
theorem aall_at {h : Heap} {a : Nat} {r : Option Nat} {L : List AsD} (ha : AsAt h a r L) (hl : L.length ≤ 100000) (hv : ∀ o ∈ L, o.vic.length * 16 ≤ 140737488355328) {K : V → Heap → Prop} (hK : ∀ lv, DosV lv L → K lv h) : ACall P 30 [.p (.g a) 0] h K := by
  obtain ⟨h1, ⟨_, hL, h2⟩ | ⟨c, d, _, h2, h3, h4, h5⟩⟩ := ha
  · refine fn_sv (hG _ AF.f30 rfl) rfl ?_
    ((conv => whnf); repeat ((first | refine SLoopV.un rfl ?_ | refine SEx.of (h2) ?_ | refine yf rfl ?_ | refine yt rfl ?_ | refine yo rfl ?_ | refine yc rfl ?_ | refine ys rfl ?_ | refine ye rfl ?_ | refine yn rfl ?_ | refine zw ?_ | refine zdt ?_ | refine zdf ?_ | refine znt ?_ | refine znf ?_ | refine zcd ?_ | refine zci ?_ | refine zc3 ?_) <;> (conv => whnf)))
    exact hK _ (.inl ⟨rfl, hL⟩)
  · have hrl := as_len L d
    refine fn_sp (hG _ AF.f30 rfl) rfl ?_
    ((conv => whnf); repeat ((first | refine SEx.of (h4) ?_ | refine yf rfl ?_ | refine yt rfl ?_ | refine yo rfl ?_ | refine yc rfl ?_ | refine ys rfl ?_ | refine ye rfl ?_ | refine yn rfl ?_ | refine zw ?_ | refine zdt ?_ | refine zdf ?_ | refine znt ?_ | refine znf ?_ | refine zcd ?_ | refine zci ?_ | refine zc3 ?_) <;> (conv => whnf)))
    refine SLoop.by (fun q fr st => ∃ (i : Nat) (lo : Heap) (lv : V), i ≤ L.length ∧ q = L.length - i ∧ ((i = 0 ∧ lv = .nils) ∨ (0 < i ∧ ∃ t, lv = .sl (some (.l t)) 3 ((L.take i).map doR) ∧ t < lo.next ∧ lo.get t = some .spare)) ∧
        Fr.le [(13, .i .i64 i), (12, .i .i64 L.length), (11, .ms (.g c) 6 0 L.length), (3, lv)] fr ∧ st = ⟨h, lo⟩)
      L.length ⟨0, _, .nils, Nat.zero_le _, rfl, .inl ⟨rfl, rfl⟩, (by repeat (first | exact Fr.le_nil | refine Fr.le_cons rfl ?_)), rfl⟩ ?_
    rintro q fr st ⟨i, lo, lv, hi, rfl, hlv, hle0, rfl⟩
    refine ⟨_, hle0, fun R hR => ?_⟩
    by_cases hin : i < L.length
    · have he := List.getElem?_eq_getElem hin
      have hem := hv _ (List.getElem_mem hin)
      generalize L[i] = o at he hem
      have hcp := acopied_ok hG o.pod o.node o.vic hem
      have htk : (L.take (i + 1)).map doR = (L.take i).map doR ++ [doR o] := by rw [List.take_add_one, he]; simp
      have htl : ((L.take i).map doR).length ≤ 100000 := by simp; omega
      have a1 : ∀ x, (lo.push x).get lo.next = some x := fun x => Heap.get_push_self _ _
      have a2 : ∀ x y, ((lo.push x).set lo.next y).get lo.next = some y := fun x y => Heap.get_set_self (a1 x)
      rcases hlv with ⟨rfl, rfl⟩ | ⟨hi0, t, rfl, ht1, ht2⟩
      · ((conv => whnf); repeat ((first | refine SIf.dt (show ((0 : Nat) : Int) < (L.length : Nat) by omega) ?_ | refine SChk.ix (by omega) (by omega) ?_ | refine SChk.mk (decide_eq_true (by omega)) ?_ | refine SCall.app (Pure.go hcp rfl) ?_ | refine SWrap.w64 (by omega) (by omega) ?_ | refine SEx.of (h5) ?_ | refine SEx.of (as_get (by omega) he) ?_ | refine SEx.of (a1 _) ?_ | refine SEx.of (a2 _ _) ?_ | refine yf rfl ?_ | refine yt rfl ?_ | refine yo rfl ?_ | refine yc rfl ?_ | refine ys rfl ?_ | refine ye rfl ?_ | refine yn rfl ?_ | refine zw ?_ | refine zdt ?_ | refine zdf ?_ | refine znt ?_ | refine znf ?_ | refine zcd ?_ | refine zci ?_ | refine zc3 ?_) <;> (conv => whnf)))
        exact hR (L.length - (0 + 1)) _ _ (by omega) ⟨0 + 1, _, _, by omega, rfl, .inr ⟨by omega, lo.next + 1 + 1, by first | (rw [htk]; done) | (rw [htk]; rfl), Nat.lt_succ_self _, Heap.get_push_self _ _⟩, (by repeat (first | exact Fr.le_nil | refine Fr.le_cons rfl ?_)), rfl⟩
      · have f0 : ∀ x y, (((lo.push x).set lo.next y).push .spare).get t = some .spare := fun x y => Heap.gp (by show t ≠ lo.next + 1; omega) (Heap.gs (by omega) (Heap.gp (by omega) ht2))
        ((conv => whnf); repeat ((first | refine SIf.dt (show (i : Int) < (L.length : Nat) by omega) ?_ | refine SChk.ix (by omega) (by omega) ?_ | refine SChk.mk (decide_eq_true (by omega)) ?_ | refine SCall.app (Pure.go hcp rfl) ?_ | refine SWrap.w64 (by omega) (by omega) ?_ | refine SChk.mk (by simp only [roomOk]; exact decide_eq_true (by simp at htl ⊢; omega)) ?_ | refine SEx.of (h5) ?_ | refine SEx.of (as_get (by omega) he) ?_ | refine SEx.of (a1 _) ?_ | refine SEx.of (a2 _ _) ?_ | refine SEx.of (f0 _ _) ?_ | refine yf rfl ?_ | refine yt rfl ?_ | refine yo rfl ?_ | refine yc rfl ?_ | refine ys rfl ?_ | refine ye rfl ?_ | refine yn rfl ?_ | refine zw ?_ | refine zdt ?_ | refine zdf ?_ | refine znt ?_ | refine znf ?_ | refine zcd ?_ | refine zci ?_ | refine zc3 ?_) <;> (conv => whnf)))
        exact hR (L.length - (i + 1)) _ _ (by omega) ⟨i + 1, _, _, by omega, rfl, .inr ⟨by omega, lo.next + 1 + 1, by first | (rw [htk]; done) | (rw [htk]; rfl), Nat.lt_succ_self _, Heap.get_push_self _ _⟩, (by repeat (first | exact Fr.le_nil | refine Fr.le_cons rfl ?_)), rfl⟩
    · obtain rfl : i = L.length := by omega
      rcases hlv with ⟨h6, rfl⟩ | ⟨hi0, t, rfl, ht1, ht2⟩
      · ((conv => whnf); repeat ((first | refine SIf.df (show ¬ ((L.length : Nat) : Int) < (L.length : Nat) by omega) ?_ | refine yf rfl ?_ | refine yt rfl ?_ | refine yo rfl ?_ | refine yc rfl ?_ | refine ys rfl ?_ | refine ye rfl ?_ | refine yn rfl ?_ | refine zw ?_ | refine zdt ?_ | refine zdf ?_ | refine znt ?_ | refine znf ?_ | refine zcd ?_ | refine zci ?_ | refine zc3 ?_) <;> (conv => whnf)))
        exact hK _ (.inl ⟨rfl, List.length_eq_zero_iff.1 h6⟩)
      · rw [List.take_length] at *
        ((conv => whnf); repeat ((first | refine SIf.df (show ¬ ((L.length : Nat) : Int) < (L.length : Nat) by omega) ?_ | refine yf rfl ?_ | refine yt rfl ?_ | refine yo rfl ?_ | refine yc rfl ?_ | refine ys rfl ?_ | refine ye rfl ?_ | refine yn rfl ?_ | refine zw ?_ | refine zdt ?_ | refine zdf ?_ | refine znt ?_ | refine znf ?_ | refine zcd ?_ | refine zci ?_ | refine zc3 ?_) <;> (conv => whnf)))
        exact hK _ (.inr rfl)
end
end Go.Eng
/-
A reader that has nothing: it is bad, and reads nothing.
-/
namespace Go.Eng
open Go
def RdBad (h : Heap) (a : Nat) (m bad : Bool) : Prop := a < h.next ∧ h.get a = some (.cs (tv m ++ [.nils, .b bad]))
theorem tv_stb (m : Bool) (x y z : V) : stCells (tv m ++ [x, y]) (0 + 298) [z] = tv m ++ [x, z] := by
  show List.set _ _ _ = _
  rw [List.set_append_right _ _ (by rw [tv_len]; omega), tv_len]; rfl
theorem tv_fitb (m : Bool) (x y z : V) : stFits (tv m ++ [x, y]) (0 + 298) [z] = true := decide_eq_true (by rw [List.length_append, tv_len]; simp)
section
variable {P : Program} (hG : FnsOk P AF.fns.get)
include hG
theorem rnum_bad {h : Heap} {a : Nat} {m bad : Bool} (hr : RdBad h a m bad) (size : Nat) (hs : 0 < size) {K : V → Heap → Prop}
    (hK : ∀ h', RdBad h' a m true → Heap.Keeps (fun n => n = a) h h' → K (.i .i64 0) h') : ACall P 123 [.p (.g a) 0, .i .i64 size] h K := by
  obtain ⟨han, ga⟩ := hr
  refine fn_sp (hG _ AF.f123 rfl) rfl ?_
  ((conv => whnf); repeat ((first | refine SOpt.of (tv_ldo _ _ _) ?_ | refine SIf.dt (show (0 : Int) < (size : Int) by omega) ?_ | refine SChk.mk (tv_fitb _ _ _ _) ?_ | refine SEx.of (congrArg some (tv_stb _ _ _ _)) ?_ | refine SChk.mk (tv_fits _ _ _ _) ?_ | refine SEx.of (congrArg some (tv_st _ _ _ _)) ?_ | refine SEx.of (ga) ?_ | refine SEx.of (Heap.get_set_self ga) ?_ | refine yf rfl ?_ | refine yt rfl ?_ | refine yo rfl ?_ | refine yc rfl ?_ | refine ys rfl ?_ | refine ye rfl ?_ | refine yn rfl ?_ | refine zw ?_ | refine zdt ?_ | refine zdf ?_ | refine znt ?_ | refine znf ?_ | refine zcd ?_ | refine zci ?_ | refine zc3 ?_) <;> (conv => whnf)))
  exact hK _ ⟨han, Heap.get_set_self (Heap.get_set_self ga)⟩ (Heap.Keeps.set (b := fun n => n = a) (Heap.Keeps.set (b := fun n => n = a) (.refl _ _) (.inl rfl) _) (.inl rfl) _)
theorem rmake_bad (hon : OnceOk P 161) {h : Heap} {a : Nat} {m bad : Bool} (hr : RdBad h a m bad) {K : V → Heap → Prop}
    (hK : ∀ h', RdBad h' a true bad → Heap.Keeps (fun n => n = a) h h' → K (.tup []) h') : ACall P 116 [.p (.g a) 0] h K :=
  tmake_at hG hon hr.1 hr.2 fun h' q1 q2 => hK h' ⟨Nat.lt_of_lt_of_le hr.1 q2.1, q1⟩ q2
set_option maxHeartbeats 4000000 in
theorem rname_bad (hon : OnceOk P 161) {h : Heap} {a : Nat} {m bad : Bool} (hr : RdBad h a m bad) {K : V → Heap → Prop}
    (hK : ∀ h', RdBad h' a true true → Heap.Keeps (fun n => n = a) h h' → K (.s []) h') : ACall P 124 [.p (.g a) 0] h K := by
  have hmk := fun K hK => rmake_bad (K := K) hG hon hr hK
  refine fn_sp (hG _ AF.f124 rfl) rfl ?_
  ((conv => whnf); repeat ((first | refine SCall.app (hmk _) ?_ | refine yf rfl ?_ | refine yt rfl ?_ | refine yo rfl ?_ | refine yc rfl ?_ | refine ys rfl ?_ | refine ye rfl ?_ | refine yn rfl ?_ | refine zw ?_ | refine zdt ?_ | refine zdf ?_ | refine znt ?_ | refine znf ?_ | refine zcd ?_ | refine zci ?_ | refine zc3 ?_) <;> (conv => whnf)))
  intro h1 r1 k1
  have hnum := fun K hK => rnum_bad (K := K) hG r1 8 (by omega) hK
  ((conv => whnf); repeat ((first | refine SCall.app (hnum _) ?_ | refine yf rfl ?_ | refine yt rfl ?_ | refine yo rfl ?_ | refine yc rfl ?_ | refine ys rfl ?_ | refine ye rfl ?_ | refine yn rfl ?_ | refine zw ?_ | refine zdt ?_ | refine zdf ?_ | refine znt ?_ | refine znf ?_ | refine zcd ?_ | refine zci ?_ | refine zc3 ?_) <;> (conv => whnf)))
  intro h2 r2 k2
  have hrn := fun K hK => rev_nil (K := K) hG (h := h2) hK
  ((conv => whnf); repeat ((first | refine SWrap.of (by decide) (by decide) ?_ | refine SLoop.un ?_ | refine SCall.app (hrn _) ?_ | refine yf rfl ?_ | refine yt rfl ?_ | refine yo rfl ?_ | refine yc rfl ?_ | refine ys rfl ?_ | refine ye rfl ?_ | refine yn rfl ?_ | refine zw ?_ | refine zdt ?_ | refine zdf ?_ | refine znt ?_ | refine znf ?_ | refine zcd ?_ | refine zci ?_ | refine zc3 ?_) <;> (conv => whnf)))
  exact hK h2 r2 (k1.trans k2)
set_option maxHeartbeats 4000000 in
theorem rcount_bad {h : Heap} {a : Nat} {m bad : Bool} (hr : RdBad h a m bad) {K : V → Heap → Prop}
    (hK : ∀ h', RdBad h' a m true → Heap.Keeps (fun n => n = a) h h' → K (.i .i64 0) h') : ACall P 126 [.p (.g a) 0, .i .i64 1] h K := by
  have h1 := fun K hK => rnum_bad (K := K) hG hr 1 (by omega) hK
  refine fn_sp (hG _ AF.f126 rfl) rfl ?_
  ((conv => whnf); repeat ((first | refine SCall.app (h1 _) ?_ | refine yf rfl ?_ | refine yt rfl ?_ | refine yo rfl ?_ | refine yc rfl ?_ | refine ys rfl ?_ | refine ye rfl ?_ | refine yn rfl ?_ | refine zw ?_ | refine zdt ?_ | refine zdf ?_ | refine znt ?_ | refine znf ?_ | refine zcd ?_ | refine zci ?_ | refine zc3 ?_) <;> (conv => whnf)))
  intro h2 r2 k2
  ((conv => whnf); repeat ((first | refine SOpt.of (tv_ldo _ _ _) ?_ | refine SEx.of (r2.2) ?_ | refine yf rfl ?_ | refine yt rfl ?_ | refine yo rfl ?_ | refine yc rfl ?_ | refine ys rfl ?_ | refine ye rfl ?_ | refine yn rfl ?_ | refine zw ?_ | refine zdt ?_ | refine zdf ?_ | refine znt ?_ | refine znf ?_ | refine zcd ?_ | refine zci ?_ | refine zc3 ?_) <;> (conv => whnf)))
  exact hK h2 r2 k2
theorem rend_bad {h : Heap} {a : Nat} {m : Bool} (hr : RdBad h a m true) {K : V → Heap → Prop} (hK : K (.b false) h) : ACall P 131 [.p (.g a) 0] h K := by
  refine fn_sp (hG _ AF.f131 rfl) rfl ?_
  ((conv => whnf); repeat ((first | refine SOpt.of (tv_ldb _ _ _) ?_ | refine SOpt.of (tv_ldo _ _ _) ?_ | refine SEx.of (hr.2) ?_ | refine yf rfl ?_ | refine yt rfl ?_ | refine yo rfl ?_ | refine yc rfl ?_ | refine ys rfl ?_ | refine ye rfl ?_ | refine yn rfl ?_ | refine zw ?_ | refine zdt ?_ | refine zdf ?_ | refine znt ?_ | refine znf ?_ | refine zcd ?_ | refine zci ?_ | refine zc3 ?_) <;> (conv => whnf)))
  exact hK
theorem rres_bad {h : Heap} {a : Nat} {m bad : Bool} (hr : RdBad h a m bad) {K : V → Heap → Prop}
    (hK : ∀ h', RdBad h' a m true → Heap.Keeps (fun n => n = a) h h' → K (.agg [.i .i64 0, .i .i64 0, .i .i64 0]) h') : ACall P 125 [.p (.g a) 0] h K := by
  have h1 := fun K hK => rnum_bad (K := K) hG hr 4 (by omega) hK
  refine fn_sp (hG _ AF.f125 rfl) rfl ?_
  ((conv => whnf); repeat ((first | refine SLoop.un ?_ | refine SCall.app (h1 _) ?_ | refine yf rfl ?_ | refine yt rfl ?_ | refine yo rfl ?_ | refine yc rfl ?_ | refine ys rfl ?_ | refine ye rfl ?_ | refine yn rfl ?_ | refine zw ?_ | refine zdt ?_ | refine zdf ?_ | refine znt ?_ | refine znf ?_ | refine zcd ?_ | refine zci ?_ | refine zc3 ?_) <;> (conv => whnf)))
  intro h2 r2 k2
  have h3 := fun K hK => rnum_bad (K := K) hG r2 4 (by omega) hK
  ((conv => whnf); repeat ((first | refine SLoop.un ?_ | refine SCall.app (h3 _) ?_ | refine yf rfl ?_ | refine yt rfl ?_ | refine yo rfl ?_ | refine yc rfl ?_ | refine ys rfl ?_ | refine ye rfl ?_ | refine yn rfl ?_ | refine zw ?_ | refine zdt ?_ | refine zdf ?_ | refine znt ?_ | refine znf ?_ | refine zcd ?_ | refine zci ?_ | refine zc3 ?_) <;> (conv => whnf)))
  intro h4 r4 k4
  have h5 := fun K hK => rnum_bad (K := K) hG r4 4 (by omega) hK
  ((conv => whnf); repeat ((first | refine SLoop.un ?_ | refine SCall.app (h5 _) ?_ | refine yf rfl ?_ | refine yt rfl ?_ | refine yo rfl ?_ | refine yc rfl ?_ | refine ys rfl ?_ | refine ye rfl ?_ | refine yn rfl ?_ | refine zw ?_ | refine zdt ?_ | refine zdf ?_ | refine znt ?_ | refine znf ?_ | refine zcd ?_ | refine zci ?_ | refine zc3 ?_) <;> (conv => whnf)))
  intro h6 r6 k6
  ((conv => whnf); repeat ((first | refine SLoop.un ?_ | refine yf rfl ?_ | refine yt rfl ?_ | refine yo rfl ?_ | refine yc rfl ?_ | refine ys rfl ?_ | refine ye rfl ?_ | refine yn rfl ?_ | refine zw ?_ | refine zdt ?_ | refine zdf ?_ | refine znt ?_ | refine znf ?_ | refine zcd ?_ | refine zci ?_ | refine zc3 ?_) <;> (conv => whnf)))
  exact hK h6 r6 ((k2.trans k4).trans k6)
theorem rpairs_bad {h : Heap} {a : Nat} {m bad : Bool} (hr : RdBad h a m bad) {K : V → Heap → Prop}
    (hK : ∀ h', RdBad h' a m true → Heap.Keeps (fun n => n = a) h h' → K .nils h') : ACall P 127 [.p (.g a) 0, .fn 128 [] []] h K := by
  have h1 := fun K hK => rcount_bad (K := K) hG hr hK
  refine fn_sp (hG _ AF.f127 rfl) rfl ?_
  ((conv => whnf); repeat ((first | refine SCall.app (h1 _) ?_ | refine yf rfl ?_ | refine yt rfl ?_ | refine yo rfl ?_ | refine yc rfl ?_ | refine ys rfl ?_ | refine ye rfl ?_ | refine yn rfl ?_ | refine zw ?_ | refine zdt ?_ | refine zdf ?_ | refine znt ?_ | refine znf ?_ | refine zcd ?_ | refine zci ?_ | refine zc3 ?_) <;> (conv => whnf)))
  intro h2 r2 k2
  ((conv => whnf); repeat ((first | refine SLoop.un ?_ | refine yf rfl ?_ | refine yt rfl ?_ | refine yo rfl ?_ | refine yc rfl ?_ | refine ys rfl ?_ | refine ye rfl ?_ | refine yn rfl ?_ | refine zw ?_ | refine zdt ?_ | refine zdf ?_ | refine znt ?_ | refine znf ?_ | refine zcd ?_ | refine zci ?_ | refine zc3 ?_) <;> (conv => whnf)))
  exact hK h2 r2 k2
theorem rterms_bad {h : Heap} {a : Nat} {m bad : Bool} (hr : RdBad h a m bad) {K : V → Heap → Prop}
    (hK : ∀ h', RdBad h' a m true → Heap.Keeps (fun n => n = a) h h' → K .nils h') : ACall P 129 [.p (.g a) 0] h K := by
  have h1 := fun K hK => rcount_bad (K := K) hG hr hK
  refine fn_sp (hG _ AF.f129 rfl) rfl ?_
  ((conv => whnf); repeat ((first | refine SCall.app (h1 _) ?_ | refine yf rfl ?_ | refine yt rfl ?_ | refine yo rfl ?_ | refine yc rfl ?_ | refine ys rfl ?_ | refine ye rfl ?_ | refine yn rfl ?_ | refine zw ?_ | refine zdt ?_ | refine zdf ?_ | refine znt ?_ | refine znf ?_ | refine zcd ?_ | refine zci ?_ | refine zc3 ?_) <;> (conv => whnf)))
  intro h2 r2 k2
  ((conv => whnf); repeat ((first | refine SLoop.un ?_ | refine yf rfl ?_ | refine yt rfl ?_ | refine yo rfl ?_ | refine yc rfl ?_ | refine ys rfl ?_ | refine ye rfl ?_ | refine yn rfl ?_ | refine zw ?_ | refine zdt ?_ | refine zdf ?_ | refine znt ?_ | refine znf ?_ | refine zcd ?_ | refine zci ?_ | refine zc3 ?_) <;> (conv => whnf)))
  exact hK h2 r2 k2
set_option maxRecDepth 10000 in
theorem rnew_nil {h : Heap} {K : V → Heap → Prop} (hK : ∀ h', RdBad h' h.next false false → Heap.Keeps (fun _ => False) h h' → K (.p (.g h.next) 0) h') : ACall P 122 [.nils] h K := by
  refine fn_sp (hG _ AF.f122 rfl) rfl ?_
  ((conv => whnf); repeat ((first | refine SCall.app (fn_sp (hG _ AF.f100 rfl) rfl) ?_ | refine yf rfl ?_ | refine yt rfl ?_ | refine yo rfl ?_ | refine yc rfl ?_ | refine ys rfl ?_ | refine ye rfl ?_ | refine yn rfl ?_ | refine zw ?_ | refine zdt ?_ | refine zdf ?_ | refine znt ?_ | refine znf ?_ | refine zcd ?_ | refine zci ?_ | refine zc3 ?_) <;> (conv => whnf)))
  exact hK _ ⟨Nat.lt_succ_self _, Heap.get_push_self _ _⟩ (.push (.refl _ _) _)
set_option maxHeartbeats 32000000 in
set_option maxRecDepth 20000 in
theorem rget_nil (hon : OnceOk P 161) {h : Heap} {K : V → Heap → Prop} (hK : ∀ h', Heap.Keeps (fun _ => False) h h' → K (.tup [.agg zeroP, .b false]) h') : ACall P 87 [.nils] h K := by
  have hnew := fun K hK => rnew_nil (K := K) hG (h := h) hK
  refine fn_sv (hG _ AF.f87 rfl) rfl ?_
  ((conv => whnf); repeat ((first | refine SCall.app (hnew _) ?_ | refine yf rfl ?_ | refine yt rfl ?_ | refine yo rfl ?_ | refine yc rfl ?_ | refine ys rfl ?_ | refine ye rfl ?_ | refine yn rfl ?_ | refine zw ?_ | refine zdt ?_ | refine zdf ?_ | refine znt ?_ | refine znf ?_ | refine zcd ?_ | refine zci ?_ | refine zc3 ?_) <;> (conv => whnf)))
  intro hA rA kA
  have c0 := fun K hK => rnum_bad (K := K) hG rA 1 (by omega) hK
  ((conv => whnf); repeat ((first | refine SCall.app (c0 _) ?_ | refine yf rfl ?_ | refine yt rfl ?_ | refine yo rfl ?_ | refine yc rfl ?_ | refine ys rfl ?_ | refine ye rfl ?_ | refine yn rfl ?_ | refine zw ?_ | refine zdt ?_ | refine zdf ?_ | refine znt ?_ | refine znf ?_ | refine zcd ?_ | refine zci ?_ | refine zc3 ?_) <;> (conv => whnf)))
  intro h0 r0 k0
  have c1 := fun K hK => rname_bad (K := K) hG hon r0 hK
  ((conv => whnf); repeat ((first | refine SCall.app (c1 _) ?_ | refine yf rfl ?_ | refine yt rfl ?_ | refine yo rfl ?_ | refine yc rfl ?_ | refine ys rfl ?_ | refine ye rfl ?_ | refine yn rfl ?_ | refine zw ?_ | refine zdt ?_ | refine zdf ?_ | refine znt ?_ | refine znf ?_ | refine zcd ?_ | refine zci ?_ | refine zc3 ?_) <;> (conv => whnf)))
  intro h1 r1 k1
  have c2 := fun K hK => rnum_bad (K := K) hG r1 8 (by omega) hK
  ((conv => whnf); repeat ((first | refine SCall.app (c2 _) ?_ | refine yf rfl ?_ | refine yt rfl ?_ | refine yo rfl ?_ | refine yc rfl ?_ | refine ys rfl ?_ | refine ye rfl ?_ | refine yn rfl ?_ | refine zw ?_ | refine zdt ?_ | refine zdf ?_ | refine znt ?_ | refine znf ?_ | refine zcd ?_ | refine zci ?_ | refine zc3 ?_) <;> (conv => whnf)))
  intro h2 r2 k2
  have c3 := fun K hK => rnum_bad (K := K) hG r2 2 (by omega) hK
  ((conv => whnf); repeat ((first | refine SCall.app (c3 _) ?_ | refine yf rfl ?_ | refine yt rfl ?_ | refine yo rfl ?_ | refine yc rfl ?_ | refine ys rfl ?_ | refine ye rfl ?_ | refine yn rfl ?_ | refine zw ?_ | refine zdt ?_ | refine zdf ?_ | refine znt ?_ | refine znf ?_ | refine zcd ?_ | refine zci ?_ | refine zc3 ?_) <;> (conv => whnf)))
  intro h3 r3 k3
  have c4 := fun K hK => rres_bad (K := K) hG r3 hK
  ((conv => whnf); repeat ((first | refine SCall.app (c4 _) ?_ | refine yf rfl ?_ | refine yt rfl ?_ | refine yo rfl ?_ | refine yc rfl ?_ | refine ys rfl ?_ | refine ye rfl ?_ | refine yn rfl ?_ | refine zw ?_ | refine zdt ?_ | refine zdf ?_ | refine znt ?_ | refine znf ?_ | refine zcd ?_ | refine zci ?_ | refine zc3 ?_) <;> (conv => whnf)))
  intro h4 r4 k4
  have c5 := fun K hK => rcount_bad (K := K) hG r4 hK
  ((conv => whnf); repeat ((first | refine SCall.app (c5 _) ?_ | refine yf rfl ?_ | refine yt rfl ?_ | refine yo rfl ?_ | refine yc rfl ?_ | refine ys rfl ?_ | refine ye rfl ?_ | refine yn rfl ?_ | refine zw ?_ | refine zdt ?_ | refine zdf ?_ | refine znt ?_ | refine znf ?_ | refine zcd ?_ | refine zci ?_ | refine zc3 ?_) <;> (conv => whnf)))
  intro h5 r5 k5
  have c6 := fun K hK => rpairs_bad (K := K) hG r5 hK
  ((conv => whnf); repeat ((first | refine SLoopV.un rfl ?_ | refine SCall.app (c6 _) ?_ | refine yf rfl ?_ | refine yt rfl ?_ | refine yo rfl ?_ | refine yc rfl ?_ | refine ys rfl ?_ | refine ye rfl ?_ | refine yn rfl ?_ | refine zw ?_ | refine zdt ?_ | refine zdf ?_ | refine znt ?_ | refine znf ?_ | refine zcd ?_ | refine zci ?_ | refine zc3 ?_) <;> (conv => whnf)))
  intro h6 r6 k6
  have c7 := fun K hK => rterms_bad (K := K) hG r6 hK
  ((conv => whnf); repeat ((first | refine SCall.app (c7 _) ?_ | refine yf rfl ?_ | refine yt rfl ?_ | refine yo rfl ?_ | refine yc rfl ?_ | refine ys rfl ?_ | refine ye rfl ?_ | refine yn rfl ?_ | refine zw ?_ | refine zdt ?_ | refine zdf ?_ | refine znt ?_ | refine znf ?_ | refine zcd ?_ | refine zci ?_ | refine zc3 ?_) <;> (conv => whnf)))
  intro h7 r7 k7
  have c8 := fun K hK => rcount_bad (K := K) hG r7 hK
  ((conv => whnf); repeat ((first | refine SCall.app (c8 _) ?_ | refine yf rfl ?_ | refine yt rfl ?_ | refine yo rfl ?_ | refine yc rfl ?_ | refine ys rfl ?_ | refine ye rfl ?_ | refine yn rfl ?_ | refine zw ?_ | refine zdt ?_ | refine zdf ?_ | refine znt ?_ | refine znf ?_ | refine zcd ?_ | refine zci ?_ | refine zc3 ?_) <;> (conv => whnf)))
  intro h8 r8 k8
  have c9 := fun K hK => rname_bad (K := K) hG hon r8 hK
  ((conv => whnf); repeat ((first | refine SLoopV.un rfl ?_ | refine SCall.app (c9 _) ?_ | refine yf rfl ?_ | refine yt rfl ?_ | refine yo rfl ?_ | refine yc rfl ?_ | refine ys rfl ?_ | refine ye rfl ?_ | refine yn rfl ?_ | refine zw ?_ | refine zdt ?_ | refine zdf ?_ | refine znt ?_ | refine znf ?_ | refine zcd ?_ | refine zci ?_ | refine zc3 ?_) <;> (conv => whnf)))
  intro h9 r9 k9
  have c10 := fun K hK => rterms_bad (K := K) hG r9 hK
  ((conv => whnf); repeat ((first | refine SCall.app (c10 _) ?_ | refine yf rfl ?_ | refine yt rfl ?_ | refine yo rfl ?_ | refine yc rfl ?_ | refine ys rfl ?_ | refine ye rfl ?_ | refine yn rfl ?_ | refine zw ?_ | refine zdt ?_ | refine zdf ?_ | refine znt ?_ | refine znf ?_ | refine zcd ?_ | refine zci ?_ | refine zc3 ?_) <;> (conv => whnf)))
  intro h10 r10 k10
  have c11 := fun K hK => rnum_bad (K := K) hG r10 1 (by omega) hK
  ((conv => whnf); repeat ((first | refine SCall.app (c11 _) ?_ | refine yf rfl ?_ | refine yt rfl ?_ | refine yo rfl ?_ | refine yc rfl ?_ | refine ys rfl ?_ | refine ye rfl ?_ | refine yn rfl ?_ | refine zw ?_ | refine zdt ?_ | refine zdf ?_ | refine znt ?_ | refine znf ?_ | refine zcd ?_ | refine zci ?_ | refine zc3 ?_) <;> (conv => whnf)))
  intro h11 r11 k11
  have c12 := fun K hK => rterms_bad (K := K) hG r11 hK
  ((conv => whnf); repeat ((first | refine SCall.app (c12 _) ?_ | refine yf rfl ?_ | refine yt rfl ?_ | refine yo rfl ?_ | refine yc rfl ?_ | refine ys rfl ?_ | refine ye rfl ?_ | refine yn rfl ?_ | refine zw ?_ | refine zdt ?_ | refine zdf ?_ | refine znt ?_ | refine znf ?_ | refine zcd ?_ | refine zci ?_ | refine zc3 ?_) <;> (conv => whnf)))
  intro h12 r12 k12
  have c13 := fun K hK => rname_bad (K := K) hG hon r12 hK
  ((conv => whnf); repeat ((first | refine SCall.app (c13 _) ?_ | refine yf rfl ?_ | refine yt rfl ?_ | refine yo rfl ?_ | refine yc rfl ?_ | refine ys rfl ?_ | refine ye rfl ?_ | refine yn rfl ?_ | refine zw ?_ | refine zdt ?_ | refine zdf ?_ | refine znt ?_ | refine znf ?_ | refine zcd ?_ | refine zci ?_ | refine zc3 ?_) <;> (conv => whnf)))
  intro h13 r13 k13
  have c14 := fun K hK => rnum_bad (K := K) hG r13 8 (by omega) hK
  ((conv => whnf); repeat ((first | refine SCall.app (c14 _) ?_ | refine yf rfl ?_ | refine yt rfl ?_ | refine yo rfl ?_ | refine yc rfl ?_ | refine ys rfl ?_ | refine ye rfl ?_ | refine yn rfl ?_ | refine zw ?_ | refine zdt ?_ | refine zdf ?_ | refine znt ?_ | refine znf ?_ | refine zcd ?_ | refine zci ?_ | refine zc3 ?_) <;> (conv => whnf)))
  intro h14 r14 k14
  have c15 := fun K hK => rend_bad (K := K) hG r14 hK
  ((conv => whnf); repeat ((first | refine SCall.app (c15 _) ?_ | refine yf rfl ?_ | refine yt rfl ?_ | refine yo rfl ?_ | refine yc rfl ?_ | refine ys rfl ?_ | refine ye rfl ?_ | refine yn rfl ?_ | refine zw ?_ | refine zdt ?_ | refine zdf ?_ | refine znt ?_ | refine znf ?_ | refine zcd ?_ | refine zci ?_ | refine zc3 ?_) <;> (conv => whnf)))
  have kk := (((((((((((((k0.trans k1).trans k2).trans k3).trans k4).trans k5).trans k6).trans k7).trans k8).trans k9).trans k10).trans k11).trans k12).trans k13).trans k14
  have kAll : Heap.Keeps (fun _ => False) h h14 := (Heap.Keeps.trans (b := fun n => n = h.next) (kA.mono fun _ _ e => e.elim) kk).mono fun n hn e => absurd hn (by omega)
  exact hK _ kAll
end
end Go.Eng
/-
Whether a pod is known to wait, whatever is known.
-/
namespace Go.Eng
open Go
def keyQ (s : Str) : Str := if nameB s = true then keyP s else []
section
variable {P : Program} (hG : FnsOk P AF.fns.get)
include hG
theorem keyq_at {h : Heap} (s : Str) (hl : s.length ≤ 9223372036854775807) {K : V → Heap → Prop} (hK : K (.s (keyQ s)) h) : ACall P 85 [.i .i64 1, .s s] h K := by
  unfold keyQ at hK
  by_cases c : nameB s = true
  · rw [if_pos c] at hK
    exact keyp_at hG s hl c hK
  · rw [if_neg c] at hK
    exact keyp_no hG s hl (by simpa using c) hK
set_option maxHeartbeats 4000000 in
theorem waits_none (hon : OnceOk P 161) {h : Heap} {c : Nat} {m : Option Nat} {rev : Int} {D : List EnD} (hc : CacheAt h c m rev D) (hD : ∀ e ∈ D, EnOk e) (pod : Str) (hl : pod.length ≤ 9223372036854775807) (uid : Int)
    (he : getE D (keyQ pod) = none) {K : V → Heap → Prop}
    (hK : ∀ h', Heap.Keeps (fun _ => False) h h' → K (.b false) h') : ACall P 78 [.p (.g c) 0, .s pod, .i .i64 uid] h K := by
  have hk := fun K hK => keyq_at (K := K) hG (h := h) pod hl hK
  have hg := fun (K : V → Heap → Prop) (hK : K (.tup [.agg zeroE, .b false]) h) => cget_at (K := K) hG hc hD (keyQ pod) (fun _ => hK) (fun e' h' => by rw [he] at h'; cases h')
  have hgp := fun (K : V → Heap → Prop) hK => rget_nil (K := K) hG hon (h := h) hK
  refine fn_sp (hG _ AF.f78 rfl) rfl ?_
  ((conv => whnf); repeat ((first | refine SCall.app (hk _) ?_ | refine SCall.app (hg _) ?_ | refine SCall.app (hgp _) ?_ | refine yf rfl ?_ | refine yt rfl ?_ | refine yo rfl ?_ | refine yc rfl ?_ | refine ys rfl ?_ | refine ye rfl ?_ | refine yn rfl ?_ | refine zw ?_ | refine zdt ?_ | refine zdf ?_ | refine znt ?_ | refine znf ?_ | refine zcd ?_ | refine zci ?_ | refine zc3 ?_) <;> (conv => whnf)))
  intro h' kh'
  ((conv => whnf); repeat ((first | refine yf rfl ?_ | refine yt rfl ?_ | refine yo rfl ?_ | refine yc rfl ?_ | refine ys rfl ?_ | refine ye rfl ?_ | refine yn rfl ?_ | refine zw ?_ | refine zdt ?_ | refine zdf ?_ | refine znt ?_ | refine znf ?_ | refine zcd ?_ | refine zci ?_ | refine zc3 ?_) <;> (conv => whnf)))
  exact hK h' kh'
end
end Go.Eng
/-
What is taken for done: what is known, or over, is let go (a row is cut in place).
-/
namespace Go.Eng
open Go
def keepA (p : AsD → Bool) (L : List AsD) : List AsD := L.filter fun o => !p o
structure DelA (p : AsD → Bool) (L M : List AsD) (j m : Nat) : Prop where
  len : M.length = L.length
  take : M.take j = keepA p (L.take m)
  drop : M.drop m = L.drop m
  jm : j ≤ m
  jl : j = (keepA p (L.take m)).length
theorem keepA_none {p : AsD → Bool} {L : List AsD} (h : ∀ (j : Nat) (e : AsD), L[j]? = some e → p e = false) : keepA p L = L := by
  unfold keepA
  refine List.filter_eq_self.2 fun a ha => ?_
  obtain ⟨j, hj⟩ := List.mem_iff_getElem?.1 ha
  rw [h j a hj]; rfl
theorem DelA.start {p : AsD → Bool} {L : List AsD} {i : Nat} {e : AsD} (he : L[i]? = some e) (hp : p e = true) (hno : ∀ (j : Nat) (x : AsD), j < i → L[j]? = some x → p x = false) : DelA p L L i (i + 1) := by
  have hi := (List.getElem?_eq_some_iff.1 he).1
  have h1 : keepA p (L.take i) = L.take i := keepA_none fun j x hj => by
    have hji : j < i := by have := (List.getElem?_eq_some_iff.1 hj).1; simp at this; omega
    rw [List.getElem?_take_of_lt hji] at hj
    exact hno j x hji hj
  have h2 : keepA p (L.take (i + 1)) = L.take i := by
    rw [List.take_add_one, he]
    unfold keepA at h1 ⊢
    rw [List.filter_append, h1]
    simp [hp]
  exact ⟨rfl, h2.symm, rfl, by omega, by rw [h2, List.length_take]; omega⟩
theorem DelA.skip {p : AsD → Bool} {L M : List AsD} {j m : Nat} (h : DelA p L M j m) {x : AsD} (hx : L[m]? = some x) (hp : p x = true) : DelA p L M j (m + 1) := by
  have h2 : keepA p (L.take (m + 1)) = keepA p (L.take m) := by
    rw [List.take_add_one, hx]; unfold keepA; simp [List.filter_append, hp]
  have hm := (List.getElem?_eq_some_iff.1 hx).1
  refine ⟨h.len, by rw [h2]; exact h.take, ?_, by have := h.jm; omega, by rw [h2]; exact h.jl⟩
  have := congrArg (List.drop 1) h.drop
  rwa [List.drop_drop, List.drop_drop] at this
theorem DelA.keep {p : AsD → Bool} {L M : List AsD} {j m : Nat} (h : DelA p L M j m) {x : AsD} (hx : L[m]? = some x) (hp : p x = false) : DelA p L (M.set j x) (j + 1) (m + 1) := by
  have hm := (List.getElem?_eq_some_iff.1 hx).1
  have hj : j < M.length := by have := h.jm; have := h.len; omega
  have h2 : keepA p (L.take (m + 1)) = keepA p (L.take m) ++ [x] := by
    rw [List.take_add_one, hx]; unfold keepA; simp [List.filter_append, hp]
  refine ⟨by rw [List.length_set]; exact h.len, ?_, ?_, by have := h.jm; omega, by rw [h2, List.length_append, ← h.jl]; rfl⟩
  · rw [h2, ← h.take, List.take_add_one, List.getElem?_set_self hj, List.take_set_of_le (Nat.le_refl j)]; rfl
  · rw [List.drop_set_of_lt (by have := h.jm; omega)]
    have := congrArg (List.drop 1) h.drop
    rwa [List.drop_drop, List.drop_drop] at this
theorem DelA.get {p : AsD → Bool} {L M : List AsD} {j m : Nat} (h : DelA p L M j m) {x : AsD} (hx : L[m]? = some x) : M[m]? = some x := by
  have h1 : (M.drop m)[0]? = (L.drop m)[0]? := by rw [h.drop]
  rw [List.getElem?_drop, List.getElem?_drop, Nat.add_zero] at h1
  rw [h1]; exact hx
theorem rowJ_get {M : List AsD} {J : List (List V)} {k i : Nat} {x : AsD} (hk : k = i) (h : M[i]? = some x) : (M.map asR ++ J)[0 + k]? = some (asR x) := by
  subst hk
  have := (List.getElem?_eq_some_iff.1 h).1
  rw [Nat.zero_add, List.getElem?_append_left (by simpa using this), List.getElem?_map, h]; rfl
theorem rowJ_set {M : List AsD} {J : List (List V)} {k j : Nat} {x : AsD} (hk : k = j) (h : j < M.length) : (M.map asR ++ J).set (0 + k) (asR x) = (M.set j x).map asR ++ J := by
  subst hk
  rw [Nat.zero_add, List.set_append_left _ _ (by simpa using h), ← List.map_set]
theorem rowJ_clear {M K : List AsD} {d n j a b c : Nat} (ha : a = j) (hb : b = n - j) (hc : c = n) (hn : M.length = n) (hj : j ≤ n) (hK : M.take j = K) :
    List.take a (M.map asR ++ List.replicate d as0) ++ List.replicate b as0 ++ List.drop c (M.map asR ++ List.replicate d as0) = K.map asR ++ List.replicate (n - j + d) as0 := by
  subst ha hb hc hK
  have h1 : (M.map asR).length = c := by simpa using hn
  rw [List.take_append_of_le_length (by omega), List.drop_append, List.drop_of_length_le (by omega), h1, Nat.sub_self, List.drop_zero, List.nil_append, ← List.map_take, List.append_assoc, List.replicate_append_replicate]
section
variable {P : Program} (hG : FnsOk P AF.fns.get)
include hG
set_option maxHeartbeats 4000000 in
theorem aidx2_at {h : Heap} {c d g k1 k2 k3 : Nat} {L : List AsD} (hch : c < h.next) (hc : h.get c = some (.arr 6 (L.map asR ++ List.replicate d as0))) (hl : L.length ≤ 100000) {p : AsD → Bool}
    (hg : ∀ h', Heap.Keeps (fun n => n = c) h h' → ∀ e ∈ L, ∀ K : V → Heap → Prop, (∀ h'', Heap.Keeps (fun _ => False) h' h'' → K (.b (p e)) h'') → ACall P g (.agg (asR e) :: [.p (.g k1) 0, .p (.g k2) 0, .p (.g k3) 0]) h' K) {K : V → Heap → Prop}
    (hK : ∀ h', Heap.Keeps (fun _ => False) h h' → K (.i .i64 (ixRes p L)) h') : ACall P 118 [.ms (.g c) 6 0 L.length, .fn g [] [.p (.g k1) 0, .p (.g k2) 0, .p (.g k3) 0]] h K := by
  have hrl := as_len L d
  refine fn_sp (hG _ AF.f118 rfl) rfl ?_
  ((conv => whnf); repeat ((first | refine yf rfl ?_ | refine yt rfl ?_ | refine yo rfl ?_ | refine yc rfl ?_ | refine ys rfl ?_ | refine ye rfl ?_ | refine yn rfl ?_ | refine zw ?_ | refine zdt ?_ | refine zdf ?_ | refine znt ?_ | refine znf ?_ | refine zcd ?_ | refine zci ?_ | refine zc3 ?_) <;> (conv => whnf)))
  refine SLoop.by (fun q fr st => ∃ (i : Nat) (hh lc : Heap), i ≤ L.length ∧ q = L.length - i ∧ (∀ (j : Nat) (e : AsD), j < i → L[j]? = some e → p e = false) ∧ Heap.Keeps (fun _ => False) h hh ∧
      Fr.le [(8, .i .i64 i), (7, .i .i64 L.length), (1, .fn g [] [.p (.g k1) 0, .p (.g k2) 0, .p (.g k3) 0]), (0, .ms (.g c) 6 0 L.length)] fr ∧ st = ⟨hh, lc⟩)
    L.length ⟨0, h, _, Nat.zero_le _, rfl, (fun j e hj => absurd hj (Nat.not_lt_zero _)), .refl _ _, (by repeat (first | exact Fr.le_nil | refine Fr.le_cons rfl ?_)), rfl⟩ ?_
  rintro q fr st ⟨i, hh, lc, hi, rfl, hno, hk, hle0, rfl⟩
  refine ⟨_, hle0, fun R hR => ?_⟩
  by_cases hin : i < L.length
  · have he := List.getElem?_eq_getElem hin
    have hem := List.getElem_mem hin
    generalize L[i] = e at he hem
    have hcl := fun K hK => hg hh (hk.mono fun _ _ e => e.elim) e hem K hK
    have hc' : hh.get c = some (.arr 6 (L.map asR ++ List.replicate d as0)) := by rw [hk.2 c hch (fun x => x)]; exact hc
    ((conv => whnf); repeat ((first | refine SIf.dt (show (i : Int) < (L.length : Nat) by omega) ?_ | refine SChk.ix (by omega) (by omega) ?_ | refine SChk.mk (decide_eq_true (by omega)) ?_ | refine SCall.app (hcl _) ?_ | refine SEx.of (hc') ?_ | refine SEx.of (as_get (by omega) he) ?_ | refine yf rfl ?_ | refine yt rfl ?_ | refine yo rfl ?_ | refine yc rfl ?_ | refine ys rfl ?_ | refine ye rfl ?_ | refine yn rfl ?_ | refine zw ?_ | refine zdt ?_ | refine zdf ?_ | refine znt ?_ | refine znf ?_ | refine zcd ?_ | refine zci ?_ | refine zc3 ?_) <;> (conv => whnf)))
    intro h2 hk2
    cases hp : p e
    · ((conv => whnf); repeat ((first | refine SWrap.w64 (by omega) (by omega) ?_ | refine yf rfl ?_ | refine yt rfl ?_ | refine yo rfl ?_ | refine yc rfl ?_ | refine ys rfl ?_ | refine ye rfl ?_ | refine yn rfl ?_ | refine zw ?_ | refine zdt ?_ | refine zdf ?_ | refine znt ?_ | refine znf ?_ | refine zcd ?_ | refine zci ?_ | refine zc3 ?_) <;> (conv => whnf)))
      exact hR (L.length - (i + 1)) _ _ (by omega) ⟨i + 1, h2, _, by omega, rfl, (fun j x hj hx => by
        by_cases hji : j < i
        · exact hno j x hji hx
        · obtain rfl : j = i := by omega
          rw [he] at hx; cases hx; exact hp), hk.trans hk2, (by repeat (first | exact Fr.le_nil | refine Fr.le_cons rfl ?_)), rfl⟩
    · ((conv => whnf); repeat ((first | refine yf rfl ?_ | refine yt rfl ?_ | refine yo rfl ?_ | refine yc rfl ?_ | refine ys rfl ?_ | refine ye rfl ?_ | refine yn rfl ?_ | refine zw ?_ | refine zdt ?_ | refine zdf ?_ | refine znt ?_ | refine znf ?_ | refine zcd ?_ | refine zci ?_ | refine zc3 ?_) <;> (conv => whnf)))
      have := hK h2 (hk.trans hk2)
      rw [findIdx_some he hp hno] at this
      exact this
  · ((conv => whnf); repeat ((first | refine SIf.df (show ¬ (i : Int) < (L.length : Nat) by omega) ?_ | refine yf rfl ?_ | refine yt rfl ?_ | refine yo rfl ?_ | refine yc rfl ?_ | refine ys rfl ?_ | refine ye rfl ?_ | refine yn rfl ?_ | refine zw ?_ | refine zdt ?_ | refine zdf ?_ | refine znt ?_ | refine znf ?_ | refine zcd ?_ | refine zci ?_ | refine zc3 ?_) <;> (conv => whnf)))
    have := hK hh hk
    rw [findIdx_none fun j x hx => hno j x (by have := (List.getElem?_eq_some_iff.1 hx).1; omega) hx] at this
    exact this
set_option maxHeartbeats 8000000 in
theorem adel_at {h : Heap} {c d g k1 k2 k3 : Nat} {L : List AsD} (hch : c < h.next) (hc : h.get c = some (.arr 6 (L.map asR ++ List.replicate d as0))) (hl : L.length ≤ 100000) {p : AsD → Bool}
    (hg : ∀ h', Heap.Keeps (fun n => n = c) h h' → ∀ e ∈ L, ∀ K : V → Heap → Prop, (∀ h'', Heap.Keeps (fun _ => False) h' h'' → K (.b (p e)) h'') → ACall P g (.agg (asR e) :: [.p (.g k1) 0, .p (.g k2) 0, .p (.g k3) 0]) h' K) {K : V → Heap → Prop}
    (hK : ∀ h' d', h'.get c = some (.arr 6 ((keepA p L).map asR ++ List.replicate d' as0)) → Heap.Keeps (fun n => n = c) h h' → K (.ms (.g c) 6 0 (keepA p L).length) h') :
    ACall P 76 [.ms (.g c) 6 0 L.length, .fn g [] [.p (.g k1) 0, .p (.g k2) 0, .p (.g k3) 0]] h K := by
  have hrl := as_len L d
  have hix := fun (K : V → Heap → Prop) hK => aidx2_at (K := K) hG hch hc hl hg hK
  cases hfi : L.findIdx? p with
  | none =>
    have hno : ∀ (j : Nat) (e : AsD), L[j]? = some e → p e = false := fun j e he => by
      have := List.findIdx?_eq_none_iff.1 hfi e (List.mem_of_getElem? he)
      simpa using this
    rw [findIdx_none hno] at hix
    rw [keepA_none hno] at hK
    refine fn_sp (hG _ AF.f76 rfl) rfl ?_
    ((conv => whnf); repeat ((first | refine SCall.app (hix _) ?_ | refine yf rfl ?_ | refine yt rfl ?_ | refine yo rfl ?_ | refine yc rfl ?_ | refine ys rfl ?_ | refine ye rfl ?_ | refine yn rfl ?_ | refine zw ?_ | refine zdt ?_ | refine zdf ?_ | refine znt ?_ | refine znf ?_ | refine zcd ?_ | refine zci ?_ | refine zc3 ?_) <;> (conv => whnf)))
    intro h1 hk1
    ((conv => whnf); repeat ((first | refine yf rfl ?_ | refine yt rfl ?_ | refine yo rfl ?_ | refine yc rfl ?_ | refine ys rfl ?_ | refine ye rfl ?_ | refine yn rfl ?_ | refine zw ?_ | refine zdt ?_ | refine zdf ?_ | refine znt ?_ | refine znf ?_ | refine zcd ?_ | refine zci ?_ | refine zc3 ?_) <;> (conv => whnf)))
    exact hK h1 d (by rw [hk1.2 c hch (fun x => x)]; exact hc) (hk1.mono fun _ _ e => e.elim)
  | some i0 =>
    rw [List.findIdx?_eq_some_iff_getElem] at hfi
    obtain ⟨hi0, hp0, hb0⟩ := hfi
    have he0 := List.getElem?_eq_getElem hi0
    have hno : ∀ (j : Nat) (x : AsD), j < i0 → L[j]? = some x → p x = false := fun j x hj hx => by
      have := hb0 j hj
      rw [List.getElem?_eq_getElem (by omega)] at hx
      cases hx
      simpa using this
    rw [findIdx_some he0 hp0 hno] at hix
    have hst := DelA.start he0 hp0 hno
    refine fn_sp (hG _ AF.f76 rfl) rfl ?_
    ((conv => whnf); repeat ((first | refine SCall.app (hix _) ?_ | refine yf rfl ?_ | refine yt rfl ?_ | refine yo rfl ?_ | refine yc rfl ?_ | refine ys rfl ?_ | refine ye rfl ?_ | refine yn rfl ?_ | refine zw ?_ | refine zdt ?_ | refine zdf ?_ | refine znt ?_ | refine znf ?_ | refine zcd ?_ | refine zci ?_ | refine zc3 ?_) <;> (conv => whnf)))
    intro h1 hk1
    ((conv => whnf); repeat ((first | refine SIf.df (show ¬ (i0 : Int) = -1 by omega) ?_ | refine SWrap.w64 (by omega) (by omega) ?_ | refine yf rfl ?_ | refine yt rfl ?_ | refine yo rfl ?_ | refine yc rfl ?_ | refine ys rfl ?_ | refine ye rfl ?_ | refine yn rfl ?_ | refine zw ?_ | refine zdt ?_ | refine zdf ?_ | refine znt ?_ | refine znf ?_ | refine zcd ?_ | refine zci ?_ | refine zc3 ?_) <;> (conv => whnf)))
    refine SLoop.by (fun q fr st => ∃ (j m : Nat) (M : List AsD) (hh lc : Heap), q = L.length - m ∧ m ≤ L.length ∧ DelA p L M j m ∧ hh.get c = some (.arr 6 (M.map asR ++ List.replicate d as0)) ∧ Heap.Keeps (fun n => n = c) h hh ∧
        Fr.le [(6, .i .i64 m), (5, .i .i64 j), (1, .fn g [] [.p (.g k1) 0, .p (.g k2) 0, .p (.g k3) 0]), (0, .ms (.g c) 6 0 L.length)] fr ∧ st = ⟨hh, lc⟩)
      (L.length - (i0 + 1)) ⟨i0, i0 + 1, L, h1, _, rfl, by omega, hst, by rw [hk1.2 c hch (fun x => x)]; exact hc, hk1.mono fun _ _ e => e.elim, (by repeat (first | exact Fr.le_nil | refine Fr.le_cons rfl ?_)), rfl⟩ ?_
    rintro q fr st ⟨j, m, M, hh, lc, rfl, hm, hd, hcc, hk, hle0, rfl⟩
    refine ⟨_, hle0, fun R hR => ?_⟩
    have hML := hd.len
    have hjm := hd.jm
    have hwl := as_len M d
    by_cases hin : m < L.length
    · have he := List.getElem?_eq_getElem hin
      have hem := List.getElem_mem hin
      generalize L[m] = e at he hem
      have a1 : ∀ x, (lc.push x).get lc.next = some x := fun x => Heap.get_push_self _ _
      have a2 : ∀ x y, ((lc.push x).set lc.next y).get lc.next = some y := fun x y => Heap.get_set_self (a1 x)
      have hcl := fun K hK => hg hh hk e hem K hK
      have hge := rowJ_get (J := List.replicate d as0) (k := ((m : Nat) : Int).toNat) (by omega) (hd.get he)
      ((conv => whnf); repeat ((first | refine SIf.dt (show (m : Int) < (L.length : Nat) by omega) ?_ | refine SChk.ix (by omega) (by omega) ?_ | refine SChk.mk (decide_eq_true (by omega)) ?_ | refine SCall.app (hcl _) ?_ | refine SEx.of (hcc) ?_ | refine SEx.of (hge) ?_ | refine SEx.of (a1 _) ?_ | refine SEx.of (a2 _ _) ?_ | refine yf rfl ?_ | refine yt rfl ?_ | refine yo rfl ?_ | refine yc rfl ?_ | refine ys rfl ?_ | refine ye rfl ?_ | refine yn rfl ?_ | refine zw ?_ | refine zdt ?_ | refine zdf ?_ | refine znt ?_ | refine znf ?_ | refine zcd ?_ | refine zci ?_ | refine zc3 ?_) <;> (conv => whnf)))
      intro h2 hk2
      have hcc2 : h2.get c = some (.arr 6 (M.map asR ++ List.replicate d as0)) := by rw [hk2.2 c (Nat.lt_of_lt_of_le hch hk.1) (fun x => x)]; exact hcc
      have hkk : Heap.Keeps (fun n => n = c) h h2 := hk.trans (hk2.mono fun _ _ e => e.elim)
      cases hp : p e
      · have hj : j < M.length := by omega
        have hy := List.getElem?_eq_getElem hj
        generalize M[j] = y at hy
        have hgy := rowJ_get (J := List.replicate d as0) (k := ((j : Nat) : Int).toNat) (by omega) hy
        have hset := rowJ_set (J := List.replicate d as0) (k := ((j : Nat) : Int).toNat) (x := e) (by omega) hj
        ((conv => whnf); repeat ((first | refine SIf.ff (show (!true) = false from rfl) ?_ | refine SChk.ix (by omega) (by omega) ?_ | refine SChk.mk (decide_eq_true (by omega)) ?_ | refine SWrap.w64 (by omega) (by omega) ?_ | refine SEx.of (hcc2) ?_ | refine SEx.of (hgy) ?_ | refine SEx.of (a1 _) ?_ | refine SEx.of (a2 _ _) ?_ | refine SEx.of (congrArg some hset) ?_ | refine yf rfl ?_ | refine yt rfl ?_ | refine yo rfl ?_ | refine yc rfl ?_ | refine ys rfl ?_ | refine ye rfl ?_ | refine yn rfl ?_ | refine zw ?_ | refine zdt ?_ | refine zdf ?_ | refine znt ?_ | refine znf ?_ | refine zcd ?_ | refine zci ?_ | refine zc3 ?_) <;> (conv => whnf)))
        exact hR (L.length - (m + 1)) _ _ (by omega) ⟨j + 1, m + 1, M.set j e, _, _, rfl, by omega, hd.keep he hp, Heap.get_set_self hcc2, Heap.Keeps.set (b := fun n => n = c) hkk (.inl rfl) _, (by repeat (first | exact Fr.le_nil | refine Fr.le_cons rfl ?_)), rfl⟩
      · ((conv => whnf); repeat ((first | refine SWrap.w64 (by omega) (by omega) ?_ | refine SEx.of (a1 _) ?_ | refine SEx.of (a2 _ _) ?_ | refine yf rfl ?_ | refine yt rfl ?_ | refine yo rfl ?_ | refine yc rfl ?_ | refine ys rfl ?_ | refine ye rfl ?_ | refine yn rfl ?_ | refine zw ?_ | refine zdt ?_ | refine zdf ?_ | refine znt ?_ | refine znf ?_ | refine zcd ?_ | refine zci ?_ | refine zc3 ?_) <;> (conv => whnf)))
        exact hR (L.length - (m + 1)) _ _ (by omega) ⟨j, m + 1, M, h2, _, rfl, by omega, hd.skip he hp, hcc2, hkk, (by repeat (first | exact Fr.le_nil | refine Fr.le_cons rfl ?_)), rfl⟩
    · obtain rfl : m = L.length := by omega
      have hjl := hd.jl
      have hta := hd.take
      rw [List.take_length] at hjl hta
      have hcl := rowJ_clear (K := keepA p L) (d := d) (n := L.length) (j := j) (a := 0 + ((j : Nat) : Int).toNat) (b := (((L.length : Nat)) : Int).toNat - ((j : Nat) : Int).toNat) (c := 0 + ((j : Nat) : Int).toNat + ((((L.length : Nat)) : Int).toNat - ((j : Nat) : Int).toNat)) (by omega) (by omega) (by omega) hML hjm hta
      have := hK (hh.set c (.arr 6 ((keepA p L).map asR ++ List.replicate (L.length - j + d) as0))) (L.length - j + d) (Heap.get_set_self hcc) (Heap.Keeps.set (b := fun n => n = c) hk (.inl rfl) _)
      rw [← hjl, ← hcl] at this
      ((conv => whnf); repeat ((first | refine SIf.df (show ¬ ((L.length : Nat) : Int) < (L.length : Nat) by omega) ?_ | refine SChk.d3 (by omega) (by omega) (by omega) ?_ | refine SChk.mk (decide_eq_true (by omega)) ?_ | refine SChk.d3 (by omega) (by omega) (by first | omega | (simp; omega)) ?_ | refine SEx.of (hcc) ?_ | refine SEx.of (Heap.get_set_self hcc) ?_ | refine yf rfl ?_ | refine yt rfl ?_ | refine yo rfl ?_ | refine yc rfl ?_ | refine ys rfl ?_ | refine ye rfl ?_ | refine yn rfl ?_ | refine zw ?_ | refine zdt ?_ | refine zdf ?_ | refine znt ?_ | refine znf ?_ | refine zcd ?_ | refine zci ?_ | refine zc3 ?_) <;> (conv => whnf)))
      exact this
end
end Go.Eng
/-
What is taken for done settles.
-/
namespace Go.Eng
open Go
def KnownIs (D : List EnD) (w : Str → Int → Bool) : Prop :=
  ∀ (pod : Str) (uid : Int), (getE D (keyQ pod) = none ∧ w pod uid = false) ∨
    ∃ e p, getE D (keyQ pod) = some e ∧ nameB pod = true ∧ PodLen p ∧ podB p = true ∧ p.term ≤ 9223372036854775807 ∧ e.val = encPod p ∧ w pod uid = (decide (p.uid = uid) && decide (p.node = []))
def overA (w : Str → Int → Bool) (now term : Int) (o : AsD) : Bool := !decide (o.term = term) || (decide (o.until_ ≤ now) || !w o.pod o.uid)
theorem CacheAt.keepB {h h' : Heap} {a : Nat} {m : Option Nat} {rev : Int} {D : List EnD} (hc : CacheAt h a m rev D) {but : Nat → Prop} (hk : Heap.Keeps but h h') (ha : ¬ but a) (hm : ∀ k, m = some k → ¬ but k) : CacheAt h' a m rev D := by
  obtain ⟨h1, ⟨hm0, h2, h3, h4⟩ | ⟨mk, hm0, h2, h3, h4, h5⟩⟩ := hc
  · exact ⟨Nat.lt_of_lt_of_le h1 hk.1, .inl ⟨hm0, h2, h3, by rw [hk.2 a h1 ha]; exact h4⟩⟩
  · exact ⟨Nat.lt_of_lt_of_le h1 hk.1, .inr ⟨mk, hm0, h2, Nat.lt_of_lt_of_le h3 hk.1, by rw [hk.2 a h1 ha]; exact h4, by rw [hk.2 mk h3 (hm mk hm0)]; exact h5⟩⟩
section
variable {P : Program} (hG : FnsOk P AF.fns.get)
include hG
theorem waits_at (hon : OnceOk P 161) {h : Heap} {c : Nat} {m : Option Nat} {rev : Int} {D : List EnD} (hc : CacheAt h c m rev D) (hD : ∀ e ∈ D, EnOk e) {w : Str → Int → Bool} (hw : KnownIs D w) (pod : Str) (hl : pod.length ≤ 9223372036854775807) (uid : Int) {K : V → Heap → Prop}
    (hK : ∀ h', Heap.Keeps (fun _ => False) h h' → K (.b (w pod uid)) h') : ACall P 78 [.p (.g c) 0, .s pod, .i .i64 uid] h K := by
  rcases hw pod uid with ⟨h1, h2⟩ | ⟨e, p, h1, h2, h3, h4, h5, h6, h7⟩
  · rw [h2] at hK
    exact waits_none hG hon hc hD pod hl uid h1 hK
  · rw [h7] at hK
    unfold keyQ at h1
    rw [if_pos h2] at h1
    exact waits_some hG hon hc hD pod hl h2 uid h1 p h3 h4 h5 h6 hK
theorem aclos_at {h : Heap} {k1 k2 k3 c : Nat} {term now : Int} {w : Str → Int → Bool} (b1 : h.get k1 = some (.cs [.i .i64 term])) (b2 : h.get k2 = some (.cs [.i .i64 now])) (b3 : h.get k3 = some (.cs [.p (.g c) 0])) (o : AsD)
    (hw : ∀ K : V → Heap → Prop, (∀ h', Heap.Keeps (fun _ => False) h h' → K (.b (w o.pod o.uid)) h') → ACall P 78 [.p (.g c) 0, .s o.pod, .i .i64 o.uid] h K) {K : V → Heap → Prop}
    (hK : ∀ h', Heap.Keeps (fun _ => False) h h' → K (.b (overA w now term o)) h') : ACall P 77 [.agg (asR o), .p (.g k1) 0, .p (.g k2) 0, .p (.g k3) 0] h K := by
  unfold overA at hK
  refine fn_sv (hG _ AF.f77 rfl) rfl ?_
  by_cases c1 : o.term = term
  case neg =>
    rw [decide_eq_false c1] at hK
    ((conv => whnf); repeat ((first | refine SIf.nt c1 ?_ | refine SEx.of (b1) ?_ | refine SEx.of (b2) ?_ | refine SEx.of (b3) ?_ | refine yf rfl ?_ | refine yt rfl ?_ | refine yo rfl ?_ | refine yc rfl ?_ | refine ys rfl ?_ | refine ye rfl ?_ | refine yn rfl ?_ | refine zw ?_ | refine zdt ?_ | refine zdf ?_ | refine znt ?_ | refine znf ?_ | refine zcd ?_ | refine zci ?_ | refine zc3 ?_) <;> (conv => whnf)))
    exact hK h (.refl _ _)
  rw [decide_eq_true c1] at hK
  by_cases c2 : o.until_ ≤ now
  · rw [decide_eq_true c2] at hK
    ((conv => whnf); repeat ((first | refine SIf.nf c1 ?_ | refine SIf.dt (show now ≥ o.until_ from c2) ?_ | refine SEx.of (b1) ?_ | refine SEx.of (b2) ?_ | refine SEx.of (b3) ?_ | refine yf rfl ?_ | refine yt rfl ?_ | refine yo rfl ?_ | refine yc rfl ?_ | refine ys rfl ?_ | refine ye rfl ?_ | refine yn rfl ?_ | refine zw ?_ | refine zdt ?_ | refine zdf ?_ | refine znt ?_ | refine znf ?_ | refine zcd ?_ | refine zci ?_ | refine zc3 ?_) <;> (conv => whnf)))
    exact hK h (.refl _ _)
  rw [decide_eq_false c2] at hK
  ((conv => whnf); repeat ((first | refine SIf.nf c1 ?_ | refine SIf.df (show ¬ now ≥ o.until_ from c2) ?_ | refine SCall.app (hw _) ?_ | refine SEx.of (b1) ?_ | refine SEx.of (b2) ?_ | refine SEx.of (b3) ?_ | refine yf rfl ?_ | refine yt rfl ?_ | refine yo rfl ?_ | refine yc rfl ?_ | refine ys rfl ?_ | refine ye rfl ?_ | refine yn rfl ?_ | refine zw ?_ | refine zdt ?_ | refine zdf ?_ | refine znt ?_ | refine znf ?_ | refine zcd ?_ | refine zci ?_ | refine zc3 ?_) <;> (conv => whnf)))
  intro h' k'
  ((conv => whnf); repeat ((first | refine yf rfl ?_ | refine yt rfl ?_ | refine yo rfl ?_ | refine yc rfl ?_ | refine ys rfl ?_ | refine ye rfl ?_ | refine yn rfl ?_ | refine zw ?_ | refine zdt ?_ | refine zdf ?_ | refine znt ?_ | refine znf ?_ | refine zcd ?_ | refine zci ?_ | refine zc3 ?_) <;> (conv => whnf)))
  exact hK h' k'
set_option maxHeartbeats 8000000 in
theorem asettle_at (hon : OnceOk P 161) {h : Heap} {a : Nat} {r : Option Nat} {L : List AsD} (ha : AsAt h a r L) (hl : L.length ≤ 100000) (hL : ∀ o ∈ L, o.pod.length ≤ 9223372036854775807)
    {c : Nat} {m : Option Nat} {rev : Int} {D : List EnD} (hc : CacheAt h c m rev D) (hD : ∀ e ∈ D, EnOk e) {w : Str → Int → Bool} (hw : KnownIs D w) (hs : ∀ k, r = some k → k ≠ c ∧ m ≠ some k) (now term : Int) {K : V → Heap → Prop}
    (hK : ∀ h', AsAt h' a r (keepA (overA w now term) L) → Heap.Keeps (fun n => n = a ∨ r = some n) h h' → K (.i .i64 ((L.length : Int) - (keepA (overA w now term) L).length)) h') :
    ACall P 27 [.p (.g a) 0, .p (.g c) 0, .i .i64 now, .i .i64 term] h K := by
  have hch := hc.1
  obtain ⟨h1, ⟨hr0, hL0, h2⟩ | ⟨k, d, hr0, h2, h3, h4, h5⟩⟩ := ha
  · subst hL0
    have g1 : ∀ x y z, (((h.push x).push y).push z).get a = some (.cs [.nils]) := fun x y z => Heap.gp (by show a ≠ h.next + 1 + 1; omega) (Heap.gp (by show a ≠ h.next + 1; omega) (Heap.gp (by omega) h2))
    refine fn_sp (hG _ AF.f27 rfl) rfl ?_
    ((conv => whnf); repeat ((first | refine SCall.app (fn_sp (hG _ AF.f76 rfl) rfl) ?_ | refine SCall.app (fn_sp (hG _ AF.f118 rfl) rfl) ?_ | refine SLoop.un ?_ | refine SEx.of (g1 _ _ _) ?_ | refine SEx.of (Heap.get_set_self (g1 _ _ _)) ?_ | refine yf rfl ?_ | refine yt rfl ?_ | refine yo rfl ?_ | refine yc rfl ?_ | refine ys rfl ?_ | refine ye rfl ?_ | refine yn rfl ?_ | refine zw ?_ | refine zdt ?_ | refine zdf ?_ | refine znt ?_ | refine znf ?_ | refine zcd ?_ | refine zci ?_ | refine zc3 ?_) <;> (conv => whnf)))
    exact hK _ ⟨(by show a < h.next + 1 + 1 + 1; omega), .inl ⟨hr0, rfl, Heap.get_set_self (g1 _ _ _)⟩⟩ (Heap.Keeps.set (b := fun n => n = a ∨ r = some n) (.push (.push (.push (.refl _ _) _) _) _) (.inl (.inl rfl)) _)
  · obtain ⟨hkc, hkm⟩ := hs k hr0
    have g1 : ∀ x y z, (((h.push x).push y).push z).get a = some (.cs [.ms (.g k) 6 0 L.length]) := fun x y z => Heap.gp (by show a ≠ h.next + 1 + 1; omega) (Heap.gp (by show a ≠ h.next + 1; omega) (Heap.gp (by omega) h4))
    have g2 : ∀ x y z, (((h.push x).push y).push z).get k = some (.arr 6 (L.map asR ++ List.replicate d as0)) := fun x y z => Heap.gp (by show k ≠ h.next + 1 + 1; omega) (Heap.gp (by show k ≠ h.next + 1; omega) (Heap.gp (by omega) h5))
    have b1 : ∀ x y z, (((h.push x).push y).push z).get (h.next + 2) = some z := fun x y z => Heap.get_push_self _ _
    have b2 : ∀ x y z, (((h.push x).push y).push z).get (h.next + 1) = some y := fun x y z => Heap.gp (by show h.next + 1 ≠ h.next + 1 + 1; omega) (Heap.get_push_self _ _)
    have b3 : ∀ x y z, (((h.push x).push y).push z).get h.next = some x := fun x y z => Heap.gp (by show h.next ≠ h.next + 1 + 1; omega) (Heap.gp (by show h.next ≠ h.next + 1; omega) (Heap.get_push_self _ _))
    have hk0 : ∀ x y z, Heap.Keeps (fun _ => False) h (((h.push x).push y).push z) := fun x y z => .push (.push (.push (.refl _ _) _) _) _
    have hk1 := hk0 (.cs [.p (.g c) 0]) (.cs [.i .i64 now]) (.cs [.i .i64 term])
    have p1 := g1 (.cs [.p (.g c) 0]) (.cs [.i .i64 now]) (.cs [.i .i64 term])
    have p2 := g2 (.cs [.p (.g c) 0]) (.cs [.i .i64 now]) (.cs [.i .i64 term])
    have q1 := b1 (.cs [.p (.g c) 0]) (.cs [.i .i64 now]) (.cs [.i .i64 term])
    have q2 := b2 (.cs [.p (.g c) 0]) (.cs [.i .i64 now]) (.cs [.i .i64 term])
    have q3 := b3 (.cs [.p (.g c) 0]) (.cs [.i .i64 now]) (.cs [.i .i64 term])
    have hnx : (((h.push (.cs [.p (.g c) 0])).push (.cs [.i .i64 now])).push (.cs [.i .i64 term])).next = h.next + 3 := rfl
    refine fn_sp (hG _ AF.f27 rfl) rfl ?_
    ((conv => whnf); repeat ((first | refine SEx.of (g1 _ _ _) ?_ | refine yf rfl ?_ | refine yt rfl ?_ | refine yo rfl ?_ | refine yc rfl ?_ | refine ys rfl ?_ | refine ye rfl ?_ | refine yn rfl ?_ | refine zw ?_ | refine zdt ?_ | refine zdf ?_ | refine znt ?_ | refine znf ?_ | refine zcd ?_ | refine zci ?_ | refine zc3 ?_) <;> (conv => whnf)))
    have hdel := fun (K : V → Heap → Prop) hK => adel_at (K := K) hG (c := k) (d := d) (g := 77) (k1 := h.next + 2) (k2 := h.next + 1) (k3 := h.next) (L := L) (p := overA w now term) (by omega) p2 hl (fun h' hk' e he K hK =>
      aclos_at hG (c := c) (term := term) (now := now) (w := w) (by rw [hk'.2 _ (by omega) (by omega)]; exact q1) (by rw [hk'.2 _ (by omega) (by omega)]; exact q2) (by rw [hk'.2 _ (by omega) (by omega)]; exact q3) e
        (fun K hK => waits_at hG hon ((hc.keep hk1).keepB hk' (fun e => hkc e.symm) (fun n hn e => hkm (by rw [hn, e]))) hD hw e.pod (hL e he) e.uid hK) hK) hK
    have hle : (keepA (overA w now term) L).length ≤ L.length := List.length_filter_le _ _
    ((conv => whnf); repeat ((first | refine SCall.app (hdel _) ?_ | refine SEx.of (p1) ?_ | refine yf rfl ?_ | refine yt rfl ?_ | refine yo rfl ?_ | refine yc rfl ?_ | refine ys rfl ?_ | refine ye rfl ?_ | refine yn rfl ?_ | refine zw ?_ | refine zdt ?_ | refine zdf ?_ | refine znt ?_ | refine znf ?_ | refine zcd ?_ | refine zci ?_ | refine zc3 ?_) <;> (conv => whnf)))
    intro h' d' hg' hk'
    have p3 : h'.get a = some (.cs [.ms (.g k) 6 0 L.length]) := by rw [hk'.2 a (by omega) (fun e => h2 e.symm)]; exact p1
    ((conv => whnf); repeat ((first | refine SWrap.w64 (by omega) (by omega) ?_ | refine SEx.of (p3) ?_ | refine SEx.of (Heap.get_set_self p3) ?_ | refine yf rfl ?_ | refine yt rfl ?_ | refine yo rfl ?_ | refine yc rfl ?_ | refine ys rfl ?_ | refine ye rfl ?_ | refine yn rfl ?_ | refine zw ?_ | refine zdt ?_ | refine zdf ?_ | refine znt ?_ | refine znf ?_ | refine zcd ?_ | refine zci ?_ | refine zc3 ?_) <;> (conv => whnf)))
    have hkk : Heap.Keeps (fun n => n = a ∨ r = some n) h h' := Heap.Keeps.trans (b := fun n => n = a ∨ r = some n) (hk1.mono fun _ _ e => e.elim) (hk'.mono fun n _ e => .inr (by rw [hr0, e]))
    exact hK _ ⟨(by have := hkk.1; show a < h'.next; omega), .inr ⟨k, d', hr0, h2, (by have := hkk.1; show k < h'.next; omega), Heap.get_set_self p3, Heap.gs h2 hg'⟩⟩ (Heap.Keeps.set (b := fun n => n = a ∨ r = some n) hkk (.inl (.inl rfl)) _)
end
end Go.Eng
