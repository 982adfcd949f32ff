/-
Pods of nothing but a label, nodes in zones: where they may go.
-/
import Derived.Test.YtllgfkpmblhbmaaGreatWh0
import Derived.Test.YtllgfkpmblhbmaaGreatWiV
import Derived.Test.YtllgfkpmblhbmaaGreatWiA
set_option linter.unusedVariables false
set_option linter.unusedSimpArgs false
namespace Go.Eng
open Go
def zoneS : Str := [122, 111, 110, 101]
def appS : Str := [97, 112, 112]
def exT : TermD := ⟨appS, 3, []⟩
structure ZonesOf (N : List NodeD) : Prop where
  len : N.length ≤ 6
  so : N.Pairwise fun a b => lessS a.name b.name
  node : ∀ n ∈ N, n.cap = ⟨1000, 1000, 1000⟩ ∧ n.taints = [] ∧ n.labels.length ≤ 1 ∧ n.name ≠ []
def domOf (n : NodeD) : Str × Bool := getD n.labels zoneS
theorem node_found {N : List NodeD} (h : N.Pairwise fun a b => lessS a.name b.name) {n : NodeD} (hn : n ∈ N) : N.find? (fun m => m.name == n.name) = some n := by
  induction N with
  | nil => cases hn
  | cons x r ih =>
    rw [List.pairwise_cons] at h
    cases hn with
    | head => simp
    | tail _ hn =>
      have hl := h.1 n hn
      rw [List.find?_cons_of_neg]
      · exact ih h.2 hn
      · intro e
        have e2 : x.name = n.name := by simpa using e
        rw [e2, lessS, less_irr] at hl
        cases hl
theorem dom_node {N : List NodeD} (h : ZonesOf N) {n : NodeD} (hn : n ∈ N) (l : List PodD) : domainD ⟨N, l⟩ zoneS n.name = domOf n := by
  unfold domainD
  rw [show (StD.nodes ⟨N, l⟩).find? (fun m => m.name == n.name) = some n from node_found h.so hn]
  rfl
theorem sum_zero : ∀ {l : List PodD}, (∀ q ∈ l, q.req = ⟨0, 0, 0⟩) → sumR l = ⟨0, 0, 0⟩
  | [], _ => rfl
  | p :: r, h => by
    rw [sumR, h p (.head _), sum_zero fun q hq => h q (.tail _ hq)]
    rfl
theorem feas_bare {N : List NodeD} {l : List PodD} {p : PodD} (hN : ZonesOf N) (hl : ∀ q ∈ l, q.req = ⟨0, 0, 0⟩) (hlen : l.length ≤ 100) (h1 : p.req = ⟨0, 0, 0⟩) (h2 : p.ports = []) (h3 : p.sel = []) (h4 : p.node = []) {n : NodeD} (hn : n ∈ N) :
    feasD ⟨N, l⟩ p n.name = (apartD ⟨N, l⟩ p n.name && evenD ⟨N, l⟩ p n.name) := by
  unfold feasD
  rw [show (StD.nodes ⟨N, l⟩).find? (fun m => m.name == n.name) = some n from node_found hN.so hn]
  dsimp only
  obtain ⟨hc, ht, _⟩ := hN.node n hn
  have hmay : MayL l := fun q hq => by rw [hl q hq]; exact ⟨by decide, by decide, by decide⟩
  have hroom : roomD ⟨N, l⟩ p n = true := by
    unfold roomD usedD onD
    rw [sumD_all (MayL.filter hmay _) (Nat.le_trans (List.length_filter_le _ _) (by show l.length ≤ 1000; omega)), sum_zero fun q hq => hl q (List.mem_filter.1 hq).1, h1, hc]
    rfl
  have hports : portsD ⟨N, l⟩ p n = true := by
    unfold portsD
    rw [Bool.not_eq_true', List.any_eq_false, h2]
    intro q _
    simp
  unfold eachD
  rw [hroom, hports]
  have e1 : wantsD p n = true := by unfold wantsD; rw [h3]; rfl
  have e2 : borneD p n = true := by unfold borneD allD; rw [ht]; rfl
  rw [e1, e2, h4]
  simp
/-! Pods that keep apart. -/
def apP (i : Nat) (x : Str) (t : Int) : PodD := ⟨[112, UInt8.ofNat (97 + i)], i + 1, 0, ⟨0, 0, 0⟩, [], [⟨appS, [120]⟩], [], [], zoneS, [exT], 0, [], x, t⟩
def zd (N : List NodeD) (q : PodD) : Str := (domainD ⟨N, []⟩ zoneS q.node).1
structure ApartTo (N : List NodeD) (i : Nat) (l : List PodD) : Prop where
  len : l.length = i
  pod : ∀ q ∈ l, ∃ (j : Nat) (n : NodeD), j < i ∧ n ∈ N ∧ (domOf n).2 = true ∧ q = apP j n.name 1
  uni : (l.map (zd N)).Nodup
theorem name_ne {j i : Nat} {x y : Str} {s t : Int} (h : j < i) (hi : i < 100) : (apP j x s).name ≠ (apP i y t).name := fun e => by
  have e1 : UInt8.ofNat (97 + j) = UInt8.ofNat (97 + i) := (List.cons.inj (List.cons.inj e).2).1
  have e2 := congrArg UInt8.toNat e1
  simp only [UInt8.toNat_ofNat'] at e2
  omega
theorem feas_apart {N : List NodeD} {i : Nat} {l : List PodD} (hN : ZonesOf N) (h : ApartTo N i l) (hi : i < 100) {n : NodeD} (hn : n ∈ N) : feasD ⟨N, l⟩ (apP i [] 0) n.name = ((domOf n).2 && !l.any fun q => sameD ⟨N, l⟩ zoneS q.node n.name) := by
  have hlen := h.len
  rw [feas_bare hN (fun q hq => by obtain ⟨j, m, _, _, _, rfl⟩ := h.pod q hq; rfl) (by omega) rfl rfl rfl rfl hn]
  have he : evenD ⟨N, l⟩ (apP i [] 0) n.name = true := rfl
  rw [he, Bool.and_true]
  unfold apartD
  have hd : domainD ⟨N, l⟩ (apP i [] 0).topo n.name = domOf n := dom_node hN hn l
  rw [hd]
  have hany : l.any (badD ⟨N, l⟩ (apP i [] 0) n.name) = l.any fun q => sameD ⟨N, l⟩ zoneS q.node n.name := by
    have hq : ∀ q ∈ l, badD ⟨N, l⟩ (apP i [] 0) n.name q = sameD ⟨N, l⟩ zoneS q.node n.name := fun q hq => by
      obtain ⟨j, m, hj, hm, _, rfl⟩ := h.pod q hq
      have hne : ((apP j m.name 1).name == (apP i [] 0).name) = false := beq_eq_false_iff_ne.2 (name_ne hj hi)
      have hme : ((apP j m.name 1).node == ([] : Str)) = false := beq_eq_false_iff_ne.2 (hN.node m hm).2.2.2
      unfold badD
      rw [hne, hme]
      have k1 : keepsD ⟨N, l⟩ (apP i [] 0) (apP j m.name 1) (apP j m.name 1).node n.name = sameD ⟨N, l⟩ zoneS (apP j m.name 1).node n.name := rfl
      have k2 : keepsD ⟨N, l⟩ (apP j m.name 1) (apP i [] 0) (apP j m.name 1).node n.name = sameD ⟨N, l⟩ zoneS (apP j m.name 1).node n.name := rfl
      rw [k1, k2]
      simp
    rw [Bool.eq_iff_iff, List.any_eq_true, List.any_eq_true]
    exact ⟨fun ⟨q, h1, h2⟩ => ⟨q, h1, (hq q h1) ▸ h2⟩, fun ⟨q, h1, h2⟩ => ⟨q, h1, (hq q h1).symm ▸ h2⟩⟩
  rw [hany]
  cases (domOf n).2 <;> rfl
theorem same_iff {N : List NodeD} (hN : ZonesOf N) {l : List PodD} {m n : NodeD} (hm : m ∈ N) (hn : n ∈ N) (h1 : (domOf m).2 = true) (h2 : (domOf n).2 = true) : sameD ⟨N, l⟩ zoneS m.name n.name = ((domOf m).1 == (domOf n).1) := by
  unfold sameD
  rw [dom_node hN hm, dom_node hN hn, h1, h2]
  rfl
theorem zd_node {N : List NodeD} (hN : ZonesOf N) {m : NodeD} (hm : m ∈ N) (j : Nat) : zd N (apP j m.name 1) = (domOf m).1 := congrArg Prod.fst (dom_node hN hm [])
/-- All domains there are, each once. -/
def Doms (N : List NodeD) (D : List Str) : Prop := D.Nodup ∧ ∀ v, v ∈ D ↔ ∃ n ∈ N, domOf n = (v, true)
theorem nodup_le {l m : List Str} : l.Nodup → (∀ x ∈ l, x ∈ m) → l.length ≤ m.length := by
  intro hn
  induction l generalizing m with
  | nil => intro _; exact Nat.zero_le _
  | cons x r ih =>
    intro hs
    rw [List.nodup_cons] at hn
    obtain ⟨A, B, rfl⟩ := List.append_of_mem (hs x (.head _))
    have := ih (m := A ++ B) hn.2 fun y hy => by
      have h1 := hs y (.tail _ hy)
      have hne : y ≠ x := by rintro rfl; exact hn.1 hy
      rcases List.mem_append.1 h1 with h | h
      · exact List.mem_append.2 (.inl h)
      · cases h with
        | head => exact absurd rfl hne
        | tail _ h => exact List.mem_append.2 (.inr h)
    simp only [List.length_append, List.length_cons] at this ⊢
    omega
theorem free_iff {N : List NodeD} {i : Nat} {l : List PodD} (hN : ZonesOf N) (h : ApartTo N i l) (hi : i < 100) {n : NodeD} (hn : n ∈ N) (hd : (domOf n).2 = true) : feasD ⟨N, l⟩ (apP i [] 0) n.name = true ↔ (domOf n).1 ∉ l.map (zd N) := by
  rw [feas_apart hN h hi hn, hd, Bool.true_and, Bool.not_eq_true', List.any_eq_false]
  constructor
  · intro hq hm
    obtain ⟨q, h1, h2⟩ := List.mem_map.1 hm
    have := hq q h1
    obtain ⟨j, m, _, hmm, hmd, rfl⟩ := h.pod q h1
    rw [zd_node hN hmm] at h2
    rw [show (apP j m.name 1).node = m.name from rfl, same_iff hN hmm hn hmd hd, h2] at this
    simp at this
  · intro hm q h1 hs
    obtain ⟨j, m, _, hmm, hmd, rfl⟩ := h.pod q h1
    rw [show (apP j m.name 1).node = m.name from rfl, same_iff hN hmm hn hmd hd] at hs
    exact hm (List.mem_map.2 ⟨_, h1, by rw [zd_node hN hmm]; simpa using hs⟩)
theorem where_apart {N : List NodeD} {i : Nat} {l : List PodD} {D : List Str} (hN : ZonesOf N) (h : ApartTo N i l) (hi : i < 100) (hD : Doms N D) : whereD ⟨N, l⟩ (apP i [] 0) = [] ↔ i = D.length := by
  have hul : (l.map (zd N)).length = i := by rw [List.length_map]; exact h.len
  have hsub : ∀ v ∈ l.map (zd N), v ∈ D := fun v hv => by
    obtain ⟨q, h1, rfl⟩ := List.mem_map.1 hv
    obtain ⟨j, m, _, hmm, hmd, rfl⟩ := h.pod q h1
    exact (hD.2 _).2 ⟨m, hmm, by rw [zd_node hN hmm, ← hmd]⟩
  have hle := nodup_le h.uni hsub
  constructor
  · intro hw
    have hge := nodup_le hD.1 (m := l.map (zd N)) fun v hv => by
      obtain ⟨n, hn, he⟩ := (hD.2 v).1 hv
      have hd : (domOf n).2 = true := by rw [he]
      have hv1 : (domOf n).1 = v := by rw [he]
      by_cases hm : (domOf n).1 ∈ l.map (zd N)
      · rw [← hv1]; exact hm
      · exfalso
        have hf := (free_iff hN h hi hn hd).2 hm
        have : n.name ∈ whereD ⟨N, l⟩ (apP i [] 0) := List.mem_map.2 ⟨n, List.mem_filter.2 ⟨hn, hf⟩, rfl⟩
        rw [hw] at this
        cases this
    omega
  · intro he
    rw [List.eq_nil_iff_forall_not_mem]
    intro x hx
    obtain ⟨n, hn, rfl⟩ := List.mem_map.1 hx
    obtain ⟨hn, hf⟩ := List.mem_filter.1 hn
    have hd : (domOf n).2 = true := by
      have hf' := hf
      rw [feas_apart hN h hi hn] at hf'
      simp only [Bool.and_eq_true] at hf'
      exact hf'.1
    have hfr := (free_iff hN h hi hn hd).1 hf
    have := nodup_le (List.nodup_cons.2 ⟨hfr, h.uni⟩) (m := D) fun v hv => by
      cases hv with
      | head => exact (hD.2 _).2 ⟨n, hn, by rw [← hd]⟩
      | tail _ hv => exact hsub v hv
    rw [List.length_cons] at this
    omega
theorem apart_step {N : List NodeD} {i : Nat} {l : List PodD} {x : Str} (hN : ZonesOf N) (h : ApartTo N i l) (hi : i < 100) (hx : x ∈ whereD ⟨N, l⟩ (apP i [] 0)) : ApartTo N (i + 1) (putL l (apP i x 1)) ∧ ∀ q ∈ l, sameD ⟨N, l⟩ zoneS q.node x = false := by
  obtain ⟨n, hn, rfl⟩ := List.mem_map.1 hx
  obtain ⟨hn, hf⟩ := List.mem_filter.1 hn
  have hf' := hf
  rw [feas_apart hN h hi hn] at hf'
  simp only [Bool.and_eq_true, Bool.not_eq_true', List.any_eq_false] at hf'
  obtain ⟨hd, hq⟩ := hf'
  have hfr := (free_iff hN h hi hn hd).1 hf
  refine ⟨?_, fun q h1 => by simpa using hq q h1⟩
  have hfi : l.findIdx? (fun q => q.name == (apP i n.name 1).name) = none := by
    rw [List.findIdx?_eq_none_iff]
    intro q h1
    obtain ⟨j, m, hj, _, _, rfl⟩ := h.pod q h1
    exact beq_eq_false_iff_ne.2 (name_ne hj hi)
  have hput : ∃ A B, l = A ++ B ∧ putL l (apP i n.name 1) = A ++ apP i n.name 1 :: B := by
    unfold putL
    rw [hfi]
    exact ⟨l.take (l.takeWhile fun q => Op.bytesLess q.name (apP i n.name 1).name).length, l.drop (l.takeWhile fun q => Op.bytesLess q.name (apP i n.name 1).name).length, (List.take_append_drop _ l).symm, by simp⟩
  obtain ⟨A, B, hl, hp⟩ := hput
  rw [hp]
  have hperm : (A ++ apP i n.name 1 :: B).Perm (apP i n.name 1 :: l) := by rw [hl]; exact List.perm_middle
  refine ⟨by rw [hperm.length_eq, List.length_cons, h.len], fun q hq => ?_, ?_⟩
  · rcases List.mem_cons.1 (hperm.mem_iff.1 hq) with rfl | hq
    · exact ⟨i, n, by omega, hn, hd, rfl⟩
    · obtain ⟨j, m, hj, hm, hmd, e⟩ := h.pod q hq
      exact ⟨j, m, by omega, hm, hmd, e⟩
  · rw [(hperm.map (zd N)).nodup_iff, List.map_cons, List.nodup_cons, zd_node hN hn]
    exact ⟨hfr, h.uni⟩
end Go.Eng
