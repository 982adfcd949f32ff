/-
A node full of small pods: as many of the least ones go as have to.
-/
import Derived.Test.YtkkpkcjcaogceaaGreatEvM
import Derived.Test.YtkkpkcjcaogceaaGreatSrtP
import Derived.Test.YtkkpkcjcaogceaaGreatWiV
set_option linter.unusedVariables false
set_option linter.unusedSimpArgs false
namespace Go.Eng
open Go
theorem nodup_len {α : Type} [DecidableEq α] : ∀ {l m : List α}, l.Nodup → (∀ x ∈ l, x ∈ m) → l.length ≤ m.length
  | [], _, _, _ => Nat.zero_le _
  | x :: r, m, hn, hs => by
    rw [List.nodup_cons] at hn
    obtain ⟨A, B, rfl⟩ := List.append_of_mem (hs x (.head _))
    have := nodup_len (m := A ++ B) hn.2 fun y hy => by
      have h1 := hs y (.tail _ hy)
      have hne : y ≠ x := by rintro rfl; exact hn.1 hy
      rcases List.mem_append.1 h1 with h | h
      · exact List.mem_append.2 (.inl h)
      · cases h with
        | head => exact absurd rfl hne
        | tail _ h => exact List.mem_append.2 (.inr h)
    simp only [List.length_append, List.length_cons] at this ⊢
    omega
theorem names_nodup {l : List PodD} (h : l.Pairwise fun a b => a.name ≠ b.name) : (l.map (·.name)).Nodup := List.pairwise_map.2 h
theorem part_len {α : Type} (f : α → Bool) : ∀ l : List α, (l.filter f).length + (l.filter fun x => !f x).length = l.length
  | [] => rfl
  | x :: r => by
    have := part_len f r
    cases h : f x
    · rw [List.filter_cons_of_neg (by rw [h]; decide), List.filter_cons_of_pos (by rw [h]; rfl), List.length_cons, List.length_cons]; omega
    · rw [List.filter_cons_of_pos h, List.filter_cons_of_neg (by rw [h]; decide), List.length_cons, List.length_cons]; omega
/-- How many stay. -/
theorem stay_len {l : List PodD} (hn : l.Pairwise fun a b => a.name ≠ b.name) {gs : List Str} (hg : gs.Nodup) (hs : ∀ x ∈ gs, x ∈ l.map (·.name)) : (l.filter fun q => !(gs.any fun g => q.name == g)).length + gs.length = l.length := by
  have h1 := part_len (fun q : PodD => gs.any fun g => q.name == g) l
  have hin : ((l.filter fun q => gs.any fun g => q.name == g).map (·.name)).Nodup := names_nodup (hn.sublist List.filter_sublist)
  have ha := nodup_len hin (m := gs) fun x hx => by
    obtain ⟨q, hq, rfl⟩ := List.mem_map.1 hx
    obtain ⟨g, hg1, hg2⟩ := List.any_eq_true.1 (List.mem_filter.1 hq).2
    rw [show q.name = g by simpa using hg2]; exact hg1
  have hb := nodup_len hg (m := (l.filter fun q => gs.any fun g => q.name == g).map (·.name)) fun x hx => by
    obtain ⟨q, hq, rfl⟩ := List.mem_map.1 (hs x hx)
    exact List.mem_map.2 ⟨q, List.mem_filter.2 ⟨hq, List.any_eq_true.2 ⟨q.name, hx, by simp⟩⟩, rfl⟩
  rw [List.length_map] at ha hb
  omega
def nS : Str := [110]
def fullN (k : Nat) : NodeD := ⟨nS, ⟨k, 0, 0⟩, [], []⟩
def greatP (need : Nat) : PodD := ⟨[122, 122], 99, 1000, ⟨need, 0, 0⟩, [], [], [], [], [], [], 0, [], [], 0⟩
structure CheapOf (l : List PodD) : Prop where
  le : l.length ≤ 10
  names : l.Pairwise fun a b => a.name ≠ b.name
  pod : ∀ q ∈ l, q.req = ⟨1, 0, 0⟩ ∧ q.node = nS ∧ q.anti = [] ∧ q.prio < 1000
theorem sum_ones : ∀ {l : List PodD}, (∀ q ∈ l, q.req = ⟨1, 0, 0⟩) → sumR l = ⟨l.length, 0, 0⟩
  | [], _ => rfl
  | p :: r, h => by
    rw [sumR, h p (.head _), sum_ones fun q hq => h q (.tail _ hq)]
    exact ext3 (by simp only [List.length_cons]; omega) rfl rfl
theorem feas_cheap {k : Nat} {r : List PodD} {need : Nat} (hk : k ≤ 10) (hn : need ≤ 11) (hr : r.length ≤ 10) (h : ∀ q ∈ r, q.req = ⟨1, 0, 0⟩ ∧ q.node = nS ∧ q.anti = []) : feasD ⟨[fullN k], r⟩ (greatP need) nS = decide (r.length + need ≤ k) := by
  have hf : feasD ⟨[fullN k], r⟩ (greatP need) nS = eachD ⟨[fullN k], r⟩ (greatP need) (fullN k) nS := rfl
  rw [hf]
  have hon : onD ⟨[fullN k], r⟩ nS = r := by
    unfold onD
    refine List.filter_eq_self.2 fun q hq => ?_
    rw [(h q hq).2.1]; rfl
  have hmay : MayL r := fun q hq => by
    rw [(h q hq).1]
    exact ⟨by decide, by decide, by decide⟩
  have hroom : roomD ⟨[fullN k], r⟩ (greatP need) (fullN k) = decide (r.length + need ≤ k) := by
    unfold roomD usedD
    have : (fullN k).name = nS := rfl
    rw [this, hon, sumD_all hmay (by omega), sum_ones fun q hq => (h q hq).1]
    have ha : addD ⟨r.length, 0, 0⟩ (greatP need).req = some ⟨r.length + need, 0, 0⟩ := by
      rw [addD_t (by simp [greatP]; omega)]
      rfl
    dsimp only
    rw [ha]
    simp only [fitsD, fullN, Bool.and_eq_true, Bool.and_true, decide_eq_true_eq, Int.le_refl, decide_true]
    congr 1
    exact propext ⟨fun h => by omega, fun h => by omega⟩
  have hports : portsD ⟨[fullN k], r⟩ (greatP need) (fullN k) = true := by
    unfold portsD
    rw [Bool.not_eq_true', List.any_eq_false]
    intro q _
    simp [greatP]
  have hap : apartD ⟨[fullN k], r⟩ (greatP need) nS = true := by
    unfold apartD
    rw [Bool.and_eq_true]
    refine ⟨rfl, ?_⟩
    rw [Bool.not_eq_true', List.any_eq_false]
    intro q hq
    simp [badD, keepsD, (h q hq).2.2, greatP]
  unfold eachD
  rw [hroom, hports, hap]
  have h1 : wantsD (greatP need) (fullN k) = true := rfl
  have h2 : borneD (greatP need) (fullN k) = true := rfl
  have h3 : evenD ⟨[fullN k], r⟩ (greatP need) nS = true := rfl
  have h4 : ((greatP need).node == ([] : Str)) = true := rfl
  rw [h1, h2, h3, h4]
  simp
theorem gone_cheap {l : List PodD} (hc : CheapOf l) {need : Nat} (hn : need ≤ 11) {gs : List Str} (hg : gs.Nodup) (hs : ∀ x ∈ gs, x ∈ l.map (·.name)) : feasD (withoutD ⟨[fullN l.length], l⟩ gs) (greatP need) nS = decide (need ≤ gs.length) := by
  have h1 := stay_len hc.names hg hs
  have hcl := hc.le
  unfold withoutD
  dsimp only
  rw [feas_cheap hc.le hn (by omega) fun q hq => by
    have := hc.pod q (List.mem_filter.1 hq).1
    exact ⟨this.1, this.2.1, this.2.2.1⟩]
  congr 1
  exact propext ⟨fun h => by omega, fun h => by omega⟩
theorem keep_cheap {l lo : List PodD} (hc : CheapOf l) {need : Nat} (hn : need ≤ 11) (hp : lo.Perm l) {T : Nat} (hT : T + need = l.length) : ∀ (B A : List PodD), lo = A ++ B →
    keepGo ⟨[fullN l.length], l⟩ (greatP need) nS B ((lo.drop (min A.length T)).map (·.name)) = (lo.drop T).map (·.name)
  | [], A, h => by
    have : A.length = l.length := by rw [← hp.length_eq, h]; simp
    rw [keepGo, Nat.min_eq_right (by omega)]
  | q :: B, A, h => by
    have hlen : lo.length = l.length := hp.length_eq
    have hnl : (lo.map (·.name)).Nodup := by
      have := names_nodup hc.names
      exact (hp.map (·.name)).nodup_iff.2 this
    have hsub : ∀ j, ∀ x ∈ (lo.drop j).map (·.name), x ∈ l.map (·.name) := fun j x hx => by
      obtain ⟨y, hy, rfl⟩ := List.mem_map.1 hx
      exact List.mem_map.2 ⟨y, hp.mem_iff.1 (List.mem_of_mem_drop hy), rfl⟩
    have hnd : ∀ j, ((lo.drop j).map (·.name)).Nodup := fun j => hnl.sublist ((List.drop_sublist j lo).map _)
    have hal : A.length < l.length := by rw [← hlen, h]; simp
    rw [keepGo]
    have hless : lessG ((lo.drop (min A.length T)).map (·.name)) q = ((lo.drop (min A.length T)).map (·.name)).erase q.name := by
      unfold lessG
      rw [(hnd _).erase_eq_filter]
      rfl
    have hqm : q.name ∈ (lo.drop (min A.length T)).map (·.name) := by
      refine List.mem_map.2 ⟨q, ?_, rfl⟩
      rw [h]
      rw [List.drop_append_of_le_length (by omega)]
      simp
    have hfe := gone_cheap hc hn (gs := lessG ((lo.drop (min A.length T)).map (·.name)) q) (by rw [hless]; exact (hnd _).erase _) fun x hx => hsub _ x (List.mem_filter.1 hx).1
    have hll : (lessG ((lo.drop (min A.length T)).map (·.name)) q).length = l.length - min A.length T - 1 := by
      rw [hless, List.length_erase_of_mem hqm, List.length_map, List.length_drop, hlen]
    rw [hfe, hll]
    have ih := keep_cheap hc hn hp hT B (A ++ [q]) (by rw [h]; simp)
    rw [List.length_append, List.length_cons, List.length_nil, Nat.zero_add] at ih
    by_cases hlt : A.length < T
    · rw [if_pos (decide_eq_true (by omega))]
      rw [Nat.min_eq_left (by omega)] at ih ⊢
      have : lessG ((lo.drop A.length).map (·.name)) q = (lo.drop (A.length + 1)).map (·.name) := by
        have e1 : lo.drop A.length = q :: B := by rw [h]; simp
        have e2 : lo.drop (A.length + 1) = B := by rw [h]; simp
        have hnq := hnd A.length
        rw [e1] at hnq ⊢
        rw [e2]
        rw [List.map_cons, List.nodup_cons] at hnq
        unfold lessG
        rw [List.map_cons, List.filter_cons_of_neg (by simp)]
        refine List.filter_eq_self.2 fun x hx => ?_
        have : x ≠ q.name := by rintro rfl; exact hnq.1 hx
        simpa using this
      rw [this]
      exact ih
    · rw [if_neg (by simp; omega)]
      rw [Nat.min_eq_right (by omega)] at ih ⊢
      exact ih
theorem cmpV_lt {a b : PodD} : decide (cmpV a b < 0) = true ↔ b.prio < a.prio ∨ (b.prio = a.prio ∧ lessS a.name b.name) := by
  rw [decide_eq_true_eq]
  have hl : lessS a.name b.name ↔ cmpB a.name b.name < 0 := by rw [lessS, ← cmpB_lt, decide_eq_true_eq]
  rw [hl]
  unfold cmpV cmpI
  by_cases h1 : b.prio < a.prio
  · simp [h1]
  · by_cases h2 : a.prio < b.prio
    · have : ¬ b.prio = a.prio := by omega
      simp [h1, h2, this]
    · have : b.prio = a.prio := by omega
      simp [h1, h2, this]
theorem cmpV_f {a b : PodD} : decide (cmpV a b < 0) = false ↔ ¬ (b.prio < a.prio ∨ (b.prio = a.prio ∧ lessS a.name b.name)) := by
  rw [← cmpV_lt]; simp
theorem lower_sorted (s : StD) (p : PodD) (node : Str) : (lowerD s p node).Pairwise fun a b => b.prio ≤ a.prio := by
  have := isortD_sorted (lt := fun a b => decide (cmpV a b < 0)) (fun a b h => by
    rw [cmpV_lt] at h
    rw [cmpV_f]
    rintro (h1 | ⟨h1, h2⟩)
    · omega
    · rcases h with h | ⟨_, h⟩
      · omega
      · have := less_asymm h
        rw [lessS, this] at h2; cases h2) (fun a b c h1 h2 => by
    rw [cmpV_f] at *
    rintro (h3 | ⟨h3, h4⟩)
    · omega
    · by_cases hp : b.prio = a.prio
      · have e1 : ¬ lessS a.name b.name := fun h => h1 (.inr ⟨hp, h⟩)
        have e2 : ¬ lessS b.name c.name := fun h => h2 (.inr ⟨by omega, h⟩)
        have e1 : Op.bytesLess a.name b.name = false := by simpa [lessS] using e1
        by_cases e : a.name = b.name
        · rw [e] at h4; exact e2 h4
        · exact e2 (less_trans (less_tri e1 e) h4)
      · omega) ((onD s node).filter fun q => !decide (p.prio ≤ q.prio))
  refine this.imp fun {a b} h => ?_
  rw [cmpV_f] at h
  omega
/-- What the law asks of the victims. -/
theorem cheap_vict {l : List PodD} (hc : CheapOf l) {need : Nat} (hn : need ≤ 11) :
    (l.length < need → victD ⟨[fullN l.length], l⟩ (greatP need) nS = none) ∧
    (need ≤ l.length → ∃ vs, victD ⟨[fullN l.length], l⟩ (greatP need) nS = some vs ∧ vs.length = need ∧ (∀ v ∈ vs, v ∈ l.map (·.name)) ∧
      ∀ x ∈ l, x.name ∈ vs → ∀ q ∈ l, q.name ∉ vs → x.prio ≤ q.prio) := by
  obtain ⟨lo, hlo⟩ : ∃ lo, lo = lowerD ⟨[fullN l.length], l⟩ (greatP need) nS := ⟨_, rfl⟩
  have hp : lo.Perm l := by
    rw [hlo]
    refine (isortD_perm _).trans ?_
    have h1 : onD ⟨[fullN l.length], l⟩ nS = l := List.filter_eq_self.2 fun q hq => by rw [(hc.pod q hq).2.1]; rfl
    rw [h1]
    rw [List.filter_eq_self.2 fun q hq => by
      have := (hc.pod q hq).2.2.2
      have : ¬ (greatP need).prio ≤ q.prio := show ¬ (1000 : Int) ≤ q.prio by omega
      simp [this]]
  have hnd : (lo.map (·.name)).Nodup := (hp.map (·.name)).nodup_iff.2 (names_nodup hc.names)
  have hsub : ∀ x ∈ lo.map (·.name), x ∈ l.map (·.name) := fun x hx => (hp.map (·.name)).mem_iff.1 hx
  have hll : (lo.map (·.name)).length = l.length := by rw [List.length_map]; exact hp.length_eq
  have hf := gone_cheap hc hn hnd hsub
  rw [hll] at hf
  constructor
  · intro h
    unfold victD
    rw [← hlo, hf, if_neg (by simp; omega)]
  · intro h
    have hk := keep_cheap hc hn hp (T := l.length - need) (by omega) lo [] rfl
    rw [List.length_nil, Nat.zero_min, List.drop_zero] at hk
    refine ⟨sortS ((lo.drop (l.length - need)).map (·.name)), ?_, ?_, fun v hv => ?_, fun x hx hxv q hq hqv => ?_⟩
    · unfold victD
      rw [← hlo, hf, if_pos (decide_eq_true h), hk]
    · have : (sortS ((lo.drop (l.length - need)).map (·.name))).length = _ := (List.mergeSort_perm _ _).length_eq
      rw [this, List.length_map, List.length_drop, hp.length_eq]
      omega
    · obtain ⟨y, hy, rfl⟩ := List.mem_map.1 (mem_sortS.1 hv)
      exact List.mem_map.2 ⟨y, hp.mem_iff.1 (List.mem_of_mem_drop hy), rfl⟩
    · have hso := lower_sorted ⟨[fullN l.length], l⟩ (greatP need) nS
      rw [← hlo, ← List.take_append_drop (l.length - need) lo, List.pairwise_append] at hso
      have hxd : x ∈ lo.drop (l.length - need) := by
        obtain ⟨y, hy, e⟩ := List.mem_map.1 (mem_sortS.1 hxv)
        have := names_inj hc.names y (hp.mem_iff.1 (List.mem_of_mem_drop hy)) x hx e
        rw [← this]; exact hy
      have hqt : q ∈ lo.take (l.length - need) := by
        have hql : q ∈ lo := hp.mem_iff.2 hq
        rw [← List.take_append_drop (l.length - need) lo] at hql
        rcases List.mem_append.1 hql with h | h
        · exact h
        · exact absurd (mem_sortS.2 (List.mem_map.2 ⟨q, h, rfl⟩)) hqv
      exact hso.2.2 q hqt x hxd
end Go.Eng
