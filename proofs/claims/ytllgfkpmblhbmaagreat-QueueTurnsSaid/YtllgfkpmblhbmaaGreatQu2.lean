/-
The queue: one who failed.
-/
import Derived.Test.YtllgfkpmblhbmaaGreatQu1
set_option linter.unusedVariables false
set_option linter.unusedSimpArgs false
namespace Go.Eng
open Go
theorem QAt.upd {h h' : Heap} {q : Nat} {ks : List Nat} {its : List OneD} {s : StD} (hq : QAt h q ks its s) {j k : Nat} {o o' : OneD} (hk : ks[j]? = some k) (ho : its[j]? = some o) (hn : h.next ≤ h'.next)
    (hg : h'.get k = some (.cs (oneR o'))) (hs : ∀ i, i < h.next → i ≠ k → h'.get i = h.get i) : QAt h' q ks (its.set j o') s := by
  obtain ⟨hkq, hkn, hko⟩ := hq.its.it j k o hk ho
  have hlt := hq.lt
  refine ⟨by omega, ?_, by rw [List.length_set]; exact hq.its.len, fun i k' o2 hk' ho' => ?_, hq.its.nd⟩
  · obtain ⟨lv, h1, h2⟩ := hq.row
    refine ⟨lv, (hs q hlt fun e => hkq e.symm).trans h1, ?_⟩
    rcases h2 with h2 | ⟨c, h3, h4, h5, h6, h7⟩
    · exact .inl h2
    · exact .inr ⟨c, h3, h4, by omega, h6, (hs c h5 fun e => h6 (e ▸ List.mem_of_getElem? hk)).trans h7⟩
  · by_cases e : i = j
    · subst e
      rw [hk] at hk'
      cases hk'
      have hi := (List.getElem?_eq_some_iff.1 ho).1
      rw [List.getElem?_set_self hi] at ho'
      cases ho'
      exact ⟨hkq, by omega, hg⟩
    · rw [List.getElem?_set_ne (fun e' => e e'.symm)] at ho'
      obtain ⟨h1, h2, h3⟩ := hq.its.it i k' o2 hk' ho'
      refine ⟨h1, by omega, (hs k' h2 ?_).trans h3⟩
      rintro rfl
      have a1 := (List.getElem?_eq_some_iff.1 hk').1
      have a2 := (List.getElem?_eq_some_iff.1 hk).1
      exact e ((List.getElem_inj (h₀ := a1) (h₁ := a2) hq.its.nd).1 (((List.getElem?_eq_some_iff.1 hk').2).trans ((List.getElem?_eq_some_iff.1 hk).2).symm))
section
variable {P : Program} (hG : FnsOk P AF.fns.get)
include hG
set_option maxHeartbeats 4000000 in
theorem find_at {h : Heap} {q : Nat} {ks : List Nat} {its : List OneD} {s : StD} (hq : QAt h q ks its s) (hl : its.length ≤ 1000) (name : Str) {j0 k0 : Nat} {o0 : OneD} (hk0 : ks[j0]? = some k0) (ho0 : its[j0]? = some o0)
    (hu : ∀ (j : Nat) (o : OneD), its[j]? = some o → (o.p.name == name) = decide (j = j0)) {K : V → Heap → Prop}
    (hK : ∀ h' c, h'.get c = some (.arr 1 [kR k0]) → Heap.Keeps (fun _ => False) h h' → K (.ms (.g c) 1 0 1) h') : ACall P 80 [.p (.g q) 0, .s name] h K := by
  obtain ⟨lv, hg, hrow⟩ := hq.row
  have hlen := hq.its.len
  have hj0 := (List.getElem?_eq_some_iff.1 hk0).1
  rcases hrow with ⟨rfl, rfl⟩ | ⟨c, rfl, hcq, hcn, hck, hc⟩
  · simp at hk0
  · have hkl : (ks.map kR).length = ks.length := List.length_map _
    refine fn_sp (hG _ AF.f80 rfl) rfl ?_
    ((conv => whnf); repeat ((first | refine SEx.of (hg) ?_ | refine yf rfl ?_ | refine yt rfl ?_ | refine yo rfl ?_ | refine yc rfl ?_ | refine ys rfl ?_ | refine ye rfl ?_ | refine yn rfl ?_ | refine zw ?_ | refine zdt ?_ | refine zdf ?_ | refine znt ?_ | refine znf ?_ | refine zcd ?_ | refine zci ?_ | refine zc3 ?_) <;> (conv => whnf)))
    refine SLoop.by (fun n fr st => ∃ (i : Nat) (v : V) (h' l : Heap), i ≤ ks.length ∧ n = ks.length - i ∧ ((i ≤ j0 ∧ v = .nils ∧ h' = h) ∨ (j0 < i ∧ ∃ c', v = .ms (.g c') 1 0 1 ∧ h'.get c' = some (.arr 1 [kR k0]))) ∧ Heap.Keeps (fun _ => False) h h' ∧
        Fr.le [(15, .i .i64 i), (14, .i .i64 ks.length), (13, .ms (.g c) 1 0 ks.length), (5, v), (1, .s name)] fr ∧ st = ⟨h', l⟩)
      ks.length ⟨0, _, _, _, Nat.zero_le _, rfl, .inl ⟨Nat.zero_le _, rfl, rfl⟩, Heap.Keeps.refl _ _, (by repeat (first | exact Fr.le_nil | refine Fr.le_cons rfl ?_)), rfl⟩ ?_
    rintro n fr st ⟨i, v, h', l, hi, rfl, hv, hkp, hle0, rfl⟩
    refine ⟨_, hle0, fun R hR => ?_⟩
    have hn := hkp.next
    by_cases hin : i < ks.length
    · obtain ⟨k, hk⟩ : ∃ k, ks[i]? = some k := ⟨_, List.getElem?_eq_getElem hin⟩
      obtain ⟨o, ho⟩ : ∃ o, its[i]? = some o := ⟨_, List.getElem?_eq_getElem (by omega)⟩
      obtain ⟨hkq, hkn, hko⟩ := hq.its.it i k o hk ho
      have hc' := (hkp.same c hcn id).trans hc
      have hko' := (hkp.same k hkn id).trans hko
      have huo := hu i o ho
      by_cases e : i = j0
      · subst e
        rw [decide_eq_true rfl] at huo
        rw [hk] at hk0
        cases hk0
        obtain ⟨_, rfl, rfl⟩ | ⟨h1, _⟩ := hv
        · ((conv => whnf); repeat ((first | refine SIf.tt huo ?_ | refine SEx.of (hc') ?_ | refine SEx.of (map_get' (by omega) hk) ?_ | refine SEx.of (hko') ?_ | refine SEx.of (Heap.get_push_self _ _) ?_ | refine yf rfl ?_ | refine yt rfl ?_ | refine yo rfl ?_ | refine yc rfl ?_ | refine ys rfl ?_ | refine ye rfl ?_ | refine yn rfl ?_ | refine zw ?_ | refine zdt ?_ | refine zdf ?_ | refine znt ?_ | refine znf ?_ | refine zcd ?_ | refine zci ?_ | refine zc3 ?_) <;> (conv => whnf)))
          refine hR (ks.length - (i + 1)) _ _ (by omega) ⟨i + 1, _, _, _, by omega, rfl, .inr ⟨Nat.lt_succ_self _, _, rfl, Heap.get_push_self _ _⟩, (hkp.push _).push _, (by repeat (first | exact Fr.le_nil | refine Fr.le_cons rfl ?_)), rfl⟩
        · omega
      · rw [decide_eq_false e] at huo
        ((conv => whnf); repeat ((first | refine SIf.ff huo ?_ | refine SEx.of (hc') ?_ | refine SEx.of (map_get' (by omega) hk) ?_ | refine SEx.of (hko') ?_ | refine yf rfl ?_ | refine yt rfl ?_ | refine yo rfl ?_ | refine yc rfl ?_ | refine ys rfl ?_ | refine ye rfl ?_ | refine yn rfl ?_ | refine zw ?_ | refine zdt ?_ | refine zdf ?_ | refine znt ?_ | refine znf ?_ | refine zcd ?_ | refine zci ?_ | refine zc3 ?_) <;> (conv => whnf)))
        refine hR (ks.length - (i + 1)) _ _ (by omega) ⟨i + 1, v, h', _, by omega, rfl, ?_, hkp, (by repeat (first | exact Fr.le_nil | refine Fr.le_cons rfl ?_)), rfl⟩
        rcases hv with ⟨h1, h2⟩ | ⟨h1, h2⟩
        · exact .inl ⟨by omega, h2⟩
        · exact .inr ⟨by omega, h2⟩
    · obtain ⟨h1, _⟩ | ⟨h1, c', rfl, h2⟩ := hv
      · omega
      · ((conv => whnf); repeat ((first | refine yf rfl ?_ | refine yt rfl ?_ | refine yo rfl ?_ | refine yc rfl ?_ | refine ys rfl ?_ | refine ye rfl ?_ | refine yn rfl ?_ | refine zw ?_ | refine zdt ?_ | refine zdf ?_ | refine znt ?_ | refine znf ?_ | refine zcd ?_ | refine zci ?_ | refine zc3 ?_) <;> (conv => whnf)))
        exact hK h' c' h2 hkp
set_option maxHeartbeats 4000000 in
theorem failed_at {h : Heap} {q : Nat} {ks : List Nat} {its : List OneD} {s : StD} (hq : QAt h q ks its s) (hl : its.length ≤ 1000) (name : Str) {j0 : Nat} {o0 : OneD} (ho0 : its[j0]? = some o0) (hf : o0.failed = 0)
    (hu : ∀ (j : Nat) (o : OneD), its[j]? = some o → (o.p.name == name) = decide (j = j0)) {K : V → Heap → Prop}
    (hK : ∀ h', QAt h' q ks (its.set j0 ⟨o0.p, true, 1, 55⟩) s → K (.tup []) h') : ACall P 29 [.p (.g q) 0, .s name, .i .i64 5] h K := by
  have hlen := hq.its.len
  obtain ⟨k0, hk0⟩ : ∃ k, ks[j0]? = some k := ⟨_, List.getElem?_eq_getElem (by have := (List.getElem?_eq_some_iff.1 ho0).1; omega)⟩
  obtain ⟨hkq, hkn, hko⟩ := hq.its.it j0 k0 o0 hk0 ho0
  have hfind := fun K => find_at hG hq hl name hk0 ho0 hu (K := K)
  obtain ⟨op, opk, of, ot⟩ := o0
  dsimp only at hf
  subst hf
  refine fn_sp (hG _ AF.f29 rfl) rfl ?_
  ((conv => whnf); repeat ((first | refine SCall.app (hfind _) ?_ | refine yf rfl ?_ | refine yt rfl ?_ | refine yo rfl ?_ | refine yc rfl ?_ | refine ys rfl ?_ | refine ye rfl ?_ | refine yn rfl ?_ | refine zw ?_ | refine zdt ?_ | refine zdf ?_ | refine znt ?_ | refine znf ?_ | refine zcd ?_ | refine zci ?_ | refine zc3 ?_) <;> (conv => whnf)))
  intro h1 c hc k1
  have hko1 := (k1.same k0 hkn id).trans hko
  have s1 : ∀ o, (h1.set k0 o).get k0 = some o := fun o => Heap.get_set_self hko1
  have s2 : ∀ o1 o2, ((h1.set k0 o1).set k0 o2).get k0 = some o2 := fun o1 o2 => Heap.get_set_self (s1 _)
  have s3 : ∀ o1 o2 o3, (((h1.set k0 o1).set k0 o2).set k0 o3).get k0 = some o3 := fun o1 o2 o3 => Heap.get_set_self (s2 _ _)
  ((conv => whnf); repeat ((first | refine SLoop.un ?_ | refine SOpt.of (x := .i .i64 5) rfl ?_ | refine w64e (m := 1) rfl (by decide) (by decide) ?_ | refine SEx.of (hc) ?_ | refine SEx.of (hko1) ?_ | refine SEx.of (s1 _) ?_ | refine SEx.of (s2 _ _) ?_ | refine SEx.of (s3 _ _ _) ?_ | refine yf rfl ?_ | refine yt rfl ?_ | refine yo rfl ?_ | refine yc rfl ?_ | refine ys rfl ?_ | refine ye rfl ?_ | refine yn rfl ?_ | refine zw ?_ | refine zdt ?_ | refine zdf ?_ | refine znt ?_ | refine znf ?_ | refine zcd ?_ | refine zci ?_ | refine zc3 ?_) <;> (conv => whnf)))
  refine hK _ (hq.upd hk0 ho0 (by have := k1.next; show h.next ≤ h1.next; omega) (s3 _ _ _) fun i hi hne => ?_)
  exact (Heap.get_set_ne hne).trans ((Heap.get_set_ne hne).trans ((Heap.get_set_ne hne).trans (k1.same i hi id)))
end
end Go.Eng
