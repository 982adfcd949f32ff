/-
No port is had twice; a state is whole. 
-/
import Derived.Test.YtdobfbnfaekafaaGreatFitW2
import Derived.Test.YtdobfbnfaekafaaGreatFitW
set_option linter.unusedVariables false
set_option linter.unusedSimpArgs false
namespace Go.Eng
open Go
/-! Ports that were seen. -/
def addS : List Int → Int → List Int
  | [], n => [n]
  | k :: r, n => if n = k then k :: r else k :: addS r n
def addAllS (l ns : List Int) : List Int := ns.foldl addS l
theorem mem_addS : ∀ {l : List Int} {n x : Int}, x ∈ addS l n ↔ x ∈ l ∨ x = n
  | [], n, x => by simp [addS]
  | k :: r, n, x => by
    unfold addS
    split
    · rename_i h
      subst h
      constructor
      · exact .inl
      · rintro (h | rfl)
        · exact h
        · exact .head _
    · rw [List.mem_cons, mem_addS, List.mem_cons]
      exact or_assoc.symm
theorem mem_addAllS : ∀ {ns l : List Int} {x : Int}, x ∈ addAllS l ns ↔ x ∈ l ∨ x ∈ ns
  | [], l, x => by simp [addAllS]
  | n :: r, l, x => by
    have := mem_addAllS (ns := r) (l := addS l n) (x := x)
    unfold addAllS at this ⊢
    rw [List.foldl_cons, this, mem_addS, List.mem_cons, or_assoc]
theorem mput_seen : ∀ (l : List Int) (n : Int), mput (seenR l) (.i .i64 n) (.b true) = seenR (addS l n)
  | [], _ => rfl
  | k :: r, n => by
    have ih := mput_seen r n
    unfold seenR at ih ⊢
    simp only [List.map_cons, mput, keyEq, addS]
    by_cases h : n = k
    · subst h
      simp
    · simp only [h, decide_true, decide_false, Bool.and_false, Bool.false_eq_true, if_false, List.map_cons, ih]
theorem mfind_some : ∀ {l : List Int} {n : Int}, n ∈ l → mfind (seenR l) (.i .i64 n) = some (.b true)
  | [], _, h => by cases h
  | k :: r, n, h => by
    have ih := @mfind_some r n
    unfold seenR at ih ⊢
    simp only [List.map_cons, mfind, keyEq]
    by_cases hk : n = k
    · subst hk
      simp
    · have hr : n ∈ r := by cases h with
        | head => exact absurd rfl hk
        | tail _ h => exact h
      simp only [hk, decide_true, decide_false, Bool.and_false, Bool.false_eq_true, if_false]
      exact ih hr
theorem mfind_none : ∀ {l : List Int} {n : Int}, n ∉ l → mfind (seenR l) (.i .i64 n) = none
  | [], _, _ => rfl
  | k :: r, n, h => by
    have ih := @mfind_none r n
    unfold seenR at ih ⊢
    simp only [List.map_cons, mfind, keyEq]
    have hk : n ≠ k := fun e => h (e ▸ .head _)
    simp only [hk, decide_true, decide_false, Bool.and_false, Bool.false_eq_true, if_false]
    exact ih fun e => h (.tail _ e)
def portsGo (seen : List Int) : List PodD → Bool
  | [] => true
  | p :: r => if p.ports.any fun x => decide (x ∈ seen) then false else portsGo (addAllS seen p.ports) r
termination_by structural l => l
theorem portsGo_iff : ∀ {l : List PodD} {seen : List Int}, portsGo seen l = true ↔ (∀ p ∈ l, ∀ x ∈ p.ports, x ∉ seen) ∧ l.Pairwise fun p q => ∀ x ∈ p.ports, x ∉ q.ports
  | [], seen => by simp [portsGo]
  | p :: r, seen => by
    rw [portsGo]
    by_cases h : (p.ports.any fun x => decide (x ∈ seen)) = true
    · rw [if_pos h]
      obtain ⟨x, hx, hs⟩ := List.any_eq_true.1 h
      constructor
      · intro h; cases h
      · rintro ⟨h, _⟩
        exact absurd (of_decide_eq_true hs) (h p (.head _) x hx)
    · rw [if_neg h, portsGo_iff, List.pairwise_cons]
      have h' : ∀ x ∈ p.ports, x ∉ seen := fun x hx hs => h (List.any_eq_true.2 ⟨x, hx, decide_eq_true hs⟩)
      constructor
      · rintro ⟨h1, h2⟩
        refine ⟨fun q hq => ?_, fun q hq x hx hx2 => h1 q hq x hx2 (mem_addAllS.2 (.inr hx)), h2⟩
        cases hq with
        | head => exact h'
        | tail _ hq => exact fun x hx hs => h1 q hq x hx (mem_addAllS.2 (.inl hs))
      · rintro ⟨h1, h2, h3⟩
        refine ⟨fun q hq x hx hs => ?_, h3⟩
        rcases mem_addAllS.1 hs with hs | hs
        · exact h1 q (.tail _ hq) x hx hs
        · exact h2 q hq x hs hx
def noClash (l : List PodD) : Bool := portsGo [] l
theorem noClash_iff {l : List PodD} : noClash l = true ↔ l.Pairwise fun p q => ∀ x ∈ p.ports, x ∉ q.ports := by
  rw [noClash, portsGo_iff]
  exact ⟨fun h => h.2, fun h => ⟨fun p _ x _ h => (by cases h), h⟩⟩
def wholeD (s : StD) : Bool :=
  (s.nodes.all fun n => match usedD s n.name with
    | some u => fitsD u n.cap && noClash (onD s n.name)
    | none => false) && s.pods.all fun p => p.node == [] || (s.nodes.find? fun n => n.name == p.node).isSome
section
variable {P : Program} (hG : FnsOk P AF.fns.get)
include hG
set_option maxHeartbeats 4000000 in
set_option maxRecDepth 10000 in
theorem clash_ok (ps : List PodD) (hl : LenOk ps) (hp : ∀ q ∈ ps, LenOk q.ports) : Pure P 41 [.sl none 16 (ps.map podR)] (· = .b (noClash ps)) := by
  have hlm : (ps.map podR).length = ps.length := List.length_map _
  unfold LenOk at hl
  refine pure_fn (hG _ AF.f41 rfl) rfl ?_
  ((conv => whnf); repeat ((first | refine yf rfl ?_ | refine yt rfl ?_ | refine yo rfl ?_ | refine yc rfl ?_ | refine ys rfl ?_ | refine ye rfl ?_ | refine yn rfl ?_ | refine zw ?_ | refine zdt ?_ | refine zdf ?_ | refine znt ?_ | refine znf ?_ | refine zcd ?_ | refine zci ?_ | refine zc3 ?_) <;> (conv => whnf)))
  refine SLoopZ.by (fun q fr st => ∃ (i : Nat) (seen : List Int), i ≤ ps.length ∧ q = ps.length - i ∧ noClash ps = portsGo seen (ps.drop i) ∧
      fr = [(13, .i .i64 i), (12, .i .i64 (ps.map podR).length), (11, .sl none 16 (ps.map podR)), (3, .m (.g 0))] ∧ st = ⟨⟨1, [(0, .mp (some .i64) (seenR seen))]⟩, noL⟩)
    ps.length ⟨_, _, ?_, 0, [], Nat.zero_le _, rfl, rfl, rfl, rfl⟩ ?_
  · exact tG [0] []
  rintro q fr st ⟨i, seen, hi, rfl, hgo, rfl, rfl⟩ R hR
  (conv => whnf)
  refine SIf.ds (fun hlt => ?_) (fun hge => ?_)
  · have hi' : i < ps.length := by omega
    have he := List.getElem?_eq_getElem hi'
    have hpl := hp _ (List.getElem_mem hi')
    rw [List.drop_eq_getElem_cons hi', portsGo] at hgo
    generalize ps[i] = e at he hpl hgo
    have hem : (e.ports.map intR).length = e.ports.length := List.length_map _
    unfold LenOk at hpl
    ((conv => whnf); repeat ((first | refine SEx.of (map_get' (by omega) he) ?_ | refine yf rfl ?_ | refine yt rfl ?_ | refine yo rfl ?_ | refine yc rfl ?_ | refine ys rfl ?_ | refine ye rfl ?_ | refine yn rfl ?_ | refine zw ?_ | refine zdt ?_ | refine zdf ?_ | refine znt ?_ | refine znf ?_ | refine zcd ?_ | refine zci ?_ | refine zc3 ?_) <;> (conv => whnf)))
    refine SLoopZ.by (fun q fr st => ∃ j : Nat, j ≤ e.ports.length ∧ q = e.ports.length - j ∧ NoneYet (fun x => decide (x ∈ seen)) e.ports j ∧
        fr = [(20, .i .i64 j), (19, .i .i64 (e.ports.map intR).length), (18, .sl none 1 (e.ports.map intR)), (5, .p (.l 0) 0), (13, .i .i64 i), (12, .i .i64 (ps.map podR).length), (11, .sl none 16 (ps.map podR)), (3, .m (.g 0))] ∧
        st = ⟨⟨1, [(0, .mp (some .i64) (seenR seen))]⟩, ⟨1, [(0, .cs (podR e))]⟩⟩)
      e.ports.length ⟨_, _, ?_, 0, Nat.zero_le _, rfl, NoneYet.zero, rfl, rfl⟩ ?_
    · exact tG [0] [0]
    rintro q fr st ⟨j, hj, rfl, hok, rfl, rfl⟩ R2 hR2
    (conv => whnf)
    refine SIf.ds (fun hlt2 => ?_) (fun hge2 => ?_)
    · have hj' : j < e.ports.length := by omega
      have hf := List.getElem?_eq_getElem hj'
      generalize e.ports[j] = x at hf
      by_cases hx : x ∈ seen
      · have hm := mfind_some hx
        ((conv => whnf); repeat ((first | refine SOpt.of hm ?_ | refine SEx.of (map_get' (by omega) hf) ?_ | refine yf rfl ?_ | refine yt rfl ?_ | refine yo rfl ?_ | refine yc rfl ?_ | refine ys rfl ?_ | refine ye rfl ?_ | refine yn rfl ?_ | refine zw ?_ | refine zdt ?_ | refine zdf ?_ | refine znt ?_ | refine znf ?_ | refine zcd ?_ | refine zci ?_ | refine zc3 ?_) <;> (conv => whnf)))
        refine pure_free rfl ?_
        rw [hgo, if_pos (any_some hf (decide_eq_true hx))]
      · have hm := mfind_none hx
        ((conv => whnf); repeat ((first | refine SOpt.no hm ?_ | refine SEx.of (map_get' (by omega) hf) ?_ | refine yf rfl ?_ | refine yt rfl ?_ | refine yo rfl ?_ | refine yc rfl ?_ | refine ys rfl ?_ | refine ye rfl ?_ | refine yn rfl ?_ | refine zw ?_ | refine zdt ?_ | refine zdf ?_ | refine znt ?_ | refine znf ?_ | refine zcd ?_ | refine zci ?_ | refine zc3 ?_) <;> (conv => whnf)))
        refine hR2 (e.ports.length - (j + 1)) _ _ (by omega) ⟨_, _, ?_, j + 1, by omega, rfl, hok.succ hf (decide_eq_false hx), rfl, rfl⟩
        exact tG [0] [0]
    · clear hR2
      have hnone := any_none (hok.all (by omega))
      rw [hnone, if_neg (by decide)] at hgo
      ((conv => whnf); repeat ((first | refine yf rfl ?_ | refine yt rfl ?_ | refine yo rfl ?_ | refine yc rfl ?_ | refine ys rfl ?_ | refine ye rfl ?_ | refine yn rfl ?_ | refine zw ?_ | refine zdt ?_ | refine zdf ?_ | refine znt ?_ | refine znf ?_ | refine zcd ?_ | refine zci ?_ | refine zc3 ?_) <;> (conv => whnf)))
      refine SLoopZ.by (fun q fr st => ∃ j : Nat, j ≤ e.ports.length ∧ q = e.ports.length - j ∧
          fr = [(31, .i .i64 j), (30, .i .i64 (e.ports.map intR).length), (29, .sl none 1 (e.ports.map intR)), (13, .i .i64 i), (12, .i .i64 (ps.map podR).length), (11, .sl none 16 (ps.map podR)), (3, .m (.g 0))] ∧
          st = ⟨⟨1, [(0, .mp (some .i64) (seenR (addAllS seen (e.ports.take j))))]⟩, noL⟩)
        e.ports.length ⟨_, _, ?_, 0, Nat.zero_le _, rfl, rfl, rfl⟩ ?_
      · exact tG [0] []
      rintro q fr st ⟨j, hj, rfl, rfl, rfl⟩ R2 hR2
      (conv => whnf)
      refine SIf.ds (fun hlt3 => ?_) (fun hge3 => ?_)
      · have hj' : j < e.ports.length := by omega
        have hf := List.getElem?_eq_getElem hj'
        generalize e.ports[j] = x at hf
        have hadd : addAllS seen (e.ports.take (j + 1)) = addS (addAllS seen (e.ports.take j)) x := by
          rw [take_succ' hf, addAllS, List.foldl_append]
          rfl
        ((conv => whnf); repeat ((first | refine SEx.of (map_get' (by omega) hf) ?_ | refine yf rfl ?_ | refine yt rfl ?_ | refine yo rfl ?_ | refine yc rfl ?_ | refine ys rfl ?_ | refine ye rfl ?_ | refine yn rfl ?_ | refine zw ?_ | refine zdt ?_ | refine zdf ?_ | refine znt ?_ | refine znf ?_ | refine zcd ?_ | refine zci ?_ | refine zc3 ?_) <;> (conv => whnf)))
        refine hR2 (e.ports.length - (j + 1)) _ _ (by omega) ⟨_, _, ?_, j + 1, by omega, rfl, rfl, rfl⟩
        show TelR _ ⟨⟨1, [(0, .mp (some .i64) (mput (seenR (addAllS seen (e.ports.take j))) (.i .i64 x) (.b true)))]⟩, noL⟩ _ _
        rw [mput_seen, ← hadd]
        exact tG [0] []
      · rw [List.take_of_length_le (by omega)]
        ((conv => whnf); repeat ((first | refine yf rfl ?_ | refine yt rfl ?_ | refine yo rfl ?_ | refine yc rfl ?_ | refine ys rfl ?_ | refine ye rfl ?_ | refine yn rfl ?_ | refine zw ?_ | refine zdt ?_ | refine zdf ?_ | refine znt ?_ | refine znf ?_ | refine zcd ?_ | refine zci ?_ | refine zc3 ?_) <;> (conv => whnf)))
        refine hR (ps.length - (i + 1)) _ _ (by omega) ⟨_, _, ?_, i + 1, addAllS seen e.ports, by omega, rfl, hgo, rfl, rfl⟩
        exact tG [0] []
  · rw [List.drop_eq_nil_of_le (by omega), portsGo] at hgo
    rw [hgo]
    ((conv => whnf); repeat ((first | refine yf rfl ?_ | refine yt rfl ?_ | refine yo rfl ?_ | refine yc rfl ?_ | refine ys rfl ?_ | refine ye rfl ?_ | refine yn rfl ?_ | refine zw ?_ | refine zdt ?_ | refine zdf ?_ | refine znt ?_ | refine znf ?_ | refine zcd ?_ | refine zci ?_ | refine zc3 ?_) <;> (conv => whnf)))
    exact pure_free rfl rfl
set_option maxHeartbeats 4000000 in
set_option maxRecDepth 10000 in
theorem whole_all (s : StD) (hs : s.ok) (hsm : Small s) (hr : ∀ q ∈ s.pods, PodRoom q) : Pure P 11 [stV s] (· = .b (wholeD s)) := by
  have hlm : (s.pods.map podR).length = s.pods.length := List.length_map _
  have hln : (s.nodes.map nodeR).length = s.nodes.length := List.length_map _
  have hl := hs.pods
  have hl2 := hs.nodes
  have hsome := hs.some
  unfold LenOk at hl hl2
  obtain ⟨f, hf⟩ : ∃ f : NodeD → Bool, f = fun n => !(match usedD s n.name with
    | some u => fitsD u n.cap && noClash (onD s n.name)
    | none => false) := ⟨_, rfl⟩
  obtain ⟨g, hg⟩ : ∃ g : PodD → Bool, g = fun p => !(p.node == [] || (s.nodes.find? fun n => n.name == p.node).isSome) := ⟨_, rfl⟩
  have hspec : wholeD s = (!(s.nodes.any f) && !(s.pods.any g)) := by
    rw [wholeD, List.all_eq_not_any_not, List.all_eq_not_any_not, hf, hg]
  rw [hspec]
  refine pure_fn (hG _ AF.f11 rfl) rfl ?_
  ((conv => whnf); repeat ((first | refine yf rfl ?_ | refine yt rfl ?_ | refine yo rfl ?_ | refine yc rfl ?_ | refine ys rfl ?_ | refine ye rfl ?_ | refine yn rfl ?_ | refine zw ?_ | refine zdt ?_ | refine zdf ?_ | refine znt ?_ | refine znf ?_ | refine zcd ?_ | refine zci ?_ | refine zc3 ?_) <;> (conv => whnf)))
  refine SLoopZ.by (fun q fr st => ∃ i : Nat, i ≤ s.nodes.length ∧ q = s.nodes.length - i ∧ NoneYet f s.nodes i ∧
      fr = [(14, .i .i64 i), (13, .i .i64 (s.nodes.map nodeR).length), (12, .sl none 6 (s.nodes.map nodeR)), (1, .p (.l 0) 0)] ∧
      st = ⟨noG, ⟨1, [(0, .cs [.sl none 6 (s.nodes.map nodeR), .sl none 16 (s.pods.map podR)])]⟩⟩)
    s.nodes.length ⟨_, _, ?_, 0, Nat.zero_le _, rfl, NoneYet.zero, rfl, rfl⟩ ?_
  · exact tL [0]
  rintro q fr st ⟨i, hi, rfl, hok, rfl, rfl⟩ R hR
  (conv => whnf)
  refine SIf.ds (fun hlt => ?_) (fun hge => ?_)
  · have hi' : i < s.nodes.length := by omega
    have he := List.getElem?_eq_getElem hi'
    generalize s.nodes[i] = e at he
    have hu := used_ok hG s e.name hs.pods (by omega) (fun q hq => (hs.pod q hq).req)
    have hon := on_ok hG s e.name hs hr
    have hcl := clash_ok hG (onD s e.name) (Nat.le_trans (List.length_filter_le _ _) hs.pods) (fun q hq => (hs.pod q (List.mem_filter.1 hq).1).ports)
    have hfe : f e = !(match usedD s e.name with
      | some u => fitsD u e.cap && noClash (onD s e.name)
      | none => false) := by rw [hf]
    generalize onD s e.name = l at hon hcl hfe
    generalize noClash l = c at hcl hfe
    cases hq : usedD s e.name with
    | none =>
      rw [hq] at hu hfe
      ((conv => whnf); repeat ((first | refine SCall.app (Pure.go hu rfl) ?_ | refine SEx.of (map_get' (by omega) he) ?_ | refine yf rfl ?_ | refine yt rfl ?_ | refine yo rfl ?_ | refine yc rfl ?_ | refine ys rfl ?_ | refine ye rfl ?_ | refine yn rfl ?_ | refine zw ?_ | refine zdt ?_ | refine zdf ?_ | refine znt ?_ | refine znf ?_ | refine zcd ?_ | refine zci ?_ | refine zc3 ?_) <;> (conv => whnf)))
      refine pure_free rfl ?_
      rw [any_some he hfe]
      rfl
    | some u =>
      rw [hq] at hu hfe
      have hft := fits_ok hG u e.cap
      dsimp only at hfe
      generalize fitsD u e.cap = d at hft hfe
      cases d
      · ((conv => whnf); repeat ((first | refine SCall.app (Pure.go hu rfl) ?_ | refine SCall.app (Pure.go hft rfl) ?_ | refine SEx.of (map_get' (by omega) he) ?_ | refine yf rfl ?_ | refine yt rfl ?_ | refine yo rfl ?_ | refine yc rfl ?_ | refine ys rfl ?_ | refine ye rfl ?_ | refine yn rfl ?_ | refine zw ?_ | refine zdt ?_ | refine zdf ?_ | refine znt ?_ | refine znf ?_ | refine zcd ?_ | refine zci ?_ | refine zc3 ?_) <;> (conv => whnf)))
        refine pure_free rfl ?_
        rw [any_some he hfe]
        rfl
      · cases c
        · ((conv => whnf); repeat ((first | refine SCall.app (Pure.go hu rfl) ?_ | refine SCall.app (Pure.go hft rfl) ?_ | refine SCall.app (Pure.go hon rfl) ?_ | refine SCall.app (Pure.go hcl rfl) ?_ | refine SEx.of (map_get' (by omega) he) ?_ | refine yf rfl ?_ | refine yt rfl ?_ | refine yo rfl ?_ | refine yc rfl ?_ | refine ys rfl ?_ | refine ye rfl ?_ | refine yn rfl ?_ | refine zw ?_ | refine zdt ?_ | refine zdf ?_ | refine znt ?_ | refine znf ?_ | refine zcd ?_ | refine zci ?_ | refine zc3 ?_) <;> (conv => whnf)))
          refine pure_free rfl ?_
          rw [any_some he hfe]
          rfl
        · ((conv => whnf); repeat ((first | refine SCall.app (Pure.go hu rfl) ?_ | refine SCall.app (Pure.go hft rfl) ?_ | refine SCall.app (Pure.go hon rfl) ?_ | refine SCall.app (Pure.go hcl rfl) ?_ | refine SEx.of (map_get' (by omega) he) ?_ | refine yf rfl ?_ | refine yt rfl ?_ | refine yo rfl ?_ | refine yc rfl ?_ | refine ys rfl ?_ | refine ye rfl ?_ | refine yn rfl ?_ | refine zw ?_ | refine zdt ?_ | refine zdf ?_ | refine znt ?_ | refine znf ?_ | refine zcd ?_ | refine zci ?_ | refine zc3 ?_) <;> (conv => whnf)))
          refine hR (s.nodes.length - (i + 1)) _ _ (by omega) ⟨_, _, ?_, i + 1, by omega, rfl, hok.succ he hfe, rfl, rfl⟩
          exact tL [0]
  · clear hR
    rw [any_none (hok.all (by omega))]
    ((conv => whnf); repeat ((first | refine yf rfl ?_ | refine yt rfl ?_ | refine yo rfl ?_ | refine yc rfl ?_ | refine ys rfl ?_ | refine ye rfl ?_ | refine yn rfl ?_ | refine zw ?_ | refine zdt ?_ | refine zdf ?_ | refine znt ?_ | refine znf ?_ | refine zcd ?_ | refine zci ?_ | refine zc3 ?_) <;> (conv => whnf)))
    refine SLoopZ.by (fun q fr st => ∃ i : Nat, i ≤ s.pods.length ∧ q = s.pods.length - i ∧ NoneYet g s.pods i ∧
        fr = [(46, .i .i64 i), (45, .i .i64 (s.pods.map podR).length), (44, .sl none 16 (s.pods.map podR)), (1, .p (.l 0) 0)] ∧
        st = ⟨noG, ⟨1, [(0, .cs [.sl none 6 (s.nodes.map nodeR), .sl none 16 (s.pods.map podR)])]⟩⟩)
      s.pods.length ⟨_, _, ?_, 0, Nat.zero_le _, rfl, NoneYet.zero, rfl, rfl⟩ ?_
    · exact tL [0]
    clear hge hi hok
    rintro q fr st ⟨i, hi, rfl, hok, rfl, rfl⟩ R hR
    (conv => whnf)
    refine SIf.ds (fun hlt => ?_) (fun hge => ?_)
    · have hi' : i < s.pods.length := by omega
      have he := List.getElem?_eq_getElem hi'
      generalize s.pods[i] = e at he
      have hgn := getnode_ok hG s e.node hs.nodes hsm
      have hge : g e = !(e.node == [] || (s.nodes.find? fun n => n.name == e.node).isSome) := by rw [hg]
      cases hq : s.nodes.find? (fun n => n.name == e.node) with
      | some n =>
        rw [hq] at hgn
        ((conv => whnf); repeat' ((first | refine SCall.app (Pure.go hgn rfl) ?_ | refine SEx.of (map_get' (by omega) he) ?_ | refine yf rfl ?_ | refine yt rfl ?_ | refine yo rfl ?_ | refine yc rfl ?_ | refine ys rfl ?_ | refine ye rfl ?_ | refine yn rfl ?_ | refine zw ?_ | refine zdt ?_ | refine zdf ?_ | refine znt ?_ | refine znf ?_ | refine zcd ?_ | refine zci ?_ | refine zc3 ?_ | refine SIf.ds (fun _ => ?_) (fun _ => ?_) | refine SIf.ns (fun _ => ?_) (fun _ => ?_) | refine SIf.mk (fun _ => ?_) (fun _ => ?_) | (intro r hr; cases r)) <;> (conv => whnf)))
        all_goals
          refine hR (s.pods.length - (i + 1)) _ _ (by omega) ⟨_, _, ?_, i + 1, by omega, rfl, hok.succ he (by rw [hge, hq]; simp), rfl, rfl⟩
          exact tL [0]
      | none =>
        rw [hq] at hgn
        ((conv => whnf); repeat' ((first | refine SCall.app (Pure.go hgn rfl) ?_ | refine SEx.of (map_get' (by omega) he) ?_ | refine yf rfl ?_ | refine yt rfl ?_ | refine yo rfl ?_ | refine yc rfl ?_ | refine ys rfl ?_ | refine ye rfl ?_ | refine yn rfl ?_ | refine zw ?_ | refine zdt ?_ | refine zdf ?_ | refine znt ?_ | refine znf ?_ | refine zcd ?_ | refine zci ?_ | refine zc3 ?_ | refine SIf.ds (fun _ => ?_) (fun _ => ?_) | refine SIf.ns (fun _ => ?_) (fun _ => ?_) | refine SIf.mk (fun _ => ?_) (fun _ => ?_) | (intro r hr; cases r)) <;> (conv => whnf)))
        all_goals first
          | (refine hR (s.pods.length - (i + 1)) _ _ (by omega) ⟨_, _, ?_, i + 1, by omega, rfl, hok.succ he (by (rw [hge, hq]; simp_all; done)), rfl, rfl⟩; exact tL [0]; done)
          | (refine pure_free rfl ?_; rw [any_some he (by (rw [hge, hq]; simp_all; done))]; rfl)
    · ((conv => whnf); repeat ((first | refine yf rfl ?_ | refine yt rfl ?_ | refine yo rfl ?_ | refine yc rfl ?_ | refine ys rfl ?_ | refine ye rfl ?_ | refine yn rfl ?_ | refine zw ?_ | refine zdt ?_ | refine zdf ?_ | refine znt ?_ | refine znf ?_ | refine zcd ?_ | refine zci ?_ | refine zc3 ?_) <;> (conv => whnf)))
      refine pure_free rfl ?_
      rw [any_none (hok.all (by omega))]
      rfl
end
end Go.Eng
