/-
A state is whole, by the document.
-/
import Derived.Test.YtabnhgnnolfpgaaGreatWh3
import Derived.Test.YtabnhgnnolfpgaaGreatFitE
import Derived.Test.YtabnhgnnolfpgaaGreatFitF
namespace Go.Eng
open Go
/-- No port in common. -/
abbrev Apt (p q : PodD) : Prop := ∀ x ∈ p.ports, x ∉ q.ports
theorem clash_false {l : List PodD} {a b : Nat} {e f : PodD} {x : Int} (hab : b < a) (he : l[a]? = some e) (hf : l[b]? = some f) (hx : x ∈ e.ports) (hy : x ∈ f.ports) : noClash l = false := by
  cases h : noClash l with
  | false => rfl
  | true => exact absurd hx (pair_get (noClash_iff.1 h) hab hf he x hy)
theorem apt_step {l : List PodD} {a : Nat} {e : PodD} (h : (l.take a).Pairwise Apt) (he : l[a]? = some e) (hn : ∀ (b : Nat) (f : PodD), b < a → l[b]? = some f → ∀ x ∈ e.ports, x ∉ f.ports) : (l.take (a + 1)).Pairwise Apt := by
  rw [take_succ' he, List.pairwise_append]
  refine ⟨h, List.pairwise_singleton _ _, fun f hf q hq => ?_⟩
  rw [List.mem_singleton.1 hq]
  obtain ⟨b, hb⟩ := List.mem_iff_getElem?.1 hf
  have hba : b < a := by
    have := (List.getElem?_eq_some_iff.1 hb).1
    rw [List.length_take] at this
    omega
  rw [List.getElem?_take_of_lt hba] at hb
  exact fun x hx hxe => hn b f hba hb x hxe hx
section
variable {P : Program} (hG : FnsOk P AF.fns.get)
include hG
set_option maxHeartbeats 8000000 in
set_option maxRecDepth 10000 in
theorem rwhole_ok (s : StD) (hs : s.ok) : Pure P 26 [stV s] (· = .b (wholeD s)) := by
  have hlm : (s.pods.map podR).length = s.pods.length := List.length_map _
  have hln : (s.nodes.map nodeR).length = s.nodes.length := List.length_map _
  have hl := hs.pods
  have hl2 := hs.nodes
  unfold LenOk at hl hl2
  obtain ⟨f, hf⟩ : ∃ f : NodeD → Bool, f = fun n => !(match usedD s n.name with
    | some u => fitsD u n.cap && noClash (onD s n.name)
    | none => false) := ⟨_, rfl⟩
  obtain ⟨g, hg⟩ : ∃ g : PodD → Bool, g = fun p => !(p.node == [] || (s.nodes.find? fun n => n.name == p.node).isSome) := ⟨_, rfl⟩
  have hspec : wholeD s = (!(s.nodes.any f) && !(s.pods.any g)) := by
    rw [wholeD, List.all_eq_not_any_not, List.all_eq_not_any_not, hf, hg]
    rfl
  rw [hspec]
  refine pure_fn (hG _ AF.f26 rfl) rfl ?_
  ((conv => whnf); repeat ((first | refine yf rfl ?_ | refine yt rfl ?_ | refine yo rfl ?_ | refine yc rfl ?_ | refine ys rfl ?_ | refine ye rfl ?_ | refine yn rfl ?_ | refine zw ?_ | refine zdt ?_ | refine zdf ?_ | refine znt ?_ | refine znf ?_ | refine zcd ?_ | refine zci ?_ | refine zc3 ?_) <;> (conv => whnf)))
  refine SLoopZ.by (fun q fr st => ∃ i : Nat, i ≤ s.nodes.length ∧ q = s.nodes.length - i ∧ NoneYet f s.nodes i ∧
      fr = [(19, .i .i64 i), (18, .i .i64 (s.nodes.map nodeR).length), (1, .p (.l 0) 0)] ∧
      st = ⟨noG, ⟨1, [(0, .cs [.sl none 6 (s.nodes.map nodeR), .sl none 16 (s.pods.map podR)])]⟩⟩)
    s.nodes.length ⟨_, _, ?_, 0, Nat.zero_le _, rfl, NoneYet.zero, rfl, rfl⟩ ?_
  · exact tL [0]
  rintro q fr st ⟨i, hi, rfl, hok, rfl, rfl⟩ R hR
  (conv => whnf)
  refine SIf.ds (fun hlt => ?_) (fun hge => ?_)
  · have hi' : i < s.nodes.length := by omega
    have he := List.getElem?_eq_getElem hi'
    generalize s.nodes[i] = e at he
    have hu := rused_ok hG s e.name hs
    have hon := ron_ok hG s e.name hs
    have hol : (onD s e.name).length ≤ s.pods.length := List.length_filter_le _ _
    have hop : ∀ q ∈ onD s e.name, LenOk q.ports := fun q hq => (hs.pod q (List.mem_filter.1 hq).1).ports
    have hfe : f e = !(match usedD s e.name with
      | some u => fitsD u e.cap && noClash (onD s e.name)
      | none => false) := by rw [hf]
    generalize onD s e.name = l at hon hol hop hfe
    have hlm3 : (l.map podR).length = l.length := List.length_map _
    cases hq : usedD s e.name with
    | none =>
      rw [hq] at hu hfe
      ((conv => whnf); repeat ((first | refine SCall.app (Pure.go hu rfl) ?_ | refine SEx.of (map_get' (by omega) he) ?_ | refine yf rfl ?_ | refine yt rfl ?_ | refine yo rfl ?_ | refine yc rfl ?_ | refine ys rfl ?_ | refine ye rfl ?_ | refine yn rfl ?_ | refine zw ?_ | refine zdt ?_ | refine zdf ?_ | refine znt ?_ | refine znf ?_ | refine zcd ?_ | refine zci ?_ | refine zc3 ?_) <;> (conv => whnf)))
      refine pure_free rfl ?_
      rw [any_some he hfe]
      rfl
    | some u =>
      rw [hq] at hu hfe
      have hft := rfits_ok hG u e.cap
      dsimp only at hfe
      generalize fitsD u e.cap = d at hft hfe
      cases d
      · ((conv => whnf); repeat ((first | refine SCall.app (Pure.go hu rfl) ?_ | refine SCall.app (Pure.go hft rfl) ?_ | refine SEx.of (map_get' (by omega) he) ?_ | refine yf rfl ?_ | refine yt rfl ?_ | refine yo rfl ?_ | refine yc rfl ?_ | refine ys rfl ?_ | refine ye rfl ?_ | refine yn rfl ?_ | refine zw ?_ | refine zdt ?_ | refine zdf ?_ | refine znt ?_ | refine znf ?_ | refine zcd ?_ | refine zci ?_ | refine zc3 ?_) <;> (conv => whnf)))
        refine pure_free rfl ?_
        rw [any_some he hfe]
        rfl
      · rw [Bool.true_and] at hfe
        ((conv => whnf); repeat ((first | refine SCall.app (Pure.go hu rfl) ?_ | refine SCall.app (Pure.go hft rfl) ?_ | refine SCall.app (Pure.go hon rfl) ?_ | refine SEx.of (map_get' (by omega) he) ?_ | refine yf rfl ?_ | refine yt rfl ?_ | refine yo rfl ?_ | refine yc rfl ?_ | refine ys rfl ?_ | refine ye rfl ?_ | refine yn rfl ?_ | refine zw ?_ | refine zdt ?_ | refine zdf ?_ | refine znt ?_ | refine znf ?_ | refine zcd ?_ | refine zci ?_ | refine zc3 ?_) <;> (conv => whnf)))
        refine SLoopZ.by (fun q fr st => ∃ a : Nat, a ≤ l.length ∧ q = l.length - a ∧ (l.take a).Pairwise Apt ∧
            fr = [(56, .i .i64 a), (55, .i .i64 (l.map podR).length), (6, .sl none 16 (l.map podR)), (19, .i .i64 i), (18, .i .i64 (s.nodes.map nodeR).length), (1, .p (.l 0) 0)] ∧
            st = ⟨noG, ⟨1, [(0, .cs [.sl none 6 (s.nodes.map nodeR), .sl none 16 (s.pods.map podR)])]⟩⟩)
          l.length ⟨_, _, ?_, 0, Nat.zero_le _, rfl, List.Pairwise.nil, rfl, rfl⟩ ?_
        · exact tL [0]
        rintro q fr st ⟨a, ha, rfl, hpw, rfl, rfl⟩ R2 hR2
        (conv => whnf)
        refine SIf.ds (fun hlt2 => ?_) (fun hge2 => ?_)
        · have ha' : a < l.length := by omega
          have hea := List.getElem?_eq_getElem ha'
          have hpa := hop _ (List.getElem_mem ha')
          generalize l[a] = x at hea hpa
          have hxm : (x.ports.map intR).length = x.ports.length := List.length_map _
          unfold LenOk at hpa
          ((conv => whnf); repeat ((first | refine yf rfl ?_ | refine yt rfl ?_ | refine yo rfl ?_ | refine yc rfl ?_ | refine ys rfl ?_ | refine ye rfl ?_ | refine yn rfl ?_ | refine zw ?_ | refine zdt ?_ | refine zdf ?_ | refine znt ?_ | refine znf ?_ | refine zcd ?_ | refine zci ?_ | refine zc3 ?_) <;> (conv => whnf)))
          refine SLoopZ.by (fun q fr st => ∃ b : Nat, b ≤ a ∧ q = a - b ∧ (∀ (j : Nat) (f : PodD), j < b → l[j]? = some f → ∀ n ∈ x.ports, n ∉ f.ports) ∧
              fr = [(8, .i .i64 b), (7, .i .i64 a), (56, .i .i64 a), (55, .i .i64 (l.map podR).length), (6, .sl none 16 (l.map podR)), (19, .i .i64 i), (18, .i .i64 (s.nodes.map nodeR).length), (1, .p (.l 0) 0)] ∧
              st = ⟨noG, ⟨1, [(0, .cs [.sl none 6 (s.nodes.map nodeR), .sl none 16 (s.pods.map podR)])]⟩⟩)
            a ⟨_, _, ?_, 0, Nat.zero_le _, rfl, (fun j f h => absurd h (Nat.not_lt_zero _)), rfl, rfl⟩ ?_
          · exact tL [0]
          rintro q fr st ⟨b, hb, rfl, hbs, rfl, rfl⟩ R3 hR3
          (conv => whnf)
          refine SIf.ds (fun hlt3 => ?_) (fun hge3 => ?_)
          · have hb' : b < l.length := by omega
            have heb := List.getElem?_eq_getElem hb'
            have hpb := hop _ (List.getElem_mem hb')
            generalize l[b] = y at heb hpb
            have hym : (y.ports.map intR).length = y.ports.length := List.length_map _
            unfold LenOk at hpb
            ((conv => whnf); repeat ((first | refine SEx.of (map_get' (by omega) hea) ?_ | refine yf rfl ?_ | refine yt rfl ?_ | refine yo rfl ?_ | refine yc rfl ?_ | refine ys rfl ?_ | refine ye rfl ?_ | refine yn rfl ?_ | refine zw ?_ | refine zdt ?_ | refine zdf ?_ | refine znt ?_ | refine znf ?_ | refine zcd ?_ | refine zci ?_ | refine zc3 ?_) <;> (conv => whnf)))
            refine SLoopZ.by (fun q fr st => ∃ j : Nat, j ≤ x.ports.length ∧ q = x.ports.length - j ∧ NoneYet (fun n => y.ports.any fun m => decide (n = m)) x.ports j ∧
                fr = [(70, .i .i64 j), (69, .i .i64 (x.ports.map intR).length), (68, .sl none 1 (x.ports.map intR)), (8, .i .i64 b), (7, .i .i64 a), (56, .i .i64 a), (55, .i .i64 (l.map podR).length), (6, .sl none 16 (l.map podR)), (19, .i .i64 i), (18, .i .i64 (s.nodes.map nodeR).length), (1, .p (.l 0) 0)] ∧
                st = ⟨noG, ⟨1, [(0, .cs [.sl none 6 (s.nodes.map nodeR), .sl none 16 (s.pods.map podR)])]⟩⟩)
              x.ports.length ⟨_, _, ?_, 0, Nat.zero_le _, rfl, NoneYet.zero, rfl, rfl⟩ ?_
            · exact tL [0]
            rintro q fr st ⟨j, hj, rfl, hjs, rfl, rfl⟩ R4 hR4
            (conv => whnf)
            refine SIf.ds (fun hlt4 => ?_) (fun hge4 => ?_)
            · have hj' : j < x.ports.length := by omega
              have hej := List.getElem?_eq_getElem hj'
              generalize x.ports[j] = m at hej
              ((conv => whnf); repeat ((first | refine SEx.of (map_get' (by omega) hej) ?_ | refine SEx.of (map_get' (by omega) heb) ?_ | refine yf rfl ?_ | refine yt rfl ?_ | refine yo rfl ?_ | refine yc rfl ?_ | refine ys rfl ?_ | refine ye rfl ?_ | refine yn rfl ?_ | refine zw ?_ | refine zdt ?_ | refine zdf ?_ | refine znt ?_ | refine znf ?_ | refine zcd ?_ | refine zci ?_ | refine zc3 ?_) <;> (conv => whnf)))
              refine SLoopZ.by (fun q fr st => ∃ k : Nat, k ≤ y.ports.length ∧ q = y.ports.length - k ∧ NoneYet (fun n => decide (m = n)) y.ports k ∧
                  fr = [(80, .i .i64 k), (79, .i .i64 (y.ports.map intR).length), (78, .sl none 1 (y.ports.map intR)), (10, .i .i64 m), (70, .i .i64 j), (69, .i .i64 (x.ports.map intR).length), (68, .sl none 1 (x.ports.map intR)), (8, .i .i64 b), (7, .i .i64 a), (56, .i .i64 a), (55, .i .i64 (l.map podR).length), (6, .sl none 16 (l.map podR)), (19, .i .i64 i), (18, .i .i64 (s.nodes.map nodeR).length), (1, .p (.l 0) 0)] ∧
                  st = ⟨noG, ⟨1, [(0, .cs [.sl none 6 (s.nodes.map nodeR), .sl none 16 (s.pods.map podR)])]⟩⟩)
                y.ports.length ⟨_, _, ?_, 0, Nat.zero_le _, rfl, NoneYet.zero, rfl, rfl⟩ ?_
              · exact tL [0]
              rintro q fr st ⟨k, hk, rfl, hks, rfl, rfl⟩ R5 hR5
              (conv => whnf)
              refine SIf.ds (fun hlt5 => ?_) (fun hge5 => ?_)
              · have hk' : k < y.ports.length := by omega
                have hek := List.getElem?_eq_getElem hk'
                generalize y.ports[k] = n at hek
                ((conv => whnf); repeat ((first | refine SEx.of (map_get' (by omega) hek) ?_ | refine yf rfl ?_ | refine yt rfl ?_ | refine yo rfl ?_ | refine yc rfl ?_ | refine ys rfl ?_ | refine ye rfl ?_ | refine yn rfl ?_ | refine zw ?_ | refine zdt ?_ | refine zdf ?_ | refine znt ?_ | refine znf ?_ | refine zcd ?_ | refine zci ?_ | refine zc3 ?_) <;> (conv => whnf)))
                refine SIf.mk (fun hc => ?_) (fun hc => ?_)
                · ((conv => whnf); repeat ((first | refine yf rfl ?_ | refine yt rfl ?_ | refine yo rfl ?_ | refine yc rfl ?_ | refine ys rfl ?_ | refine ye rfl ?_ | refine yn rfl ?_ | refine zw ?_ | refine zdt ?_ | refine zdf ?_ | refine znt ?_ | refine znf ?_ | refine zcd ?_ | refine zci ?_ | refine zc3 ?_) <;> (conv => whnf)))
                  refine pure_free rfl ?_
                  have hmn : m = n := of_decide_eq_true hc
                  subst hmn
                  rw [clash_false (by omega) hea heb (List.mem_of_getElem? hej) (List.mem_of_getElem? hek)] at hfe
                  rw [any_some he hfe]
                  rfl
                · ((conv => whnf); repeat ((first | refine yf rfl ?_ | refine yt rfl ?_ | refine yo rfl ?_ | refine yc rfl ?_ | refine ys rfl ?_ | refine ye rfl ?_ | refine yn rfl ?_ | refine zw ?_ | refine zdt ?_ | refine zdf ?_ | refine znt ?_ | refine znf ?_ | refine zcd ?_ | refine zci ?_ | refine zc3 ?_) <;> (conv => whnf)))
                  refine hR5 (y.ports.length - (k + 1)) _ _ (by omega) ⟨_, _, ?_, k + 1, by omega, rfl, hks.succ hek hc, rfl, rfl⟩
                  exact tL [0]
              · ((conv => whnf); repeat ((first | refine yf rfl ?_ | refine yt rfl ?_ | refine yo rfl ?_ | refine yc rfl ?_ | refine ys rfl ?_ | refine ye rfl ?_ | refine yn rfl ?_ | refine zw ?_ | refine zdt ?_ | refine zdf ?_ | refine znt ?_ | refine znf ?_ | refine zcd ?_ | refine zci ?_ | refine zc3 ?_) <;> (conv => whnf)))
                refine hR4 (x.ports.length - (j + 1)) _ _ (by omega) ⟨_, _, ?_, j + 1, by omega, rfl, hjs.succ hej (any_none (hks.all (by omega))), rfl, rfl⟩
                exact tL [0]
            · ((conv => whnf); repeat ((first | refine yf rfl ?_ | refine yt rfl ?_ | refine yo rfl ?_ | refine yc rfl ?_ | refine ys rfl ?_ | refine ye rfl ?_ | refine yn rfl ?_ | refine zw ?_ | refine zdt ?_ | refine zdf ?_ | refine znt ?_ | refine znf ?_ | refine zcd ?_ | refine zci ?_ | refine zc3 ?_) <;> (conv => whnf)))
              refine hR3 (a - (b + 1)) _ _ (by omega) ⟨_, _, ?_, b + 1, by omega, rfl, fun j f hj hf n hn hn2 => ?_, rfl, rfl⟩
              · exact tL [0]
              · by_cases hjb : j < b
                · exact hbs j f hjb hf n hn hn2
                · obtain rfl : j = b := by omega
                  rw [heb] at hf
                  cases hf
                  have := hjs.all (by omega) n hn
                  rw [List.any_eq_false] at this
                  exact this n hn2 (decide_eq_true rfl)
          · ((conv => whnf); repeat ((first | refine yf rfl ?_ | refine yt rfl ?_ | refine yo rfl ?_ | refine yc rfl ?_ | refine ys rfl ?_ | refine ye rfl ?_ | refine yn rfl ?_ | refine zw ?_ | refine zdt ?_ | refine zdf ?_ | refine znt ?_ | refine znf ?_ | refine zcd ?_ | refine zci ?_ | refine zc3 ?_) <;> (conv => whnf)))
            refine hR2 (l.length - (a + 1)) _ _ (by omega) ⟨_, _, ?_, a + 1, by omega, rfl, apt_step hpw hea (fun j f hj hf => hbs j f (by omega) hf), rfl, rfl⟩
            exact tL [0]
        · rw [List.take_of_length_le (by omega)] at hpw
          rw [noClash_iff.2 hpw] at hfe
          ((conv => whnf); repeat ((first | refine yf rfl ?_ | refine yt rfl ?_ | refine yo rfl ?_ | refine yc rfl ?_ | refine ys rfl ?_ | refine ye rfl ?_ | refine yn rfl ?_ | refine zw ?_ | refine zdt ?_ | refine zdf ?_ | refine znt ?_ | refine znf ?_ | refine zcd ?_ | refine zci ?_ | refine zc3 ?_) <;> (conv => whnf)))
          refine hR (s.nodes.length - (i + 1)) _ _ (by omega) ⟨_, _, ?_, i + 1, by omega, rfl, hok.succ he hfe, rfl, rfl⟩
          exact tL [0]
  · clear hR
    rw [any_none (hok.all (by omega))]
    ((conv => whnf); repeat ((first | refine yf rfl ?_ | refine yt rfl ?_ | refine yo rfl ?_ | refine yc rfl ?_ | refine ys rfl ?_ | refine ye rfl ?_ | refine yn rfl ?_ | refine zw ?_ | refine zdt ?_ | refine zdf ?_ | refine znt ?_ | refine znf ?_ | refine zcd ?_ | refine zci ?_ | refine zc3 ?_) <;> (conv => whnf)))
    refine SLoopZ.by (fun q fr st => ∃ i : Nat, i ≤ s.pods.length ∧ q = s.pods.length - i ∧ NoneYet g s.pods i ∧
        fr = [(94, .i .i64 i), (93, .i .i64 (s.pods.map podR).length), (1, .p (.l 0) 0)] ∧
        st = ⟨noG, ⟨1, [(0, .cs [.sl none 6 (s.nodes.map nodeR), .sl none 16 (s.pods.map podR)])]⟩⟩)
      s.pods.length ⟨_, _, ?_, 0, Nat.zero_le _, rfl, NoneYet.zero, rfl, rfl⟩ ?_
    · exact tL [0]
    clear hge hi hok
    rintro q fr st ⟨i, hi, rfl, hok, rfl, rfl⟩ R hR
    (conv => whnf)
    refine SIf.ds (fun hlt => ?_) (fun hge => ?_)
    · have hi' : i < s.pods.length := by omega
      have he := List.getElem?_eq_getElem hi'
      generalize s.pods[i] = e at he
      have hgn := rgetnode_ok hG s e.node hs.nodes
      have hge : g e = !(e.node == [] || (s.nodes.find? fun n => n.name == e.node).isSome) := by rw [hg]
      cases hq : s.nodes.find? (fun n => n.name == e.node) with
      | some n =>
        rw [hq] at hgn
        ((conv => whnf); repeat' ((first | refine SCall.app (Pure.go hgn rfl) ?_ | refine SEx.of (map_get' (by omega) he) ?_ | refine yf rfl ?_ | refine yt rfl ?_ | refine yo rfl ?_ | refine yc rfl ?_ | refine ys rfl ?_ | refine ye rfl ?_ | refine yn rfl ?_ | refine zw ?_ | refine zdt ?_ | refine zdf ?_ | refine znt ?_ | refine znf ?_ | refine zcd ?_ | refine zci ?_ | refine zc3 ?_ | refine SIf.ds (fun _ => ?_) (fun _ => ?_) | refine SIf.ns (fun _ => ?_) (fun _ => ?_) | refine SIf.mk (fun _ => ?_) (fun _ => ?_) | (intro r hr; cases r)) <;> (conv => whnf)))
        all_goals
          refine hR (s.pods.length - (i + 1)) _ _ (by omega) ⟨_, _, ?_, i + 1, by omega, rfl, hok.succ he (by rw [hge, hq]; simp), rfl, rfl⟩
          exact tL [0]
      | none =>
        rw [hq] at hgn
        ((conv => whnf); repeat' ((first | refine SCall.app (Pure.go hgn rfl) ?_ | refine SEx.of (map_get' (by omega) he) ?_ | refine yf rfl ?_ | refine yt rfl ?_ | refine yo rfl ?_ | refine yc rfl ?_ | refine ys rfl ?_ | refine ye rfl ?_ | refine yn rfl ?_ | refine zw ?_ | refine zdt ?_ | refine zdf ?_ | refine znt ?_ | refine znf ?_ | refine zcd ?_ | refine zci ?_ | refine zc3 ?_ | refine SIf.ds (fun _ => ?_) (fun _ => ?_) | refine SIf.ns (fun _ => ?_) (fun _ => ?_) | refine SIf.mk (fun _ => ?_) (fun _ => ?_) | (intro r hr; cases r)) <;> (conv => whnf)))
        all_goals first
          | (refine hR (s.pods.length - (i + 1)) _ _ (by omega) ⟨_, _, ?_, i + 1, by omega, rfl, hok.succ he (by (rw [hge, hq]; simp_all; done)), rfl, rfl⟩; exact tL [0]; done)
          | (refine pure_free rfl ?_; rw [any_some he (by (rw [hge, hq]; simp_all; done))]; rfl)
    · ((conv => whnf); repeat ((first | refine yf rfl ?_ | refine yt rfl ?_ | refine yo rfl ?_ | refine yc rfl ?_ | refine ys rfl ?_ | refine ye rfl ?_ | refine yn rfl ?_ | refine zw ?_ | refine zdt ?_ | refine zdf ?_ | refine znt ?_ | refine znf ?_ | refine zcd ?_ | refine zci ?_ | refine zc3 ?_) <;> (conv => whnf)))
      refine pure_free rfl ?_
      rw [any_none (hok.all (by omega))]
      rfl
end
end Go.Eng
