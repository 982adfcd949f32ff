/-
TopoSelf, as the abstract run has it.
-/
import Derived.Test.YtabnhgnnolfpgaaGreatLaw0
import Derived.Test.YtabnhgnnolfpgaaGreatFitF
namespace Go.Eng
open Go
def zzD (p : PodD) (x : Str) : PodD := ⟨[122, 122], p.uid, p.prio, p.req, p.ports, p.labels, p.sel, p.tols, p.topo, p.anti, p.skew, p.even, x, p.term⟩
theorem any_else {p : PodD} {l : List PodD} {f : PodD → Bool} (hf : ∀ q : PodD, (q.name == p.name) = true → f q = false) : l.any f = (elseD p l).any f := by
  rw [elseD, List.any_filter]
  congr 1
  funext q
  cases h : (q.name == p.name)
  · rfl
  · rw [hf q h]; rfl
theorem domain_nodes {s w : StD} (h : w.nodes = s.nodes) (key node : Str) : domainD w key node = domainD s key node := by
  unfold domainD
  rw [h]
theorem self_apart {s w : StD} {p : PodD} (hn : w.nodes = s.nodes) (hr : elseD p w.pods = elseD p s.pods) (node : Str) : apartD w p node = apartD s p node := by
  have hb : badD w p node = badD s p node := by
    funext q
    simp only [badD, keepsD, sameD, domain_nodes hn]
  have h1 : ∀ q : PodD, (q.name == p.name) = true → badD s p node q = false := fun q h => by
    simp only [badD, h, Bool.true_or, Bool.not_true, Bool.false_and]
  simp only [apartD, domain_nodes hn, hb]
  rw [any_else (l := w.pods) h1, any_else (l := s.pods) h1, hr]
theorem self_even {s w : StD} {p : PodD} (hn : w.nodes = s.nodes) (hr : elseD p w.pods = elseD p s.pods) (node : Str) : evenD w p node = evenD s p node := by
  have ho : othersD w p = othersD s p := by
    unfold othersD
    unfold elseD at hr
    obtain ⟨a, b⟩ := w
    obtain ⟨c, d⟩ := s
    simp only at hn hr ⊢
    rw [hn, hr]
  simp only [evenD, domain_nodes hn, ho, hn]
theorem WithOf.ok {s w : StD} {q : PodD} (h : WithOf s q w) (hs : s.ok) (hl : s.pods.length ≤ 16) (hq : q.fit) : w.ok := by
  have h1 := h.len
  refine ⟨by rw [h.nodes]; exact hs.nodes, by unfold LenOk; omega, fun n hn => hs.node n (h.nodes ▸ hn), fun p hp => ?_, by omega⟩
  rcases h.pods p hp with hp | rfl
  · exact hs.pod p hp
  · exact hq
section
variable {P : Program} (hG : FnsOk P AF.fns.get)
include hG
set_option maxHeartbeats 4000000 in
set_option maxRecDepth 10000 in
theorem topoSelf_ok (hb : ACall P 10 [] noG (fun r _ => r = .b true)) (s : StD) (p : PodD) (node : Str) (hs : s.arg) (hp : p.fit ∧ p.sok) :
    ACall P 4 [stV s, .agg (podR p), .s node] noG (fun r _ => r = .b true) := by
  refine fn_sz (hG _ AF.f4 rfl) rfl ?_
  ((conv => whnf); repeat ((first | refine yf rfl ?_ | refine yt rfl ?_ | refine yo rfl ?_ | refine yc rfl ?_ | refine ys rfl ?_ | refine ye rfl ?_ | refine yn rfl ?_ | refine zw ?_ | refine zdt ?_ | refine zdf ?_ | refine znt ?_ | refine znf ?_ | refine zcd ?_ | refine zci ?_ | refine zc3 ?_) <;> (conv => whnf)))
  refine ⟨hb.frame rfl fun v h' hv => ?_⟩
  subst hv
  refine ⟨rfl, ?_⟩
  ((conv => whnf); repeat ((first | refine yf rfl ?_ | refine yt rfl ?_ | refine yo rfl ?_ | refine yc rfl ?_ | refine ys rfl ?_ | refine ye rfl ?_ | refine yn rfl ?_ | refine zw ?_ | refine zdt ?_ | refine zdf ?_ | refine znt ?_ | refine znf ?_ | refine zcd ?_ | refine zci ?_ | refine zc3 ?_) <;> (conv => whnf)))
  refine SCall.mk (Pure.state (hs.cut hG) rfl fun w hw => ?_)
  have hwo := hw.ok hs
  have hpl := hw.plen
  have hpo := hp.1.toOk
  have h1o : ∀ x, (zzD p x).fit := fun x => ⟨⟨hpo.ports, hpo.labels, hpo.tols, hpo.sel, hpo.anti, hpo.even⟩, hp.1.req⟩
  have a1 := apart_ok hG w (zzD p p.node) node hwo (h1o _).toOk
  have b1 := even_ok hG w (zzD p p.node) node hwo (h1o _).toOk
  have c1 := rwith_ok hG w (zzD p []) (by omega)
  ((conv => whnf); repeat ((first | refine yf rfl ?_ | refine yt rfl ?_ | refine yo rfl ?_ | refine yc rfl ?_ | refine ys rfl ?_ | refine ye rfl ?_ | refine yn rfl ?_ | refine zw ?_ | refine zdt ?_ | refine zdf ?_ | refine znt ?_ | refine znf ?_ | refine zcd ?_ | refine zci ?_ | refine zc3 ?_) <;> (conv => whnf)))
  refine SCall.mk (Pure.state c1 rfl fun t ht => ?_)
  have hto := ht.ok hwo hpl (h1o _)
  have a2 := apart_ok hG t (zzD p p.node) node hto (h1o _).toOk
  have b2 := even_ok hG t (zzD p p.node) node hto (h1o _).toOk
  have ra : apartD t (zzD p p.node) node = apartD w (zzD p p.node) node := self_apart (p := zzD p p.node) ht.nodes ht.rest node
  have re : evenD t (zzD p p.node) node = evenD w (zzD p p.node) node := self_even (p := zzD p p.node) ht.nodes ht.rest node
  rw [ra] at a2
  rw [re] at b2
  generalize hx : apartD w (zzD p p.node) node = x at a1 a2
  generalize hy : evenD w (zzD p p.node) node = y at b1 b2
  have hnm : (w.nodes.map nodeR).length = w.nodes.length := List.length_map _
  by_cases h0 : w.nodes.length = 0
  · cases x <;> cases y
    all_goals ((conv => whnf); repeat ((first | refine SCall.app (Pure.go a1 rfl) ?_ | refine SCall.app (Pure.go a2 rfl) ?_ | refine SCall.app (Pure.go b1 rfl) ?_ | refine SCall.app (Pure.go b2 rfl) ?_ | refine yf rfl ?_ | refine yt rfl ?_ | refine yo rfl ?_ | refine yc rfl ?_ | refine ys rfl ?_ | refine ye rfl ?_ | refine yn rfl ?_ | refine zw ?_ | refine zdt ?_ | refine zdf ?_ | refine znt ?_ | refine znf ?_ | refine zcd ?_ | refine zci ?_ | refine zc3 ?_) <;> (conv => whnf)))
    all_goals rfl
  · have h0' : 0 < w.nodes.length := by omega
    have he := List.getElem?_eq_getElem h0'
    generalize w.nodes[0] = e at he
    have c3 := rwith_ok hG w (zzD p e.name) (by omega)
    cases x <;> cases y
    all_goals ((conv => whnf); repeat ((first | refine SCall.app (Pure.go a1 rfl) ?_ | refine SCall.app (Pure.go a2 rfl) ?_ | refine SCall.app (Pure.go b1 rfl) ?_ | refine SCall.app (Pure.go b2 rfl) ?_ | refine SEx.of (map_get' (by omega) he) ?_ | refine yf rfl ?_ | refine yt rfl ?_ | refine yo rfl ?_ | refine yc rfl ?_ | refine ys rfl ?_ | refine ye rfl ?_ | refine yn rfl ?_ | refine zw ?_ | refine zdt ?_ | refine zdf ?_ | refine znt ?_ | refine znf ?_ | refine zcd ?_ | refine zci ?_ | refine zc3 ?_) <;> (conv => whnf)))
    all_goals
      refine SCall.mk (Pure.state c3 rfl fun u hu => ?_)
      have huo := hu.ok hwo hpl (h1o _)
      have a3 := apart_ok hG u (zzD p p.node) node huo (h1o _).toOk
      have b3 := even_ok hG u (zzD p p.node) node huo (h1o _).toOk
      have ra3 : apartD u (zzD p p.node) node = apartD w (zzD p p.node) node := self_apart (p := zzD p p.node) hu.nodes hu.rest node
      have re3 : evenD u (zzD p p.node) node = evenD w (zzD p p.node) node := self_even (p := zzD p p.node) hu.nodes hu.rest node
      rw [ra3, hx] at a3
      rw [re3, hy] at b3
      ((conv => whnf); repeat ((first | refine SCall.app (Pure.go a1 rfl) ?_ | refine SCall.app (Pure.go a3 rfl) ?_ | refine SCall.app (Pure.go b1 rfl) ?_ | refine SCall.app (Pure.go b3 rfl) ?_ | refine yf rfl ?_ | refine yt rfl ?_ | refine yo rfl ?_ | refine yc rfl ?_ | refine ys rfl ?_ | refine ye rfl ?_ | refine yn rfl ?_ | refine zw ?_ | refine zdt ?_ | refine zdf ?_ | refine znt ?_ | refine znf ?_ | refine zcd ?_ | refine zci ?_ | refine zc3 ?_) <;> (conv => whnf)))
      rfl
end
end Go.Eng
