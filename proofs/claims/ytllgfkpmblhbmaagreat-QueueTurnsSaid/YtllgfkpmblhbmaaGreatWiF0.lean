/-
States of pods alone: with, without, equal.
-/
import Derived.Test.YtllgfkpmblhbmaaGreatWiE
import Derived.Test.YtllgfkpmblhbmaaGreatWiB
set_option linter.unusedVariables false
set_option linter.unusedSimpArgs false
namespace Go.Eng
open Go
/-- Pods that are as a program can hold them. -/
def GoodL (l : List PodD) : Prop := ∀ q ∈ l, q.fit ∧ PodRoom q
theorem GoodL.ok {l : List PodD} (h : GoodL l) (hl : l.length ≤ 100000) : (⟨[], l⟩ : StD).ok :=
  ⟨Nat.zero_le _, (show l.length ≤ _ by omega), (fun _ h => by cases h), fun p hp => (h p hp).1, (show l.length * 248 ≤ _ by omega)⟩
theorem small0 (l : List PodD) : Small ⟨[], l⟩ := fun _ h => by cases h
theorem GoodL.put {l : List PodD} (h : GoodL l) {p : PodD} (hp : p.fit ∧ PodRoom p) : GoodL (putL l p) := fun q hq => by
  rcases putL_mem hq with h1 | h1
  · exact h q h1
  · rw [h1]; exact hp
section
variable {P : Program} (hG : FnsOk P AF.fns.get)
include hG
theorem withL_ok (hI : InsOk P 64) {l : List PodD} {p : PodD} (h : GoodL l) (hl : l.length ≤ 100000) (hp : p.fit ∧ PodRoom p) : Pure P 18 [stV ⟨[], l⟩, .agg (podR p)] (· = stV ⟨[], putL l p⟩) :=
  with_ok hG hI ⟨[], l⟩ p (Nat.zero_le _) (h.ok hl) (small0 l) (fun q hq => (h q hq).2) hp.2 (by show l.length * 248 + 1000 ≤ _; omega)
theorem withoutL_ok {l : List PodD} (h : GoodL l) (hl : l.length ≤ 100000) (g : Str) : Pure P 24 [stV ⟨[], l⟩, .sl none 1 [strR g]] (· = stV ⟨[], l.filter fun q => !([g].any fun g => q.name == g)⟩) :=
  without_ok hG ⟨[], l⟩ [g] (Nat.zero_le _) (h.ok hl) (small0 l) (fun q hq => (h q hq).2) (by unfold LenOk; simp)
theorem eqL_ok {a b : List PodD} (ha : GoodL a) (hb : GoodL b) (la : a.length ≤ 100000) (lb : b.length ≤ 100000) : Pure P 76 [stV ⟨[], a⟩, stV ⟨[], b⟩] (· = .b (decide (a = b))) :=
  eqState0 hG a b (by unfold LenOk; omega) (by unfold LenOk; omega) (fun x hx => (ha x hx).1.toOk) (fun x hx => (hb x hx).1.toOk)
end
end Go.Eng
