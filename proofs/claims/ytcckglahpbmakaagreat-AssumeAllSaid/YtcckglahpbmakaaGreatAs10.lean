/-
AssumeOnce: of one pod one thing is taken for done at a time, until its time.
-/
import Derived.Test.YtcckglahpbmakaaGreatAsA
import Derived.Test.YtcckglahpbmakaaGreatLeqA
import Derived.Test.YtcckglahpbmakaaGreatArgX
set_option linter.unusedVariables false
set_option linter.unusedSimpArgs false
namespace Go.Eng
open Go
theorem encPod_len {p : PodD} (hp : PodSmall p) : (encPod p).length ≤ 400000 := by
  have h1 := flatW_len encPort 2 p.ports fun _ _ => Nat.le_of_eq (numB_len _ _)
  have h2 := flatW_len encTol 17 p.tols fun t _ => Nat.le_of_eq (encTol_len t)
  have h3 := encPairs_len hp.labels
  have h4 := encTerms_len hp.sel hp.selv
  have h5 := encTerms_len hp.anti hp.antiv
  have h6 := encTerms_len hp.even hp.evenv
  have := hp.ports
  have := hp.tols
  unfold encPod encPorts encTols
  simp only [List.length_append, numB_len, encName_len, encRes_len]
  omega
theorem podB_name {p : PodD} (h : podB p = true) : nameB p.name = true := by
  unfold podB at h
  simp only [Bool.and_eq_true] at h
  exact h.1
theorem podB_uid {p : PodD} (h : podB p = true) : 1 ≤ p.uid := by
  unfold podB at h
  simp only [Bool.and_eq_true, decide_eq_true_eq] at h
  omega
def enP1 (p : PodD) (rev : Int) : EnD := ⟨keyP p.name, rev, encPod p⟩
theorem enP1_ok {p : PodD} (h : podB p = true) (ht : p.term ≤ 9223372036854775807) (rev : Int) : EnOk (enP1 p rev) := by
  have h1 := encPod_len (pod_read h ht).small
  have h2 := (nameB_ok (podB_name h)).1
  exact ⟨by show (encPod p).length * 1 ≤ _; omega, by show (keyP p.name).length ≤ _; unfold keyP; simp; omega⟩
theorem keyP_inj {a b : Str} (h : keyP a = keyP b) : a = b := by
  unfold keyP at h
  simpa using h
section
variable {P : Program} (hG : FnsOk P AF.fns.get)
include hG
end
end Go.Eng
