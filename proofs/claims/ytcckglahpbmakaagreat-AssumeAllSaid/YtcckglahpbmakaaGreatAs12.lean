/-
AssumeAll, plain: pods that are known, what is taken for done.
-/
import Derived.Test.YtcckglahpbmakaaGreatAs10
set_option linter.unusedVariables false
set_option linter.unusedSimpArgs false
namespace Go.Eng
open Go
structure OpA where
  kind : Int
  d : AsD
  pods : List PodD
def opR (o : OpA) : List V := [.i .i64 o.kind, .s o.d.pod, .s o.d.node, .sl none 1 (o.d.vic.map strR), .i .i64 o.d.uid, .i .i64 o.d.term, .i .i64 o.d.until_, .sl none 16 (o.pods.map podR)]
def cutO (o : OpA) : OpA := ⟨o.kind, { o.d with vic := o.d.vic.take 4 }, o.pods⟩
def WV (lo : Heap) (lv : V) (w : List OpA) : Prop := (lv = .nils ∧ w = []) ∨ (0 < w.length ∧ ∃ t, lv = .sl (some (.l t)) 8 (w.map opR) ∧ t < lo.next ∧ lo.get t = some .spare)
def getK : List PodD → Str → Option PodD
  | [], _ => none
  | p :: r, k => if k = p.name then some p else getK r k
def knM (p : PodD) : V × V := (.s p.name, .agg (podR p))
def stepK (kn : List PodD) (p : PodD) : List PodD := if podB p && (getK kn p.name).isNone then kn ++ [p] else kn
structure KnOk (kn : List PodD) : Prop where
  nd : (kn.map (·.name)).Nodup
  each : ∀ p ∈ kn, PodLen p ∧ podB p = true ∧ p.term ≤ 9223372036854775807
theorem getK_mem : ∀ {kn : List PodD} {k : Str} {p : PodD}, getK kn k = some p → p ∈ kn ∧ p.name = k
  | [], _, _, h => by cases h
  | x :: r, k, p, h => by
    unfold getK at h
    by_cases c : k = x.name
    · rw [if_pos c] at h; cases h; exact ⟨.head _, c.symm⟩
    · rw [if_neg c] at h; obtain ⟨h1, h2⟩ := getK_mem h; exact ⟨.tail _ h1, h2⟩
theorem getK_none : ∀ {kn : List PodD} {k : Str}, getK kn k = none → ∀ p ∈ kn, p.name ≠ k
  | x :: r, k, h, p, hp => by
    unfold getK at h
    by_cases c : k = x.name
    · rw [if_pos c] at h; cases h
    · rw [if_neg c] at h
      cases hp with
      | head => exact fun e => c e.symm
      | tail _ hp => exact getK_none h p hp
theorem mfind_kn (k : Str) : ∀ kn : List PodD, mfind (kn.map knM) (.s k) = (getK kn k).map fun p => .agg (podR p)
  | [] => rfl
  | x :: r => by
    simp only [List.map_cons, knM, mfind, keyEq_s, getK]
    by_cases c : k = x.name
    · rw [if_pos c, if_pos (by simp [c])]; rfl
    · rw [if_neg c, if_neg (by simpa using c)]; exact mfind_kn k r
theorem mput_kn (p : PodD) : ∀ {kn : List PodD}, getK kn p.name = none → mput (kn.map knM) (.s p.name) (.agg (podR p)) = (kn ++ [p]).map knM
  | [], _ => rfl
  | x :: r, h => by
    unfold getK at h
    by_cases c : p.name = x.name
    · rw [if_pos c] at h; cases h
    · rw [if_neg c] at h
      simp only [List.map_cons, knM, mput, keyEq_s, List.cons_append]
      rw [if_neg (by simpa using c)]
      exact congrArg _ (mput_kn p h)
theorem KnOk.step {kn : List PodD} (h : KnOk kn) {p : PodD} (hp : PodLen p) (ht : p.term ≤ 9223372036854775807) : KnOk (stepK kn p) := by
  unfold stepK
  cases hb : podB p && (getK kn p.name).isNone with
  | false => simpa using h
  | true =>
    rw [if_pos rfl]
    simp only [Bool.and_eq_true, Option.isNone_iff_eq_none] at hb
    refine ⟨?_, fun q hq => ?_⟩
    · rw [List.map_append, List.nodup_append]
      refine ⟨h.nd, by simp, fun a ha b hb' => ?_⟩
      obtain ⟨x, hx, rfl⟩ := List.mem_map.1 ha
      simp at hb'
      rw [hb']
      exact getK_none hb.2 x hx
    · rcases List.mem_append.1 hq with hq | hq
      · exact h.each q hq
      · rw [List.mem_singleton.1 hq]; exact ⟨hp, hb.1, ht⟩
def knE (kn : List PodD) : List EnD := kn.map fun p => enP1 p 1
theorem getE_knE (k : Str) : ∀ kn : List PodD, getE (knE kn) (keyP k) = (getK kn k).map fun p => enP1 p 1
  | [] => rfl
  | x :: r => by
    simp only [knE, List.map_cons, getE, getK]
    by_cases c : k = x.name
    · rw [if_pos c, if_pos (show keyP k = (enP1 x 1).key by rw [c]; rfl)]; rfl
    · rw [if_neg c, if_neg (show ¬ keyP k = (enP1 x 1).key from fun e => c (keyP_inj e))]; exact getE_knE k r
theorem getE_nilk : ∀ kn : List PodD, getE (knE kn) [] = none
  | [] => rfl
  | x :: r => by
    simp only [knE, List.map_cons, getE]
    rw [if_neg (show ¬ ([] : Str) = (enP1 x 1).key by simp [enP1, keyP])]
    exact getE_nilk r
def wK (kn : List PodD) (pod : Str) (uid : Int) : Bool :=
  match getK kn pod with
  | some p => decide (p.uid = uid) && decide (p.node = [])
  | none => false
theorem known_kn {kn : List PodD} (h : KnOk kn) : KnownIs (knE kn) (wK kn) := by
  intro pod uid
  unfold wK
  cases hg : getK kn pod with
  | none =>
    refine .inl ⟨?_, rfl⟩
    unfold keyQ
    by_cases c : nameB pod = true
    · rw [if_pos c, getE_knE, hg]; rfl
    · rw [if_neg c]; exact getE_nilk kn
  | some p =>
    obtain ⟨h1, h2⟩ := getK_mem hg
    obtain ⟨p1, p2, p3⟩ := h.each p h1
    have hn : nameB pod = true := by rw [← h2]; exact podB_name p2
    refine .inr ⟨enP1 p 1, p, ?_, hn, p1, p2, p3, rfl, rfl⟩
    unfold keyQ
    rw [if_pos hn, getE_knE, hg]; rfl
theorem knE_ok {kn : List PodD} (h : KnOk kn) : ∀ e ∈ knE kn, EnOk e := by
  intro e he
  obtain ⟨p, hp, rfl⟩ := List.mem_map.1 he
  obtain ⟨_, p2, p3⟩ := h.each p hp
  exact enP1_ok p2 p3 1
theorem okE_knE : ∀ (S kn : List PodD), ((S ++ kn).map (·.name)).Nodup → okE 9 (knE S) (knE kn) = true
  | S, [], _ => rfl
  | S, p :: r, h => by
    have h1 : getK S p.name = none := by
      cases hg : getK S p.name with
      | none => rfl
      | some x =>
        obtain ⟨m1, m2⟩ := getK_mem hg
        rw [List.map_append, List.nodup_append] at h
        exact absurd m2 (h.2.2 _ (List.mem_map.2 ⟨x, m1, rfl⟩) _ (by simp))
    have h2 : okE 9 (knE (S ++ [p])) (knE r) = true := okE_knE (S ++ [p]) r (by simpa using h)
    have h3 : knE (S ++ [p]) = knE S ++ [enP1 p 1] := by unfold knE; simp
    have h4 : (knE (p :: r)) = enP1 p 1 :: knE r := rfl
    rw [h4]
    unfold okE
    rw [← h3, h2, show (enP1 p 1).key = keyP p.name from rfl, getE_knE, h1]
    simp [enP1, keyP]
def qA (kn : List PodD) (now term : Int) (x : OpA) : Bool := decide (x.d.term = term) && (decide (now < x.d.until_) && wK kn x.d.pod x.d.uid)
def leftA (kn : List PodD) (now term : Int) (w : List OpA) : List OpA := w.filter (qA kn now term)
theorem keepA_left (kn : List PodD) (now term : Int) (w : List OpA) : keepA (overA (wK kn) now term) (w.map (·.d)) = (leftA kn now term w).map (·.d) := by
  unfold keepA leftA
  rw [List.filter_map]
  congr 1
  refine List.filter_congr fun x _ => ?_
  simp only [Function.comp, overA, qA]
  rw [Bool.not_or, Bool.not_or, Bool.not_not, Bool.not_not]
  congr 2
  by_cases c : x.d.until_ ≤ now
  · rw [decide_eq_true c, decide_eq_false (by omega)]; rfl
  · rw [decide_eq_false c, decide_eq_true (by omega)]; rfl
end Go.Eng
