/-
What a tree of asks needs ('T.wp'), what a call promises ('ACall').
-/
import Derived.Test.YtfobkjdmohaakaaGreatEngRel
namespace Go.Eng
open Go

def wIf (c : Bool) (X Y : Prop) : Prop := (c = true → X) ∧ (c = false → Y)
def wEx {β : Type} (o : Option β) (k : β → Prop) : Prop := ∃ x, o = some x ∧ k x
def wOpt {β : Type} (o : Option β) (n : Prop) (k : β → Prop) : Prop := (o = none → n) ∧ (∀ x, o = some x → k x)
def wChk (c : Bool) (k : Prop) : Prop := c = true ∧ k
def wWrap (kd : IntKind) (n : Int) (k : Int → Prop) : Prop := k (kd.wrap n) ∨ (kd.min ≤ n ∧ n ≤ kd.max ∧ k n)

theorem wIf_t {c : Bool} {X Y : Prop} (h : c = true) (x : X) : wIf c X Y := ⟨fun _ => x, fun h' => (by rw [h] at h'; cases h')⟩
theorem wIf_f {c : Bool} {X Y : Prop} (h : c = false) (y : Y) : wIf c X Y := ⟨fun h' => (by rw [h] at h'; cases h'), fun _ => y⟩
theorem wIf_s {c : Bool} {X Y : Prop} (x : c = true → X) (y : c = false → Y) : wIf c X Y := ⟨x, y⟩
theorem wEx_i {β : Type} {o : Option β} {k : β → Prop} {x : β} (h : o = some x) (hk : k x) : wEx o k := ⟨x, h, hk⟩
theorem wOpt_n {β : Type} {o : Option β} {n : Prop} {k : β → Prop} (h : o = none) (hn : n) : wOpt o n k := ⟨fun _ => hn, fun x hx => by rw [h] at hx; cases hx⟩
theorem wOpt_i {β : Type} {o : Option β} {n : Prop} {k : β → Prop} {x : β} (h : o = some x) (hk : k x) : wOpt o n k :=
  ⟨fun hn => (by rw [h] at hn; cases hn), fun y hy => by rw [h] at hy; cases hy; exact hk⟩
theorem wOpt_s {β : Type} {o : Option β} {n : Prop} {k : β → Prop} (hn : o = none → n) (hk : ∀ x, o = some x → k x) : wOpt o n k := ⟨hn, hk⟩
theorem wChk_i {c : Bool} {k : Prop} (h : c = true) (hk : k) : wChk c k := ⟨h, hk⟩
theorem wWrap_i {kd : IntKind} {n : Int} {k : Int → Prop} (h : kd.min ≤ n) (h' : n ≤ kd.max) (hk : k n) : wWrap kd n k := .inr ⟨h, h', hk⟩
theorem wWrap_w {kd : IntKind} {n : Int} {k : Int → Prop} (hk : k (kd.wrap n)) : wWrap kd n k := .inl hk

theorem wrap_of_in {kd : IntKind} {n : Int} (h : kd.min ≤ n) (h' : n ≤ kd.max) : kd.wrap n = n := by
  cases kd <;> simp [IntKind.wrap, IntKind.min, IntKind.max, IntKind.bits, IntKind.signed] at * <;> (try split) <;> omega
theorem wWrap_iff {kd : IntKind} {n : Int} {k : Int → Prop} : wWrap kd n k ↔ k (kd.wrap n) := by
  constructor
  · rintro (h | ⟨h1, h2, h3⟩)
    · exact h
    · rwa [wrap_of_in h1 h2]
  · exact .inl

abbrev CallP := Nat → List V → Heap → (V → Heap → Prop) → Prop

def T.wp {α : Type} (A : CallP) : T α → (α → Prop) → Prop
  | .ret a, K => K a
  | .ite c t e, K => wIf c (t.wp A K) (e.wp A K)
  | .elem o k, K => wEx o fun x => (k x).wp A K
  | .byte o k, K => wEx o fun x => (k x).wp A K
  | .els o k, K => wEx o fun x => (k x).wp A K
  | .bys o k, K => wEx o fun x => (k x).wp A K
  | .obj o k, K => wEx o fun x => (k x).wp A K
  | .optc o n k, K => wOpt o (n.wp A K) fun x => (k x).wp A K
  | .chk c k, K => wChk c (k.wp A K)
  | .wrap kd n k, K => wWrap kd n fun x => (k x).wp A K
  | .any k, K => ∀ r, (k r).wp A K
  | .same v u k, K => v = u ∧ k.wp A K
  | .call f as h k, K => A f as h fun r h' => (k r h').wp A K
  | .fail, _ => False

def CallP.Mono (A : CallP) : Prop := ∀ f as h (K K' : V → Heap → Prop), (∀ r h', K r h' → K' r h') → A f as h K → A f as h K'

theorem T.wp_mono {α : Type} {A : CallP} (hA : A.Mono) {t : T α} : ∀ {K K' : α → Prop}, (∀ a, K a → K' a) → t.wp A K → t.wp A K' := by
  induction t with
  | ret a => exact fun h hk => h _ hk
  | ite c t e iht ihe => exact fun h hk => ⟨fun hc => iht h (hk.1 hc), fun hc => ihe h (hk.2 hc)⟩
  | elem o k ih => exact fun h ⟨x, hx, hk⟩ => ⟨x, hx, ih x h hk⟩
  | byte o k ih => exact fun h ⟨x, hx, hk⟩ => ⟨x, hx, ih x h hk⟩
  | els o k ih => exact fun h ⟨x, hx, hk⟩ => ⟨x, hx, ih x h hk⟩
  | bys o k ih => exact fun h ⟨x, hx, hk⟩ => ⟨x, hx, ih x h hk⟩
  | obj o k ih => exact fun h ⟨x, hx, hk⟩ => ⟨x, hx, ih x h hk⟩
  | optc o n k ihn ih => exact fun h hk => ⟨fun hn => ihn h (hk.1 hn), fun x hx => ih x h (hk.2 x hx)⟩
  | chk c k ih => exact fun h hk => ⟨hk.1, ih h hk.2⟩
  | wrap kd n k ih => exact fun h hk => hk.imp (ih _ h) fun ⟨a, b, c⟩ => ⟨a, b, ih _ h c⟩
  | any k ih => exact fun h hk r => ih r h (hk r)
  | same v u k ih => exact fun h hk => ⟨hk.1, ih h hk.2⟩
  | call f as hh k ih => exact fun h hk => hA _ _ _ _ _ (fun r h' hr => ih r h' h hr) hk
  | fail => exact fun _ hk => hk

theorem T.wp_bind {α β : Type} {A : CallP} (t : T α) (f : α → T β) (K : β → Prop) : (t.bind f).wp A K = t.wp A fun a => (f a).wp A K := by
  induction t with
  | ret a => rfl
  | ite c t e iht ihe => simp only [T.bind, T.wp, iht, ihe]
  | elem o k ih => simp only [T.bind, T.wp, ih]
  | byte o k ih => simp only [T.bind, T.wp, ih]
  | els o k ih => simp only [T.bind, T.wp, ih]
  | bys o k ih => simp only [T.bind, T.wp, ih]
  | obj o k ih => simp only [T.bind, T.wp, ih]
  | optc o n k ihn ih => simp only [T.bind, T.wp, ihn, ih]
  | chk c k ih => simp only [T.bind, T.wp, ih]
  | wrap kd n k ih => simp only [T.bind, T.wp, ih]
  | any k ih => simp only [T.bind, T.wp, ih]
  | same v u k ih => simp only [T.bind, T.wp, ih]
  | call g as h k ih => simp only [T.bind, T.wp, ih]
  | fail => rfl

def noL : Heap := ⟨0, []⟩
abbrev gst (h : Heap) : St := ⟨h, noL⟩

/-- A function with a body of its own. -/
def bodyOk (P : Program) (f : Nat) : Bool :=
  match P.funcs[f]? with
  | some fn => fn.body.isSome && !(fn.name == "runtime.NumGoroutine")
  | none => false

/-- CALLED WITH THESE, IN SUCH A HEAP, f returns: a value and a heap of which K holds. -/
def ACall (P : Program) : CallP := fun f args h K => bodyOk P f = true ∧
  ∀ (E : Env) (w : World) (vs : Array Value), E.nl = 0 → Sim E (gst h) w → RelL E args vs →
    Calls P f vs w fun e w' => ∃ v x h' E', K v h' ∧ e = .returned x ∧ E'.nl = 0 ∧ Sim E' (gst h') w' ∧ Ext E (gst h) w E' (gst h') w' ∧ Rel E' v x

theorem ACall.mono (P : Program) : (ACall P).Mono := fun _ _ _ _ _ hK hA => ⟨hA.1, fun E w vs hn hs hv =>
  (hA.2 E w vs hn hs hv).mono fun _ _ ⟨v, x, h', E', h1, h2, h3, h4, h5, h6⟩ => ⟨v, x, h', E', hK _ _ h1, h2, h3, h4, h5, h6⟩⟩

theorem noL_get (n : Nat) : noL.get n = none := rfl
theorem gst_live {h : Heap} {k : Key} (hk : (gst h).live k) : ∃ n, k = .g n ∧ ∃ o, h.get n = some o := by
  obtain ⟨o, ho⟩ := hk
  cases k with
  | g n => exact ⟨n, rfl, o, ho⟩
  | l n => simp [St.get, noL_get] at ho

theorem out_rel {E : Env} {v v' : V} {x : Value} (h : v.out = some v') (hr : Rel E v x) : Rel E.cut v' x := by
  unfold V.out at h
  split at h <;> simp only [Option.some.injEq, reduceCtorEq] at h <;> subst h
  all_goals (cases hr)
  all_goals (first
    | exact .deep ‹_›
    | exact .nilp
    | exact .nilm
    | exact .nilf
    | exact .p (E := E.cut) (.g _) _ ‹_›
    | exact .pa (E := E.cut) (.g _) _ _ _ ‹_›
    | exact .m (E := E.cut) (.g _) ‹_›
    | exact .tsl (E := E.cut) (.g _) _ _ _ _ ‹_› ‹_› ‹_› ‹_›
    | exact .ms (E := E.cut) (.g _) _ _ _ _ _ ‹_› ‹_› ‹_› ‹_› ‹_›
    | (exact .deep (by assumption))
    | skip)
  all_goals (rename_i hd; cases hd)
theorem outs_rel {E : Env} : ∀ {l l' : List V} {a : Array Value}, V.outs l = some l' → RelL E l a → RelL E.cut l' a := by
  intro l
  induction l with
  | nil =>
    intro l' a h hr
    simp only [V.outs, Option.some.injEq] at h
    subst h
    exact ⟨hr.1, fun j v x hj => by simp at hj⟩
  | cons v r ih =>
    intro l' a h hr
    simp only [V.outs] at h
    split at h
    · rename_i v' r' hv hrr
      simp only [Option.some.injEq] at h
      subst h
      have hsz : a.size = r.length + 1 := hr.1
      have htl : RelL E r (a.extract 1 a.size) := ⟨by simp [hsz], fun j u x hj hx => hr.2 (j + 1) u x (by simpa using hj) (by
        rw [Array.getElem?_extract] at hx
        split at hx
        · rw [Nat.add_comm]; exact hx
        · cases hx)⟩
      have ht := ih hrr htl
      have hl : r'.length = r.length := by have h1 := ht.1; have h2 := htl.1; omega
      refine ⟨by simp [hsz, hl], fun j u x hj hx => ?_⟩
      cases j with
      | zero =>
        simp only [List.getElem?_cons_zero, Option.some.injEq] at hj
        subst hj
        exact out_rel hv (hr.2 0 v x (by simp) hx)
      | succ j =>
        refine ht.2 j u x (by simpa using hj) ?_
        have hlt : j + 1 < a.size := (Array.getElem?_eq_some_iff.1 hx).1
        rw [Array.getElem?_extract, if_pos (by omega), Nat.add_comm]
        exact hx
    · cases h
theorem RelL.append {E : Env} {l r : List V} {a b : Array Value} (h : RelL E l a) (g : RelL E r b) : RelL E (l ++ r) (a ++ b) := by
  refine ⟨by simp [h.1, g.1], fun j v x hj hx => ?_⟩
  rw [Array.getElem?_append] at hx
  rw [List.getElem?_append] at hj
  rw [h.1] at hx
  split at hj
  · rename_i hlt
    rw [if_pos hlt] at hx
    exact h.2 j v x hj hx
  · rename_i hlt
    rw [if_neg hlt] at hx
    exact g.2 _ v x hj hx
theorem pass_rel {E : Env} {v v' : V} {x : Value} (h : v.pass = some v') (hr : Rel E v x) : Rel E.cut v' x := by
  unfold V.pass at h
  split at h
  · split at h
    · rename_i cs _ y hy
      simp only [Option.some.injEq] at h
      subst h
      cases hr with
      | deep hd => cases hd
      | agg _ a ha h1 hra =>
        have := outs_rel hy ⟨ha, hra⟩
        exact .agg _ _ this.1 h1 this.2
    · cases h
  · split at h
    · rename_i f a c _ _ y z hy hz
      simp only [Option.some.injEq] at h
      subst h
      cases hr with
      | deep hd => cases hd
      | fn _ _ _ a' c' ha hc hra hrc =>
        have h1 := outs_rel hy ⟨ha, hra⟩
        have h2 := outs_rel hz ⟨hc, hrc⟩
        exact .fn _ _ _ _ _ h1.1 h2.1 h1.2 h2.2
    · cases h
  · exact out_rel h hr
theorem passes_rel {E : Env} : ∀ {l l' : List V} {a : Array Value}, passes l = some l' → RelL E l a → RelL E.cut l' a := by
  intro l
  induction l with
  | nil =>
    intro l' a h hr
    simp only [passes, Option.some.injEq] at h
    subst h
    exact ⟨hr.1, fun j v x hj => by simp at hj⟩
  | cons v r ih =>
    intro l' a h hr
    simp only [passes] at h
    split at h
    · rename_i v' r' hv hrr
      simp only [Option.some.injEq] at h
      subst h
      have hsz : a.size = r.length + 1 := hr.1
      have htl : RelL E r (a.extract 1 a.size) := ⟨by simp [hsz], fun j u x hj hx => hr.2 (j + 1) u x (by simpa using hj) (by
        rw [Array.getElem?_extract] at hx
        split at hx
        · rw [Nat.add_comm]; exact hx
        · cases hx)⟩
      have ht := ih hrr htl
      have hl : r'.length = r.length := by have h1 := ht.1; have h2 := htl.1; omega
      refine ⟨by simp [hsz, hl], fun j u x hj hx => ?_⟩
      cases j with
      | zero =>
        simp only [List.getElem?_cons_zero, Option.some.injEq] at hj
        subst hj
        exact pass_rel hv (hr.2 0 v x (by simp) hx)
      | succ j =>
        refine ht.2 j u x (by simpa using hj) ?_
        have hlt : j + 1 < a.size := (Array.getElem?_eq_some_iff.1 hx).1
        rw [Array.getElem?_extract, if_pos (by omega), Nat.add_comm]
        exact hx
    · cases h

/-- The memory of a call's tree stands as the caller left it. -/
theorem Sim.cut {E : Env} {st : St} {w : World} (h : Sim E st w) : Sim E.cut (gst st.g) w := by
  have hl : ∀ k, (gst st.g).live k → st.live k := by
    intro k hk
    obtain ⟨n, rfl, o, ho⟩ := gst_live hk
    exact ⟨o, ho⟩
  refine ⟨h.ng, rfl, ?_, h.imm, ?_, fun k k' hk hk' hne => h.sep k k' (hl k hk) (hl k' hk') hne, fun k hk => h.own k (hl k hk)⟩
  · intro k hk
    obtain ⟨n, rfl, o, ho⟩ := gst_live hk
    exact h.dom (.g n) ⟨o, ho⟩
  · intro k o hk
    obtain ⟨n, rfl, o', ho'⟩ := gst_live ⟨o, hk⟩
    exact h.obj (.g n) o hk

/-- The environment behind a call: the callee's on what is of the whole tree, the caller's on its own. -/
def Env.join (E E' : Env) : Env where
  I := E'.I
  μ k := match k with
    | .g _ => E'.μ k
    | .l _ => E.μ k
  ng := E'.ng
  nl := E.nl
theorem Sim.back {E E' : Env} {st : St} {h' : Heap} {w w' : World} (h : Sim E st w) (hn : E'.nl = 0) (hs : Sim E' (gst h') w')
    (he : Ext E.cut (gst st.g) w E' (gst h') w') : Sim (E.join E') ⟨h', st.l⟩ w' ∧ Ext E st w (E.join E') ⟨h', st.l⟩ w' ∧ E'.Le (E.join E') := by
  have hle : E.Le (E.join E') := by
    refine ⟨fun b o x hx => he.le.imm b o x hx, he.le.ng, Nat.le_refl _, ?_⟩
    intro k hk
    cases k with
    | g n => exact he.le.loc (.g n) hk
    | l n => rfl
  have hle' : E'.Le (E.join E') := by
    refine ⟨fun b o x hx => hx, Nat.le_refl _, by rw [hn]; exact Nat.zero_le _, ?_⟩
    intro k hk
    cases k with
    | g n => rfl
    | l n => simp [Env.has, hn] at hk
  have hlg : ∀ n, st.live (.g n) → (gst st.g).live (.g n) := fun n ⟨o, ho⟩ => ⟨o, ho⟩
  have hlg' : ∀ k, (gst st.g).live k → st.live k := by
    intro k hk
    obtain ⟨n, rfl, o, ho⟩ := gst_live hk
    exact ⟨o, ho⟩
  -- an object of the caller's own lies apart from all that the callee may write
  have hapart : ∀ n, st.live (.l n) → ∀ k, (gst st.g).live k → (E.cut.μ k).blk ≠ (E.μ (.l n)).blk := by
    intro n hl k hk
    obtain ⟨m, rfl, o, ho⟩ := gst_live hk
    exact h.sep (.g m) (.l n) ⟨o, ho⟩ hl (by simp)
  have hlive : ∀ k, St.live ⟨h', st.l⟩ k → (∃ n, k = .g n ∧ (gst h').live (.g n)) ∨ ∃ n, k = .l n ∧ st.live (.l n) := by
    rintro (n | n) ⟨o, ho⟩
    · exact .inl ⟨n, rfl, o, ho⟩
    · exact .inr ⟨n, rfl, o, ho⟩
  have hsame : ∀ n, st.live (.l n) → w'.heap[(E.μ (.l n)).blk]? = w.heap[(E.μ (.l n)).blk]? := fun n hl =>
    he.same _ (h.lt hl) (hapart n hl)
  have hgl : ∀ n m, (gst h').live (.g n) → st.live (.l m) → (E'.μ (.g n)).blk ≠ (E.μ (.l m)).blk := by
    intro n m hg hl
    by_cases ha : E.cut.has (.g n)
    · rw [he.le.loc _ ha]
      exact hapart m hl _ (he.keyOld _ hg ha)
    · rcases he.keyNew _ hg ha with h1 | ⟨k0, h1, h2⟩
      · have := h.lt hl
        omega
      · rw [← h2]
        exact hapart m hl _ h1
  refine ⟨⟨hs.ng, h.nl, ?_, hs.imm, ?_, ?_, ?_⟩, ⟨hle, he.size, ?_, ?_, ?_, ?_, he.os, he.out, he.tape⟩, hle'⟩
  · intro k hk
    rcases hlive k hk with ⟨n, rfl, hg⟩ | ⟨n, rfl, hl⟩
    · exact hle'.has (hs.dom _ hg)
    · exact hle.has (h.dom _ hl)
  · intro k o hk
    cases k with
    | g n =>
      have := hs.obj (.g n) o hk
      exact this.keep (Env.cut_mono hle') rfl
    | l n =>
      have := h.obj (.l n) o hk
      exact this.keep hle (hsame n ⟨o, hk⟩)
  · intro a b ha hb hne
    rcases hlive a ha with ⟨n, rfl, hg⟩ | ⟨n, rfl, hl⟩ <;> rcases hlive b hb with ⟨m, rfl, hg'⟩ | ⟨m, rfl, hl'⟩
    · exact hs.sep _ _ hg hg' hne
    · exact hgl n m hg hl'
    · exact fun e => hgl m n hg' hl e.symm
    · exact h.sep _ _ hl hl' hne
  · intro k hk j h1 h2
    rcases hlive k hk with ⟨n, rfl, hg⟩ | ⟨n, rfl, hl⟩
    · exact hs.own _ hg j h1 h2
    · show E'.I _ j = none
      cases hx : E'.I (E.μ (.l n)).blk j with
      | none => exact hx
      | some x =>
        rcases he.immNew _ _ _ hx with h3 | h3 | ⟨k0, h3, h4⟩
        · have := h.own _ hl j h1 h2
          rw [show E.cut.I = E.I from rfl, this] at h3
          cases h3
        · have := h.lt hl
          omega
        · exact absurd h4 (hapart n hl _ h3)
  · intro b o x hx
    rcases he.immNew b o x hx with h1 | h1 | ⟨k, h1, h2⟩
    · exact .inl h1
    · exact .inr (.inl h1)
    · exact .inr (.inr ⟨k, hlg' k h1, h2⟩)
  · intro k hk ha
    rcases hlive k hk with ⟨n, rfl, hg⟩ | ⟨n, rfl, hl⟩
    · exact hlg' _ (he.keyOld _ hg ha)
    · exact hl
  · intro k hk ha
    rcases hlive k hk with ⟨n, rfl, hg⟩ | ⟨n, rfl, hl⟩
    · rcases he.keyNew _ hg ha with h1 | ⟨k0, h1, h2⟩
      · exact .inl h1
      · exact .inr ⟨k0, hlg' k0 h1, h2⟩
    · exact absurd (h.dom _ hl) ha
  · intro b hb hn
    exact he.same b hb fun k hk => by
      have := hn k (hlg' k hk)
      obtain ⟨n, rfl, o, ho⟩ := gst_live hk
      exact this

/-- A contract at a call. -/
theorem ACall.use {P : Program} {f : Nat} {vs : List V} {E : Env} {st : St} {w : World} (hs : Sim E st w) {args : List V} {a : Array Value} (hp : passes args = some vs)
    (ha : RelL E args a) {K : V → Heap → Prop} (h : ACall P f vs st.g K) {next : Value → World → Prop}
    (hK : ∀ v h' E' w' x, K v h' → Sim E' ⟨h', st.l⟩ w' → Ext E st w E' ⟨h', st.l⟩ w' → Rel E' v x → next x w') {Q : Exit → Act → World → Prop} {act : Act} :
    Calls P f a w fun
      | .returned v, w' => next v w'
      | .panicked chain, w' => Q (.panic chain) act w'
      | .outgrown, _ => LetsOut Q := by
  refine (h.2 E.cut w a rfl hs.cut (passes_rel hp ha)).mono ?_
  rintro e w' ⟨v, x, h', E', hk, rfl, hn, hs', he, hr⟩
  obtain ⟨h1, h2, h3⟩ := hs.back hn hs' he
  exact hK v h' _ w' x hk h1 h2 (hr.mono h3)
end Go.Eng
