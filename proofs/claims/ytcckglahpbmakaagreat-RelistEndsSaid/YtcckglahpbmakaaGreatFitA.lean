/-
Data of the program, and as what it lies in rows.
-/
import Derived.Test.YtcckglahpbmakaaGreatEngD
set_option linter.unusedVariables false
set_option linter.unusedSimpArgs false
namespace Go.Eng
open Go
abbrev Str := List UInt8
def strR (s : Str) : List V := [.s s]
theorem map_get {α β : Type} {f : α → β} {l : List α} {i : Nat} {x : α} (h : l[i]? = some x) : (l.map f)[i]? = some (f x) := by rw [List.getElem?_map, h]; rfl
theorem map_get' {α β : Type} {f : α → β} {l : List α} {i j : Nat} {x : α} (e : j = i) (h : l[i]? = some x) : (l.map f)[j]? = some (f x) := by subst e; exact map_get h
theorem deep_map {α : Type} {R : α → List V} (h : ∀ x, deeps (R x) = some (R x)) : ∀ l : List α, deepElems (l.map R) = some (l.map R)
  | [] => rfl
  | x :: r => by simp only [List.map_cons, deepElems, h x, deep_map h r]
def NoneYet {α : Type} (p : α → Bool) (l : List α) (i : Nat) : Prop := ∀ (j : Nat) (e : α), j < i → l[j]? = some e → p e = false
section
variable {α : Type} {p : α → Bool} {l : List α} {i : Nat} {e : α}
theorem NoneYet.zero : NoneYet p l 0 := fun _ _ h => absurd h (Nat.not_lt_zero _)
theorem NoneYet.succ (h : NoneYet p l i) (he : l[i]? = some e) (hp : p e = false) : NoneYet p l (i + 1) := fun j x hj hx => by
  by_cases hji : j < i
  · exact h j x hji hx
  · obtain rfl : j = i := by omega
    rw [he] at hx; cases hx; exact hp
theorem NoneYet.all (h : NoneYet p l i) (hi : l.length ≤ i) : ∀ x ∈ l, p x = false := fun x hx => by
  obtain ⟨j, hj⟩ := List.mem_iff_getElem?.1 hx
  exact h j x (by have := (List.getElem?_eq_some_iff.1 hj).1; omega) hj
end
/-! What a run asks for most, in few words. -/
section
variable {X Y : Prop}
theorem yf {c : Bool} (h : c = false) (y : Y) : SIf c X Y := .ff h y
theorem yt {c : Bool} (h : c = true) (x : X) : SIf c X Y := .tt h x
theorem yo {β : Type} {o : Option β} {n : Prop} {k : β → Prop} {x : β} (h : o = some x) (hk : k x) : SOpt o n k := .of h hk
theorem yn {β : Type} {o : Option β} {n : Prop} {k : β → Prop} (h : o = none) (hn : n) : SOpt o n k := .no h hn
theorem ye {β : Type} {o : Option β} {k : β → Prop} {x : β} (h : o = some x) (hk : k x) : SEx o k := .of h hk
theorem yc {c : Bool} (h : c = true) (x : X) : SChk c X := ⟨h, x⟩
theorem ys {v u : V} (h : v = u) (x : X) : SSame v u X := ⟨h, x⟩
theorem zdt {p : Prop} [Decidable p] (x : X) (h : p := by omega) : SIf (decide p) X Y := .dt h x
theorem zdf {p : Prop} [Decidable p] (y : Y) (h : ¬ p := by omega) : SIf (decide p) X Y := .df h y
theorem znt {p : Prop} [Decidable p] (x : X) (h : ¬ p := by omega) : SIf (!decide p) X Y := .nt h x
theorem znf {p : Prop} [Decidable p] (y : Y) (h : p := by omega) : SIf (!decide p) X Y := .nf h y
theorem zcd {p : Prop} [Decidable p] (k : X) (h : p := by omega) : SChk (decide p) X := .d h k
theorem zc3 {p q r : Prop} [Decidable p] [Decidable q] [Decidable r] (k : X) (h : p := by omega) (h' : q := by omega) (h2 : r := by omega) : SChk (decide p && decide q && decide r) X := .d3 h h' h2 k
theorem zci {i : Int} {n : Nat} (k : X) (h : 0 ≤ i := by omega) (h' : i < n := by omega) : SChk (idxOk i n) X := .ix h h' k
theorem zw {n : Int} {k : Int → Prop} (hk : k n) (h1 : -9223372036854775808 ≤ n := by omega) (h2 : n ≤ 9223372036854775807 := by omega) : SWrap .i64 n k := .w64 h1 h2 hk
end
end Go.Eng
/-
Library functions on rows: IndexFunc, ContainsFunc, Index, Contains, Equal, EqualFunc, Clone.
-/
namespace Go.Eng
open Go
def ixRes {α : Type} (p : α → Bool) (l : List α) : Int :=
  match l.findIdx? p with
  | some j => j
  | none => -1
theorem findIdx_some {α : Type} {p : α → Bool} {l : List α} {i : Nat} {e : α} (he : l[i]? = some e) (hp : p e = true) (hb : ∀ (j : Nat) (x : α), j < i → l[j]? = some x → p x = false) : ixRes p l = i := by
  have : l.findIdx? p = some i := by
    rw [List.findIdx?_eq_some_iff_getElem]
    obtain ⟨h, rfl⟩ := List.getElem?_eq_some_iff.1 he
    exact ⟨h, hp, fun j hj => by simpa using hb j _ hj (List.getElem?_eq_getElem (by omega))⟩
  rw [ixRes, this]
theorem findIdx_none {α : Type} {p : α → Bool} {l : List α} (hb : ∀ (j : Nat) (x : α), l[j]? = some x → p x = false) : ixRes p l = -1 := by
  have : l.findIdx? p = none := by
    rw [List.findIdx?_eq_none_iff]
    intro x hx
    obtain ⟨j, hj⟩ := List.mem_iff_getElem?.1 hx
    exact hb j x hj
  rw [ixRes, this]
end Go.Eng
