/-
The abstract machine, once more, in a form that the kernel carries out with less work; it is the same.
-/
import Derived.Test.YtcmknonnlnobnaaGreatEngC
namespace Go.Eng
open Go
noncomputable def getF (fr : Fr) : Nat → V := List.rec (motive := fun _ => Nat → V) (fun _ => .junk) (fun q _ ih n => match Nat.beq q.1 n with
 | true => q.2
 | false => ih n) fr
theorem getF_eq : ∀ (fr : Fr) (n : Nat), getF fr n = fr.get n
 | [], n => rfl
 | (k, v) :: r, n => by
  show (match Nat.beq k n with | true => v | false => getF r n) = if k = n then v else Fr.get r n
  rw [getF_eq r n]
  by_cases h : k = n
  · subst h; simp
  · have : Nat.beq k n = false := by
     cases hb : Nat.beq k n with
     | true => exact absurd (Nat.eq_of_beq_eq_true hb) h
     | false => rfl
    rw [this, if_neg h]
noncomputable def evF (fr : Fr) (x : Opd) : V := Opd.rec (motive := fun _ => Fr → V) (fun n fr => getF fr n) (fun v _ => v) x fr
theorem evF_eq (fr : Fr) (x : Opd) : evF fr x = x.ev fr := by
 cases x with
 | t n => exact getF_eq _ _
 | c v => rfl
noncomputable def evsF (fr : Fr) (l : List Opd) : List V := List.rec (motive := fun _ => List V) [] (fun x _ ih => evF fr x :: ih) l
theorem evsF_eq (fr : Fr) : ∀ l : List Opd, evsF fr l = Opd.evs fr l
 | [] => rfl
 | x :: r => by
   show evF fr x :: evsF fr r = x.ev fr :: Opd.evs fr r
   rw [evF_eq, evsF_eq fr r]
noncomputable def evoF (fr : Fr) (x : Option Opd) : Option V := match x with
 | none => none
 | some x => some (evF fr x)
theorem evoF_eq (fr : Fr) (x : Option Opd) : evoF fr x = Opd.evo fr x := by
 cases x with
 | none => rfl
 | some x => simp only [evoF, Opd.evo, evF_eq]
noncomputable def evBF (fr : Fr) (l : List (Nat × Nat × Opd)) : List (Nat × Nat × V) := List.rec (motive := fun _ => List (Nat × Nat × V)) [] (fun q _ ih => (q.1, q.2.1, evF fr q.2.2) :: ih) l
theorem evBF_eq (fr : Fr) : ∀ l, evBF fr l = evPartsB fr l
 | [] => rfl
 | (a, b, x) :: r => by
  show (a, b, evF fr x) :: evBF fr r = (a, b, x.ev fr) :: evPartsB fr r
  rw [evF_eq, evBF_eq fr r]
noncomputable def evSF (fr : Fr) (l : List (Nat × Opd)) : List (Nat × V) := List.rec (motive := fun _ => List (Nat × V)) [] (fun q _ ih => (q.1, evF fr q.2) :: ih) l
theorem evSF_eq (fr : Fr) : ∀ l, evSF fr l = evPartsS fr l
 | [] => rfl
 | (a, x) :: r => by
  show (a, evF fr x) :: evSF fr r = (a, x.ev fr) :: evPartsS fr r
  rw [evF_eq, evSF_eq fr r]
noncomputable def nthF {α : Type} (l : List α) : Nat → Option α := List.rec (motive := fun _ => Nat → Option α) (fun _ => none) (fun a _ ih n => Nat.rec (motive := fun _ => Option α) (some a) (fun m _ => ih m) n) l
theorem nthF_eq {α : Type} : ∀ (l : List α) (n : Nat), nthF l n = l[n]?
 | [], n => by simp; rfl
 | a :: r, 0 => rfl
 | a :: r, n + 1 => by
   rw [List.getElem?_cons_succ, ← nthF_eq r n]
   rfl
noncomputable def dropF (l : List V) : Nat → List V := List.rec (motive := fun _ => Nat → List V) (fun _ => []) (fun a r ih n => Nat.rec (motive := fun _ => List V) (a :: r) (fun m _ => ih m) n) l
theorem dropF_eq : ∀ (l : List V) (n : Nat), dropF l n = l.drop n
 | [], n => by simp; rfl
 | a :: r, 0 => rfl
 | a :: r, n + 1 => dropF_eq r n
noncomputable def takeF (n : Nat) : List V → Option (List V) := Nat.rec (motive := fun _ => List V → Option (List V)) (fun _ => some []) (fun _ ih l => List.rec (motive := fun _ => Option (List V)) none (fun a r _ => Option.rec (motive := fun _ => Option (List V)) none (fun x => some (a :: x)) (ih r)) l) n
theorem takeF_eq : ∀ (n : Nat) (l : List V), takeF n l = if n ≤ l.length then some (l.take n) else none
 | 0, l => by simp; rfl
 | n + 1, [] => by simp; rfl
 | n + 1, a :: r => by
   show Option.rec (motive := fun _ => Option (List V)) none (fun x => some (a :: x)) (takeF n r) = _
   rw [takeF_eq n r]
   by_cases h : n ≤ r.length
   · rw [if_pos h, if_pos (by simpa using h)]; rfl
   · rw [if_neg h, if_neg (by simpa using h)]
noncomputable def ldF (cs : List V) (off : Nat) (n : Option Nat) : Option V :=
 Option.rec (motive := fun _ => Option V) (nthF cs off) (fun n => Nat.rec (motive := fun _ => Option V) (ldCells cs off (some 0)) (fun m _ => Option.rec (motive := fun _ => Option V) none (fun x => some (.agg x)) (takeF (m + 1) (dropF cs off))) n) n
theorem ldF_eq (cs : List V) (off : Nat) (n : Option Nat) : ldF cs off n = ldCells cs off n := by
 cases n with
 | none => exact nthF_eq cs off
 | some n =>
   cases n with
   | zero => rfl
   | succ m =>
     show Option.rec (motive := fun _ => Option V) none (fun x => some (.agg x)) (takeF (m + 1) (dropF cs off)) = _
     rw [takeF_eq, dropF_eq]
     simp only [ldCells, List.length_drop]
     by_cases h : off + (m + 1) ≤ cs.length
     · rw [if_pos h, if_pos (by omega)]
     · rw [if_neg h, if_neg (by omega)]
noncomputable def putF (l : List V) : Nat → List V → List V := List.rec (motive := fun _ => Nat → List V → List V) (fun _ _ => []) (fun a r ih n vs => Nat.rec (motive := fun _ => List V) (List.rec (motive := fun _ => List V) (a :: r) (fun v q _ => v :: ih 0 q) vs) (fun m _ => a :: ih m vs) n) l
theorem putF_nil : ∀ (l : List V) (n : Nat), putF l n [] = l
 | [], _ => rfl
 | a :: r, 0 => rfl
 | a :: r, n + 1 => by
   show a :: putF r n [] = a :: r
   rw [putF_nil r n]
theorem putF_cons (v : V) (q : List V) : ∀ (l : List V) (n : Nat), putF l n (v :: q) = putF (l.set n v) (n + 1) q
 | [], _ => rfl
 | a :: r, 0 => rfl
 | a :: r, n + 1 => by
   show a :: putF r n (v :: q) = a :: putF (r.set n v) (n + 1) q
   rw [putF_cons v q r n]
theorem putF_eq : ∀ (vs l : List V) (n : Nat), putF l n vs = stCells l n vs
 | [], l, n => putF_nil l n
 | v :: q, l, n => by rw [putF_cons, putF_eq q]; rfl
noncomputable def fitsF (cs : List V) (off : Nat) (vs : List V) : Bool := List.rec (motive := fun _ => Bool) (stFits cs off []) (fun _ q _ => Option.rec (motive := fun _ => Bool) false (fun _ => true) (nthF cs (off + q.length))) vs
theorem fitsF_eq (cs : List V) (off : Nat) (vs : List V) : fitsF cs off vs = stFits cs off vs := by
 cases vs with
 | nil => rfl
 | cons v q =>
   show Option.rec (motive := fun _ => Bool) false (fun _ => true) (nthF cs (off + q.length)) = decide (off + (q.length + 1) ≤ cs.length)
   rw [nthF_eq]
   by_cases h : off + q.length < cs.length
   · rw [List.getElem?_eq_getElem h, decide_eq_true (by omega)]
   · rw [List.getElem?_eq_none (by omega), decide_eq_false (by omega)]
noncomputable def lenF {α : Type} (l : List α) : Nat := List.rec (motive := fun _ => Nat) 0 (fun _ _ ih => Nat.succ ih) l
theorem lenF_eq {α : Type} : ∀ l : List α, lenF l = l.length
 | [] => rfl
 | a :: r => by
   show Nat.succ (lenF r) = r.length + 1
   rw [lenF_eq r]
noncomputable def appF {α : Type} (l m : List α) : List α := List.rec (motive := fun _ => List α) m (fun a _ ih => a :: ih) l
theorem appF_eq {α : Type} (m : List α) : ∀ l : List α, appF l m = l ++ m
 | [] => rfl
 | a :: r => by
   show a :: appF r m = a :: (r ++ m)
   rw [appF_eq m r]
noncomputable def findF (l : List (Nat × Obj)) (n : Nat) : Option Obj := List.rec (motive := fun _ => Option Obj) none (fun q _ ih => Bool.rec (motive := fun _ => Option Obj) ih (some q.2) (Nat.beq q.1 n)) l
theorem beq_if {n m : Nat} {α : Type} (x y : α) : Bool.rec (motive := fun _ => α) y x (Nat.beq n m) = if n = m then x else y := by
 by_cases h : n = m
 · subst h; simp
 · have : Nat.beq n m = false := by
    cases hb : Nat.beq n m with
    | true => exact absurd (Nat.eq_of_beq_eq_true hb) h
    | false => rfl
   rw [this, if_neg h]
theorem findF_eq (n : Nat) : ∀ l, findF l n = Heap.find l n
 | [] => rfl
 | (k, o) :: r => by
  show Bool.rec (motive := fun _ => Option Obj) (findF r n) (some o) (Nat.beq k n) = _
  rw [beq_if, findF_eq n r]
  rfl
noncomputable def updF (l : List (Nat × Obj)) (n : Nat) (x : Obj) : List (Nat × Obj) := List.rec (motive := fun _ => List (Nat × Obj)) [] (fun q r ih => Bool.rec (motive := fun _ => List (Nat × Obj)) (q :: ih) ((q.1, x) :: r) (Nat.beq q.1 n)) l
theorem updF_eq (n : Nat) (x : Obj) : ∀ l, updF l n x = Heap.upd l n x
 | [] => rfl
 | (k, o) :: r => by
  show Bool.rec (motive := fun _ => List (Nat × Obj)) ((k, o) :: updF r n x) ((k, x) :: r) (Nat.beq k n) = _
  rw [beq_if, updF_eq n x r]
  rfl
noncomputable def getS (st : St) (k : Key) : Option Obj := Key.rec (motive := fun _ => Option Obj) (fun n => findF st.g.objs n) (fun n => findF st.l.objs n) k
theorem getS_eq (st : St) (k : Key) : getS st k = st.get k := by
 cases k with
 | g n => exact findF_eq _ _
 | l n => exact findF_eq _ _
noncomputable def setS (st : St) (k : Key) (o : Obj) : St := Key.rec (motive := fun _ => St) (fun n => ⟨⟨st.g.next, updF st.g.objs n o⟩, st.l⟩) (fun n => ⟨st.g, ⟨st.l.next, updF st.l.objs n o⟩⟩) k
theorem setS_eq (st : St) (k : Key) (o : Obj) : setS st k o = st.set k o := by
 cases k with
 | g n => simp only [setS, updF_eq]; rfl
 | l n => simp only [setS, updF_eq]; rfl
noncomputable def doAppendF (m : SMode) (sz bytes : Nat) (st : St) (s : V) (new : List (List V)) : T R :=
 match s with
 | .nils => match new with
   | [] => .ret (.nils, st)
   | e :: r => .chk (roomOk (lenF (e :: r)) bytes) (newSlice m sz (e :: r) st)
 | .sl tok sz' es => if sz' = sz then match new with
    | [] => .ret (.sl tok sz es, st)
    | e :: r => .chk (roomOk (lenF es + (lenF (e :: r))) bytes) <| .els (deepElems (e :: r)) fun ds => match tok with
      | some k => .obj (getS st k) fun o => match o with
        | .spare => .ret (.sl (some ((st.remove k).newKey k.isG)) sz (appF es ds), (st.remove k).push k.isG .spare)
        | _ => .fail
      | none => .fail
   else .fail
 | .ms k sz' off len => if sz' = sz then match new with
    | [] => .ret (.ms k sz off len, st)
    | e :: r => .chk (roomOk (len + (lenF (e :: r))) bytes) <| .els (ownElems k.isG (e :: r)) fun ds => .obj (getS st k) fun o => match o with
      | .arr sz'' es => if sz'' = sz then
         .chk (decide (off + len ≤ lenF es)) <| .ite (decide (off + len + lenF ds ≤ lenF es))
          (.ret (.ms k sz off (len + lenF ds), setS st k (.arr sz (es.take (off + len) ++ ds ++ es.drop (off + len + lenF ds)))))
          (.ret (.ms ((st.remove k).newKey k.isG) sz 0 (len + lenF ds), (st.remove k).push k.isG (.arr sz ((es.take (off + len)).drop off ++ ds))))
        else .fail
      | _ => .fail
   else .fail
 | _ => .fail
theorem doAppendF_eq (m : SMode) (sz bytes : Nat) (st : St) (s : V) (new : List (List V)) : doAppendF m sz bytes st s new = doAppend m sz bytes st s new := by
 unfold doAppendF doAppend
 simp only [setS_eq, getS_eq, lenF_eq, appF_eq]
 rfl
noncomputable def s_mv (x : Opd) (fr : Fr) (st : St) : T R := .ret (evF fr x, st)
noncomputable def s_asg (x : Opd) (fr : Fr) (st : St) : T R := .ret (evF fr x, st)
noncomputable def s_pick (c : Opd) (a : Opd) (d : Opd) (fr : Fr) (st : St) : T R := match evF fr c with
 | .b x => .ite x (.ret (evF fr a, st)) (.ret (evF fr d, st))
 | _ => .fail
noncomputable def s_alloc (g : Bool) (zero : List V) (_fr : Fr) (st : St) : T R := .ret (.p (st.newKey g) 0, st.push g (.cs zero))
noncomputable def s_box (g : Bool) (x : Opd) (fr : Fr) (st : St) : T R := match (evF fr x).sto with
 | true => T.opt (ownG g (evF fr x).cells) fun c => .ret (.p (st.newKey g) 0, st.push g (.cs c))
 | false => .fail
noncomputable def s_bld (zero : List V) (parts : List (Nat × Nat × Opd)) (fr : Fr) (st : St) : T R := T.opt (fillParts zero (evBF fr parts)) fun cs => .ret (.agg cs, st)
noncomputable def s_bsl (m : SMode) (sz : Nat) (len : Nat) (zero : List V) (parts : List (Nat × Opd)) (fr : Fr) (st : St) : T R := T.opt (fillElems (List.replicate len zero) sz (evSF fr parts)) fun es => newSlice m sz es st
noncomputable def s_load (n : Option Nat) (a : Opd) (fr : Fr) (st : St) : T R := match evF fr a with
 | .p k off => .obj (getS st k) fun o => match o with
   | .cs c => T.opt (ldF c off n) fun v => .ret (v, st)
   | _ => .fail
 | .pa k sz ix off => .obj (getS st k) fun o => match o with
   | .arr sz' es => if sz' = sz then .elem (nthF es ix) fun e => T.opt (ldF e off n) fun v => .ret (v, st) else .fail
   | _ => .fail
 | .pc cs off => T.opt (ldF cs off n) fun v => .ret (v, st)
 | _ => .fail
noncomputable def s_store (n : Nat) (a : Opd) (x : Opd) (fr : Fr) (st : St) : T R := if (evF fr x).sto = true ∧ (evF fr x).cells.length = n then match evF fr a with
 | .p k off => T.opt (ownG k.isG (evF fr x).cells) fun vs => .obj (getS st k) fun o => match o with
   | .cs c => match fitsF c off vs with
     | true => .ret (.tup [], setS st k (.cs (putF c off vs)))
     | false => .fail
   | _ => .fail
 | .pa k sz ix off => T.opt (ownG k.isG (evF fr x).cells) fun vs => .obj (getS st k) fun o => match o with
   | .arr sz' es => if sz' = sz then .elem (nthF es ix) fun e => match fitsF e off vs with
      | true => .ret (.tup [], setS st k (.arr sz (es.set ix (putF e off vs))))
      | false => .fail
     else .fail
   | _ => .fail
 | _ => .fail
 else .fail
noncomputable def s_nilc (x : Opd) (fr : Fr) (st : St) : T R := match evF fr x with
 | .p k off => .ret (.p k off, st)
 | .pa k sz ix off => .ret (.pa k sz ix off, st)
 | .pc cs off => .ret (.pc cs off, st)
 | .fn f a c => .ret (.fn f a c, st)
 | _ => .fail
noncomputable def s_bin (op : BinOp) (x : Opd) (y : Opd) (fr : Fr) (st : St) : T R := stepBin op (evF fr x) (evF fr y) st
noncomputable def s_eqc (row : Bool) (ks : List CK) (neg : Bool) (x : Opd) (y : Opd) (fr : Fr) (st : St) : T R := T.opt ((evF fr x).row row) fun cs => T.opt ((evF fr y).row row) fun ds => T.opt (cellsEq ks cs ds) fun r => match neg with
 | true => .ret (.b (!r), st)
 | false => .ret (.b r, st)
noncomputable def s_eqn (neg : Bool) (x : Opd) (y : Opd) (fr : Fr) (st : St) : T R := stepNil neg (evF fr x) (evF fr y) st
noncomputable def s_un (op : UnOp) (x : Opd) (fr : Fr) (st : St) : T R := match op, evF fr x with
 | .not, .b y => .ret (.b (!y), st)
 | .neg, .i k n => .wrap k (0 - n) fun r => .ret (.i k r, st)
 | _, _ => .fail
noncomputable def s_cvi (k : IntKind) (x : Opd) (fr : Fr) (st : St) : T R := match evF fr x with
 | .i _ n => .wrap k n fun r => .ret (.i k r, st)
 | _ => .fail
noncomputable def s_cvs (x : Opd) (fr : Fr) (st : St) : T R := match evF fr x with
 | .s y => .ret (.s y, st)
 | _ => .fail
noncomputable def s_s2b (m : SMode) (x : Opd) (fr : Fr) (st : St) : T R := match evF fr x with
 | .s y => newSlice m 1 (byteCells y) st
 | _ => .fail
noncomputable def s_mkb (x : Opd) (fr : Fr) (st : St) : T R := match evF fr x with
 | .sl (some k) sz es => .obj (getS st k) fun o => match o with
   | .spare => .ret (.sl (some k) sz es, st)
   | _ => .fail
 | .ms k sz off len => .obj (getS st k) fun o => match o with
   | .arr z _ => if z = 1 then .ret (.ms k sz off len, st) else .fail
   | _ => .fail
 | _ => .fail
noncomputable def s_b2s (x : Opd) (fr : Fr) (st : St) : T R := elemsOf 1 st (evF fr x) fun es => .bys (bytesOf es) fun y => .ret (.s y, st)
noncomputable def s_mkfn (f : Nat) (cap : List Opd) (fr : Fr) (st : St) : T R := .ret (.fn f [] (evsF fr cap), st)
noncomputable def s_mkmap (g : Bool) (kd : Option IntKind) (_fr : Fr) (st : St) : T R := .ret (.m (st.newKey g), st.push g (.mp kd []))
noncomputable def s_mksl (m : SMode) (sz : Nat) (bytes : Nat) (zero : List V) (l : Opd) (c : Opd) (fr : Fr) (st : St) : T R := match evF fr l, evF fr c with
 | .i _ a, .i _ d => .chk (decide (0 ≤ a) && decide (a = d) && roomOk d.toNat bytes) <| newSlice m sz (List.replicate a.toNat zero) st
 | _, _ => .fail
noncomputable def s_slstr (x : Opd) (lo : Option Opd) (hi : Option Opd) (fr : Fr) (st : St) : T R := match evF fr x with
 | .s y => T.opt (boundOr (evoF fr hi) y.length) fun h => T.opt (boundOr (evoF fr lo) 0) fun l =>
   .chk (decide (0 ≤ l) && decide (l ≤ h) && decide (h ≤ (y.length : Int))) <| .ret (.s ((y.take h.toNat).drop l.toNat), st)
 | _ => .fail
noncomputable def s_slsl (sz : Nat) (x : Opd) (lo : Option Opd) (hi : Option Opd) (mx : Option Opd) (fr : Fr) (st : St) : T R := match evF fr x with
 | .nils => match mx with
   | none => T.opt (boundOr (evoF fr hi) 0) fun h => T.opt (boundOr (evoF fr lo) 0) fun l =>
     .chk (decide (l = 0) && decide (h = 0)) <| .ret (.nils, st)
   | some _ => .fail
 | .sl tok sz' es => if sz' = sz then match mx with
    | none => match evoF fr hi with
      | none => T.opt (boundOr (evoF fr lo) 0) fun l => .chk (decide (0 ≤ l) && decide (l ≤ (lenF es : Int))) <| .ret (.sl tok sz (es.drop l.toNat), st)
      | some v => T.opt (intOf1 v) fun h => T.opt (boundOr (evoF fr lo) 0) fun l =>
        .chk (decide (0 ≤ l) && decide (l ≤ h) && decide (h ≤ (lenF es : Int))) <| .ret (.sl none sz ((es.take h.toNat).drop l.toNat), st)
    | some _ => .fail
   else .fail
 | .ms k sz' off len => if sz' = sz then T.opt (boundOr (evoF fr hi) len) fun h => T.opt (boundOr (evoF fr lo) 0) fun l => .obj (getS st k) fun o => match o with
    | .arr sz'' es => if sz'' = sz then match mx with
       | none => .chk (decide (0 ≤ l) && decide (l ≤ h) && decide ((off : Int) + h ≤ (lenF es : Int))) <|
         .ret (.ms k sz (off + l.toNat) (h.toNat - l.toNat), st)
       | some m => T.opt (intOf1 (evF fr m)) fun mx => .chk (decide (0 ≤ l) && decide (l ≤ h) && decide (h ≤ mx) && decide ((off : Int) + mx ≤ (lenF es : Int))) <|
         .ret (.junk, st)
      else .fail
    | _ => .fail
   else .fail
 | _ => .fail
noncomputable def s_faddr (off : Nat) (x : Opd) (fr : Fr) (st : St) : T R := match evF fr x with
 | .p k o => .ret (.p k (o + off), st)
 | .pa k sz ix o => .ret (.pa k sz ix (o + off), st)
 | .pc cs o => .ret (.pc cs (o + off), st)
 | _ => .fail
noncomputable def s_fld (off : Nat) (n : Option Nat) (x : Opd) (fr : Fr) (st : St) : T R := match evF fr x with
 | .agg cs => T.opt (ldF cs off n) fun v => .ret (v, st)
 | _ => .fail
noncomputable def s_iasl (sz : Nat) (x : Opd) (i : Opd) (fr : Fr) (st : St) : T R := match evF fr i with
 | .i _ n => match evF fr x with
   | .sl _ sz' es => if sz' = sz then .chk (idxOk n (lenF es)) <| .elem (nthF es n.toNat) fun e => .ret (.pc e 0, st) else .fail
   | .ms k sz' off len => if sz' = sz then .chk (idxOk n len) <| .ret (.pa k sz (off + n.toNat) 0, st) else .fail
   | _ => .fail
 | _ => .fail
noncomputable def s_iaar (len : Nat) (sz : Nat) (x : Opd) (i : Opd) (fr : Fr) (st : St) : T R := match evF fr i with
 | .i _ n => .chk (idxOk n len) <| match evF fr x with
   | .p k o => .ret (.p k (o + n.toNat * sz), st)
   | .pa k sz' ix o => .ret (.pa k sz' ix (o + n.toNat * sz), st)
   | .pc cs o => .ret (.pc cs (o + n.toNat * sz), st)
   | _ => .fail
 | _ => .fail
noncomputable def s_ixs (x : Opd) (i : Opd) (fr : Fr) (st : St) : T R := match evF fr x, evF fr i with
 | .s y, .i _ n => .chk (decide (0 ≤ n)) <| .byte (nthF y n.toNat) fun c => .ret (.i .u8 c.toNat, st)
 | _, _ => .fail
noncomputable def s_ixa (len : Nat) (sz : Nat) (n : Option Nat) (x : Opd) (i : Opd) (fr : Fr) (st : St) : T R := match evF fr x, evF fr i with
 | .agg cs, .i _ j => .chk (idxOk j len) <| T.opt (ldF cs (j.toNat * sz) n) fun v => .ret (v, st)
 | _, _ => .fail
noncomputable def s_lkp (kd : Option IntKind) (zero : V) (m : Opd) (k : Opd) (ok : Bool) (fr : Fr) (st : St) : T R := match (evF fr k).isKeyOf kd with
 | true => match evF fr m with
   | .nilm => lkpRes zero ok st none
   | .m key => .obj (getS st key) fun o => match o with
     | .mp kd' es => if kd' = kd then lkpRes zero ok st (mfind es (evF fr k)) else .fail
     | _ => .fail
   | _ => .fail
 | false => .fail
noncomputable def s_mupd (kd : Option IntKind) (m : Opd) (k : Opd) (v : Opd) (fr : Fr) (st : St) : T R := match (evF fr k).isKeyOf kd with
 | true => match evF fr m with
   | .m key => .obj (getS st key) fun o => match o with
     | .mp kd' es => if kd' = kd then T.opt (ownV key.isG (evF fr v)) fun u => .ret (.tup [], setS st key (.mp kd (mput es (evF fr k) u))) else .fail
     | _ => .fail
   | _ => .fail
 | false => .fail
noncomputable def s_ext (x : Opd) (i : Nat) (fr : Fr) (st : St) : T R := match evF fr x with
 | .tup vs => T.opt (nthF vs i) fun v => .ret (v, st)
 | _ => .fail
noncomputable def s_call (f : Nat) (args : List Opd) (fr : Fr) (st : St) : T R := T.opt (passes (evsF fr args)) fun vs => .call f vs st.g fun r h => .ret (r, ⟨h, st.l⟩)
noncomputable def s_callv (f : Opd) (args : List Opd) (fr : Fr) (st : St) : T R := match evF fr f with
 | .fn g first cap => T.opt (passes (first ++ evsF fr args ++ cap)) fun vs => .call g vs st.g fun r h => .ret (r, ⟨h, st.l⟩)
 | _ => .fail
noncomputable def s_lenS (x : Opd) (fr : Fr) (st : St) : T R := match evF fr x with
 | .s y => .ret (.i .i64 y.length, st)
 | _ => .fail
noncomputable def s_lenL (x : Opd) (fr : Fr) (st : St) : T R := match evF fr x with
 | .nils => .ret (.i .i64 0, st)
 | .sl _ _ es => .ret (.i .i64 (lenF es), st)
 | .ms _ _ _ n => .ret (.i .i64 n, st)
 | _ => .fail
noncomputable def s_lenA (n : Nat) (_fr : Fr) (st : St) : T R := .ret (.i .i64 n, st)
noncomputable def s_lenM (x : Opd) (fr : Fr) (st : St) : T R := match evF fr x with
 | .nilm => .ret (.i .i64 0, st)
 | .m key => .obj (getS st key) fun o => match o with
   | .mp _ es => .ret (.i .i64 (lenF es), st)
   | _ => .fail
 | _ => .fail
noncomputable def s_mnmx (max : Bool) (xs : List Opd) (fr : Fr) (st : St) : T R := match evsF fr xs with
 | v :: r => T.opt (mnmxFold max v r) fun v => .ret (v, st)
 | [] => .fail
noncomputable def s_append (m : SMode) (sz : Nat) (bytes : Nat) (s : Opd) (x : Opd) (fr : Fr) (st : St) : T R := elemsOf sz st (evF fr x) fun new => doAppendF m sz bytes st (evF fr s) new
noncomputable def s_copy (sz : Nat) (d : Opd) (x : Opd) (fr : Fr) (st : St) : T R := elemsOf sz st (evF fr x) fun src => match evF fr d with
 | .ms k sz' off len => if sz' = sz then .els (ownElems k.isG (src.take len)) fun ds => .obj (getS st k) fun o => match o with
    | .arr sz'' es => if sz'' = sz then
       .chk (decide (off + len ≤ es.length)) <| .ret (.i .i64 (ds.length : Nat), setS st k (.arr sz (es.take off ++ ds ++ es.drop (off + ds.length))))
      else .fail
    | _ => .fail
   else .fail
 | _ => .fail
noncomputable def s_delete (kd : Option IntKind) (m : Opd) (k : Opd) (fr : Fr) (st : St) : T R := match (evF fr k).isKeyOf kd with
 | true => match evF fr m with
   | .nilm => .ret (.tup [], st)
   | .m key => .obj (getS st key) fun o => match o with
     | .mp kd' es => if kd' = kd then .ret (.tup [], setS st key (.mp kd (mdel es (evF fr k)))) else .fail
     | _ => .fail
   | _ => .fail
 | false => .fail
noncomputable def s_clear (sz : Nat) (zero : List V) (x : Opd) (fr : Fr) (st : St) : T R := match evF fr x with
 | .nils => .ret (.tup [], st)
 | .ms k sz' off len => if sz' = sz then .obj (getS st k) fun o => match o with
    | .arr sz'' es => if sz'' = sz then .chk (decide (off + len ≤ es.length)) <| .ret (.tup [], setS st k (.arr sz (es.take off ++ List.replicate len zero ++ es.drop (off + len)))) else .fail
    | _ => .fail
   else .fail
 | _ => .fail
noncomputable def s_no  (_fr : Fr) (_st : St) : T R := .fail
noncomputable def stepF (o : AOp) : Fr → St → T R := AOp.rec (motive := fun _ => Fr → St → T R) s_mv s_asg s_pick s_alloc s_box s_bld s_bsl s_load s_store s_nilc s_bin s_eqc s_eqn s_un s_cvi s_cvs s_s2b s_mkb s_b2s s_mkfn s_mkmap s_mksl s_slstr s_slsl s_faddr s_fld s_iasl s_iaar s_ixs s_ixa s_lkp s_mupd s_ext s_call s_callv s_lenS s_lenL s_lenA s_lenM s_mnmx s_append s_copy s_delete s_clear s_no o
theorem stepF_eq (o : AOp) (fr : Fr) (st : St) : stepF o fr st = step o fr st := by
 cases o <;> first
  | rfl
  | (simp only [stepF, step, s_mv, s_asg, s_pick, s_box, s_bld, s_bsl, s_load, s_store, s_nilc, s_bin, s_eqc, s_eqn, s_un, s_cvi, s_cvs, s_s2b, s_mkb, s_b2s, s_mkfn, s_mksl, s_slstr, s_slsl, s_faddr, s_fld, s_iasl, s_iaar, s_ixs, s_ixa, s_lkp, s_mupd, s_ext, s_call, s_callv, s_lenS, s_lenL, s_lenM, s_mnmx, s_append, s_copy, s_delete, s_clear, evF_eq, evsF_eq, evoF_eq, evBF_eq, evSF_eq, nthF_eq, ldF_eq, fitsF_eq, putF_eq, getS_eq, setS_eq, lenF_eq, doAppendF_eq]; done)
  | (simp only [stepF, step, s_pick, s_box, s_load, s_store, s_nilc, s_eqc, s_un, s_cvi, s_cvs, s_s2b, s_mkb, s_mksl, s_slstr, s_slsl, s_faddr, s_fld, s_iasl, s_iaar, s_ixs, s_ixa, s_lkp, s_mupd, s_ext, s_callv, s_lenS, s_lenL, s_lenM, s_mnmx, s_copy, s_delete, s_clear, evF_eq, evsF_eq, evoF_eq, nthF_eq, ldF_eq, fitsF_eq, putF_eq, getS_eq, setS_eq, lenF_eq]; rfl)
/-! Trees. -/
section
variable {α β : Type}
noncomputable def k_ret (a : α) (k : α → Option β) : Option β := k a
noncomputable def k_ite (c : Bool) (_ _ : T α) (x y : (α → Option β) → Option β) (k : α → Option β) : Option β := Bool.rec (motive := fun _ => Option β) (y k) (x k) c
noncomputable def k_ask {δ : Type} (o : Option δ) (_ : δ → T α) (x : δ → (α → Option β) → Option β) (k : α → Option β) : Option β := Option.rec (motive := fun _ => Option β) none (fun d => x d k) o
noncomputable def k_optc (o : Option V) (_ : T α) (_ : V → T α) (y : (α → Option β) → Option β) (x : V → (α → Option β) → Option β) (k : α → Option β) : Option β := Option.rec (motive := fun _ => Option β) (y k) (fun d => x d k) o
noncomputable def k_chk (c : Bool) (_ : T α) (x : (α → Option β) → Option β) (k : α → Option β) : Option β := Bool.rec (motive := fun _ => Option β) none (x k) c
noncomputable def k_wrap (kd : IntKind) (n : Int) (_ : Int → T α) (x : Int → (α → Option β) → Option β) (k : α → Option β) : Option β := x (kd.wrap n) k
noncomputable def k_any (_ : Bool → T α) (_ : Bool → (α → Option β) → Option β) (_ : α → Option β) : Option β := none
noncomputable def k_same (v u : V) (_ : T α) (x : (α → Option β) → Option β) (k : α → Option β) : Option β := Bool.rec (motive := fun _ => Option β) none (x k) (v.beq u)
noncomputable def k_call (rf : Orc) (f : Nat) (args : List V) (h : Heap) (_ : V → Heap → T α) (x : V → Heap → (α → Option β) → Option β) (k : α → Option β) : Option β :=
 Option.rec (motive := fun _ => Option β) none (fun q => x q.1 q.2 k) (rf f args h)
noncomputable def k_fail (_ : α → Option β) : Option β := none
noncomputable def runK (rf : Orc) (t : T α) : (α → Option β) → Option β :=
 T.rec (motive := fun _ => (α → Option β) → Option β) k_ret k_ite k_ask k_ask k_ask k_ask k_ask k_optc k_chk k_wrap k_any k_same (k_call rf) k_fail t
theorem runK_eq (rf : Orc) : ∀ (t : T α) (k : α → Option β), runK rf t k = (t.run rf).bind k
 | .ret a, k => rfl
 | .ite c t e, k => by
   cases c with
   | true => exact runK_eq rf t k
   | false => exact runK_eq rf e k
 | .elem o kk, k => by
   cases o with
   | none => rfl
   | some x => exact runK_eq rf (kk x) k
 | .byte o kk, k => by
   cases o with
   | none => rfl
   | some x => exact runK_eq rf (kk x) k
 | .els o kk, k => by
   cases o with
   | none => rfl
   | some x => exact runK_eq rf (kk x) k
 | .bys o kk, k => by
   cases o with
   | none => rfl
   | some x => exact runK_eq rf (kk x) k
 | .obj o kk, k => by
   cases o with
   | none => rfl
   | some x => exact runK_eq rf (kk x) k
 | .optc o n kk, k => by
   cases o with
   | none => exact runK_eq rf n k
   | some x => exact runK_eq rf (kk x) k
 | .chk c kk, k => by
   cases c with
   | true => exact runK_eq rf kk k
   | false => rfl
 | .wrap kd n kk, k => runK_eq rf (kk (kd.wrap n)) k
 | .any kk, k => rfl
 | .same v u kk, k => by
   show Bool.rec (motive := fun _ => Option β) none (runK rf kk k) (v.beq u) = (T.run rf (.same v u kk)).bind k
   simp only [T.run]
   cases v.beq u with
   | true => exact runK_eq rf kk k
   | false => rfl
 | .call f args h kk, k => by
   show Option.rec (motive := fun _ => Option β) none (fun q => runK rf (kk q.1 q.2) k) (rf f args h) = (T.run rf (.call f args h kk)).bind k
   simp only [T.run]
   cases rf f args h with
   | none => rfl
   | some q => exact runK_eq rf (kk q.1 q.2) k
 | .fail, k => rfl
theorem run_bind (rf : Orc) (f : α → T β) : ∀ t : T α, (t.bind f).run rf = (t.run rf).bind fun a => (f a).run rf
 | .ret a => rfl
 | .ite c t e => by
   cases c with
   | true => exact run_bind rf f t
   | false => exact run_bind rf f e
 | .elem o kk => by
   cases o with
   | none => rfl
   | some x => exact run_bind rf f (kk x)
 | .byte o kk => by
   cases o with
   | none => rfl
   | some x => exact run_bind rf f (kk x)
 | .els o kk => by
   cases o with
   | none => rfl
   | some x => exact run_bind rf f (kk x)
 | .bys o kk => by
   cases o with
   | none => rfl
   | some x => exact run_bind rf f (kk x)
 | .obj o kk => by
   cases o with
   | none => rfl
   | some x => exact run_bind rf f (kk x)
 | .optc o n kk => by
   cases o with
   | none => exact run_bind rf f n
   | some x => exact run_bind rf f (kk x)
 | .chk c kk => by
   cases c with
   | true => exact run_bind rf f kk
   | false => rfl
 | .wrap kd n kk => run_bind rf f (kk (kd.wrap n))
 | .any kk => rfl
 | .same v u kk => by
   simp only [T.bind, T.run]
   cases v.beq u with
   | true => exact run_bind rf f kk
   | false => rfl
 | .call g args h kk => by
   simp only [T.bind, T.run]
   cases rf g args h with
   | none => rfl
   | some q => exact run_bind rf f (kk q.1 q.2)
 | .fail => rfl
end
/-! Frames. -/
noncomputable def memF (n : Nat) (ks : List Nat) : Bool := List.rec (motive := fun _ => Bool) false (fun k _ ih => Bool.rec (motive := fun _ => Bool) ih true (Nat.beq n k)) ks
theorem memF_eq (n : Nat) : ∀ ks, memF n ks = memNat n ks
 | [] => rfl
 | k :: r => by
   show Bool.rec (motive := fun _ => Bool) (memF n r) true (Nat.beq n k) = memNat n (k :: r)
   rw [memF_eq n r]
   simp only [memNat]
   cases Nat.beq n k <;> rfl
section
variable {α : Type}
noncomputable def cutF (ks : List Nat) (fr : Fr) : (Fr → α) → α := List.rec (motive := fun _ => (Fr → α) → α) (fun k => k []) (fun q _ ih k => Bool.rec (motive := fun _ => α) (ih fun r => k (q :: r)) (ih k) (memF q.1 ks)) fr
theorem cutF_eq (ks : List Nat) : ∀ (fr : Fr) (k : Fr → α), cutF ks fr k = fr.cut ks k
 | [], k => rfl
 | (n, v) :: r, k => by
  show Bool.rec (motive := fun _ => α) (cutF ks r fun r' => k ((n, v) :: r')) (cutF ks r k) (memF n ks) = Fr.cut ((n, v) :: r) ks k
  rw [cutF_eq ks r, cutF_eq ks r, memF_eq]
  simp only [Fr.cut]
  cases memNat n ks <;> rfl
noncomputable def afterF (fr : Fr) (dst : Option Nat) (v : V) (kill : List Nat) (k : Fr → α) : α :=
 Option.rec (motive := fun _ => α) (List.rec (motive := fun _ => α) (k fr) (fun _ _ _ => cutF kill fr k) kill)
  (fun d => List.rec (motive := fun _ => α) (v.force fun v => k ((d, v) :: fr)) (fun _ _ _ => Bool.rec (motive := fun _ => α) (cutF (d :: kill) fr fun r => v.force fun v => k ((d, v) :: r)) (cutF (d :: kill) fr k) (memF d kill)) kill) dst
theorem afterF_eq (fr : Fr) (dst : Option Nat) (v : V) (kill : List Nat) (k : Fr → α) : afterF fr dst v kill k = fr.after dst v kill k := by
 cases dst with
 | none =>
   cases kill with
   | nil => rfl
   | cons x ks => exact cutF_eq _ _ _
 | some d =>
   cases kill with
   | nil => rfl
   | cons x ks =>
     show Bool.rec (motive := fun _ => α) (cutF (d :: x :: ks) fr fun r => v.force fun v => k ((d, v) :: r)) (cutF (d :: x :: ks) fr k) (memF d (x :: ks)) = _
     rw [cutF_eq, cutF_eq, memF_eq]
     simp only [Fr.after]
     cases memNat d (x :: ks) <;> rfl
end
/-! Regions. -/
section
variable {β : Type}
noncomputable def doneF (rf : Orc) (o : AOper) (ih : Fr → St → (Fr → St → Option β) → Option β) (fr : Fr) (st : St) (k : Fr → St → Option β) : Option β :=
 runK rf (stepF o.op fr st) fun x => afterF fr o.dst x.1 o.kill fun fr => ih fr x.2 k
noncomputable def passF (o : AOper) (ih : Fr → St → (Fr → St → Option β) → Option β) (fr : Fr) (st : St) (k : Fr → St → Option β) : Option β :=
 afterF fr o.dst (.tup []) o.kill fun fr => ih fr st k
noncomputable def guardF (rf : Orc) (o : AOper) (ih : Fr → St → (Fr → St → Option β) → Option β) (t : Nat) (want : Bool) (fr : Fr) (st : St) (k : Fr → St → Option β) : Option β :=
 match getF fr t with
 | .b x => Bool.rec (motive := fun _ => Option β)
   (Bool.rec (motive := fun _ => Option β) (cutF [t] fr fun r => doneF rf o ih ((t, .b false) :: r) st k) (cutF [t] fr fun r => passF o ih ((t, .b true) :: r) st k) x)
   (Bool.rec (motive := fun _ => Option β) (cutF [t] fr fun r => passF o ih ((t, .b false) :: r) st k) (cutF [t] fr fun r => doneF rf o ih ((t, .b true) :: r) st k) x) want
 | .tup _ => passF o ih fr st k
 | _ => none
noncomputable def oneF (rf : Orc) (o : AOper) (_ : List AOper) (ih : Fr → St → (Fr → St → Option β) → Option β) (fr : Fr) (st : St) (k : Fr → St → Option β) : Option β :=
 Option.rec (motive := fun _ => Option β) (doneF rf o ih fr st k) (fun q => guardF rf o ih q.1 q.2 fr st k) o.guard
noncomputable def opsF (rf : Orc) (ops : List AOper) : Fr → St → (Fr → St → Option β) → Option β :=
 List.rec (motive := fun _ => Fr → St → (Fr → St → Option β) → Option β) (fun fr st k => k fr st) (oneF rf) ops
theorem opsF_eq (rf : Orc) : ∀ (ops : List AOper) (fr : Fr) (st : St) (k : Fr → St → Option β), opsF rf ops fr st k = ((runOps ops fr st).run rf).bind fun x => k x.1 x.2
 | [], fr, st, k => rfl
 | o :: rest, fr, st, k => by
   have hd : ∀ (fr : Fr) (st : St), doneF rf o (opsF rf rest) fr st k = (((step o.op fr st).bind fun x => match x with
    | (v, st) => fr.after o.dst v o.kill fun fr => runOps rest fr st).run rf).bind fun x => k x.1 x.2 := by
    intro fr st
    rw [run_bind, doneF, runK_eq, stepF_eq]
    cases (step o.op fr st).run rf with
    | none => rfl
    | some q =>
      obtain ⟨v, st'⟩ := q
      simp only [Option.bind_some, afterF_eq, Fr.after_eq]
      exact opsF_eq rf rest _ _ k
   have hp : ∀ (fr : Fr) (st : St), passF o (opsF rf rest) fr st k = ((fr.after o.dst (.tup []) o.kill fun fr => runOps rest fr st).run rf).bind fun x => k x.1 x.2 := by
    intro fr st
    simp only [passF, afterF_eq, Fr.after_eq]
    exact opsF_eq rf rest _ _ k
   show oneF rf o rest (opsF rf rest) fr st k = _
   unfold oneF runOps
   cases o.guard with
   | none => exact hd fr st
   | some q =>
     obtain ⟨t, want⟩ := q
     show guardF rf o (opsF rf rest) t want fr st k = _
     unfold guardF
     rw [getF_eq]
     dsimp only
     cases fr.get t
     case b x =>
      cases want with
      | true =>
        cases x with
        | true => simp only [T.run, cutF_eq, hd, Fr.cut_eq]
        | false => simp only [T.run, cutF_eq, hp, Fr.cut_eq]
      | false =>
        cases x with
        | true => simp only [T.run, cutF_eq, hp, Fr.cut_eq]
        | false => simp only [T.run, cutF_eq, hd, Fr.cut_eq]
     case tup vs => exact hp fr st
     all_goals rfl
end
/-! Regions whose order is drawn. -/
section
variable {β : Type}
noncomputable def gateF (g : Option (Nat × Bool)) (fr : Fr) (yes no : Fr → Option β) : Option β :=
 Option.rec (motive := fun _ => Option β) (yes fr) (fun q => match getF fr q.1 with
  | .b x => Bool.rec (motive := fun _ => Option β)
    (Bool.rec (motive := fun _ => Option β) (cutF [q.1] fr fun r => yes ((q.1, .b false) :: r)) (cutF [q.1] fr fun r => no ((q.1, .b true) :: r)) x)
    (Bool.rec (motive := fun _ => Option β) (cutF [q.1] fr fun r => no ((q.1, .b false) :: r)) (cutF [q.1] fr fun r => yes ((q.1, .b true) :: r)) x) q.2
  | .tup _ => no fr
  | _ => none) g
theorem gateF_eq {α : Type} (rf : Orc) (g : Option (Nat × Bool)) (fr : Fr) (yes no : Fr → T α) (k : α → Option β) :
 gateF g fr (fun fr => ((yes fr).run rf).bind k) (fun fr => ((no fr).run rf).bind k) = ((gated g fr yes no).run rf).bind k := by
 unfold gated
 cases g with
 | none => rfl
 | some q =>
   obtain ⟨t, want⟩ := q
   show (match getF fr t with
    | .b x => _
    | .tup _ => _
    | _ => none) = _
   rw [getF_eq]
   dsimp only
   cases fr.get t
   case b x =>
    cases want with
    | true =>
      cases x with
      | true => simp only [T.run, cutF_eq, Fr.cut_eq]
      | false => simp only [T.run, cutF_eq, Fr.cut_eq]
    | false =>
      cases x with
      | true => simp only [T.run, cutF_eq, Fr.cut_eq]
      | false => simp only [T.run, cutF_eq, Fr.cut_eq]
   all_goals rfl
noncomputable def recheckF (rf : Orc) (re : List Nat) (done : List DOper) (fr : Fr) (st : St) (k : Option β) : Option β :=
 List.rec (motive := fun _ => Option β) k (fun p _ ih => Bool.rec (motive := fun _ => Option β) ih
  (Option.rec (motive := fun _ => Option β) none (fun b => Bool.rec (motive := fun _ => Option β) ih
    (runK rf (stepF p.o.op fr st) fun x => Option.rec (motive := fun _ => Option β) ih (fun d => Bool.rec (motive := fun _ => Option β) none ih ((getF fr d).beq x.1)) p.o.dst) b) (gateNow p.o.guard fr)) (memF p.ix re)) done
theorem recheckF_eq {α : Type} (rf : Orc) (re : List Nat) (fr : Fr) (st : St) (t : T α) (k : α → Option β) : ∀ done : List DOper, recheckF rf re done fr st ((t.run rf).bind k) = ((recheck re done fr st t).run rf).bind k
 | [] => rfl
 | p :: ps => by
   have ih := recheckF_eq rf re fr st t k ps
   show Bool.rec (motive := fun _ => Option β) (recheckF rf re ps fr st ((t.run rf).bind k)) (Option.rec (motive := fun _ => Option β) none (fun b => Bool.rec (motive := fun _ => Option β) (recheckF rf re ps fr st ((t.run rf).bind k))
    (runK rf (stepF p.o.op fr st) fun x => Option.rec (motive := fun _ => Option β) (recheckF rf re ps fr st ((t.run rf).bind k)) (fun d => Bool.rec (motive := fun _ => Option β) none (recheckF rf re ps fr st ((t.run rf).bind k)) ((getF fr d).beq x.1)) p.o.dst) b) (gateNow p.o.guard fr)) (memF p.ix re) = _
   rw [ih, memF_eq]
   simp only [recheck]
   cases memNat p.ix re with
   | false => rfl
   | true =>
     cases gateNow p.o.guard fr with
     | none => rfl
     | some b =>
       cases b with
       | false => rfl
       | true =>
         dsimp only
         rw [run_bind, runK_eq, stepF_eq]
         cases (step p.o.op fr st).run rf with
         | none => rfl
         | some q =>
           simp only [Option.bind_some]
           cases p.o.dst with
           | none => rfl
           | some d =>
             simp only [T.run, getF_eq]
             cases ((Fr.get fr d).beq q.1) <;> rfl
noncomputable def doneD (rf : Orc) (d : DOper) (done : List DOper) (ih : List DOper → Fr → St → (Fr → St → Option β) → Option β) (fr : Fr) (st : St) (k : Fr → St → Option β) : Option β :=
 runK rf (stepF d.o.op fr st) fun x => afterF fr d.o.dst x.1 [] fun fr => recheckF rf d.re done fr x.2 (ih (d :: done) fr x.2 k)
noncomputable def oneD (rf : Orc) (d : DOper) (_ : List DOper) (ih : List DOper → Fr → St → (Fr → St → Option β) → Option β) (done : List DOper) (fr : Fr) (st : St) (k : Fr → St → Option β) : Option β :=
 gateF d.o.guard fr (fun fr => doneD rf d done ih fr st k) (fun fr => afterF fr d.o.dst (.tup []) [] fun fr => ih (d :: done) fr st k)
noncomputable def drawF (rf : Orc) (ds : List DOper) : List DOper → Fr → St → (Fr → St → Option β) → Option β :=
 List.rec (motive := fun _ => List DOper → Fr → St → (Fr → St → Option β) → Option β) (fun _ fr st k => k fr st) (oneD rf) ds
theorem drawF_eq (rf : Orc) : ∀ (ds done : List DOper) (fr : Fr) (st : St) (k : Fr → St → Option β), drawF rf ds done fr st k = ((runD done ds fr st).run rf).bind fun x => k x.1 x.2
 | [], done, fr, st, k => rfl
 | d :: rest, done, fr, st, k => by
   show oneD rf d rest (drawF rf rest) done fr st k = _
   simp only [runD]
   rw [← gateF_eq]
   unfold oneD
   congr 1
   · funext fr
     rw [run_bind, doneD, runK_eq, stepF_eq]
     cases (step d.o.op fr st).run rf with
     | none => rfl
     | some q =>
       obtain ⟨v, st'⟩ := q
       simp only [Option.bind_some, afterF_eq, Fr.after_eq]
       rw [drawF_eq rf rest, recheckF_eq]
   · funext fr
     simp only [afterF_eq, Fr.after_eq]
     exact drawF_eq rf rest _ _ _ k
end
/-! Code. -/
abbrev Res := Option (Ex × Fr × St)
noncomputable def thenF (r : Res) (k : Fr → St → Res) : Res :=
 Option.rec (motive := fun _ => Res) none (fun q => Ex.rec (motive := fun _ => Res) (k q.2.1 q.2.2) (fun id => some (.exit id, q.2)) (some (.ret, q.2)) q.1) r
theorem thenF_eq (r : Res) (k : Fr → St → Res) : thenF r k = match r with
 | some (.normal, fr, st) => k fr st
 | r => r := by
 cases r with
 | none => rfl
 | some q => obtain ⟨e, fr, st⟩ := q; cases e <;> rfl
noncomputable def outF (id : Nat) (r : Res) : Res :=
 Option.rec (motive := fun _ => Res) none (fun q => Ex.rec (motive := fun _ => Res) (some (.normal, q.2)) (fun id' => Bool.rec (motive := fun _ => Res) (some (.exit id', q.2)) (some (.normal, q.2)) (Nat.beq id' id)) (some (.ret, q.2)) q.1) r
theorem outF_eq (id : Nat) (r : Res) : outF id r = match r with
 | some (.exit id', fr, st) => match Nat.beq id' id with
   | true => some (.normal, fr, st)
   | false => some (.exit id', fr, st)
 | r => r := by
 cases r with
 | none => rfl
 | some q =>
   obtain ⟨e, fr, st⟩ := q
   cases e with
   | exit id' => simp only [outF]; cases Nat.beq id' id <;> rfl
   | normal => rfl
   | ret => rfl
abbrev RunC := AC → Fr → St → Res
noncomputable def x_skip (_ : RunC) (_ : Orc) (fr : Fr) (st : St) : Res := some (.normal, fr, st)
noncomputable def x_reg (ops : List AOper) (_ : RunC) (rf : Orc) (fr : Fr) (st : St) : Res := opsF rf ops fr st fun fr st => some (.normal, fr, st)
noncomputable def x_dreg (ds : List DOper) (kill : List Nat) (_ : RunC) (rf : Orc) (fr : Fr) (st : St) : Res := drawF rf ds [] fr st fun fr st => cutF kill fr fun fr => some (.normal, fr, st)
noncomputable def x_seq (a b : AC) (_ _ : RunC → Orc → Fr → St → Res) (ih : RunC) (_ : Orc) (fr : Fr) (st : St) : Res := thenF (ih a fr st) (ih b)
noncomputable def x_cond (c : Opd) (a b : AC) (_ _ : RunC → Orc → Fr → St → Res) (ih : RunC) (_ : Orc) (fr : Fr) (st : St) : Res :=
 match evF fr c with
 | .b x => Bool.rec (motive := fun _ => Res) (ih b fr st) (ih a fr st) x
 | _ => none
noncomputable def x_blk (id : Nat) (b : AC) (_ : RunC → Orc → Fr → St → Res) (ih : RunC) (_ : Orc) (fr : Fr) (st : St) : Res := outF id (ih b fr st)
noncomputable def x_loop (b : AC) (_ : RunC → Orc → Fr → St → Res) (ih : RunC) (_ : Orc) (fr : Fr) (st : St) : Res := thenF (ih b fr st) (ih (.loop b))
noncomputable def x_exit (id : Nat) (_ : RunC) (_ : Orc) (fr : Fr) (st : St) : Res := some (.exit id, fr, st)
noncomputable def x_ret (_ : RunC) (_ : Orc) (fr : Fr) (st : St) : Res := some (.ret, fr, st)
noncomputable def x_no (_ : RunC) (_ : Orc) (_ : Fr) (_ : St) : Res := none
noncomputable def codeF (c : AC) : RunC → Orc → Fr → St → Res :=
 AC.rec (motive := fun _ => RunC → Orc → Fr → St → Res) x_skip x_reg x_dreg x_seq x_cond x_blk x_loop x_exit x_ret x_no c
noncomputable def endF (fn : AFn) (r : Res) : Option (V × Heap) :=
 Option.rec (motive := fun _ => Option (V × Heap)) none (fun q => Ex.rec (motive := fun _ => Option (V × Heap))
  (Option.rec (motive := fun _ => Option (V × Heap)) none (fun v => some (v, q.2.2.g)) (resOf q.2.1 q.2.2 fn.results)) (fun _ => none)
  (Option.rec (motive := fun _ => Option (V × Heap)) none (fun v => some (v, q.2.2.g)) (resOf q.2.1 q.2.2 fn.results)) q.1) r
theorem endF_eq (fn : AFn) (r : Res) : endF fn r = match r with
 | some (.normal, fr, st) => match resOf fr st fn.results with
   | some v => some (v, st.g)
   | none => none
 | some (.ret, fr, st) => match resOf fr st fn.results with
   | some v => some (v, st.g)
   | none => none
 | _ => none := by
 cases r with
 | none => rfl
 | some q =>
   obtain ⟨e, fr, st⟩ := q
   cases e with
   | exit id => rfl
   | normal => simp only [endF]; cases resOf fr st fn.results <;> rfl
   | ret => simp only [endF]; cases resOf fr st fn.results <;> rfl
noncomputable def bodyF (fns : Nat → Option AFn) (ih : RunC) (f : Nat) (args : List V) (h : Heap) : Option (V × Heap) :=
 Option.rec (motive := fun _ => Option (V × Heap)) none (fun fn => Bool.rec (motive := fun _ => Option (V × Heap)) none (endF fn (ih fn.body (paramFrame 0 args) ⟨h, noL⟩)) (Nat.beq args.length fn.nparams)) (fns f)
noncomputable def callF (fns : Nat → Option AFn) (once : Nat) (orc : Orc) (ih : RunC) (f : Nat) (args : List V) (h : Heap) : Option (V × Heap) :=
 Option.rec (motive := fun _ => Option (V × Heap)) (Bool.rec (motive := fun _ => Option (V × Heap)) (bodyF fns ih f args h) (onceRun (bodyF fns ih) args h) (Nat.beq f once)) some (orc f args h)
noncomputable def execF (fns : Nat → Option AFn) (once : Nat) (orc : Orc) (n : Nat) : RunC :=
 Nat.rec (motive := fun _ => RunC) (fun _ _ _ => none) (fun _ ih c => codeF c ih (callF fns once orc ih)) n
theorem execF_eq (fns : Nat → Option AFn) (once : Nat) (orc : Orc) : ∀ (n : Nat) (c : AC) (fr : Fr) (st : St), execF fns once orc n c fr st = exec fns once orc n c fr st
 | 0, c, fr, st => by simp only [exec]; rfl
 | n + 1, c, fr, st => by
   have ih : execF fns once orc n = exec fns once orc n := by funext c fr st; exact execF_eq fns once orc n c fr st
   show codeF c (execF fns once orc n) (callF fns once orc (execF fns once orc n)) fr st = _
   rw [ih]
   have hb : ∀ f args h, bodyF fns (exec fns once orc n) f args h = match fns f with
    | none => none
    | some fn => match Nat.beq args.length fn.nparams with
      | false => none
      | true => match exec fns once orc n fn.body (paramFrame 0 args) ⟨h, noL⟩ with
        | some (.normal, fr, st) => match resOf fr st fn.results with
          | some v => some (v, st.g)
          | none => none
        | some (.ret, fr, st) => match resOf fr st fn.results with
          | some v => some (v, st.g)
          | none => none
        | _ => none := by
    intro f args h
    unfold bodyF
    cases fns f with
    | none => rfl
    | some fn =>
      dsimp only
      cases Nat.beq args.length fn.nparams with
      | false => rfl
      | true => exact endF_eq fn _
   have hc : callF fns once orc (exec fns once orc n) = fun f args h => match orc f args h with
    | some r => some r
    | none => match Nat.beq f once with
      | true => onceRun (fun (f : Nat) (args : List V) (h : Heap) => (match fns f with
        | none => none
        | some fn => match Nat.beq args.length fn.nparams with
          | false => none
          | true => match exec fns once orc n fn.body (paramFrame 0 args) ⟨h, noL⟩ with
            | some (.normal, fr, st) => match resOf fr st fn.results with
              | some v => some (v, st.g)
              | none => none
            | some (.ret, fr, st) => match resOf fr st fn.results with
              | some v => some (v, st.g)
              | none => none
            | _ => none : Option (V × Heap))) args h
      | false => (match fns f with
        | none => none
        | some fn => match Nat.beq args.length fn.nparams with
          | false => none
          | true => match exec fns once orc n fn.body (paramFrame 0 args) ⟨h, noL⟩ with
            | some (.normal, fr, st) => match resOf fr st fn.results with
              | some v => some (v, st.g)
              | none => none
            | some (.ret, fr, st) => match resOf fr st fn.results with
              | some v => some (v, st.g)
              | none => none
            | _ => none : Option (V × Heap)) := by
    funext f args h
    unfold callF
    have hb' := funext fun f => funext fun args => funext fun h => hb f args h
    replace hb' : bodyF fns (exec fns once orc n) = _ := hb'
    rw [hb']
    cases orc f args h with
    | some r => rfl
    | none =>
      dsimp only
      cases Nat.beq f once <;> rfl
   rw [hc]
   simp only [exec]
   cases c with
   | skip => rfl
   | reg ops =>
     show opsF _ ops fr st (fun fr st => some (Ex.normal, fr, st)) = _
     rw [opsF_eq]
     dsimp only
     cases (runOps ops fr st).run _ with
     | none => rfl
     | some q => rfl
   | dreg ds kill =>
     show drawF _ ds [] fr st (fun fr st => cutF kill fr fun fr => some (Ex.normal, fr, st)) = _
     rw [drawF_eq]
     dsimp only
     cases (runD [] ds fr st).run _ with
     | none => rfl
     | some q => exact cutF_eq _ _ _
   | seq a b => exact thenF_eq _ _
   | cond d a b =>
     show (match evF fr d with
      | .b x => _
      | _ => none) = _
     rw [evF_eq]
     dsimp only
     cases d.ev fr
     case b x => cases x <;> rfl
     all_goals rfl
   | blk id b => exact outF_eq _ _
   | loop b => exact thenF_eq _ _
   | exit id => rfl
   | ret => rfl
   | no => rfl
noncomputable def runF (fns : Nat → Option AFn) (once : Nat) (orc : Orc) (n : Nat) (f : Nat) (args : List V) (h : Heap) : Option (V × Heap) := bodyF fns (execF fns once orc n) f args h
theorem runF_eq (fns : Nat → Option AFn) (once : Nat) (orc : Orc) (n f : Nat) (args : List V) (h : Heap) : runF fns once orc n f args h = runFn fns once orc n f args h := by
 unfold runF bodyF runFn
 cases fns f with
 | none => rfl
 | some fn =>
   dsimp only
   cases Nat.beq args.length fn.nparams with
   | false => rfl
   | true =>
     have ih : execF fns once orc n = exec fns once orc n := by funext c fr st; exact execF_eq fns once orc n c fr st
     rw [ih]
     exact endF_eq fn _
end Go.Eng
