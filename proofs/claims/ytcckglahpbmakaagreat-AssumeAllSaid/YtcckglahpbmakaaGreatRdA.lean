/-
Numbers out of bytes.
-/
import Derived.Test.YtcckglahpbmakaaGreatWrA
set_option linter.unusedVariables false
set_option linter.unusedSimpArgs false
namespace Go.Eng
open Go
def numD (l : List Int) : Int := l.foldl (fun n x => n * 256 + x) 0
theorem numD_snoc (l : List Int) (x : Int) : numD (l ++ [x]) = numD l * 256 + x := by simp [numD]
theorem u8_wrap (n : Nat) : IntKind.u8.wrap (n : Int) = ((n % 256 : Nat) : Int) := by
  simp [IntKind.wrap, IntKind.bits, IntKind.signed]
theorem byteN_eq (n k : Nat) (hk : k ≤ 8) : byteN (n : Int) (8 * (k : Int)) = ((n / 256 ^ k % 256 : Nat) : Int) := by
  unfold byteN
  have h1 : (8 * (k : Int)).toNat = 8 * k := by omega
  have h2 : min (8 * k) 64 = 8 * k := by omega
  rw [h1, show IntKind.i64.bits = 64 from rfl, h2]
  have h3 : (n : Int).fdiv (2 ^ (8 * k)) = ((n / 256 ^ k : Nat) : Int) := by
    have h4 : ((2 : Int) ^ (8 * k)) = ((256 ^ k : Nat) : Int) := by
      rw [show (256 : Nat) = 2 ^ 8 from rfl, ← Nat.pow_mul, Int.natCast_pow]; rfl
    rw [h4, Int.fdiv_eq_ediv_of_nonneg _ (Int.natCast_nonneg _)]
    rfl
  rw [h3, u8_wrap]
theorem numB_snoc (n k : Nat) (hk : k ≤ 7) : numB (n : Int) (k + 1) = numB ((n / 256 : Nat) : Int) k ++ [((n % 256 : Nat) : Int)] := by
  unfold numB
  rw [List.range_succ, List.map_append, List.map_singleton]
  congr 1
  · refine List.map_congr_left fun i hi => ?_
    have hi := List.mem_range.1 hi
    rw [show 8 * (((k + 1 : Nat) : Int) - 1 - (i : Int)) = 8 * ((k - i : Nat) : Int) by omega, show 8 * ((k : Int) - 1 - (i : Int)) = 8 * ((k - 1 - i : Nat) : Int) by omega, byteN_eq _ _ (by omega), byteN_eq _ _ (by omega), Nat.div_div_eq_div_mul, show 256 * 256 ^ (k - 1 - i) = 256 ^ (k - i) by rw [← Nat.pow_succ']; congr 1; omega]
  · rw [show 8 * (((k + 1 : Nat) : Int) - 1 - (k : Int)) = 8 * ((0 : Nat) : Int) by omega, byteN_eq _ _ (by omega), Nat.pow_zero, Nat.div_one]
theorem numD_numB : ∀ (k n : Nat), k ≤ 8 → n < 256 ^ k → numD (numB (n : Int) k) = n
  | 0, n, _, h => by
    have : n = 0 := by simpa using h
    subst this; rfl
  | k + 1, n, hk, h => by
    rw [numB_snoc n k (by omega), numD_snoc, numD_numB k (n / 256) (by omega) (by rw [Nat.pow_succ] at h; omega)]
    omega
theorem numB_byte (n : Int) (k : Nat) : ∀ x ∈ numB n k, 0 ≤ x ∧ x < 256 := by
  intro x hx
  obtain ⟨i, _, rfl⟩ := List.mem_map.1 hx
  unfold byteN
  generalize n.fdiv _ = y
  simp only [IntKind.wrap, IntKind.bits, IntKind.signed]
  constructor
  · exact Int.emod_nonneg _ (by decide)
  · exact Int.emod_lt_of_pos _ (by decide)
theorem numD_nonneg : ∀ (n : Nat) (l : List Int), l.length = n → (∀ x ∈ l, 0 ≤ x ∧ x < 256) → 0 ≤ numD l
  | 0, l, h, _ => by rw [List.length_eq_zero_iff.1 h]; decide
  | n + 1, l, h, hb => by
    have hne : l ≠ [] := by rintro rfl; simp at h
    rw [← List.dropLast_concat_getLast hne, numD_snoc]
    have h1 := numD_nonneg n l.dropLast (by simp; omega) fun x hx => hb x ((List.dropLast_sublist l).subset hx)
    have h2 := hb _ (List.getLast_mem hne)
    omega
theorem numD_le_append : ∀ (n : Nat) (r l : List Int), r.length = n → (∀ x ∈ l, 0 ≤ x ∧ x < 256) → (∀ x ∈ r, 0 ≤ x ∧ x < 256) → numD l ≤ numD (l ++ r)
  | 0, r, l, h, _, _ => by rw [List.length_eq_zero_iff.1 h, List.append_nil]; exact Int.le_refl _
  | n + 1, r, l, h, hl, hb => by
    have hne : r ≠ [] := by rintro rfl; simp at h
    rw [← List.dropLast_concat_getLast hne, ← List.append_assoc, numD_snoc]
    have hb' : ∀ x ∈ r.dropLast, 0 ≤ x ∧ x < 256 := fun x hx => hb x ((List.dropLast_sublist r).subset hx)
    have h1 := numD_le_append n r.dropLast l (by simp; omega) hl hb'
    have h2 := hb _ (List.getLast_mem hne)
    have h3 := numD_nonneg _ (l ++ r.dropLast) rfl fun x hx => by
      rcases List.mem_append.1 hx with h | h
      · exact hl x h
      · exact hb' x h
    omega
theorem or_byte {n x : Int} (hn : 0 ≤ n) (hx : 0 ≤ x) (hx2 : x < 256) (hm : n * 256 + x ≤ 9223372036854775807) : IntKind.i64.wrap ((BitVec.ofInt IntKind.i64.bits (n * 2 ^ (min (8 : Int).toNat IntKind.i64.bits)) ||| BitVec.ofInt IntKind.i64.bits x).toNat) = n * 256 + x := by
  obtain ⟨a, rfl⟩ := Int.eq_ofNat_of_zero_le hn
  obtain ⟨b, rfl⟩ := Int.eq_ofNat_of_zero_le hx
  have e0 : ((a : Int) * 2 ^ (min (8 : Int).toNat IntKind.i64.bits)) = ((a * 256 : Nat) : Int) := by
    rw [show min (8 : Int).toNat IntKind.i64.bits = 8 from rfl]; omega
  have hb : b < 2 ^ 8 := by omega
  have e1 : (BitVec.ofInt IntKind.i64.bits ((a * 256 : Nat) : Int)).toNat = a * 256 := by
    rw [BitVec.ofInt_natCast, BitVec.toNat_ofNat]
    exact Nat.mod_eq_of_lt (by show _ < 2 ^ 64; omega)
  have e2 : (BitVec.ofInt IntKind.i64.bits ((b : Nat) : Int)).toNat = b := by
    rw [BitVec.ofInt_natCast, BitVec.toNat_ofNat]
    exact Nat.mod_eq_of_lt (by show _ < 2 ^ 64; omega)
  rw [e0, BitVec.toNat_or, e1, e2, show a * 256 = a <<< 8 by rw [Nat.shiftLeft_eq], ← Nat.shiftLeft_add_eq_or_of_lt hb, Nat.shiftLeft_eq]
  rw [wrap_of_in (by show (-9223372036854775808 : Int) ≤ _; omega) (by show _ ≤ (9223372036854775807 : Int); omega)]
  omega
end Go.Eng
/-
The reader: numbers, counts.
-/
namespace Go.Eng
open Go
def RdAt (h : Heap) (a : Nat) (m : Bool) (B : List Int) : Prop := a < h.next ∧ h.get a = some (.cs (tv m ++ [.sl none 1 (B.map byR), .b false]))
section
variable {P : Program} (hG : FnsOk P AF.fns.get)
include hG
set_option maxHeartbeats 4000000 in
theorem rnum_at {h : Heap} {a : Nat} {m : Bool} {X R : List Int} (hr : RdAt h a m (X ++ R)) (size : Nat) (hX : X.length = size) (hs : size ≤ 8) (hl : (X ++ R).length ≤ 1000000000) (hb : ∀ x ∈ X, 0 ≤ x ∧ x < 256) (hm : numD X ≤ 9223372036854775807) {K : V → Heap → Prop}
    (hK : ∀ h', RdAt h' a m R → Heap.Keeps (fun n => n = a) h h' → K (.i .i64 (numD X)) h') : ACall P 123 [.p (.g a) 0, .i .i64 size] h K := by
  obtain ⟨han, ga⟩ := hr
  have hlm : ((X ++ R).map byR).length = (X ++ R).length := List.length_map _
  have hXm : (X.map byR).length = size := by simpa using hX
  have hN : List.drop (Int.toNat 0) (List.take ((size : Nat) : Int).toNat ((X ++ R).map byR)) = X.map byR := by
    rw [Int.toNat_natCast, List.map_append, List.take_append_of_le_length (by omega), List.take_of_length_le (by omega)]; rfl
  have hD : List.drop ((size : Nat) : Int).toNat ((X ++ R).map byR) = R.map byR := by
    rw [Int.toNat_natCast, List.map_append, List.drop_append, List.drop_of_length_le (by omega), hXm, Nat.sub_self]; rfl
  have hll : (X ++ R).length = size + R.length := by rw [List.length_append, hX]
  refine fn_sp (hG _ AF.f123 rfl) rfl ?_
  ((conv => whnf); repeat ((first | refine SOpt.of (tv_ldo _ _ _) ?_ | refine SIf.df (show ¬ (((X ++ R).map byR).length : Int) < (size : Int) by omega) ?_ | refine SEx.of (congrArg some hN) ?_ | refine SChk.d3 (by omega) (by omega) (by omega) ?_ | refine SEx.of (ga) ?_ | refine yf rfl ?_ | refine yt rfl ?_ | refine yo rfl ?_ | refine yc rfl ?_ | refine ys rfl ?_ | refine ye rfl ?_ | refine yn rfl ?_ | refine zw ?_ | refine zdt ?_ | refine zdf ?_ | refine znt ?_ | refine znf ?_ | refine zcd ?_ | refine zci ?_ | refine zc3 ?_) <;> (conv => whnf)))
  refine SLoop.by (fun q fr st => ∃ (i : Nat) (l : Heap), i ≤ size ∧ q = size - i ∧
      Fr.le [(28, .i .i64 i), (27, .i .i64 (X.map byR).length), (26, .sl none 1 (X.map byR)), (5, .i .i64 (numD (X.take i))), (1, .i .i64 size), (0, .p (.g a) 0)] fr ∧ st = ⟨h, l⟩)
    size ⟨0, _, Nat.zero_le _, rfl, (by repeat (first | exact Fr.le_nil | refine Fr.le_cons rfl ?_)), rfl⟩ ?_
  rintro q fr st ⟨i, l, hi, rfl, hle0, rfl⟩
  refine ⟨_, hle0, fun R0 hR => ?_⟩
  by_cases hin : i < size
  · have he := List.getElem?_eq_getElem (show i < X.length by omega)
    have hxb := hb _ (List.getElem_mem (show i < X.length by omega))
    generalize X[i] = x at he hxb
    have htk : X.take (i + 1) = X.take i ++ [x] := by rw [List.take_add_one, he]; rfl
    have hst : numD (X.take (i + 1)) = numD (X.take i) * 256 + x := by rw [htk, numD_snoc]
    have hbt : ∀ y ∈ X.take i, 0 ≤ y ∧ y < 256 := fun y hy => hb y (List.mem_of_mem_take hy)
    have h0 := numD_nonneg _ (X.take i) rfl hbt
    have hle : numD (X.take (i + 1)) ≤ numD X := by
      have := numD_le_append _ (X.drop (i + 1)) (X.take (i + 1)) rfl (fun y hy => hb y (List.mem_of_mem_take hy)) (fun y hy => hb y (List.mem_of_mem_drop hy))
      rwa [List.take_append_drop] at this
    have hor := or_byte h0 hxb.1 hxb.2 (by omega)
    have hsh : numD (X.take i) * 2 ^ (min (8 : Int).toNat IntKind.i64.bits) = numD (X.take i) * 256 := rfl
    ((conv => whnf); repeat ((first | refine SIf.dt (show (i : Int) < (X.map byR).length by omega) ?_ | refine SWrap.w64 (by rw [hsh]; omega) (by rw [hsh]; omega) ?_ | refine SWrap.w64 (by omega) (by omega) ?_ | refine SEx.of (map_get' (by omega) he) ?_ | refine yf rfl ?_ | refine yt rfl ?_ | refine yo rfl ?_ | refine yc rfl ?_ | refine ys rfl ?_ | refine ye rfl ?_ | refine yn rfl ?_ | refine zw ?_ | refine zdt ?_ | refine zdf ?_ | refine znt ?_ | refine znf ?_ | refine zcd ?_ | refine zci ?_ | refine zc3 ?_) <;> (conv => whnf)))
    rw [hor, ← hst]
    exact hR (size - (i + 1)) _ _ (by omega) ⟨i + 1, _, by omega, rfl, (by repeat (first | exact Fr.le_nil | refine Fr.le_cons rfl ?_)), rfl⟩
  · obtain rfl : i = size := by omega
    have hfull : X.take i = X := List.take_of_length_le (by omega)
    rw [hfull]
    ((conv => whnf); repeat ((first | refine SIf.df (show ¬ (i : Int) < (X.map byR).length by omega) ?_ | refine SOpt.of (tv_ldo _ _ _) ?_ | refine SEx.of (congrArg some hD) ?_ | refine SChk.d2 (by omega) (by omega) ?_ | refine SChk.mk (tv_fits _ _ _ _) ?_ | refine SEx.of (congrArg some (tv_st _ _ _ _)) ?_ | refine SEx.of (ga) ?_ | refine yf rfl ?_ | refine yt rfl ?_ | refine yo rfl ?_ | refine yc rfl ?_ | refine ys rfl ?_ | refine ye rfl ?_ | refine yn rfl ?_ | refine zw ?_ | refine zdt ?_ | refine zdf ?_ | refine znt ?_ | refine znf ?_ | refine zcd ?_ | refine zci ?_ | refine zc3 ?_) <;> (conv => whnf)))
    exact hK _ ⟨han, Heap.get_set_self ga⟩ (Heap.Keeps.set (b := fun n => n = a) (.refl _ _) (.inl rfl) _)
theorem rnumB_at {h : Heap} {a : Nat} {m : Bool} {n size : Nat} {R : List Int} (hr : RdAt h a m (numB n size ++ R)) (hs : size ≤ 8) (hn : n < 256 ^ size) (hn2 : (n : Int) ≤ 9223372036854775807) (hl : R.length ≤ 100000000) {K : V → Heap → Prop}
    (hK : ∀ h', RdAt h' a m R → Heap.Keeps (fun n => n = a) h h' → K (.i .i64 n) h') : ACall P 123 [.p (.g a) 0, .i .i64 size] h K := by
  have hd := numD_numB size n hs hn
  refine rnum_at hG hr size (numB_len _ _) hs (by rw [List.length_append, numB_len]; omega) (numB_byte _ _) (by rw [hd]; exact hn2) fun h' q1 q2 => ?_
  rw [hd]
  exact hK h' q1 q2
theorem rcount_at {h : Heap} {a : Nat} {m : Bool} {n : Nat} {R : List Int} (hr : RdAt h a m (numB n 1 ++ R)) (hn : n < 256) (hnR : n ≤ R.length) (hl : R.length ≤ 100000000) {K : V → Heap → Prop}
    (hK : ∀ h', RdAt h' a m R → Heap.Keeps (fun n => n = a) h h' → K (.i .i64 n) h') : ACall P 126 [.p (.g a) 0, .i .i64 1] h K := by
  have h1 := fun K hK => rnumB_at (K := K) hG hr (by omega) (by omega) (by omega) hl hK
  have hlm : (R.map byR).length = R.length := List.length_map _
  refine fn_sp (hG _ AF.f126 rfl) rfl ?_
  ((conv => whnf); repeat ((first | refine SCall.app (h1 _) ?_ | refine yf rfl ?_ | refine yt rfl ?_ | refine yo rfl ?_ | refine yc rfl ?_ | refine ys rfl ?_ | refine ye rfl ?_ | refine yn rfl ?_ | refine zw ?_ | refine zdt ?_ | refine zdf ?_ | refine znt ?_ | refine znf ?_ | refine zcd ?_ | refine zci ?_ | refine zc3 ?_) <;> (conv => whnf)))
  intro h2 r2 k2
  ((conv => whnf); repeat ((first | refine SOpt.of (tv_ldo _ _ _) ?_ | refine SIf.df (show ¬ ((n : Nat) : Int) > ((R.map byR).length : Nat) by omega) ?_ | refine SEx.of (r2.2) ?_ | refine yf rfl ?_ | refine yt rfl ?_ | refine yo rfl ?_ | refine yc rfl ?_ | refine ys rfl ?_ | refine ye rfl ?_ | refine yn rfl ?_ | refine zw ?_ | refine zdt ?_ | refine zdf ?_ | refine znt ?_ | refine znf ?_ | refine zcd ?_ | refine zci ?_ | refine zc3 ?_) <;> (conv => whnf)))
  exact hK h2 r2 k2
theorem rbool_at {h : Heap} {a : Nat} {m : Bool} {b : Bool} {R : List Int} (hr : RdAt h a m (encBool b ++ R)) (hl : R.length ≤ 100000000) {K : V → Heap → Prop}
    (hK : ∀ h', RdAt h' a m R → Heap.Keeps (fun n => n = a) h h' → K (.b b) h') : ACall P 130 [.p (.g a) 0] h K := by
  cases b
  · have h1 := fun K hK => rnumB_at (K := K) (n := 0) (size := 1) hG hr (by omega) (by omega) (by omega) hl hK
    refine fn_sp (hG _ AF.f130 rfl) rfl ?_
    ((conv => whnf); repeat ((first | refine SCall.app (h1 _) ?_ | refine yf rfl ?_ | refine yt rfl ?_ | refine yo rfl ?_ | refine yc rfl ?_ | refine ys rfl ?_ | refine ye rfl ?_ | refine yn rfl ?_ | refine zw ?_ | refine zdt ?_ | refine zdf ?_ | refine znt ?_ | refine znf ?_ | refine zcd ?_ | refine zci ?_ | refine zc3 ?_) <;> (conv => whnf)))
    intro h2 r2 k2
    ((conv => whnf); repeat ((first | refine yf rfl ?_ | refine yt rfl ?_ | refine yo rfl ?_ | refine yc rfl ?_ | refine ys rfl ?_ | refine ye rfl ?_ | refine yn rfl ?_ | refine zw ?_ | refine zdt ?_ | refine zdf ?_ | refine znt ?_ | refine znf ?_ | refine zcd ?_ | refine zci ?_ | refine zc3 ?_) <;> (conv => whnf)))
    exact hK h2 r2 k2
  · have h1 := fun K hK => rnumB_at (K := K) (n := 1) (size := 1) hG hr (by omega) (by omega) (by omega) hl hK
    refine fn_sp (hG _ AF.f130 rfl) rfl ?_
    ((conv => whnf); repeat ((first | refine SCall.app (h1 _) ?_ | refine yf rfl ?_ | refine yt rfl ?_ | refine yo rfl ?_ | refine yc rfl ?_ | refine ys rfl ?_ | refine ye rfl ?_ | refine yn rfl ?_ | refine zw ?_ | refine zdt ?_ | refine zdf ?_ | refine znt ?_ | refine znf ?_ | refine zcd ?_ | refine zci ?_ | refine zc3 ?_) <;> (conv => whnf)))
    intro h2 r2 k2
    ((conv => whnf); repeat ((first | refine yf rfl ?_ | refine yt rfl ?_ | refine yo rfl ?_ | refine yc rfl ?_ | refine ys rfl ?_ | refine ye rfl ?_ | refine yn rfl ?_ | refine zw ?_ | refine zdt ?_ | refine zdf ?_ | refine znt ?_ | refine znf ?_ | refine zcd ?_ | refine zci ?_ | refine zc3 ?_) <;> (conv => whnf)))
    exact hK h2 r2 k2
omit hG in
theorem tv_ldb (m : Bool) (x y : V) : ldCells (tv m ++ [x, y]) (0 + 298) none = some y := by
  show (tv m ++ [x, y])[_]? = _
  rw [List.getElem?_append_right (by rw [tv_len]; omega), tv_len]; rfl
theorem rend_at {h : Heap} {a : Nat} {m : Bool} (hr : RdAt h a m []) {K : V → Heap → Prop} (hK : K (.b true) h) : ACall P 131 [.p (.g a) 0] h K := by
  refine fn_sp (hG _ AF.f131 rfl) rfl ?_
  ((conv => whnf); repeat ((first | refine SOpt.of (tv_ldb _ _ _) ?_ | refine SOpt.of (tv_ldo _ _ _) ?_ | refine SEx.of (hr.2) ?_ | refine yf rfl ?_ | refine yt rfl ?_ | refine yo rfl ?_ | refine yc rfl ?_ | refine ys rfl ?_ | refine ye rfl ?_ | refine yn rfl ?_ | refine zw ?_ | refine zdt ?_ | refine zdf ?_ | refine znt ?_ | refine znf ?_ | refine zcd ?_ | refine zci ?_ | refine zc3 ?_) <;> (conv => whnf)))
  exact hK
set_option maxRecDepth 10000 in
theorem rnew_at {h : Heap} (B : List Int) (hl : B.length ≤ 100000000) {K : V → Heap → Prop} (hK : ∀ h', RdAt h' h.next false B → Heap.Keeps (fun _ => False) h h' → K (.p (.g h.next) 0) h') : ACall P 122 [.sl none 1 (B.map byR)] h K := by
  have hc := clone_byte hG B (by omega)
  refine fn_sp (hG _ AF.f122 rfl) rfl ?_
  ((conv => whnf); repeat ((first | refine SCall.app (Pure.go hc rfl) ?_ | refine yf rfl ?_ | refine yt rfl ?_ | refine yo rfl ?_ | refine yc rfl ?_ | refine ys rfl ?_ | refine ye rfl ?_ | refine yn rfl ?_ | refine zw ?_ | refine zdt ?_ | refine zdf ?_ | refine znt ?_ | refine znf ?_ | refine zcd ?_ | refine zci ?_ | refine zc3 ?_) <;> (conv => whnf)))
  exact hK _ ⟨Nat.lt_succ_self _, Heap.get_push_self _ _⟩ (.push (.refl _ _) _)
end
end Go.Eng
/-
The reader: names.
-/
namespace Go.Eng
open Go
def NameOk (s : Str) : Prop := s.length ≤ 12 ∧ ∀ c ∈ s, 0 < digitB c.toNat
def bytesN (s : Str) : List Int := s.map fun c => (c.toNat : Int)
theorem bytesOf_N : ∀ s : Str, bytesOf ((bytesN s).map byR) = some s
  | [] => rfl
  | c :: r => by
    have h := bytesOf_N r
    show bytesOf ([V.i .u8 (c.toNat : Int)] :: (bytesN r).map byR) = _
    simp only [bytesOf, h]
    simp

section
variable {P : Program} (hG : FnsOk P AF.fns.get)
include hG
def RevAt (l r : List Int) (i : Nat) : Prop := r.length = l.length ∧ ∀ j, j < l.length → r[j]? = if j < i ∨ l.length ≤ j + i then l[l.length - 1 - j]? else l[j]?
omit hG in
theorem RevAt.step {l r : List Int} {i : Nat} (h : RevAt l r i) (hi : 2 * i + 1 < l.length) {x y : Int} (hx : l[i]? = some x) (hy : l[l.length - 1 - i]? = some y) : RevAt l ((r.set i y).set (l.length - 1 - i) x) (i + 1) := by
  obtain ⟨h1, h2⟩ := h
  refine ⟨by simp [h1], fun j hj => ?_⟩
  rw [List.getElem?_set, List.getElem?_set]
  by_cases c1 : l.length - 1 - i = j
  · rw [if_pos c1, if_pos (by simp [h1]; omega), if_pos (by omega), ← c1, show l.length - 1 - (l.length - 1 - i) = i by omega, hx]
  · rw [if_neg c1]
    by_cases c2 : i = j
    · rw [if_pos c2, if_pos (by omega), if_pos (by omega), ← c2, hy]
    · rw [if_neg c2, h2 j hj]
      by_cases c3 : j < i ∨ l.length ≤ j + i
      · rw [if_pos c3, if_pos (by omega)]
      · rw [if_neg c3, if_neg (by omega)]
omit hG in
theorem RevAt.done {l r : List Int} {i : Nat} (h : RevAt l r i) (hi : l.length ≤ 2 * i + 1) (hi2 : 2 * i ≤ l.length) : r = l.reverse := by
  obtain ⟨h1, h2⟩ := h
  apply List.ext_getElem?
  intro j
  by_cases hj : j < l.length
  · rw [h2 j hj, List.getElem?_reverse (by omega)]
    by_cases c : j < i ∨ l.length ≤ j + i
    · rw [if_pos c]
    · rw [if_neg c]
      congr 1; omega
  · rw [List.getElem?_eq_none (by omega), List.getElem?_eq_none (by simp; omega)]
set_option maxHeartbeats 4000000 in
theorem rev_at {h : Heap} {c : Nat} {l : List Int} (hc : h.get c = some (.arr 1 (l.map byR))) (hl : l.length ≤ 1000) {K : V → Heap → Prop}
    (hK : ∀ h', h'.get c = some (.arr 1 (l.reverse.map byR)) → Heap.Keeps (fun n => n = c) h h' → K (.tup []) h') : ACall P 164 [.ms (.g c) 1 0 l.length] h K := by
  refine fn_sp (hG _ AF.f164 rfl) rfl ?_
  ((conv => whnf); repeat ((first | refine SWrap.w64 (by omega) (by omega) ?_ | refine yf rfl ?_ | refine yt rfl ?_ | refine yo rfl ?_ | refine yc rfl ?_ | refine ys rfl ?_ | refine ye rfl ?_ | refine yn rfl ?_ | refine zw ?_ | refine zdt ?_ | refine zdf ?_ | refine znt ?_ | refine znf ?_ | refine zcd ?_ | refine zci ?_ | refine zc3 ?_) <;> (conv => whnf)))
  refine SLoop.by (fun q fr st => ∃ (i : Nat) (hh lc : Heap) (r : List Int), 2 * i ≤ l.length ∧ q = l.length - i ∧ RevAt l r i ∧ hh.get c = some (.arr 1 (r.map byR)) ∧ Heap.Keeps (fun n => n = c) h hh ∧
      Fr.le [(3, .i .i64 ((l.length : Int) - 1 - i)), (2, .i .i64 i), (0, .ms (.g c) 1 0 l.length)] fr ∧ st = ⟨hh, lc⟩)
    l.length ⟨0, h, _, l, by omega, rfl, ⟨rfl, fun j hj => by rw [if_neg (by omega)]⟩, hc, .refl _ _, (by
      have : ((l.length : Int) - 1 - ((0 : Nat) : Int)) = (l.length : Int) - 1 := by omega
      rw [this]; exact (by repeat (first | exact Fr.le_nil | refine Fr.le_cons rfl ?_))), rfl⟩ ?_
  rintro q fr st ⟨i, hh, lc, r, hi, rfl, hrev, hg, hk, hle0, rfl⟩
  refine ⟨_, hle0, fun R hR => ?_⟩
  have hrl := hrev.1
  have hrm : (r.map byR).length = l.length := by rw [List.length_map, hrl]
  by_cases hin : (i : Int) < (l.length : Int) - 1 - i
  · have hj : l.length - 1 - i < l.length := by omega
    have hx := List.getElem?_eq_getElem (show i < l.length by omega)
    have hy := List.getElem?_eq_getElem hj
    generalize l[i] = x at hx
    generalize l[l.length - 1 - i] = y at hy
    have hrx : r[i]? = some x := by rw [hrev.2 i (by omega), if_neg (by omega), hx]
    have hry : r[l.length - 1 - i]? = some y := by rw [hrev.2 _ hj, if_neg (by omega), hy]
    have gx : (r.map byR)[0 + ((i : Nat) : Int).toNat]? = some [.i .u8 x] := by rw [Nat.zero_add, Int.toNat_natCast, List.getElem?_map, hrx]; rfl
    have gy : (r.map byR)[0 + ((l.length : Int) - 1 - (i : Int)).toNat]? = some [.i .u8 y] := by rw [Nat.zero_add, show ((l.length : Int) - 1 - (i : Int)).toNat = l.length - 1 - i by omega, List.getElem?_map, hry]; rfl
    have gy2 : ((r.map byR).set (0 + ((i : Nat) : Int).toNat) [.i .u8 y])[0 + ((l.length : Int) - 1 - (i : Int)).toNat]? = some [.i .u8 y] := by rw [List.getElem?_set_ne (by omega)]; exact gy
    have hfin : ((r.map byR).set (0 + ((i : Nat) : Int).toNat) [.i .u8 y]).set (0 + ((l.length : Int) - 1 - (i : Int)).toNat) [.i .u8 x] = ((r.set i y).set (l.length - 1 - i) x).map byR := by
      rw [Nat.zero_add, Nat.zero_add, Int.toNat_natCast, show ((l.length : Int) - 1 - (i : Int)).toNat = l.length - 1 - i by omega, List.map_set, List.map_set]; rfl
    ((conv => whnf); repeat ((first | refine SIf.dt hin ?_ | refine SChk.ix (by omega) (by omega) ?_ | refine SChk.mk (decide_eq_true (by omega)) ?_ | refine SWrap.w64 (by omega) (by omega) ?_ | refine SEx.of (hg) ?_ | refine SEx.of (gx) ?_ | refine SEx.of (gy) ?_ | refine SEx.of (gy2) ?_ | refine SEx.of (Heap.get_set_self hg) ?_ | refine yf rfl ?_ | refine yt rfl ?_ | refine yo rfl ?_ | refine yc rfl ?_ | refine ys rfl ?_ | refine ye rfl ?_ | refine yn rfl ?_ | refine zw ?_ | refine zdt ?_ | refine zdf ?_ | refine znt ?_ | refine znf ?_ | refine zcd ?_ | refine zci ?_ | refine zc3 ?_) <;> (conv => whnf)))
    exact hR (l.length - (i + 1)) _ _ (by omega) ⟨i + 1, _, _, (r.set i y).set (l.length - 1 - i) x, by omega, rfl, hrev.step (by omega) hx hy, (Heap.get_set_self (Heap.get_set_self hg)).trans (congrArg (fun x => some (Obj.arr 1 x)) hfin),
      Heap.Keeps.set (b := fun n => n = c) (Heap.Keeps.set (b := fun n => n = c) hk (.inl rfl) _) (.inl rfl) _, (by
        have e1 : ((l.length : Int) - 1 - ((i + 1 : Nat) : Int)) = (l.length : Int) - 1 - (i : Int) - 1 := by omega
        rw [e1]; exact (by repeat (first | exact Fr.le_nil | refine Fr.le_cons rfl ?_))), rfl⟩
  · ((conv => whnf); repeat ((first | refine SIf.df hin ?_ | refine yf rfl ?_ | refine yt rfl ?_ | refine yo rfl ?_ | refine yc rfl ?_ | refine ys rfl ?_ | refine ye rfl ?_ | refine yn rfl ?_ | refine zw ?_ | refine zdt ?_ | refine zdf ?_ | refine znt ?_ | refine znf ?_ | refine zcd ?_ | refine zci ?_ | refine zc3 ?_) <;> (conv => whnf)))
    exact hK hh (by rw [← hrev.done (by omega) (by omega)]; exact hg) hk
end
end Go.Eng
/-
The reader: a name.
-/
namespace Go.Eng
open Go
theorem tv_back (R : List V) {d : Nat} (hd : d ≤ 37) (x : Int) (hx : x = (d : Int)) : ldCells (tv true ++ R) (0 + 0 + 259 + x.toNat * 1) none = some (.i .u8 (backB d : Nat)) := by
  subst hx
  show (tv true ++ R)[_]? = _
  rw [show 0 + 0 + 259 + ((d : Nat) : Int).toNat * 1 = 259 + d by omega]
  rw [List.getElem?_append_left (by rw [tv_len]; omega)]
  unfold tv tabV
  rw [List.getElem?_append_right (by simp)]
  simp only [List.length_append, List.length_cons, List.length_nil, List.length_map, List.length_range]
  rw [show 259 + d - (0 + 1 + 1 + 1 + 256) = d by omega]
  simp [tabBack, hd, show d < 38 by omega]
def accN (s : Str) (i : Nat) : List Int := bytesN (s.drop (12 - i)).reverse
theorem accN_some {s : Str} {i : Nat} (hi : i < 12) {c : UInt8} (hc : s[11 - i]? = some c) : accN s (i + 1) = accN s i ++ [(c.toNat : Int)] := by
  unfold accN
  have h1 := (List.getElem?_eq_some_iff.1 hc)
  obtain ⟨h2, h3⟩ := h1
  rw [show 12 - (i + 1) = 11 - i by omega, List.drop_eq_getElem_cons h2, h3, show 11 - i + 1 = 12 - i by omega]
  simp [bytesN]
theorem accN_none {s : Str} {i : Nat} (hi : i < 12) (hc : s.length ≤ 11 - i) : accN s (i + 1) = accN s i := by
  unfold accN
  rw [List.drop_of_length_le (show s.length ≤ 12 - (i + 1) by omega), List.drop_of_length_le (show s.length ≤ 12 - i by omega)]
def BAcc (h : Heap) (lo a : Nat) (bv : V) (acc : List Int) : Prop := (acc = [] ∧ bv = .nils) ∨ ∃ c, bv = .ms (.g c) 1 0 acc.length ∧ lo ≤ c ∧ c ≠ a ∧ c < h.next ∧ h.get c = some (.arr 1 (acc.map byR)) ∧ acc ≠ []
theorem Heap.Keeps.trans' {h hh h3 : Heap} {a c : Nat} (h1 : Heap.Keeps (fun n => n = a) h hh) (h2 : Heap.Keeps (fun n => n = c) hh h3) (hc : h.next ≤ c) : Heap.Keeps (fun n => n = a) h h3 :=
  (Heap.Keeps.trans (b := fun n => n = a ∨ n = c) (h1.mono fun _ _ e => .inl e) (h2.mono fun _ _ e => .inr e)).mono fun n hn e => by rcases e with e | e; exact e; omega
section
variable {P : Program} (hG : FnsOk P AF.fns.get)
include hG
theorem rev_nil {h : Heap} {K : V → Heap → Prop} (hK : K (.tup []) h) : ACall P 164 [.nils] h K := by
  refine fn_sp (hG _ AF.f164 rfl) rfl ?_
  ((conv => whnf); repeat ((first | refine SLoop.un ?_ | refine yf rfl ?_ | refine yt rfl ?_ | refine yo rfl ?_ | refine yc rfl ?_ | refine ys rfl ?_ | refine ye rfl ?_ | refine yn rfl ?_ | refine zw ?_ | refine zdt ?_ | refine zdf ?_ | refine znt ?_ | refine znf ?_ | refine zcd ?_ | refine zci ?_ | refine zc3 ?_) <;> (conv => whnf)))
  exact hK
theorem rmake_at (hon : OnceOk P 161) {h : Heap} {a : Nat} {m : Bool} {B : List Int} (hr : RdAt h a m B) {K : V → Heap → Prop}
    (hK : ∀ h', RdAt h' a true B → Heap.Keeps (fun n => n = a) h h' → K (.tup []) h') : ACall P 116 [.p (.g a) 0] h K :=
  tmake_at hG hon hr.1 hr.2 fun h' q1 q2 => hK h' ⟨Nat.lt_of_lt_of_le hr.1 q2.1, q1⟩ q2
set_option maxHeartbeats 8000000 in
theorem rname_at (hon : OnceOk P 161) {h : Heap} {a : Nat} {m : Bool} {s : Str} {B : List Int} (hr : RdAt h a m (encName s ++ B)) (hs : NameOk s) (hl : B.length ≤ 10000000) {K : V → Heap → Prop}
    (hK : ∀ h', RdAt h' a true B → Heap.Keeps (fun n => n = a) h h' → K (.s s) h') : ACall P 124 [.p (.g a) 0] h K := by
  have hmk := fun K hK => rmake_at (K := K) hG hon hr hK
  have hcl := codeN_lt s
  refine fn_sp (hG _ AF.f124 rfl) rfl ?_
  ((conv => whnf); repeat ((first | refine SCall.app (hmk _) ?_ | refine yf rfl ?_ | refine yt rfl ?_ | refine yo rfl ?_ | refine yc rfl ?_ | refine ys rfl ?_ | refine ye rfl ?_ | refine yn rfl ?_ | refine zw ?_ | refine zdt ?_ | refine zdf ?_ | refine znt ?_ | refine znf ?_ | refine zcd ?_ | refine zci ?_ | refine zc3 ?_) <;> (conv => whnf)))
  intro h1 r1 k1
  have hnum := fun K hK => rnumB_at (K := K) (n := codeN s) (size := 8) hG r1 (by omega) (by omega) (by omega) (by omega) hK
  ((conv => whnf); repeat ((first | refine SCall.app (hnum _) ?_ | refine yf rfl ?_ | refine yt rfl ?_ | refine yo rfl ?_ | refine yc rfl ?_ | refine ys rfl ?_ | refine ye rfl ?_ | refine yn rfl ?_ | refine zw ?_ | refine zdt ?_ | refine zdf ?_ | refine znt ?_ | refine znf ?_ | refine zcd ?_ | refine zci ?_ | refine zc3 ?_) <;> (conv => whnf)))
  intro h2 r2 k2
  ((conv => whnf); repeat ((first | refine SWrap.wu (by omega) (by omega) ?_ | refine yf rfl ?_ | refine yt rfl ?_ | refine yo rfl ?_ | refine yc rfl ?_ | refine ys rfl ?_ | refine ye rfl ?_ | refine yn rfl ?_ | refine zw ?_ | refine zdt ?_ | refine zdf ?_ | refine znt ?_ | refine znf ?_ | refine zcd ?_ | refine zci ?_ | refine zc3 ?_) <;> (conv => whnf)))
  refine SLoop.by (fun q fr st => ∃ (i : Nat) (hh lc : Heap) (bv : V), i ≤ 12 ∧ q = 12 - i ∧ RdAt hh a true B ∧ Heap.Keeps (fun n => n = a) h hh ∧ BAcc hh h.next a bv (accN s i) ∧
      Fr.le [(13, .i .i64 i), (4, bv), (3, .i .u64 (codeL ((digitsN s).take (12 - i)) : Nat)), (0, .p (.g a) 0)] fr ∧ st = ⟨hh, lc⟩)
    12 ⟨0, h2, _, .nils, Nat.zero_le _, rfl, r2, k1.trans k2, .inl ⟨(by unfold accN; rw [List.drop_of_length_le (by have := hs.1; omega)]; rfl), rfl⟩, (by
      rw [show (digitsN s).take (12 - 0) = digitsN s from List.take_of_length_le (by rw [digitsN_len]; omega)]; exact (by repeat (first | exact Fr.le_nil | refine Fr.le_cons rfl ?_))), rfl⟩ ?_
  rintro q fr st ⟨i, hh, lc, bv, hi, rfl, hrd, hk, hb, hle0, rfl⟩
  refine ⟨_, hle0, fun R hR => ?_⟩
  have hal : (accN s i).length ≤ 12 := by unfold accN bytesN; simp; have := hs.1; omega
  by_cases hin : i < 12
  · have htk := digitsN_take s (show 11 - i < 12 by omega)
    rw [show 11 - i + 1 = 12 - i by omega] at htk
    have hlt := code_take s (show 11 - i ≤ 12 by omega)
    have hp := pow38 (show 11 - i ≤ 12 by omega)
    have hcode : codeL ((digitsN s).take (12 - i)) = codeL ((digitsN s).take (11 - i)) * 38 + digitAt s (11 - i) := by rw [htk, codeL_snoc]
    have hdl := digitAt_le s (11 - i)
    generalize hA : codeL ((digitsN s).take (12 - i)) = A at *
    generalize hC : codeL ((digitsN s).take (11 - i)) = C at *
    have htm : ((A : Nat) : Int).tmod 38 = (digitAt s (11 - i) : Nat) := by rw [Int.tmod_eq_emod_of_nonneg (by omega)]; omega
    have hdv : ((A : Nat) : Int).tdiv 38 = (C : Nat) := by rw [Int.tdiv_eq_ediv_of_nonneg (by omega)]; omega
    have hC' : codeL ((digitsN s).take (12 - (i + 1))) = C := by rw [show 12 - (i + 1) = 11 - i by omega]; exact hC
    obtain ⟨han, hga⟩ := hrd
    by_cases hin2 : 11 - i < s.length
    · have hc := List.getElem?_eq_getElem hin2
      have hcm := List.getElem_mem hin2
      generalize s[11 - i] = c at hc hcm
      have hd0 := hs.2 c hcm
      have hd : digitAt s (11 - i) = digitB c.toNat := by unfold digitAt; rw [hc]
      have hbk := back_digit c.toNat hd0
      have hacc := accN_some (s := s) hin hc
      rw [hd] at htm hdl
      rcases hb with ⟨hb0, rfl⟩ | ⟨kc, rfl, hkl, hka, hkn, hkg, hne⟩
      · ((conv => whnf); repeat ((first | refine SIf.dt (show (i : Int) < 12 by omega) ?_ | refine SIf.dt (show ((A : Nat) : Int).tmod 38 > 0 by rw [htm]; omega) ?_ | refine SChk.ix (by rw [htm]; omega) (by rw [htm]; omega) ?_ | refine SOpt.of (tv_back _ hdl _ htm) ?_ | refine SWrap.wu (by rw [hdv]; omega) (by rw [hdv]; omega) ?_ | refine SWrap.w64 (by omega) (by omega) ?_ | refine SEx.of (hga) ?_ | refine SEx.of (Heap.get_push_self _ _) ?_ | refine yf rfl ?_ | refine yt rfl ?_ | refine yo rfl ?_ | refine yc rfl ?_ | refine ys rfl ?_ | refine ye rfl ?_ | refine yn rfl ?_ | refine zw ?_ | refine zdt ?_ | refine zdf ?_ | refine znt ?_ | refine znf ?_ | refine zcd ?_ | refine zci ?_ | refine zc3 ?_) <;> (conv => whnf)))
        rw [hdv]
        have hrow : some (Obj.arr 1 [[V.i .u8 (backB (digitB c.toNat) : Nat)]]) = some (.arr 1 ((accN s (i + 1)).map byR)) := by rw [hacc, hb0, hbk]; rfl
        exact hR (12 - (i + 1)) _ _ (by omega) ⟨i + 1, _, _, _, by omega, rfl, ⟨Nat.lt_succ_of_lt (Nat.lt_succ_of_lt han), Heap.gp (by show a ≠ hh.next + 1; omega) (Heap.gp (by omega) hga)⟩, .push (.push hk _) _,
          .inr ⟨hh.next + 1, by first | (rw [hacc, hb0]; done) | (rw [hacc, hb0]; rfl), by have := hk.1; omega, by omega, Nat.lt_succ_self _, (Heap.get_push_self _ _).trans hrow, by rw [hacc]; simp⟩, (by rw [hC']; exact (by repeat (first | exact Fr.le_nil | refine Fr.le_cons rfl ?_))), rfl⟩
      · have g3 : ∀ o, (hh.push o).get kc = some (.arr 1 ((accN s i).map byR)) := fun o => Heap.gp (by omega) hkg
        have hm : ((accN s i).map byR).length = (accN s i).length := List.length_map _
        ((conv => whnf); repeat ((first | refine SIf.dt (show (i : Int) < 12 by omega) ?_ | refine SIf.dt (show ((A : Nat) : Int).tmod 38 > 0 by rw [htm]; omega) ?_ | refine SChk.ix (by rw [htm]; omega) (by rw [htm]; omega) ?_ | refine SOpt.of (tv_back _ hdl _ htm) ?_ | refine SWrap.wu (by rw [hdv]; omega) (by rw [hdv]; omega) ?_ | refine SWrap.w64 (by omega) (by omega) ?_ | refine SChk.mk (by simp only [roomOk]; exact decide_eq_true (by simp; omega)) ?_ | refine SChk.mk (decide_eq_true (by rw [hm]; omega)) ?_ | refine SIf.df (show ¬ 0 + (accN s i).length + 1 ≤ ((accN s i).map byR).length by rw [hm]; omega) ?_ | refine SEx.of (hga) ?_ | refine SEx.of (Heap.get_push_self _ _) ?_ | refine SEx.of (g3 _) ?_ | refine yf rfl ?_ | refine yt rfl ?_ | refine yo rfl ?_ | refine yc rfl ?_ | refine ys rfl ?_ | refine ye rfl ?_ | refine yn rfl ?_ | refine zw ?_ | refine zdt ?_ | refine zdf ?_ | refine znt ?_ | refine znf ?_ | refine zcd ?_ | refine zci ?_ | refine zc3 ?_) <;> (conv => whnf)))
        rw [hdv]
        have hrow : some (Obj.arr 1 (List.drop 0 (List.take (0 + (accN s i).length) ((accN s i).map byR)) ++ [[V.i .u8 (backB (digitB c.toNat) : Nat)]])) = some (.arr 1 ((accN s (i + 1)).map byR)) := by
          rw [List.take_of_length_le (by rw [hm]; omega), hacc, hbk, List.map_append]; rfl
        have hkk : ∀ o o2, Heap.Keeps (fun n => n = a) h (((hh.push o).remove kc).push o2) := fun o o2 => .push (Heap.Keeps.remove (b := fun n => n = a) (.push hk _) (.inr hkl)) _
        exact hR (12 - (i + 1)) _ _ (by omega) ⟨i + 1, _, _, _, by omega, rfl, ⟨Nat.lt_succ_of_lt (Nat.lt_succ_of_lt han), Heap.gp (by show a ≠ hh.next + 1; omega) (Heap.gr (by omega) (Heap.gp (by omega) hga))⟩, hkk _ _,
          .inr ⟨hh.next + 1, by first | (rw [hacc, List.length_append]; done) | (rw [hacc, List.length_append]; rfl), by have := hk.1; omega, by omega, Nat.lt_succ_self _, (Heap.get_push_self _ _).trans hrow, by rw [hacc]; simp⟩, (by rw [hC']; exact (by repeat (first | exact Fr.le_nil | refine Fr.le_cons rfl ?_))), rfl⟩
    · have hd : digitAt s (11 - i) = 0 := by unfold digitAt; rw [List.getElem?_eq_none (by omega)]
      have hacc := accN_none (s := s) hin (by omega)
      rw [hd] at htm
      have hb' : BAcc hh h.next a bv (accN s (i + 1)) := by rw [hacc]; exact hb
      rcases hb with ⟨hb0, rfl⟩ | ⟨kc, rfl, hkl, hka, hkn, hkg, hne⟩
      all_goals
        ((conv => whnf); repeat ((first | refine SIf.dt (show (i : Int) < 12 by omega) ?_ | refine SIf.df (show ¬ ((A : Nat) : Int).tmod 38 > 0 by rw [htm]; omega) ?_ | refine SWrap.wu (by rw [hdv]; omega) (by rw [hdv]; omega) ?_ | refine SWrap.w64 (by omega) (by omega) ?_ | refine yf rfl ?_ | refine yt rfl ?_ | refine yo rfl ?_ | refine yc rfl ?_ | refine ys rfl ?_ | refine ye rfl ?_ | refine yn rfl ?_ | refine zw ?_ | refine zdt ?_ | refine zdf ?_ | refine znt ?_ | refine znf ?_ | refine zcd ?_ | refine zci ?_ | refine zc3 ?_) <;> (conv => whnf)))
        rw [hdv]
        exact hR (12 - (i + 1)) _ _ (by omega) ⟨i + 1, hh, _, _, by omega, rfl, ⟨han, hga⟩, hk, hb', (by rw [hC']; exact (by repeat (first | exact Fr.le_nil | refine Fr.le_cons rfl ?_))), rfl⟩
  · obtain rfl : i = 12 := by omega
    have hfin : accN s 12 = bytesN s.reverse := by unfold accN; simp
    have hrevs : (accN s 12).reverse = bytesN s := by rw [hfin]; simp [bytesN, List.map_reverse]
    have hbs := bytesOf_N s
    have hlen : (accN s 12).length = s.length := by rw [hfin]; simp [bytesN]
    rcases hb with ⟨hb0, rfl⟩ | ⟨kc, rfl, hkl, hka, hkn, hkg, hne⟩
    · have hs0 : s = [] := List.length_eq_zero_iff.1 (by rw [← hlen, hb0]; rfl)
      have hrn := fun K hK => rev_nil (K := K) hG (h := hh) hK
      ((conv => whnf); repeat ((first | refine SIf.df (show ¬ ((12 : Nat) : Int) < 12 by omega) ?_ | refine SCall.app (hrn _) ?_ | refine yf rfl ?_ | refine yt rfl ?_ | refine yo rfl ?_ | refine yc rfl ?_ | refine ys rfl ?_ | refine ye rfl ?_ | refine yn rfl ?_ | refine zw ?_ | refine zdt ?_ | refine zdf ?_ | refine znt ?_ | refine znf ?_ | refine zcd ?_ | refine zci ?_ | refine zc3 ?_) <;> (conv => whnf)))
      rw [hs0] at hK
      exact hK hh hrd hk
    · have hrv := fun K hK => rev_at (K := K) hG hkg (by omega) hK
      ((conv => whnf); repeat ((first | refine SIf.df (show ¬ ((12 : Nat) : Int) < 12 by omega) ?_ | refine SCall.app (hrv _) ?_ | refine yf rfl ?_ | refine yt rfl ?_ | refine yo rfl ?_ | refine yc rfl ?_ | refine ys rfl ?_ | refine ye rfl ?_ | refine yn rfl ?_ | refine zw ?_ | refine zdt ?_ | refine zdf ?_ | refine znt ?_ | refine znf ?_ | refine zcd ?_ | refine zci ?_ | refine zc3 ?_) <;> (conv => whnf)))
      intro h3 q1 q2
      rw [hrevs] at q1
      have hm : ((bytesN s).map byR).length = s.length := by simp [bytesN]
      have hd : List.take (accN s 12).length (List.drop 0 ((bytesN s).map byR)) = (bytesN s).map byR := List.take_of_length_le (by rw [hlen]; simp [bytesN])
      ((conv => whnf); repeat ((first | refine SChk.mk (decide_eq_true (by rw [hm, hlen]; omega)) ?_ | refine SEx.of ((congrArg bytesOf hd).trans hbs) ?_ | refine SEx.of (q1) ?_ | refine yf rfl ?_ | refine yt rfl ?_ | refine yo rfl ?_ | refine yc rfl ?_ | refine ys rfl ?_ | refine ye rfl ?_ | refine yn rfl ?_ | refine zw ?_ | refine zdt ?_ | refine zdf ?_ | refine znt ?_ | refine znf ?_ | refine zcd ?_ | refine zci ?_ | refine zc3 ?_) <;> (conv => whnf)))
      exact hK h3 ⟨Nat.lt_of_lt_of_le hrd.1 q2.1, by rw [q2.2 a hrd.1 (by omega)]; exact hrd.2⟩ (hk.trans' q2 hkl)
end
end Go.Eng
/-
The reader: amounts, pairs.
-/
namespace Go.Eng
open Go
def lsV {α : Type} (k : Nat) (R : α → List V) : List α → V
  | [] => .nils
  | x :: r => .sl none k ((x :: r).map R)
def OutW (lc : Heap) (k : Nat) (bv : V) (rows : List (List V)) : Prop := (rows = [] ∧ bv = .nils) ∨ ∃ t, bv = .sl (some (.l t)) k rows ∧ t < lc.next ∧ lc.get t = some .spare ∧ rows ≠ []
theorem flatW_ge {α : Type} (f : α → List Int) (h : ∀ x, 1 ≤ (f x).length) : ∀ l : List α, l.length ≤ (l.flatMap f).length
  | [] => Nat.le_refl _
  | x :: r => by
    have h1 := flatW_ge f h r
    have h2 := h x
    rw [List.flatMap_cons, List.length_append, List.length_cons]
    omega
theorem flatW_drop {α : Type} (f : α → List Int) {l : List α} {i : Nat} {x : α} (h : l[i]? = some x) : (l.drop i).flatMap f = f x ++ (l.drop (i + 1)).flatMap f := by
  obtain ⟨h1, h2⟩ := List.getElem?_eq_some_iff.1 h
  rw [List.drop_eq_getElem_cons h1, h2, List.flatMap_cons]
theorem flatW_len_drop {α : Type} (f : α → List Int) (n : Nat) (l : List α) (i : Nat) (h : ∀ x ∈ l, (f x).length ≤ n) : ((l.drop i).flatMap f).length ≤ l.length * n := by
  have h1 := flatW_len f n (l.drop i) fun x hx => h x (List.mem_of_mem_drop hx)
  have h2 : (l.drop i).length * n ≤ l.length * n := Nat.mul_le_mul_right n (by simp)
  omega
def ResByte (r : ResD) : Prop := (0 ≤ r.a ∧ r.a < 4294967296) ∧ (0 ≤ r.b ∧ r.b < 4294967296) ∧ (0 ≤ r.c ∧ r.c < 4294967296)
section
variable {P : Program} (hG : FnsOk P AF.fns.get)
include hG
theorem rnumI_at {h : Heap} {a : Nat} {m : Bool} {n : Int} {size : Nat} {R : List Int} (hr : RdAt h a m (numB n size ++ R)) (hs : size ≤ 8) (hn : 0 ≤ n) (hn1 : n < ((256 ^ size : Nat) : Int)) (hn2 : n ≤ 9223372036854775807) (hl : R.length ≤ 100000000) {K : V → Heap → Prop}
    (hK : ∀ h', RdAt h' a m R → Heap.Keeps (fun n => n = a) h h' → K (.i .i64 n) h') : ACall P 123 [.p (.g a) 0, .i .i64 size] h K := by
  obtain ⟨k, rfl⟩ := Int.eq_ofNat_of_zero_le hn
  exact rnumB_at hG hr hs (by omega) hn2 hl hK
set_option maxHeartbeats 4000000 in
theorem rres_at {h : Heap} {a : Nat} {m : Bool} {r : ResD} {R : List Int} (hr : RdAt h a m (encRes r ++ R)) (hb : ResByte r) (hl : R.length ≤ 10000000) {K : V → Heap → Prop}
    (hK : ∀ h', RdAt h' a m R → Heap.Keeps (fun n => n = a) h h' → K (.agg (resR r)) h') : ACall P 125 [.p (.g a) 0] h K := by
  unfold encRes at hr
  rw [List.append_assoc, List.append_assoc] at hr
  obtain ⟨⟨a1, a2⟩, ⟨b1, b2⟩, ⟨d1, d2⟩⟩ := hb
  have h1 := fun K hK => rnumI_at (K := K) hG hr (by omega) a1 (by show r.a < (4294967296 : Int); exact a2) (by omega) (by simp only [List.length_append, numB_len]; omega) hK
  refine fn_sp (hG _ AF.f125 rfl) rfl ?_
  ((conv => whnf); repeat ((first | refine SLoop.un ?_ | refine SCall.app (h1 _) ?_ | refine yf rfl ?_ | refine yt rfl ?_ | refine yo rfl ?_ | refine yc rfl ?_ | refine ys rfl ?_ | refine ye rfl ?_ | refine yn rfl ?_ | refine zw ?_ | refine zdt ?_ | refine zdf ?_ | refine znt ?_ | refine znf ?_ | refine zcd ?_ | refine zci ?_ | refine zc3 ?_) <;> (conv => whnf)))
  intro h2 r2 k2
  have h3 := fun K hK => rnumI_at (K := K) hG r2 (by omega) b1 (by show r.b < (4294967296 : Int); exact b2) (by omega) (by simp only [List.length_append, numB_len]; omega) hK
  ((conv => whnf); repeat ((first | refine SLoop.un ?_ | refine SCall.app (h3 _) ?_ | refine yf rfl ?_ | refine yt rfl ?_ | refine yo rfl ?_ | refine yc rfl ?_ | refine ys rfl ?_ | refine ye rfl ?_ | refine yn rfl ?_ | refine zw ?_ | refine zdt ?_ | refine zdf ?_ | refine znt ?_ | refine znf ?_ | refine zcd ?_ | refine zci ?_ | refine zc3 ?_) <;> (conv => whnf)))
  intro h4 r4 k4
  have h5 := fun K hK => rnumI_at (K := K) hG r4 (by omega) d1 (by show r.c < (4294967296 : Int); exact d2) (by omega) (by omega) hK
  ((conv => whnf); repeat ((first | refine SLoop.un ?_ | refine SCall.app (h5 _) ?_ | refine yf rfl ?_ | refine yt rfl ?_ | refine yo rfl ?_ | refine yc rfl ?_ | refine ys rfl ?_ | refine ye rfl ?_ | refine yn rfl ?_ | refine zw ?_ | refine zdt ?_ | refine zdf ?_ | refine znt ?_ | refine znf ?_ | refine zcd ?_ | refine zci ?_ | refine zc3 ?_) <;> (conv => whnf)))
  intro h6 r6 k6
  ((conv => whnf); repeat ((first | refine SLoop.un ?_ | refine yf rfl ?_ | refine yt rfl ?_ | refine yo rfl ?_ | refine yc rfl ?_ | refine ys rfl ?_ | refine ye rfl ?_ | refine yn rfl ?_ | refine zw ?_ | refine zdt ?_ | refine zdf ?_ | refine znt ?_ | refine znf ?_ | refine zcd ?_ | refine zci ?_ | refine zc3 ?_) <;> (conv => whnf)))
  exact hK h6 r6 ((k2.trans k4).trans k6)
set_option maxHeartbeats 4000000 in
theorem rpairs_at (hon : OnceOk P 161) {h : Heap} {a : Nat} {m : Bool} {l : List PairD} {R : List Int} (hr : RdAt h a m (encPairs l ++ R)) (hl : l.length ≤ 100) (hok : ∀ p ∈ l, NameOk p.key ∧ NameOk p.val) (hR : R.length ≤ 1000000) {K : V → Heap → Prop}
    (hK : ∀ h' m', RdAt h' a m' R → Heap.Keeps (fun n => n = a) h h' → K (lsV 2 pairR l) h') : ACall P 127 [.p (.g a) 0, .fn 128 [] []] h K := by
  have hpl : ∀ p : PairD, (encPair p).length = 16 := fun p => by simp [encPair, encName_len]
  unfold encPairs at hr
  rw [List.append_assoc] at hr
  have hge := flatW_ge encPair (fun p => by rw [hpl]; omega) l
  have hle := flatW_len encPair 16 l fun p _ => Nat.le_of_eq (hpl p)
  have h1 := fun K hK => rcount_at (K := K) hG hr (by omega) (by rw [List.length_append]; omega) (by rw [List.length_append]; omega) hK
  refine fn_sp (hG _ AF.f127 rfl) rfl ?_
  ((conv => whnf); repeat ((first | refine SCall.app (h1 _) ?_ | refine yf rfl ?_ | refine yt rfl ?_ | refine yo rfl ?_ | refine yc rfl ?_ | refine ys rfl ?_ | refine ye rfl ?_ | refine yn rfl ?_ | refine zw ?_ | refine zdt ?_ | refine zdf ?_ | refine znt ?_ | refine znf ?_ | refine zcd ?_ | refine zci ?_ | refine zc3 ?_) <;> (conv => whnf)))
  intro h2 r2 k2
  ((conv => whnf); repeat ((first | refine yf rfl ?_ | refine yt rfl ?_ | refine yo rfl ?_ | refine yc rfl ?_ | refine ys rfl ?_ | refine ye rfl ?_ | refine yn rfl ?_ | refine zw ?_ | refine zdt ?_ | refine zdf ?_ | refine znt ?_ | refine znf ?_ | refine zcd ?_ | refine zci ?_ | refine zc3 ?_) <;> (conv => whnf)))
  refine SLoop.by (fun q fr st => ∃ (i : Nat) (hh lc : Heap) (m' : Bool) (bv : V), i ≤ l.length ∧ q = l.length - i ∧ RdAt hh a m' ((l.drop i).flatMap encPair ++ R) ∧ Heap.Keeps (fun n => n = a) h hh ∧ OutW lc 2 bv ((l.take i).map pairR) ∧
      Fr.le [(10, .i .i64 i), (9, .i .i64 l.length), (5, bv), (1, .fn 128 [] []), (0, .p (.g a) 0)] fr ∧ st = ⟨hh, lc⟩)
    l.length ⟨0, h2, _, m, .nils, Nat.zero_le _, rfl, r2, k2, .inl ⟨rfl, rfl⟩, (by repeat (first | exact Fr.le_nil | refine Fr.le_cons rfl ?_)), rfl⟩ ?_
  rintro q fr st ⟨i, hh, lc, m', bv, hi, rfl, hrd, hk, hbv, hle0, rfl⟩
  refine ⟨_, hle0, fun R0 hR0 => ?_⟩
  have hld := flatW_len_drop encPair 16 l i fun p _ => Nat.le_of_eq (hpl p)
  have htl : ((l.take i).map pairR).length ≤ 100 := by simp; omega
  by_cases hin : i < l.length
  · have he := List.getElem?_eq_getElem hin
    have hxo := hok _ (List.getElem_mem hin)
    generalize l[i] = x at he hxo
    have hd := flatW_drop encPair he
    have hle2 := flatW_len_drop encPair 16 l (i + 1) fun p _ => Nat.le_of_eq (hpl p)
    rw [hd] at hrd
    unfold encPair at hrd
    rw [List.append_assoc, List.append_assoc] at hrd
    have htk : (l.take (i + 1)).map pairR = (l.take i).map pairR ++ [pairR x] := by rw [List.take_add_one, he]; simp
    have hn1 := fun K hK => rname_at (K := K) hG hon hrd hxo.1 (by rw [List.length_append, List.length_append, encName_len]; unfold encPair at hle2; omega) hK
    rcases hbv with ⟨hb0, rfl⟩ | ⟨t, rfl, ht1, ht2, hne⟩
    · ((conv => whnf); repeat ((first | refine SIf.dt (show (i : Int) < (l.length : Nat) by omega) ?_ | refine SCall.app (hn1 _) ?_ | refine yf rfl ?_ | refine yt rfl ?_ | refine yo rfl ?_ | refine yc rfl ?_ | refine ys rfl ?_ | refine ye rfl ?_ | refine yn rfl ?_ | refine zw ?_ | refine zdt ?_ | refine zdf ?_ | refine znt ?_ | refine znf ?_ | refine zcd ?_ | refine zci ?_ | refine zc3 ?_) <;> (conv => whnf)))
      intro h3 r3 k3
      have hn2 := fun K hK => rname_at (K := K) hG hon r3 hxo.2 (by rw [List.length_append]; unfold encPair at hle2; omega) hK
      ((conv => whnf); repeat ((first | refine SCall.app (hn2 _) ?_ | refine yf rfl ?_ | refine yt rfl ?_ | refine yo rfl ?_ | refine yc rfl ?_ | refine ys rfl ?_ | refine ye rfl ?_ | refine yn rfl ?_ | refine zw ?_ | refine zdt ?_ | refine zdf ?_ | refine znt ?_ | refine znf ?_ | refine zcd ?_ | refine zci ?_ | refine zc3 ?_) <;> (conv => whnf)))
      intro h4 r4 k4
      ((conv => whnf); repeat ((first | refine SCall.app (fn_sp (hG _ AF.f128 rfl) rfl) ?_ | refine SWrap.w64 (by omega) (by omega) ?_ | refine yf rfl ?_ | refine yt rfl ?_ | refine yo rfl ?_ | refine yc rfl ?_ | refine ys rfl ?_ | refine ye rfl ?_ | refine yn rfl ?_ | refine zw ?_ | refine zdt ?_ | refine zdf ?_ | refine znt ?_ | refine znf ?_ | refine zcd ?_ | refine zci ?_ | refine zc3 ?_) <;> (conv => whnf)))
      exact hR0 (l.length - (i + 1)) _ _ (by omega) ⟨i + 1, h4, _, true, _, by omega, rfl, r4, (hk.trans k3).trans k4, .inr ⟨lc.next + 1, by first | (rw [htk, hb0]; done) | (rw [htk, hb0]; rfl), Nat.lt_succ_self _, Heap.get_push_self _ _, by rw [htk]; simp⟩, (by repeat (first | exact Fr.le_nil | refine Fr.le_cons rfl ?_)), rfl⟩
    · have f0 : (lc.push .spare).get t = some .spare := Heap.gp (by omega) ht2
      ((conv => whnf); repeat ((first | refine SIf.dt (show (i : Int) < (l.length : Nat) by omega) ?_ | refine SCall.app (hn1 _) ?_ | refine yf rfl ?_ | refine yt rfl ?_ | refine yo rfl ?_ | refine yc rfl ?_ | refine ys rfl ?_ | refine ye rfl ?_ | refine yn rfl ?_ | refine zw ?_ | refine zdt ?_ | refine zdf ?_ | refine znt ?_ | refine znf ?_ | refine zcd ?_ | refine zci ?_ | refine zc3 ?_) <;> (conv => whnf)))
      intro h3 r3 k3
      have hn2 := fun K hK => rname_at (K := K) hG hon r3 hxo.2 (by rw [List.length_append]; unfold encPair at hle2; omega) hK
      ((conv => whnf); repeat ((first | refine SCall.app (hn2 _) ?_ | refine yf rfl ?_ | refine yt rfl ?_ | refine yo rfl ?_ | refine yc rfl ?_ | refine ys rfl ?_ | refine ye rfl ?_ | refine yn rfl ?_ | refine zw ?_ | refine zdt ?_ | refine zdf ?_ | refine znt ?_ | refine znf ?_ | refine zcd ?_ | refine zci ?_ | refine zc3 ?_) <;> (conv => whnf)))
      intro h4 r4 k4
      ((conv => whnf); repeat ((first | refine SCall.app (fn_sp (hG _ AF.f128 rfl) rfl) ?_ | refine SWrap.w64 (by omega) (by omega) ?_ | refine SChk.mk (by simp only [roomOk]; exact decide_eq_true (by simp at htl ⊢; omega)) ?_ | refine SEx.of (f0) ?_ | refine yf rfl ?_ | refine yt rfl ?_ | refine yo rfl ?_ | refine yc rfl ?_ | refine ys rfl ?_ | refine ye rfl ?_ | refine yn rfl ?_ | refine zw ?_ | refine zdt ?_ | refine zdf ?_ | refine znt ?_ | refine znf ?_ | refine zcd ?_ | refine zci ?_ | refine zc3 ?_) <;> (conv => whnf)))
      exact hR0 (l.length - (i + 1)) _ _ (by omega) ⟨i + 1, h4, _, true, _, by omega, rfl, r4, (hk.trans k3).trans k4, .inr ⟨lc.next + 1, by first | (rw [htk]; done) | (rw [htk]; rfl), Nat.lt_succ_self _, Heap.get_push_self _ _, by rw [htk]; simp⟩, (by repeat (first | exact Fr.le_nil | refine Fr.le_cons rfl ?_)), rfl⟩
  · obtain rfl : i = l.length := by omega
    rw [List.drop_length] at hrd
    rw [List.take_length] at hbv
    have hK' := hK hh m' hrd hk
    rcases hbv with ⟨hb0, rfl⟩ | ⟨t, rfl, ht1, ht2, hne⟩
    · have hl0 : l = [] := by simpa using hb0
      subst hl0
      ((conv => whnf); repeat ((first | refine SIf.df (show ¬ (((([] : List PairD)).length : Nat) : Int) < (([] : List PairD).length : Nat) by omega) ?_ | refine yf rfl ?_ | refine yt rfl ?_ | refine yo rfl ?_ | refine yc rfl ?_ | refine ys rfl ?_ | refine ye rfl ?_ | refine yn rfl ?_ | refine zw ?_ | refine zdt ?_ | refine zdf ?_ | refine znt ?_ | refine znf ?_ | refine zcd ?_ | refine zci ?_ | refine zc3 ?_) <;> (conv => whnf)))
      exact hK'
    · cases l with
      | nil => exact absurd rfl hne
      | cons x r =>
        ((conv => whnf); repeat ((first | refine SIf.df (show ¬ (((x :: r).length : Nat) : Int) < ((x :: r).length : Nat) by omega) ?_ | refine yf rfl ?_ | refine yt rfl ?_ | refine yo rfl ?_ | refine yc rfl ?_ | refine ys rfl ?_ | refine ye rfl ?_ | refine yn rfl ?_ | refine zw ?_ | refine zdt ?_ | refine zdf ?_ | refine znt ?_ | refine znf ?_ | refine zcd ?_ | refine zci ?_ | refine zc3 ?_) <;> (conv => whnf)))
        exact hK'
end
end Go.Eng
/-
The reader: terms.
-/
namespace Go.Eng
open Go
def termV (t : TermD) : List V := [.s t.key, .i .i64 t.kind, lsV 1 strR t.vals]
theorem termV_deep (t : TermD) : deepElems [termV t] = some [termV t] := by
  unfold termV
  cases t.vals <;> rfl
structure TermOk (t : TermD) : Prop where
  key : NameOk t.key
  kind : 0 ≤ t.kind ∧ t.kind < 256
  len : t.vals.length ≤ 100
  vals : ∀ s ∈ t.vals, NameOk s
theorem encTerm_ge (t : TermD) : 1 ≤ (encTerm t).length := by
  unfold encTerm
  rw [List.length_append, List.length_append, numB_len]
  omega
def OutK (lc : Heap) (kt : Nat) (bv : V) (rows : List (List V)) : Prop := (rows = [] ∧ bv = .nils) ∨ ∃ t, bv = .sl (some (.l t)) 1 rows ∧ kt < t ∧ t < lc.next ∧ lc.get t = some .spare ∧ rows ≠ []
section
variable {P : Program} (hG : FnsOk P AF.fns.get)
include hG
set_option maxHeartbeats 16000000 in
theorem rterms_at (hon : OnceOk P 161) {h : Heap} {a : Nat} {m : Bool} {l : List TermD} {R : List Int} (hr : RdAt h a m (encTerms l ++ R)) (hl : l.length ≤ 100) (hok : ∀ t ∈ l, TermOk t) (hR : R.length ≤ 1000000) {K : V → Heap → Prop}
    (hK : ∀ h' m', RdAt h' a m' R → Heap.Keeps (fun n => n = a) h h' → K (lsV 3 termV l) h') : ACall P 129 [.p (.g a) 0] h K := by
  have hpl : ∀ t ∈ l, (encTerm t).length ≤ 810 := fun t ht => encTerm_len (hok t ht).len
  unfold encTerms at hr
  rw [List.append_assoc] at hr
  have hge := flatW_ge encTerm encTerm_ge l
  have hle := flatW_len encTerm 810 l hpl
  have h1 := fun K hK => rcount_at (K := K) hG hr (by omega) (by rw [List.length_append]; omega) (by rw [List.length_append]; omega) hK
  refine fn_sp (hG _ AF.f129 rfl) rfl ?_
  ((conv => whnf); repeat ((first | refine SCall.app (h1 _) ?_ | refine yf rfl ?_ | refine yt rfl ?_ | refine yo rfl ?_ | refine yc rfl ?_ | refine ys rfl ?_ | refine ye rfl ?_ | refine yn rfl ?_ | refine zw ?_ | refine zdt ?_ | refine zdf ?_ | refine znt ?_ | refine znf ?_ | refine zcd ?_ | refine zci ?_ | refine zc3 ?_) <;> (conv => whnf)))
  intro h2 r2 k2
  ((conv => whnf); repeat ((first | refine yf rfl ?_ | refine yt rfl ?_ | refine yo rfl ?_ | refine yc rfl ?_ | refine ys rfl ?_ | refine ye rfl ?_ | refine yn rfl ?_ | refine zw ?_ | refine zdt ?_ | refine zdf ?_ | refine znt ?_ | refine znf ?_ | refine zcd ?_ | refine zci ?_ | refine zc3 ?_) <;> (conv => whnf)))
  refine SLoop.by (fun q fr st => ∃ (i : Nat) (hh lc : Heap) (m' : Bool) (bv : V), i ≤ l.length ∧ q = l.length - i ∧ RdAt hh a m' ((l.drop i).flatMap encTerm ++ R) ∧ Heap.Keeps (fun n => n = a) h hh ∧ OutW lc 3 bv ((l.take i).map termV) ∧
      Fr.le [(7, .i .i64 i), (6, .i .i64 l.length), (3, bv), (0, .p (.g a) 0)] fr ∧ st = ⟨hh, lc⟩)
    l.length ⟨0, h2, _, m, .nils, Nat.zero_le _, rfl, r2, k2, .inl ⟨rfl, rfl⟩, (by repeat (first | exact Fr.le_nil | refine Fr.le_cons rfl ?_)), rfl⟩ ?_
  rintro q fr st ⟨i, hh, lc, m', bv, hi, rfl, hrd, hk, hbv, hle0, rfl⟩
  refine ⟨_, hle0, fun R0 hR0 => ?_⟩
  have htl : ((l.take i).map termV).length ≤ 100 := by simp; omega
  by_cases hin : i < l.length
  · have he := List.getElem?_eq_getElem hin
    have hxo := hok _ (List.getElem_mem hin)
    generalize l[i] = x at he hxo
    have hd := flatW_drop encTerm he
    have hle2 := flatW_len_drop encTerm 810 l (i + 1) hpl
    rw [hd] at hrd
    unfold encTerm encVals at hrd
    simp only [List.append_assoc] at hrd
    have htk : (l.take (i + 1)).map termV = (l.take i).map termV ++ [termV x] := by rw [List.take_add_one, he]; simp
    have hvl := flatW_len encName 8 x.vals fun s _ => Nat.le_of_eq (encName_len s)
    have hvg := flatW_ge encName (fun s => by rw [encName_len]; omega) x.vals
    have hxl := hxo.len
    obtain ⟨R1, hR1⟩ : ∃ R1, R1 = (l.drop (i + 1)).flatMap encTerm ++ R := ⟨_, rfl⟩
    have hR1l : R1.length ≤ 1081000 := by rw [hR1, List.length_append]; omega
    change RdAt hh a m' (encName x.key ++ (numB x.kind 1 ++ (numB x.vals.length 1 ++ (x.vals.flatMap encName ++ ((l.drop (i + 1)).flatMap encTerm ++ R))))) at hrd
    rw [← hR1] at hrd
    have hn1 := fun K hK => rname_at (K := K) hG hon hrd hxo.key (by simp only [List.length_append, numB_len]; omega) hK
    have a1 : ∀ o, (lc.push o).get lc.next = some o := fun o => Heap.get_push_self _ _
    have a2 : ∀ o o2, ((lc.push o).set lc.next o2).get lc.next = some o2 := fun o o2 => Heap.get_set_self (a1 o)
    rcases hbv with ⟨hb0, rfl⟩ | ⟨t, rfl, ht1, ht2, hne⟩
    all_goals
      ((conv => whnf); repeat ((first | refine SIf.dt (show (i : Int) < (l.length : Nat) by omega) ?_ | refine SCall.app (hn1 _) ?_ | refine yf rfl ?_ | refine yt rfl ?_ | refine yo rfl ?_ | refine yc rfl ?_ | refine ys rfl ?_ | refine ye rfl ?_ | refine yn rfl ?_ | refine zw ?_ | refine zdt ?_ | refine zdf ?_ | refine znt ?_ | refine znf ?_ | refine zcd ?_ | refine zci ?_ | refine zc3 ?_) <;> (conv => whnf)))
      intro h3 r3 k3
      have hn2 := fun K hK => rnumI_at (K := K) hG r3 (by omega) hxo.kind.1 (by show x.kind < (256 : Int); exact hxo.kind.2) (by have := hxo.kind.2; omega) (by simp only [List.length_append, numB_len]; omega) hK
      ((conv => whnf); repeat ((first | refine SCall.app (hn2 _) ?_ | refine yf rfl ?_ | refine yt rfl ?_ | refine yo rfl ?_ | refine yc rfl ?_ | refine ys rfl ?_ | refine ye rfl ?_ | refine yn rfl ?_ | refine zw ?_ | refine zdt ?_ | refine zdf ?_ | refine znt ?_ | refine znf ?_ | refine zcd ?_ | refine zci ?_ | refine zc3 ?_) <;> (conv => whnf)))
      intro h4 r4 k4
      have hn3 := fun K hK => rcount_at (K := K) hG r4 (by omega) (by simp only [List.length_append]; omega) (by simp only [List.length_append]; omega) hK
      ((conv => whnf); repeat ((first | refine SCall.app (hn3 _) ?_ | refine SEx.of (a1 _) ?_ | refine SEx.of (a2 _ _) ?_ | refine yf rfl ?_ | refine yt rfl ?_ | refine yo rfl ?_ | refine yc rfl ?_ | refine ys rfl ?_ | refine ye rfl ?_ | refine yn rfl ?_ | refine zw ?_ | refine zdt ?_ | refine zdf ?_ | refine znt ?_ | refine znf ?_ | refine zcd ?_ | refine zci ?_ | refine zc3 ?_) <;> (conv => whnf)))
      intro h5 r5 k5
      ((conv => whnf); repeat ((first | refine SEx.of (a1 _) ?_ | refine SEx.of (a2 _ _) ?_ | refine yf rfl ?_ | refine yt rfl ?_ | refine yo rfl ?_ | refine yc rfl ?_ | refine ys rfl ?_ | refine ye rfl ?_ | refine yn rfl ?_ | refine zw ?_ | refine zdt ?_ | refine zdf ?_ | refine znt ?_ | refine znf ?_ | refine zcd ?_ | refine zci ?_ | refine zc3 ?_) <;> (conv => whnf)))
    · refine SLoop.by (fun q fr st => ∃ (j : Nat) (hj lj : Heap) (m2 : Bool) (bv2 : V), j ≤ x.vals.length ∧ q = x.vals.length - j ∧ RdAt hj a m2 ((x.vals.drop j).flatMap encName ++ R1) ∧ Heap.Keeps (fun n => n = a) h hj ∧
          lc.next < lj.next ∧ lj.get lc.next = some (.cs [.s x.key, .i .i64 x.kind, bv2]) ∧ OutK lj lc.next bv2 ((x.vals.take j).map strR) ∧
          Fr.le [(16, .i .i64 j), (15, .i .i64 x.vals.length), (4, .p (.l lc.next) 0), (7, .i .i64 i), (6, .i .i64 l.length), (3, .nils), (0, .p (.g a) 0)] fr ∧ st = ⟨hj, lj⟩)
        x.vals.length ⟨0, h5, _, _, .nils, Nat.zero_le _, rfl, r5, ((hk.trans k3).trans k4).trans k5, Nat.lt_succ_self _, a2 _ _, .inl ⟨rfl, rfl⟩, (by repeat (first | exact Fr.le_nil | refine Fr.le_cons rfl ?_)), rfl⟩ ?_
      rintro q fr st ⟨j, hj, lj, m2, bv2, hjl, rfl, hrj, hkj, hlj, b0, hb2, hle1, rfl⟩
      refine ⟨_, hle1, fun R2 hR2 => ?_⟩
      by_cases hjn : j < x.vals.length
      · have hv := List.getElem?_eq_getElem hjn
        have hvo := hxo.vals _ (List.getElem_mem hjn)
        generalize x.vals[j] = s at hv hvo
        have hd2 := flatW_drop encName hv
        have hle3 := flatW_len_drop encName 8 x.vals (j + 1) fun s _ => Nat.le_of_eq (encName_len s)
        rw [hd2, List.append_assoc] at hrj
        have htk2 : (x.vals.take (j + 1)).map strR = (x.vals.take j).map strR ++ [strR s] := by rw [List.take_add_one, hv]; simp
        have htl2 : ((x.vals.take j).map strR).length ≤ 100 := by simp; omega
        have hn6 := fun K hK => rname_at (K := K) hG hon hrj hvo (by rw [List.length_append]; omega) hK
        have p1 : (lj.push .spare).get lc.next = some (.cs [.s x.key, .i .i64 x.kind, bv2]) := Heap.gp (by omega) b0
        rcases hb2 with ⟨hb20, rfl⟩ | ⟨t2, rfl, ht21, ht22, ht23, hne2⟩
        · have p2 : ((lj.push .spare).push .spare).get lc.next = some (.cs [.s x.key, .i .i64 x.kind, .nils]) := Heap.gp (by show lc.next ≠ lj.next + 1; omega) p1
          ((conv => whnf); repeat ((first | refine SIf.dt (show (j : Int) < (x.vals.length : Nat) by omega) ?_ | refine SCall.app (hn6 _) ?_ | refine SEx.of (b0) ?_ | refine yf rfl ?_ | refine yt rfl ?_ | refine yo rfl ?_ | refine yc rfl ?_ | refine ys rfl ?_ | refine ye rfl ?_ | refine yn rfl ?_ | refine zw ?_ | refine zdt ?_ | refine zdf ?_ | refine znt ?_ | refine znf ?_ | refine zcd ?_ | refine zci ?_ | refine zc3 ?_) <;> (conv => whnf)))
          intro h6 r6 k6
          ((conv => whnf); repeat ((first | refine SWrap.w64 (by omega) (by omega) ?_ | refine SEx.of (b0) ?_ | refine SEx.of (p1) ?_ | refine SEx.of (p2) ?_ | refine yf rfl ?_ | refine yt rfl ?_ | refine yo rfl ?_ | refine yc rfl ?_ | refine ys rfl ?_ | refine ye rfl ?_ | refine yn rfl ?_ | refine zw ?_ | refine zdt ?_ | refine zdf ?_ | refine znt ?_ | refine znf ?_ | refine zcd ?_ | refine zci ?_ | refine zc3 ?_) <;> (conv => whnf)))
          exact hR2 (x.vals.length - (j + 1)) _ _ (by omega) ⟨j + 1, h6, _, true, _, by omega, rfl, r6, hkj.trans k6, (by show lc.next < lj.next + 1 + 1; omega), Heap.get_set_self p2, .inr ⟨lj.next + 1, by first | (rw [htk2, hb20]; done) | (rw [htk2, hb20]; rfl), by omega, Nat.lt_succ_self _, Heap.gs (by omega) (Heap.get_push_self _ _), by rw [htk2]; simp⟩, (by repeat (first | exact Fr.le_nil | refine Fr.le_cons rfl ?_)), rfl⟩
        · have f0 : (lj.push .spare).get t2 = some .spare := Heap.gp (by omega) ht23
          have p3 : (((lj.push .spare).remove t2).push .spare).get lc.next = some (.cs [.s x.key, .i .i64 x.kind, .sl (some (.l t2)) 1 ((x.vals.take j).map strR)]) := Heap.gp (by show lc.next ≠ lj.next + 1; omega) (Heap.gr (by omega) p1)
          ((conv => whnf); repeat ((first | refine SIf.dt (show (j : Int) < (x.vals.length : Nat) by omega) ?_ | refine SCall.app (hn6 _) ?_ | refine SEx.of (b0) ?_ | refine yf rfl ?_ | refine yt rfl ?_ | refine yo rfl ?_ | refine yc rfl ?_ | refine ys rfl ?_ | refine ye rfl ?_ | refine yn rfl ?_ | refine zw ?_ | refine zdt ?_ | refine zdf ?_ | refine znt ?_ | refine znf ?_ | refine zcd ?_ | refine zci ?_ | refine zc3 ?_) <;> (conv => whnf)))
          intro h6 r6 k6
          ((conv => whnf); repeat ((first | refine SWrap.w64 (by omega) (by omega) ?_ | refine SChk.mk (by simp only [roomOk]; exact decide_eq_true (by simp at htl2 ⊢; omega)) ?_ | refine SEx.of (b0) ?_ | refine SEx.of (p1) ?_ | refine SEx.of (p3) ?_ | refine SEx.of (f0) ?_ | refine yf rfl ?_ | refine yt rfl ?_ | refine yo rfl ?_ | refine yc rfl ?_ | refine ys rfl ?_ | refine ye rfl ?_ | refine yn rfl ?_ | refine zw ?_ | refine zdt ?_ | refine zdf ?_ | refine znt ?_ | refine znf ?_ | refine zcd ?_ | refine zci ?_ | refine zc3 ?_) <;> (conv => whnf)))
          exact hR2 (x.vals.length - (j + 1)) _ _ (by omega) ⟨j + 1, h6, _, true, _, by omega, rfl, r6, hkj.trans k6, (by show lc.next < lj.next + 1 + 1; omega), Heap.get_set_self p3, .inr ⟨lj.next + 1, by first | (rw [htk2]; done) | (rw [htk2]; rfl), by omega, Nat.lt_succ_self _, Heap.gs (by omega) (Heap.get_push_self _ _), by rw [htk2]; simp⟩, (by repeat (first | exact Fr.le_nil | refine Fr.le_cons rfl ?_)), rfl⟩
      obtain rfl : j = x.vals.length := by omega
      rw [List.drop_length] at hrj
      rw [List.take_length] at hb2
      have hrj' : RdAt hj a m2 ((l.drop (i + 1)).flatMap encTerm ++ R) := by rw [← hR1]; exact hrj
      rcases hb2 with ⟨hb20, rfl⟩ | ⟨t2, rfl, ht21, ht22, ht23, hne2⟩
      · have hv0 : x.vals = [] := by simpa using hb20
        have hrow : [[V.s x.key, .i .i64 x.kind, .nils]] = [termV x] := by unfold termV; rw [hv0]; rfl
        ((conv => whnf); repeat ((first | refine SIf.df (show ¬ ((x.vals.length : Nat) : Int) < (x.vals.length : Nat) by omega) ?_ | refine SWrap.w64 (by omega) (by omega) ?_ | refine SEx.of (congrArg some hrow) ?_ | refine SEx.of (termV_deep x) ?_ | refine SEx.of (b0) ?_ | refine yf rfl ?_ | refine yt rfl ?_ | refine yo rfl ?_ | refine yc rfl ?_ | refine ys rfl ?_ | refine ye rfl ?_ | refine yn rfl ?_ | refine zw ?_ | refine zdt ?_ | refine zdf ?_ | refine znt ?_ | refine znf ?_ | refine zcd ?_ | refine zci ?_ | refine zc3 ?_) <;> (conv => whnf)))
        exact hR0 (l.length - (i + 1)) _ _ (by omega) ⟨i + 1, hj, _, _, _, by omega, rfl, hrj', hkj, .inr ⟨lj.next + 1, by first | (rw [htk, hb0]; done) | (rw [htk, hb0]; rfl), Nat.lt_succ_self _, Heap.get_push_self _ _, by rw [htk]; simp⟩, (by repeat (first | exact Fr.le_nil | refine Fr.le_cons rfl ?_)), rfl⟩
      · have hrow : [[V.s x.key, .i .i64 x.kind, .sl none 1 (x.vals.map strR)]] = [termV x] := by
          unfold termV
          cases hx : x.vals with
          | nil => rw [hx] at hne2; exact absurd rfl hne2
          | cons y r => rfl
        ((conv => whnf); repeat ((first | refine SIf.df (show ¬ ((x.vals.length : Nat) : Int) < (x.vals.length : Nat) by omega) ?_ | refine SWrap.w64 (by omega) (by omega) ?_ | refine SEx.of (congrArg some hrow) ?_ | refine SEx.of (termV_deep x) ?_ | refine SEx.of (b0) ?_ | refine yf rfl ?_ | refine yt rfl ?_ | refine yo rfl ?_ | refine yc rfl ?_ | refine ys rfl ?_ | refine ye rfl ?_ | refine yn rfl ?_ | refine zw ?_ | refine zdt ?_ | refine zdf ?_ | refine znt ?_ | refine znf ?_ | refine zcd ?_ | refine zci ?_ | refine zc3 ?_) <;> (conv => whnf)))
        exact hR0 (l.length - (i + 1)) _ _ (by omega) ⟨i + 1, hj, _, _, _, by omega, rfl, hrj', hkj, .inr ⟨lj.next + 1, by first | (rw [htk, hb0]; done) | (rw [htk, hb0]; rfl), Nat.lt_succ_self _, Heap.get_push_self _ _, by rw [htk]; simp⟩, (by repeat (first | exact Fr.le_nil | refine Fr.le_cons rfl ?_)), rfl⟩
    · refine SLoop.by (fun q fr st => ∃ (j : Nat) (hj lj : Heap) (m2 : Bool) (bv2 : V), j ≤ x.vals.length ∧ q = x.vals.length - j ∧ RdAt hj a m2 ((x.vals.drop j).flatMap encName ++ R1) ∧ Heap.Keeps (fun n => n = a) h hj ∧
          lc.next < lj.next ∧ lj.get lc.next = some (.cs [.s x.key, .i .i64 x.kind, bv2]) ∧ OutK lj lc.next bv2 ((x.vals.take j).map strR) ∧ lj.get t = some .spare ∧
          Fr.le [(16, .i .i64 j), (15, .i .i64 x.vals.length), (4, .p (.l lc.next) 0), (7, .i .i64 i), (6, .i .i64 l.length), (3, .sl (some (.l t)) 3 ((l.take i).map termV)), (0, .p (.g a) 0)] fr ∧ st = ⟨hj, lj⟩)
        x.vals.length ⟨0, h5, _, _, .nils, Nat.zero_le _, rfl, r5, ((hk.trans k3).trans k4).trans k5, Nat.lt_succ_self _, a2 _ _, .inl ⟨rfl, rfl⟩, Heap.gs (by omega) (Heap.gp (by omega) ht2), (by repeat (first | exact Fr.le_nil | refine Fr.le_cons rfl ?_)), rfl⟩ ?_
      rintro q fr st ⟨j, hj, lj, m2, bv2, hjl, rfl, hrj, hkj, hlj, b0, hb2, htj, hle1, rfl⟩
      refine ⟨_, hle1, fun R2 hR2 => ?_⟩
      by_cases hjn : j < x.vals.length
      · have hv := List.getElem?_eq_getElem hjn
        have hvo := hxo.vals _ (List.getElem_mem hjn)
        generalize x.vals[j] = s at hv hvo
        have hd2 := flatW_drop encName hv
        have hle3 := flatW_len_drop encName 8 x.vals (j + 1) fun s _ => Nat.le_of_eq (encName_len s)
        rw [hd2, List.append_assoc] at hrj
        have htk2 : (x.vals.take (j + 1)).map strR = (x.vals.take j).map strR ++ [strR s] := by rw [List.take_add_one, hv]; simp
        have htl2 : ((x.vals.take j).map strR).length ≤ 100 := by simp; omega
        have hn6 := fun K hK => rname_at (K := K) hG hon hrj hvo (by rw [List.length_append]; omega) hK
        have p1 : (lj.push .spare).get lc.next = some (.cs [.s x.key, .i .i64 x.kind, bv2]) := Heap.gp (by omega) b0
        rcases hb2 with ⟨hb20, rfl⟩ | ⟨t2, rfl, ht21, ht22, ht23, hne2⟩
        · have p2 : ((lj.push .spare).push .spare).get lc.next = some (.cs [.s x.key, .i .i64 x.kind, .nils]) := Heap.gp (by show lc.next ≠ lj.next + 1; omega) p1
          ((conv => whnf); repeat ((first | refine SIf.dt (show (j : Int) < (x.vals.length : Nat) by omega) ?_ | refine SCall.app (hn6 _) ?_ | refine SEx.of (b0) ?_ | refine yf rfl ?_ | refine yt rfl ?_ | refine yo rfl ?_ | refine yc rfl ?_ | refine ys rfl ?_ | refine ye rfl ?_ | refine yn rfl ?_ | refine zw ?_ | refine zdt ?_ | refine zdf ?_ | refine znt ?_ | refine znf ?_ | refine zcd ?_ | refine zci ?_ | refine zc3 ?_) <;> (conv => whnf)))
          intro h6 r6 k6
          ((conv => whnf); repeat ((first | refine SWrap.w64 (by omega) (by omega) ?_ | refine SEx.of (b0) ?_ | refine SEx.of (p1) ?_ | refine SEx.of (p2) ?_ | refine yf rfl ?_ | refine yt rfl ?_ | refine yo rfl ?_ | refine yc rfl ?_ | refine ys rfl ?_ | refine ye rfl ?_ | refine yn rfl ?_ | refine zw ?_ | refine zdt ?_ | refine zdf ?_ | refine znt ?_ | refine znf ?_ | refine zcd ?_ | refine zci ?_ | refine zc3 ?_) <;> (conv => whnf)))
          exact hR2 (x.vals.length - (j + 1)) _ _ (by omega) ⟨j + 1, h6, _, true, _, by omega, rfl, r6, hkj.trans k6, (by show lc.next < lj.next + 1 + 1; omega), Heap.get_set_self p2, .inr ⟨lj.next + 1, by first | (rw [htk2, hb20]; done) | (rw [htk2, hb20]; rfl), by omega, Nat.lt_succ_self _, Heap.gs (by omega) (Heap.get_push_self _ _), by rw [htk2]; simp⟩, Heap.gs (by omega) (Heap.gp (by show t ≠ lj.next + 1; omega) (Heap.gp (by omega) htj)), (by repeat (first | exact Fr.le_nil | refine Fr.le_cons rfl ?_)), rfl⟩
        · have f0 : (lj.push .spare).get t2 = some .spare := Heap.gp (by omega) ht23
          have p3 : (((lj.push .spare).remove t2).push .spare).get lc.next = some (.cs [.s x.key, .i .i64 x.kind, .sl (some (.l t2)) 1 ((x.vals.take j).map strR)]) := Heap.gp (by show lc.next ≠ lj.next + 1; omega) (Heap.gr (by omega) p1)
          ((conv => whnf); repeat ((first | refine SIf.dt (show (j : Int) < (x.vals.length : Nat) by omega) ?_ | refine SCall.app (hn6 _) ?_ | refine SEx.of (b0) ?_ | refine yf rfl ?_ | refine yt rfl ?_ | refine yo rfl ?_ | refine yc rfl ?_ | refine ys rfl ?_ | refine ye rfl ?_ | refine yn rfl ?_ | refine zw ?_ | refine zdt ?_ | refine zdf ?_ | refine znt ?_ | refine znf ?_ | refine zcd ?_ | refine zci ?_ | refine zc3 ?_) <;> (conv => whnf)))
          intro h6 r6 k6
          ((conv => whnf); repeat ((first | refine SWrap.w64 (by omega) (by omega) ?_ | refine SChk.mk (by simp only [roomOk]; exact decide_eq_true (by simp at htl2 ⊢; omega)) ?_ | refine SEx.of (b0) ?_ | refine SEx.of (p1) ?_ | refine SEx.of (p3) ?_ | refine SEx.of (f0) ?_ | refine yf rfl ?_ | refine yt rfl ?_ | refine yo rfl ?_ | refine yc rfl ?_ | refine ys rfl ?_ | refine ye rfl ?_ | refine yn rfl ?_ | refine zw ?_ | refine zdt ?_ | refine zdf ?_ | refine znt ?_ | refine znf ?_ | refine zcd ?_ | refine zci ?_ | refine zc3 ?_) <;> (conv => whnf)))
          exact hR2 (x.vals.length - (j + 1)) _ _ (by omega) ⟨j + 1, h6, _, true, _, by omega, rfl, r6, hkj.trans k6, (by show lc.next < lj.next + 1 + 1; omega), Heap.get_set_self p3, .inr ⟨lj.next + 1, by first | (rw [htk2]; done) | (rw [htk2]; rfl), by omega, Nat.lt_succ_self _, Heap.gs (by omega) (Heap.get_push_self _ _), by rw [htk2]; simp⟩, Heap.gs (by omega) (Heap.gp (by show t ≠ lj.next + 1; omega) (Heap.gr (by omega) (Heap.gp (by omega) htj))), (by repeat (first | exact Fr.le_nil | refine Fr.le_cons rfl ?_)), rfl⟩
      obtain rfl : j = x.vals.length := by omega
      rw [List.drop_length] at hrj
      rw [List.take_length] at hb2
      have hrj' : RdAt hj a m2 ((l.drop (i + 1)).flatMap encTerm ++ R) := by rw [← hR1]; exact hrj
      rcases hb2 with ⟨hb20, rfl⟩ | ⟨t2, rfl, ht21, ht22, ht23, hne2⟩
      · have hv0 : x.vals = [] := by simpa using hb20
        have hrow : [[V.s x.key, .i .i64 x.kind, .nils]] = [termV x] := by unfold termV; rw [hv0]; rfl
        have g0 : (lj.push .spare).get t = some .spare := Heap.gp (by omega) htj
        ((conv => whnf); repeat ((first | refine SIf.df (show ¬ ((x.vals.length : Nat) : Int) < (x.vals.length : Nat) by omega) ?_ | refine SWrap.w64 (by omega) (by omega) ?_ | refine SEx.of (congrArg some hrow) ?_ | refine SEx.of (termV_deep x) ?_ | refine SChk.mk (by simp only [roomOk]; exact decide_eq_true (by simp at htl ⊢; omega)) ?_ | refine SEx.of (b0) ?_ | refine SEx.of (g0) ?_ | refine yf rfl ?_ | refine yt rfl ?_ | refine yo rfl ?_ | refine yc rfl ?_ | refine ys rfl ?_ | refine ye rfl ?_ | refine yn rfl ?_ | refine zw ?_ | refine zdt ?_ | refine zdf ?_ | refine znt ?_ | refine znf ?_ | refine zcd ?_ | refine zci ?_ | refine zc3 ?_) <;> (conv => whnf)))
        exact hR0 (l.length - (i + 1)) _ _ (by omega) ⟨i + 1, hj, _, _, _, by omega, rfl, hrj', hkj, .inr ⟨lj.next + 1, by first | (rw [htk]; done) | (rw [htk]; rfl), Nat.lt_succ_self _, Heap.get_push_self _ _, by rw [htk]; simp⟩, (by repeat (first | exact Fr.le_nil | refine Fr.le_cons rfl ?_)), rfl⟩
      · have hrow : [[V.s x.key, .i .i64 x.kind, .sl none 1 (x.vals.map strR)]] = [termV x] := by
          unfold termV
          cases hx : x.vals with
          | nil => rw [hx] at hne2; exact absurd rfl hne2
          | cons y r => rfl
        have g0 : (lj.push .spare).get t = some .spare := Heap.gp (by omega) htj
        ((conv => whnf); repeat ((first | refine SIf.df (show ¬ ((x.vals.length : Nat) : Int) < (x.vals.length : Nat) by omega) ?_ | refine SWrap.w64 (by omega) (by omega) ?_ | refine SEx.of (congrArg some hrow) ?_ | refine SEx.of (termV_deep x) ?_ | refine SChk.mk (by simp only [roomOk]; exact decide_eq_true (by simp at htl ⊢; omega)) ?_ | refine SEx.of (b0) ?_ | refine SEx.of (g0) ?_ | refine yf rfl ?_ | refine yt rfl ?_ | refine yo rfl ?_ | refine yc rfl ?_ | refine ys rfl ?_ | refine ye rfl ?_ | refine yn rfl ?_ | refine zw ?_ | refine zdt ?_ | refine zdf ?_ | refine znt ?_ | refine znf ?_ | refine zcd ?_ | refine zci ?_ | refine zc3 ?_) <;> (conv => whnf)))
        exact hR0 (l.length - (i + 1)) _ _ (by omega) ⟨i + 1, hj, _, _, _, by omega, rfl, hrj', hkj, .inr ⟨lj.next + 1, by first | (rw [htk]; done) | (rw [htk]; rfl), Nat.lt_succ_self _, Heap.get_push_self _ _, by rw [htk]; simp⟩, (by repeat (first | exact Fr.le_nil | refine Fr.le_cons rfl ?_)), rfl⟩
  · obtain rfl : i = l.length := by omega
    rw [List.drop_length] at hrd
    rw [List.take_length] at hbv
    have hK' := hK hh m' hrd hk
    rcases hbv with ⟨hb0, rfl⟩ | ⟨t, rfl, ht1, ht2, hne⟩
    · have hl0 : l = [] := by simpa using hb0
      subst hl0
      ((conv => whnf); repeat ((first | refine SIf.df (show ¬ (((([] : List TermD)).length : Nat) : Int) < (([] : List TermD).length : Nat) by omega) ?_ | refine yf rfl ?_ | refine yt rfl ?_ | refine yo rfl ?_ | refine yc rfl ?_ | refine ys rfl ?_ | refine ye rfl ?_ | refine yn rfl ?_ | refine zw ?_ | refine zdt ?_ | refine zdf ?_ | refine znt ?_ | refine znf ?_ | refine zcd ?_ | refine zci ?_ | refine zc3 ?_) <;> (conv => whnf)))
      exact hK'
    · cases l with
      | nil => exact absurd rfl hne
      | cons x r =>
        ((conv => whnf); repeat ((first | refine SIf.df (show ¬ (((x :: r).length : Nat) : Int) < ((x :: r).length : Nat) by omega) ?_ | refine yf rfl ?_ | refine yt rfl ?_ | refine yo rfl ?_ | refine yc rfl ?_ | refine ys rfl ?_ | refine ye rfl ?_ | refine yn rfl ?_ | refine zw ?_ | refine zdt ?_ | refine zdf ?_ | refine znt ?_ | refine znf ?_ | refine zcd ?_ | refine zci ?_ | refine zc3 ?_) <;> (conv => whnf)))
        exact hK'
end
end Go.Eng
/-
Nil is told as an empty row, also where it was given back.
-/
namespace Go.Eng
open Go
theorem ACall.more {P : Program} {f : Nat} {args : List V} {h : Heap} {K K2 : V → Heap → Prop} (hA : ACall P f args h K) (hm : ∀ v h', K v h' → ∃ v', (∀ (E : Env) (x : Value), Rel E v x → Rel E v' x) ∧ K2 v' h') : ACall P f args h K2 :=
  ⟨hA.1, fun E w vs hn hs hv => (hA.2 E w vs hn hs hv).mono fun _ _ ⟨v, x, h', E', h1, h2, h3, h4, h5, h6⟩ => by
    obtain ⟨v', q1, q2⟩ := hm v h' h1
    exact ⟨v', x, h', E', q2, h2, h3, h4, h5, q1 E' x h6⟩⟩
theorem rel_nil {k : Nat} (E : Env) (x : Value) (h : Rel E .nils x) : Rel E (.sl none k []) x := ce_nw _ rfl .nil h
theorem rel_rows {k : Nat} {es ds : List (List V)} (hn : NdLL es ds) (E : Env) (x : Value) (h : Rel E (.sl none k es) x) : Rel E (.sl none k ds) x := ce_nw _ rfl (.rows hn) h
theorem nd_term (t : TermD) : NdL (termV t) (termR t) := by
  unfold termV termR
  refine .cons (.refl _) (.cons (.refl _) (.cons ?_ .nil))
  cases t.vals with
  | nil => exact .nil 1
  | cons x r => exact .refl _
theorem nd_terms : ∀ l : List TermD, NdLL (l.map termV) (l.map termR)
  | [] => .nil
  | t :: r => .cons (nd_term t) (nd_terms r)
section
variable {P : Program} (hG : FnsOk P AF.fns.get)
include hG
theorem rpairs2_at (hon : OnceOk P 161) {h : Heap} {a : Nat} {m : Bool} {l : List PairD} {R : List Int} (hr : RdAt h a m (encPairs l ++ R)) (hl : l.length ≤ 100) (hok : ∀ p ∈ l, NameOk p.key ∧ NameOk p.val) (hR : R.length ≤ 1000000) {K : V → Heap → Prop}
    (hK : ∀ h' m', RdAt h' a m' R → Heap.Keeps (fun n => n = a) h h' → K (.sl none 2 (l.map pairR)) h') : ACall P 127 [.p (.g a) 0, .fn 128 [] []] h K := by
  refine ACall.more (rpairs_at hG hon hr hl hok hR (K := fun v h' => v = lsV 2 pairR l ∧ K (.sl none 2 (l.map pairR)) h') fun h' m' q1 q2 => ⟨rfl, hK h' m' q1 q2⟩) ?_
  rintro v h' ⟨rfl, hk⟩
  refine ⟨_, fun E x hx => ?_, hk⟩
  cases l with
  | nil => exact rel_nil E x hx
  | cons _ _ => exact hx
theorem rterms2_at (hon : OnceOk P 161) {h : Heap} {a : Nat} {m : Bool} {l : List TermD} {R : List Int} (hr : RdAt h a m (encTerms l ++ R)) (hl : l.length ≤ 100) (hok : ∀ t ∈ l, TermOk t) (hR : R.length ≤ 1000000) {K : V → Heap → Prop}
    (hK : ∀ h' m', RdAt h' a m' R → Heap.Keeps (fun n => n = a) h h' → K (.sl none 3 (l.map termR)) h') : ACall P 129 [.p (.g a) 0] h K := by
  refine ACall.more (rterms_at hG hon hr hl hok hR (K := fun v h' => v = lsV 3 termV l ∧ K (.sl none 3 (l.map termR)) h') fun h' m' q1 q2 => ⟨rfl, hK h' m' q1 q2⟩) ?_
  rintro v h' ⟨rfl, hk⟩
  refine ⟨_, fun E x hx => ?_, hk⟩
  cases l with
  | nil => exact rel_nil E x hx
  | cons t r => exact rel_rows (nd_terms (t :: r)) E x hx
theorem beq_at {h : Heap} (b : List Int) {K : V → Heap → Prop} (hK : K (.b true) h) : ACall P 132 [.sl none 1 (b.map byR), .sl none 1 (b.map byR)] h K := by
  have hbb : bytesOf (b.map byR) = some (b.map fun n => UInt8.ofNat n.toNat) := by
    induction b with
    | nil => rfl
    | cons x r ih =>
      show bytesOf ([V.i .u8 x] :: r.map byR) = _
      simp only [bytesOf, ih]
      rfl
  have ht : ((b.map fun n => UInt8.ofNat n.toNat) == (b.map fun n => UInt8.ofNat n.toNat)) = true := by simp
  refine fn_sp (hG _ AF.f132 rfl) rfl ?_
  ((conv => whnf); repeat ((first | refine SEx.of (hbb) ?_ | refine SEx.of (hbb) ?_ | refine yf rfl ?_ | refine yt rfl ?_ | refine yo rfl ?_ | refine yc rfl ?_ | refine ys rfl ?_ | refine ye rfl ?_ | refine yn rfl ?_ | refine zw ?_ | refine zdt ?_ | refine zdf ?_ | refine znt ?_ | refine znf ?_ | refine zcd ?_ | refine zci ?_ | refine zc3 ?_) <;> (conv => whnf)))
  rw [ht]
  exact hK
end
end Go.Eng
