/-
Functions' abstract texts.
-/
import Derived.Test.YtdobfbnfaekafaaGreatEngC
set_option maxRecDepth 100000
namespace Go.Eng.AF
open Go Go.Eng
/-- ( interrex/assume.Assume).Has 1 -/
def f193 : AFn := ⟨2, (rS [oO 2 (.box false 0) [0], oA 3 kF [3]] (rS [oO 4 (.faddr 0 2) [2], oO 5 (.faddr 0 4) [4], oO 6 (.load none 5) [5], oO 7 (.load none 1) [1], oO 8 (.bin .eql 6 7) [6,7], oA 3 8 [8]] .ret)), [.t 3]⟩
/-- interrex/lease.Leads -/
def f194 : AFn := ⟨2, (rS [oA 4 kF [4]] (rS [oM 5 0 [0], oO 6 (.call 195 [5]) [5], oM 7 1 [1], oO 8 (.call 131 [7]) [7], oO 9 (.bin .lss 6 8) [6,8], oA 4 9 [9]] .ret)), [.t 4]⟩
/-- interrex/lease.bring -/
def f195 : AFn := ⟨1, (rS [oA 2 (kI 0) [2]] (rS [oM 3 0 [0], oO 4 (.mnmx true [3,(kI 0)]) [3], oO 5 (.mnmx false [4,(kI 1152921504606846976)]) [4], oA 2 5 [5]] .ret)), [.t 2]⟩
/-- slices.IndexFunc   interrex/api.Term interrex/api.Term  -/
def f202 : AFn := ⟨2, (rS [oA 4 (kI 0) [4]] (.seq (rS [oM 6 0 [], oO 7 (.lenL 6) [6], oM 8 (kI 0) []] (.blk 0 (.loop (rS [oO 9 (.bin .lss 8 7) []] (.seq (.cond 9 .skip
 (.exit 0))
(.seq (.blk 1 (rS [oM 10 8 [], oA 5 10 [10]] (rS [oM 11 1 [], oM 12 0 [], oM 13 5 [], oO 14 (.iasl 3 12 13) [12,13], oO 15 (.load (some 3) 14) [14], oO 16 (.callv 11 [15]) [11,15]] (.cond 16 (rS [oM 17 5 [5], oA 4 17 [17]] .ret)
 .skip))))
(rR [oO 18 (.bin .add 8 (kI 1)) [8], oM 8 18 [18]])))))))
(rS [oA 4 (kI (-1)) []] .ret))), [.t 4]⟩
/-- slices.IndexFunc   interrex/api.Toler interrex/api.Toler  -/
def f203 : AFn := ⟨2, (rS [oA 4 (kI 0) [4]] (.seq (rS [oM 6 0 [], oO 7 (.lenL 6) [6], oM 8 (kI 0) []] (.blk 0 (.loop (rS [oO 9 (.bin .lss 8 7) []] (.seq (.cond 9 .skip
 (.exit 0))
(.seq (.blk 1 (rS [oM 10 8 [], oA 5 10 [10]] (rS [oM 11 1 [], oM 12 0 [], oM 13 5 [], oO 14 (.iasl 3 12 13) [12,13], oO 15 (.load (some 3) 14) [14], oO 16 (.callv 11 [15]) [11,15]] (.cond 16 (rS [oM 17 5 [5], oA 4 17 [17]] .ret)
 .skip))))
(rR [oO 18 (.bin .add 8 (kI 1)) [8], oM 8 18 [18]])))))))
(rS [oA 4 (kI (-1)) []] .ret))), [.t 4]⟩
/-- slices.insertionSortCmpFunc interrex/api.Node  -/
def f205 : AFn := ⟨4, (rS [oM 10 1 [], oO 11 (.bin .add 10 (kI 1)) [10], oA 8 11 [11]] (.blk 0 (.loop (.seq (rS [oM 12 8 [], oM 13 2 [], oO 14 (.bin .lss 12 13) [12,13]] (.cond 14 .skip
 (.exit 0)))
(.seq (.blk 1 (rS [oM 17 8 [], oA 9 17 [17]] (.blk 2 (.loop (.seq (.seq (.dreg [⟨0, (oM 18 9 []), false, []⟩,
 ⟨1, (oM 19 1 []), false, []⟩,
 ⟨2, (oO 20 (.bin .gtr 18 19) []), false, []⟩,
 ⟨3, (oM 21 20 []), false, []⟩,
 ⟨4, (oG 22 (.mv 3) 21 []), false, []⟩,
 ⟨5, (oG 23 (.mv 0) 21 []), false, []⟩,
 ⟨6, (oG 24 (.mv 9) 21 []), false, []⟩,
 ⟨7, (oG 25 (.iasl 6 23 24) 21 []), false, []⟩,
 ⟨8, (oG 26 (.load (some 6) 25) 21 []), false, []⟩,
 ⟨9, (oG 27 (.mv 0) 21 []), false, []⟩,
 ⟨10, (oG 28 (.mv 9) 21 []), false, []⟩,
 ⟨11, (oG 29 (.bin .sub 28 (kI 1)) 21 []), false, []⟩,
 ⟨12, (oG 30 (.iasl 6 27 29) 21 []), false, []⟩,
 ⟨13, (oG 31 (.load (some 6) 30) 21 []), false, []⟩,
 ⟨14, (oG 32 (.callv 22 [26,31]) 21 []), true, []⟩,
 ⟨15, (oG 33 (.bin .lss 32 (kI 0)) 21 []), false, []⟩,
 ⟨16, (oO 34 (.pick 21 33 kF) []), false, []⟩] [18,19,20,21,22,23,24,25,26,27,28,29,30,31,32,33])
(.cond 34 .skip
 (.exit 2)))
(.seq (.blk 3 (.dreg [⟨0, (oM 37 0 []), false, []⟩,
 ⟨1, (oM 38 9 []), false, []⟩,
 ⟨2, (oM 39 0 []), false, []⟩,
 ⟨3, (oM 40 9 []), false, []⟩,
 ⟨4, (oO 41 (.bin .sub 40 (kI 1)) []), false, []⟩,
 ⟨5, (oM 42 0 []), false, []⟩,
 ⟨6, (oM 43 9 []), false, []⟩,
 ⟨7, (oO 44 (.bin .sub 43 (kI 1)) []), false, []⟩,
 ⟨8, (oO 45 (.iasl 6 42 44) []), false, []⟩,
 ⟨9, (oO 46 (.load (some 6) 45) []), false, []⟩,
 ⟨10, (oM 47 0 []), false, []⟩,
 ⟨11, (oM 48 9 []), false, []⟩,
 ⟨12, (oO 49 (.iasl 6 47 48) []), false, []⟩,
 ⟨13, (oO 50 (.load (some 6) 49) []), false, []⟩,
 ⟨14, (oO 51 (.iasl 6 37 38) []), false, []⟩,
 ⟨15, (oN (.store 6 51 46) []), true, []⟩,
 ⟨16, (oO 52 (.iasl 6 39 41) []), false, []⟩,
 ⟨17, (oN (.store 6 52 50) []), true, []⟩] [37,38,39,40,41,42,43,44,45,46,47,48,49,50,51,52]))
(rR [oM 35 9 [9], oO 36 (.bin .sub 35 (kI 1)) [35], oA 9 36 [36]])))))))
(rR [oM 15 8 [8], oO 16 (.bin .add 15 (kI 1)) [15], oA 8 16 [16]])))))), []⟩
/-- slices.EqualFunc   interrex/api.Term   interrex/api.Term interrex/api.Term interrex/api.Term  -/
def f207 : AFn := ⟨3, (rS [oA 6 kF [6]] (.seq (rS [oM 10 0 [], oO 11 (.lenL 10) [10], oM 12 1 [], oO 13 (.lenL 12) [12], oO 14 (.bin .neq 11 13) [11,13]] (.cond 14 (rS [oA 6 kF []] .ret)
 .skip))
(.seq (rS [oM 15 0 [0], oO 16 (.lenL 15) [], oM 17 (kI 0) []] (.blk 0 (.loop (rS [oO 18 (.bin .lss 17 16) []] (.seq (.cond 18 .skip
 (.exit 0))
(.seq (.blk 1 (rS [oM 19 17 [], oO 20 (.iasl 3 15 17) [], oO 21 (.load (some 3) 20) [20], oO 8 (.alloc false [vS,(vI 0),.nils]) [], oA 7 19 [19], oN (.store 3 8 21) [21]] (rS [oM 22 1 [], oM 23 7 [7], oO 24 (.iasl 3 22 23) [22,23], oO 25 (.load (some 3) 24) [24], oO 9 (.alloc false [vS,(vI 0),.nils]) [], oN (.store 3 9 25) [25]] (rS [oM 26 2 [], oO 27 (.load (some 3) 8) [8], oO 28 (.load (some 3) 9) [9], oO 29 (.callv 26 [27,28]) [26,27,28], oO 30 (.un .not 29) [29]] (.cond 30 (rS [oA 6 kF []] .ret)
 .skip)))))
(rR [oO 31 (.bin .add 17 (kI 1)) [17], oM 17 31 [31]])))))))
(rS [oA 6 kT []] .ret)))), [.t 6]⟩
/-- interrex/obj.eqTerms 1 -/
def f208 : AFn := ⟨2, (rS [oO 2 (.box false 0) [0], oO 3 (.box false 1) [1], oA 4 kF [4]] (rS [oO 5 (.faddr 0 2) [], oO 6 (.load none 5) [5], oO 7 (.faddr 0 3) [], oO 8 (.load none 7) [7], oO 9 (.bin .eql 6 8) [6,8], oM 10 9 [9], oG 11 (.faddr 1 2) 10 [], oG 12 (.load none 11) 10 [11], oG 13 (.faddr 1 3) 10 [], oG 14 (.load none 13) 10 [13], oG 15 (.bin .eql 12 14) 10 [12,14], oO 16 (.pick 10 15 kF) [10,15], oM 17 16 [16], oG 18 (.faddr 2 2) 17 [2], oG 19 (.load none 18) 17 [18], oG 20 (.faddr 2 3) 17 [3], oG 21 (.load none 20) 17 [20], oG 22 (.call 209 [19,21]) 17 [19,21], oO 23 (.pick 17 22 kF) [17,22], oA 4 23 [23]] .ret)), [.t 4]⟩
/-- slices.Equal   string string  -/
def f209 : AFn := ⟨2, (rS [oA 4 kF [4]] (.seq (rS [oM 6 0 [], oO 7 (.lenL 6) [6], oM 8 1 [], oO 9 (.lenL 8) [8], oO 10 (.bin .neq 7 9) [7,9]] (.cond 10 (rS [oA 4 kF []] .ret)
 .skip))
(.seq (rS [oM 11 0 [], oO 12 (.lenL 11) [11], oM 13 (kI 0) []] (.blk 0 (.loop (rS [oO 14 (.bin .lss 13 12) []] (.seq (.cond 14 .skip
 (.exit 0))
(.seq (.blk 1 (rS [oM 15 13 [], oA 5 15 [15]] (.seq (.dreg [⟨0, (oM 16 0 []), false, []⟩,
 ⟨1, (oM 17 5 []), false, []⟩,
 ⟨2, (oO 18 (.iasl 1 16 17) []), false, []⟩,
 ⟨3, (oO 19 (.load none 18) []), false, []⟩,
 ⟨4, (oM 20 1 []), false, []⟩,
 ⟨5, (oM 21 5 []), false, []⟩,
 ⟨6, (oO 22 (.iasl 1 20 21) []), false, []⟩,
 ⟨7, (oO 23 (.load none 22) []), false, []⟩,
 ⟨8, (oO 24 (.bin .neq 19 23) []), false, []⟩] [16,5,17,18,19,20,21,22,23])
(.cond 24 (rS [oA 4 kF []] .ret)
 .skip))))
(rR [oO 25 (.bin .add 13 (kI 1)) [13], oM 13 25 [25]])))))))
(rS [oA 4 kT []] .ret)))), [.t 4]⟩
/-- slices.Clone   byte byte  -/
def f210 : AFn := ⟨1, (rS [oA 2 (.c .nils) [2]] (.seq (rS [oM 3 0 [], oO 4 (.eqn false 3 (.c .nils)) [3]] (.cond 4 (rS [oA 2 (.c .nils) []] .ret)
 .skip))
(rS [oO 5 (.bsl (.im false) 1 0 [(.i .u8 0)] []) [], oM 6 0 [0], oO 7 (.append (.im false) 1 1 5 6) [5,6], oA 2 7 [7]] .ret))), [.t 2]⟩
/-- interrex/cache.copied -/
def f211 : AFn := ⟨1, (rS [oO 1 (.box false 0) [0], oO 2 (.alloc false [vS,(vI 0),.nils]) []] (rS [oO 3 (.faddr 2 1) [], oO 4 (.load none 3) [3], oO 5 (.call 210 [4]) [4], oO 6 (.faddr 2 1) [], oN (.store 1 6 5) [6,5]] (rS [oO 7 (.load (some 3) 1) [1], oN (.store 3 2 7) [7]] .ret))), [.cell 2 (some 3)]⟩
/-- interrex/label.Name -/
def f214 : AFn := ⟨1, (rS [oA 2 kF [2]] (.seq (rS [oM 4 0 [], oO 5 (.lenS 4) [4], oO 6 (.bin .lss 5 (kI 1)) [5], oM 7 6 [6], oH 8 (.mv 0) 7 [], oH 9 (.lenS 8) 7 [8], oH 10 (.bin .gtr 9 (kI 12)) 7 [9], oO 11 (.pick 7 kT 10) [7,10]] (.cond 11 (rS [oA 2 kF []] .ret)
 .skip))
(.seq (rS [oM 12 0 [], oO 13 (.lenS 12) [12], oM 14 (kI 0) []] (.blk 0 (.loop (rS [oO 15 (.bin .lss 14 13) []] (.seq (.cond 15 .skip
 (.exit 0))
(.seq (.blk 1 (rS [oM 16 14 [], oA 3 16 [16]] (rS [oM 17 0 [], oM 18 3 [3], oO 19 (.ixs 17 18) [17,18], oO 20 (.call 256 [19]) [19], oO 21 (.un .not 20) [20]] (.cond 21 (rS [oA 2 kF []] .ret)
 .skip))))
(rR [oO 22 (.bin .add 14 (kI 1)) [14], oM 14 22 [22]])))))))
(rS [oA 2 kT []] .ret)))), [.t 2]⟩
/-- interrex/wire.NewReader -/
def f215 : AFn := ⟨1, (rS [oA 2 (.c .nilp) [2]] (rS [oM 3 0 [0], oO 4 (.call 210 [3]) [3], oO 5 (.bld [(.i .u32 0),(.i .i32 0),(.i .u32 0),(.i .u64 0),(.i .u64 0),(.i .u64 0),(.i .u64 0),(.i .u64 0),(.i .u64 0),(.i .u64 0),(.i .u64 0),(.i .u64 0),(.i .u64 0),(.i .u64 0),(.i .u64 0),(.i .u64 0),(.i .u64 0),(.i .u64 0),(.i .u64 0),(.i .u64 0),(.i .u64 0),(.i .u64 0),(.i .u64 0),(.i .u64 0),(.i .u64 0),(.i .u64 0),(.i .u64 0),(.i .u64 0),(.i .u64 0),(.i .u64 0),(.i .u64 0),(.i .u64 0),(.i .u64 0),(.i .u64 0),(.i .u64 0),(.i .u64 0),(.i .u64 0),(.i .u64 0),(.i .u64 0),(.i .u64 0),(.i .u64 0),(.i .u64 0),(.i .u64 0),(.i .u64 0),(.i .u64 0),(.i .u64 0),(.i .u64 0),(.i .u64 0),(.i .u64 0),(.i .u64 0),(.i .u64 0),(.i .u64 0),(.i .u64 0),(.i .u64 0),(.i .u64 0),(.i .u64 0),(.i .u64 0),(.i .u64 0),(.i .u64 0),(.i .u64 0),(.i .u64 0),(.i .u64 0),(.i .u64 0),(.i .u64 0),(.i .u64 0),(.i .u64 0),(.i .u64 0),(.i .u64 0),(.i .u64 0),(.i .u64 0),(.i .u64 0),(.i .u64 0),(.i .u64 0),(.i .u64 0),(.i .u64 0),(.i .u64 0),(.i .u64 0),(.i .u64 0),(.i .u64 0),(.i .u64 0),(.i .u64 0),(.i .u64 0),(.i .u64 0),(.i .u64 0),(.i .u64 0),(.i .u64 0),(.i .u64 0),(.i .u64 0),(.i .u64 0),(.i .u64 0),(.i .u64 0),(.i .u64 0),(.i .u64 0),(.i .u64 0),(.i .u64 0),(.i .u64 0),(.i .u64 0),(.i .u64 0),(.i .u64 0),(.i .u64 0),(.i .u64 0),(.i .u64 0),(.i .u64 0),(.i .u64 0),(.i .u64 0),(.i .u64 0),(.i .u64 0),(.i .u64 0),(.i .u64 0),(.i .u64 0),(.i .u64 0),(.i .u64 0),(.i .u64 0),(.i .u64 0),(.i .u64 0),(.i .u64 0),(.i .u64 0),(.i .u64 0),(.i .u64 0),(.i .u64 0),(.i .u64 0),(.i .u64 0),(.i .u64 0),(.i .u64 0),(.i .u64 0),(.i .u64 0),(.i .u64 0),(.i .u64 0),(.i .u64 0),(.i .u64 0),(.i .u64 0),(.i .u64 0),(.i .u64 0),(.i .u64 0),(.i .u64 0),(.i .u64 0),(.i .u64 0),(.i .u64 0),(.i .u64 0),(.i .u64 0),(.i .u64 0),(.i .u64 0),(.i .u64 0),(.i .u64 0),(.i .u64 0),(.i .u64 0),(.i .u64 0),(.i .u64 0),(.i .u64 0),(.i .u64 0),(.i .u64 0),(.i .u64 0),(.i .u64 0),(.i .u64 0),(.i .u64 0),(.i .u64 0),(.i .u64 0),(.i .u64 0),(.i .u64 0),(.i .u64 0),(.i .u64 0),(.i .u64 0),(.i .u64 0),(.i .u64 0),(.i .u64 0),(.i .u64 0),(.i .u64 0),(.i .u64 0),(.i .u64 0),(.i .u64 0),(.i .u64 0),(.i .u64 0),(.i .u64 0),(.i .u64 0),(.i .u64 0),(.i .u64 0),(.i .u64 0),(.i .u64 0),(.i .u64 0),(.i .u64 0),(.i .u64 0),(.i .u64 0),(.i .u64 0),(.i .u64 0),(.i .u64 0),(.i .u64 0),(.i .u64 0),(.i .u64 0),(.i .u64 0),(.i .u64 0),(.i .u64 0),(.i .u64 0),(.i .u64 0),(.i .u64 0),(.i .u64 0),(.i .u64 0),(.i .u64 0),(.i .u64 0),(.i .u64 0),(.i .u64 0),(.i .u64 0),(.i .u64 0),(.i .u64 0),(.i .u64 0),(.i .u64 0),(.i .u64 0),(.i .u64 0),(.i .u64 0),(.i .u64 0),(.i .u64 0),(.i .u64 0),(.i .u64 0),(.i .u64 0),(.i .u64 0),(.i .u64 0),(.i .u64 0),(.i .u64 0),(.i .u64 0),(.i .u64 0),(.i .u64 0),(.i .u64 0),(.i .u64 0),(.i .u64 0),(.i .u64 0),(.i .u64 0),(.i .u64 0),(.i .u64 0),(.i .u64 0),(.i .u64 0),(.i .u64 0),(.i .u64 0),(.i .u64 0),(.i .u64 0),(.i .u64 0),(.i .u64 0),(.i .u64 0),(.i .u64 0),(.i .u64 0),(.i .u64 0),(.i .u64 0),(.i .u64 0),(.i .u64 0),(.i .u64 0),(.i .u64 0),(.i .u64 0),(.i .u64 0),(.i .u64 0),(.i .u64 0),(.i .u64 0),(.i .u64 0),(.i .u64 0),(.i .u64 0),(.i .u64 0),(.i .u64 0),(.i .u64 0),(.i .u64 0),(.i .u64 0),(.i .u64 0),(.i .u64 0),(.i .u8 0),(.i .u8 0),(.i .u8 0),(.i .u8 0),(.i .u8 0),(.i .u8 0),(.i .u8 0),(.i .u8 0),(.i .u8 0),(.i .u8 0),(.i .u8 0),(.i .u8 0),(.i .u8 0),(.i .u8 0),(.i .u8 0),(.i .u8 0),(.i .u8 0),(.i .u8 0),(.i .u8 0),(.i .u8 0),(.i .u8 0),(.i .u8 0),(.i .u8 0),(.i .u8 0),(.i .u8 0),(.i .u8 0),(.i .u8 0),(.i .u8 0),(.i .u8 0),(.i .u8 0),(.i .u8 0),(.i .u8 0),(.i .u8 0),(.i .u8 0),(.i .u8 0),(.i .u8 0),(.i .u8 0),(.i .u8 0),.nils,(.b false)] [(297, 1, 4)]) [4], oO 6 (.box true 5) [5], oA 2 6 [6]] .ret)), [.t 2]⟩
/-- ( interrex/wire.Reader).Num -/
def f216 : AFn := ⟨2, (rS [oA 4 (kI 0) [4]] (.seq (rS [oM 8 0 [], oO 9 (.nilc 8) [8], oO 10 (.faddr 297 9) [9], oO 11 (.load none 10) [10], oO 12 (.lenL 11) [11], oM 13 1 [], oO 14 (.bin .lss 12 13) [12,13]] (.cond 14 (rS [oM 15 0 [], oM 16 0 [0], oO 17 (.nilc 15) [15], oO 18 (.faddr 298 17) [17], oN (.store 1 18 kT) [18], oO 19 (.nilc 16) [16], oO 20 (.faddr 297 19) [19], oN (.store 1 20 (.c .nils)) [20]] (rS [oA 4 (kI 0) []] .ret))
 .skip))
(rS [oA 5 (kI 0) []] (.seq (rS [oM 21 0 [], oO 22 (.nilc 21) [21], oO 23 (.faddr 297 22) [22], oO 24 (.load none 23) [23], oM 25 1 [], oO 26 (.slsl 1 24 none (some 25) none) [24,25], oO 27 (.lenL 26) [], oM 28 (kI 0) []] (.blk 0 (.loop (rS [oO 29 (.bin .lss 28 27) []] (.seq (.cond 29 .skip
 (.exit 0))
(.seq (.blk 1 (rS [oO 30 (.iasl 1 26 28) [], oO 31 (.load none 30) [30], oA 7 31 [31]] (rR [oM 32 5 [5], oO 33 (.bin .shl 32 (.c (.i .u64 8))) [32], oM 34 7 [7], oO 35 (.cvi .i64 34) [34], oO 36 (.bin .or 33 35) [33,35], oA 5 36 [36]])))
(rR [oO 37 (.bin .add 28 (kI 1)) [28], oM 28 37 [37]])))))))
(rS [oM 38 0 [], oM 39 0 [0], oO 40 (.nilc 39) [39], oO 41 (.faddr 297 40) [40], oO 42 (.load none 41) [41], oM 43 1 [1], oO 44 (.slsl 1 42 (some 43) none none) [42,43], oO 45 (.nilc 38) [38], oO 46 (.faddr 297 45) [45], oN (.store 1 46 44) [46,44]] (rS [oM 47 5 [5], oA 4 47 [47]] .ret)))))), [.t 4]⟩
/-- ( interrex/wire.Reader).Name -/
def f217 : AFn := ⟨1, (rS [oA 2 (.c vS) [2]] (rS [oM 6 0 [], oO 7 (.nilc 6) [6], oO 8 (.faddr 0 7) [7], oO 9 (.call 237 [8]) [8,9]] (rS [oM 10 0 [], oO 11 (.call 216 [10,(kI 8)]) [10], oO 12 (.cvi .u64 11) [11], oA 3 12 [12]] (rS [oA 4 (.c .nils) []] (.seq (rS [oM 13 (kI 0) []] (.blk 0 (.loop (rS [oO 14 (.bin .lss 13 (kI 12)) []] (.seq (.cond 14 .skip
 (.exit 0))
(.seq (.blk 1 (.seq (rS [oM 15 3 [], oO 16 (.bin .rem 15 (.c (.i .u64 38))) [15], oA 5 16 [16]] (rS [oM 17 5 [], oO 18 (.bin .gtr 17 (.c (.i .u64 0))) [17]] (.cond 18 (rR [oM 19 4 [4], oM 20 0 [], oM 21 5 [5], oO 22 (.nilc 20) [20], oO 23 (.faddr 0 22) [22], oO 24 (.faddr 259 23) [23], oO 25 (.iaar 38 1 24 21) [24,21], oO 26 (.load none 25) [25], oO 27 (.bsl (.mu true) 1 1 [(.i .u8 0)] [(0, 26)]) [26], oO 28 (.append (.mu true) 1 1 19 27) [19,27], oA 4 28 [28]])
 .skip)))
(rR [oM 29 3 [3], oO 30 (.bin .quo 29 (.c (.i .u64 38))) [29], oA 3 30 [30]])))
(rR [oO 31 (.bin .add 13 (kI 1)) [13], oM 13 31 [31]])))))))
(rS [oM 32 4 [], oO 33 (.call 257 [32]) [32,33]] (rS [oM 34 4 [4], oO 35 (.b2s 34) [34], oA 2 35 [35]] .ret))))))), [.t 2]⟩
/-- interrex/code.getRes -/
def f218 : AFn := ⟨1, (rS [oO 2 (.alloc false [(vI 0),(vI 0),(vI 0)]) []] (rS [oO 3 (.alloc false [(vI 0),(vI 0),(vI 0)]) []] (.seq (rS [oM 5 (kI 0) []] (.blk 0 (.loop (rS [oO 6 (.bin .lss 5 (kI 3)) []] (.seq (.cond 6 .skip
 (.exit 0))
(.seq (.blk 1 (rS [oM 7 5 [], oA 4 7 [7]] (rR [oM 8 4 [4], oM 9 0 [], oO 10 (.call 216 [9,(kI 4)]) [9], oO 11 (.iaar 3 1 3 8) [8], oN (.store 1 11 10) [11,10]])))
(rR [oO 12 (.bin .add 5 (kI 1)) [5], oM 5 12 [12]])))))))
(rS [oO 13 (.load (some 3) 3) [3], oN (.store 3 2 13) [13]] .ret)))), [.cell 2 (some 3)]⟩
/-- ( interrex/wire.Reader).Count -/
def f219 : AFn := ⟨2, (rS [oA 4 (kI 0) [4]] (rS [oM 6 0 [], oM 7 1 [1], oO 8 (.call 216 [6,7]) [6,7], oA 5 8 [8]] (.seq (rS [oM 9 5 [], oM 10 0 [], oO 11 (.nilc 10) [10], oO 12 (.faddr 297 11) [11], oO 13 (.load none 12) [12], oO 14 (.lenL 13) [13], oO 15 (.bin .gtr 9 14) [9,14]] (.cond 15 (rS [oM 16 0 [], oM 17 0 [0], oO 18 (.nilc 16) [16], oO 19 (.faddr 298 18) [18], oN (.store 1 19 kT) [19], oO 20 (.nilc 17) [17], oO 21 (.faddr 297 20) [20], oN (.store 1 21 (.c .nils)) [21]] (rS [oA 4 (kI 0) []] .ret))
 .skip))
(rS [oM 22 5 [5], oA 4 22 [22]] .ret)))), [.t 4]⟩
/-- interrex/code.getPairs interrex/api.Pair  -/
def f220 : AFn := ⟨2, (rS [oA 4 (.c .nils) [4]] (rS [oA 5 (.c .nils) []] (.seq (rS [oM 8 0 [], oO 9 (.call 219 [8,(kI 1)]) [8], oM 10 (kI 0) []] (.blk 0 (.loop (rS [oO 11 (.bin .lss 10 9) []] (.seq (.cond 11 .skip
 (.exit 0))
(.seq (.blk 1 (rS [oM 12 0 [], oO 13 (.call 217 [12]) [12], oM 14 0 [], oO 15 (.call 217 [14]) [14], oA 6 13 [13], oA 7 15 [15]] (rR [oM 16 5 [5], oM 17 1 [], oM 18 6 [6], oM 19 7 [7], oO 20 (.callv 17 [18,19]) [17,18,19], oO 21 (.bsl (.im false) 2 1 [vS,vS] [(0, 20)]) [20], oO 22 (.append (.im false) 2 32 16 21) [16,21], oA 5 22 [22]])))
(rR [oO 23 (.bin .add 10 (kI 1)) [10], oM 10 23 [23]])))))))
(rS [oM 24 5 [5], oA 4 24 [24]] .ret)))), [.t 4]⟩
/-- interrex/code.toPair -/
def f221 : AFn := ⟨2, (rS [oO 4 (.alloc false [vS,vS]) []] (rS [oM 5 0 [0], oM 6 1 [1], oO 7 (.bld [vS,vS] [(0, 1, 5),(1, 1, 6)]) [5,6], oN (.store 2 4 7) [7]] .ret)), [.cell 4 (some 2)]⟩
/-- interrex/code.getTerms -/
def f222 : AFn := ⟨1, (rS [oA 2 (.c .nils) [2]] (rS [oA 3 (.c .nils) []] (.seq (rS [oM 5 0 [], oO 6 (.call 219 [5,(kI 1)]) [5], oM 7 (kI 0) []] (.blk 0 (.loop (rS [oO 8 (.bin .lss 7 6) []] (.seq (.cond 8 .skip
 (.exit 0))
(.seq (.blk 1 (rS [oM 9 0 [], oO 10 (.call 217 [9]) [9], oM 11 0 [], oO 12 (.call 216 [11,(kI 1)]) [11], oO 13 (.bld [vS,(vI 0),.nils] [(0, 1, 10),(1, 1, 12)]) [10,12], oO 4 (.alloc false [vS,(vI 0),.nils]) [], oN (.store 3 4 13) [13]] (.seq (rS [oM 14 0 [], oO 15 (.call 219 [14,(kI 1)]) [14], oM 16 (kI 0) []] (.blk 2 (.loop (rS [oO 17 (.bin .lss 16 15) []] (.seq (.cond 17 .skip
 (.exit 2))
(.seq (.blk 3 (.dreg [⟨0, (oO 18 (.faddr 2 4) []), false, []⟩,
 ⟨1, (oO 19 (.load none 18) []), false, []⟩,
 ⟨2, (oM 20 0 []), false, []⟩,
 ⟨3, (oO 21 (.call 217 [20]) []), true, [1]⟩,
 ⟨4, (oO 22 (.bsl (.im false) 1 1 [vS] [(0, 21)]) []), true, [1]⟩,
 ⟨5, (oO 23 (.append (.im false) 1 16 19 22) []), true, []⟩,
 ⟨6, (oO 24 (.faddr 2 4) []), false, []⟩,
 ⟨7, (oN (.store 1 24 23) []), true, []⟩] [18,19,20,21,22,23,24]))
(rR [oO 25 (.bin .add 16 (kI 1)) [16], oM 16 25 [25]])))))))
(rR [oM 26 3 [3], oO 27 (.load (some 3) 4) [4], oO 28 (.bsl (.im false) 3 1 [vS,(vI 0),.nils] [(0, 27)]) [27], oO 29 (.append (.im false) 3 48 26 28) [26,28], oA 3 29 [29]]))))
(rR [oO 30 (.bin .add 7 (kI 1)) [7], oM 7 30 [30]])))))))
(rS [oM 31 3 [3], oA 2 31 [31]] .ret)))), [.t 2]⟩
/-- ( interrex/wire.Reader).Bool -/
def f223 : AFn := ⟨1, (rS [oA 2 kF [2]] (rS [oM 3 0 [0], oO 4 (.call 216 [3,(kI 1)]) [3], oO 5 (.bin .eql 4 (kI 1)) [4], oA 2 5 [5]] .ret)), [.t 2]⟩
/-- ( interrex/wire.Reader).End -/
def f224 : AFn := ⟨1, (rS [oA 2 kF [2]] (rS [oM 3 0 [], oO 4 (.nilc 3) [3], oO 5 (.faddr 298 4) [4], oO 6 (.load none 5) [5], oO 7 (.un .not 6) [6], oM 8 7 [7], oG 9 (.mv 0) 8 [0], oG 10 (.nilc 9) 8 [9], oG 11 (.faddr 297 10) 8 [10], oG 12 (.load none 11) 8 [11], oG 13 (.lenL 12) 8 [12], oG 14 (.bin .eql 13 (kI 0)) 8 [13], oO 15 (.pick 8 14 kF) [8,14], oA 2 15 [15]] .ret)), [.t 2]⟩
/-- bytes.Equal -/
def f225 : AFn := ⟨2, (rS [oA 4 kF [4]] (rS [oM 5 0 [0], oO 6 (.b2s 5) [5], oM 7 1 [1], oO 8 (.b2s 7) [7], oO 9 (.bin .eql 6 8) [6,8], oA 4 9 [9]] .ret)), [.t 4]⟩
/-- slices.pdqsortCmpFunc interrex/api.Pod  -/
def f229 : AFn := ⟨5, (rS [oA 10 kT []] (rS [oA 11 kT []] (.blk 0 (.loop (.blk 1 (rS [oM 21 2 [], oM 22 1 [], oO 23 (.bin .sub 21 22) [21,22], oA 12 23 [23]] (.seq (rS [oM 24 12 [], oO 25 (.bin .leq 24 (kI 12)) [24]] (.cond 25 (rS [oM 26 0 [0], oM 27 1 [1], oM 28 2 [2], oM 29 4 [4], oO 30 (.call 155 [26,27,28,29]) [26,27,28,29,30]] .ret)
 .skip))
(.seq (rS [oM 31 3 [], oO 32 (.bin .eql 31 (kI 0)) [31]] (.cond 32 (rS [oM 33 0 [0], oM 34 1 [1], oM 35 2 [2], oM 36 4 [4], oO 37 (.call 261 [33,34,35,36]) [33,34,35,36,37]] .ret)
 .skip))
(.seq (rS [oM 38 10 [], oO 39 (.un .not 38) [38]] (.cond 39 (rS [oM 40 0 [], oM 41 1 [], oM 42 2 [], oM 43 4 [], oO 44 (.call 262 [40,41,42,43]) [40,41,42,43,44]] (rR [oM 45 3 [3], oO 46 (.bin .sub 45 (kI 1)) [45], oA 3 46 [46]]))
 .skip))
(rS [oM 48 0 [], oM 49 1 [], oM 50 2 [], oM 51 4 [], oO 52 (.call 263 [48,49,50,51]) [48,49,50,51], oM 47 52 [52], oO 53 (.ext 47 0) [], oO 54 (.ext 47 1) [47], oA 13 53 [53], oA 14 54 [54]] (.seq (rS [oM 55 14 [], oO 56 (.bin .eql 55 (kI 2)) [55]] (.cond 56 (rS [oM 57 0 [], oM 58 1 [], oM 59 2 [], oM 60 4 [], oO 61 (.call 264 [57,58,59,60]) [57,58,59,60,61]] (rS [oM 62 2 [], oO 63 (.bin .sub 62 (kI 1)) [62], oM 64 13 [13], oM 65 1 [], oO 66 (.bin .sub 64 65) [64,65], oO 67 (.bin .sub 63 66) [63,66], oA 13 67 [67]] (rR [oA 14 (kI 1) []])))
 .skip))
(.seq (rS [oM 68 10 [], oM 69 68 [68], oG 70 (.mv 11) 69 [], oO 71 (.pick 69 70 kF) [69,70], oM 72 71 [71], oG 73 (.mv 14) 72 [14], oG 74 (.bin .eql 73 (kI 1)) 72 [73], oO 75 (.pick 72 74 kF) [72,74]] (.cond 75 (rS [oM 76 0 [], oM 77 1 [], oM 78 2 [], oM 79 4 [], oO 80 (.call 265 [76,77,78,79]) [76,77,78,79]] (.cond 80 .ret
 .skip))
 .skip))
(.seq (.seq (.dreg [⟨0, (oM 81 1 []), false, []⟩,
 ⟨1, (oO 82 (.bin .gtr 81 (kI 0)) []), false, []⟩,
 ⟨2, (oM 83 82 []), false, []⟩,
 ⟨3, (oG 84 (.mv 4) 83 []), false, []⟩,
 ⟨4, (oG 85 (.mv 0) 83 []), false, []⟩,
 ⟨5, (oG 86 (.mv 1) 83 []), false, []⟩,
 ⟨6, (oG 87 (.bin .sub 86 (kI 1)) 83 []), false, []⟩,
 ⟨7, (oG 88 (.iasl 16 85 87) 83 []), false, []⟩,
 ⟨8, (oG 89 (.load (some 16) 88) 83 []), false, []⟩,
 ⟨9, (oG 90 (.mv 0) 83 []), false, []⟩,
 ⟨10, (oG 91 (.mv 13) 83 []), false, []⟩,
 ⟨11, (oG 92 (.iasl 16 90 91) 83 []), false, []⟩,
 ⟨12, (oG 93 (.load (some 16) 92) 83 []), false, []⟩,
 ⟨13, (oG 94 (.callv 84 [89,93]) 83 []), true, []⟩,
 ⟨14, (oG 95 (.bin .lss 94 (kI 0)) 83 []), false, []⟩,
 ⟨15, (oG 96 (.un .not 95) 83 []), false, []⟩,
 ⟨16, (oO 97 (.pick 83 96 kF) []), false, []⟩] [81,82,83,84,85,86,87,88,89,90,91,92,93,94,95,96])
(.cond 97 (rS [oM 98 0 [], oM 99 1 [1], oM 100 2 [], oM 101 13 [13], oM 102 4 [], oO 103 (.call 266 [98,99,100,101,102]) [98,99,100,101,102], oA 15 103 [103]] (rS [oM 104 15 [15], oA 1 104 [104]] (.exit 1)))
 .skip))
(rS [oM 106 0 [], oM 107 1 [], oM 108 2 [], oM 109 13 [13], oM 110 4 [], oO 111 (.call 267 [106,107,108,109,110]) [106,107,108,109,110], oM 105 111 [111], oO 112 (.ext 105 0) [], oO 113 (.ext 105 1) [105], oA 16 112 [112], oA 17 113 [113]] (rS [oM 114 17 [17], oA 11 114 [114]] (rS [oM 115 16 [], oM 116 1 [], oO 117 (.bin .sub 115 116) [115,116], oM 118 2 [], oM 119 16 [], oO 120 (.bin .sub 118 119) [118,119], oA 18 117 [117], oA 19 120 [120]] (rS [oM 121 12 [12], oO 122 (.bin .quo 121 (kI 8)) [121], oA 20 122 [122]] (rS [oM 123 18 [], oM 124 19 [], oO 125 (.bin .lss 123 124) [123,124]] (.cond 125 (rS [oM 126 18 [18], oM 127 20 [20], oO 128 (.bin .geq 126 127) [126,127], oA 10 128 [128]] (rS [oM 129 0 [], oM 130 1 [1], oM 131 16 [], oM 132 3 [], oM 133 4 [], oO 134 (.call 229 [129,130,131,132,133]) [129,130,131,132,133,134]] (rR [oM 135 16 [16], oO 136 (.bin .add 135 (kI 1)) [135], oA 1 136 [136]])))
 (rS [oM 137 19 [19], oM 138 20 [20], oO 139 (.bin .geq 137 138) [137,138], oA 10 139 [139]] (rS [oM 140 0 [], oM 141 16 [], oO 142 (.bin .add 141 (kI 1)) [141], oM 143 2 [2], oM 144 3 [], oM 145 4 [], oO 146 (.call 229 [140,142,143,144,145]) [140,142,143,144,145,146]] (rR [oM 147 16 [16], oA 2 147 [147]])))))))))))))))))))))), []⟩
/-- slices.pdqsortCmpFunc interrex/api.Node  -/
def f230 : AFn := ⟨5, (rS [oA 10 kT []] (rS [oA 11 kT []] (.blk 0 (.loop (.blk 1 (rS [oM 21 2 [], oM 22 1 [], oO 23 (.bin .sub 21 22) [21,22], oA 12 23 [23]] (.seq (rS [oM 24 12 [], oO 25 (.bin .leq 24 (kI 12)) [24]] (.cond 25 (rS [oM 26 0 [0], oM 27 1 [1], oM 28 2 [2], oM 29 4 [4], oO 30 (.call 205 [26,27,28,29]) [26,27,28,29,30]] .ret)
 .skip))
(.seq (rS [oM 31 3 [], oO 32 (.bin .eql 31 (kI 0)) [31]] (.cond 32 (rS [oM 33 0 [0], oM 34 1 [1], oM 35 2 [2], oM 36 4 [4], oO 37 (.call 268 [33,34,35,36]) [33,34,35,36,37]] .ret)
 .skip))
(.seq (rS [oM 38 10 [], oO 39 (.un .not 38) [38]] (.cond 39 (rS [oM 40 0 [], oM 41 1 [], oM 42 2 [], oM 43 4 [], oO 44 (.call 269 [40,41,42,43]) [40,41,42,43,44]] (rR [oM 45 3 [3], oO 46 (.bin .sub 45 (kI 1)) [45], oA 3 46 [46]]))
 .skip))
(rS [oM 48 0 [], oM 49 1 [], oM 50 2 [], oM 51 4 [], oO 52 (.call 270 [48,49,50,51]) [48,49,50,51], oM 47 52 [52], oO 53 (.ext 47 0) [], oO 54 (.ext 47 1) [47], oA 13 53 [53], oA 14 54 [54]] (.seq (rS [oM 55 14 [], oO 56 (.bin .eql 55 (kI 2)) [55]] (.cond 56 (rS [oM 57 0 [], oM 58 1 [], oM 59 2 [], oM 60 4 [], oO 61 (.call 271 [57,58,59,60]) [57,58,59,60,61]] (rS [oM 62 2 [], oO 63 (.bin .sub 62 (kI 1)) [62], oM 64 13 [13], oM 65 1 [], oO 66 (.bin .sub 64 65) [64,65], oO 67 (.bin .sub 63 66) [63,66], oA 13 67 [67]] (rR [oA 14 (kI 1) []])))
 .skip))
(.seq (rS [oM 68 10 [], oM 69 68 [68], oG 70 (.mv 11) 69 [], oO 71 (.pick 69 70 kF) [69,70], oM 72 71 [71], oG 73 (.mv 14) 72 [14], oG 74 (.bin .eql 73 (kI 1)) 72 [73], oO 75 (.pick 72 74 kF) [72,74]] (.cond 75 (rS [oM 76 0 [], oM 77 1 [], oM 78 2 [], oM 79 4 [], oO 80 (.call 272 [76,77,78,79]) [76,77,78,79]] (.cond 80 .ret
 .skip))
 .skip))
(.seq (.seq (.dreg [⟨0, (oM 81 1 []), false, []⟩,
 ⟨1, (oO 82 (.bin .gtr 81 (kI 0)) []), false, []⟩,
 ⟨2, (oM 83 82 []), false, []⟩,
 ⟨3, (oG 84 (.mv 4) 83 []), false, []⟩,
 ⟨4, (oG 85 (.mv 0) 83 []), false, []⟩,
 ⟨5, (oG 86 (.mv 1) 83 []), false, []⟩,
 ⟨6, (oG 87 (.bin .sub 86 (kI 1)) 83 []), false, []⟩,
 ⟨7, (oG 88 (.iasl 6 85 87) 83 []), false, []⟩,
 ⟨8, (oG 89 (.load (some 6) 88) 83 []), false, []⟩,
 ⟨9, (oG 90 (.mv 0) 83 []), false, []⟩,
 ⟨10, (oG 91 (.mv 13) 83 []), false, []⟩,
 ⟨11, (oG 92 (.iasl 6 90 91) 83 []), false, []⟩,
 ⟨12, (oG 93 (.load (some 6) 92) 83 []), false, []⟩,
 ⟨13, (oG 94 (.callv 84 [89,93]) 83 []), true, []⟩,
 ⟨14, (oG 95 (.bin .lss 94 (kI 0)) 83 []), false, []⟩,
 ⟨15, (oG 96 (.un .not 95) 83 []), false, []⟩,
 ⟨16, (oO 97 (.pick 83 96 kF) []), false, []⟩] [81,82,83,84,85,86,87,88,89,90,91,92,93,94,95,96])
(.cond 97 (rS [oM 98 0 [], oM 99 1 [1], oM 100 2 [], oM 101 13 [13], oM 102 4 [], oO 103 (.call 273 [98,99,100,101,102]) [98,99,100,101,102], oA 15 103 [103]] (rS [oM 104 15 [15], oA 1 104 [104]] (.exit 1)))
 .skip))
(rS [oM 106 0 [], oM 107 1 [], oM 108 2 [], oM 109 13 [13], oM 110 4 [], oO 111 (.call 274 [106,107,108,109,110]) [106,107,108,109,110], oM 105 111 [111], oO 112 (.ext 105 0) [], oO 113 (.ext 105 1) [105], oA 16 112 [112], oA 17 113 [113]] (rS [oM 114 17 [17], oA 11 114 [114]] (rS [oM 115 16 [], oM 116 1 [], oO 117 (.bin .sub 115 116) [115,116], oM 118 2 [], oM 119 16 [], oO 120 (.bin .sub 118 119) [118,119], oA 18 117 [117], oA 19 120 [120]] (rS [oM 121 12 [12], oO 122 (.bin .quo 121 (kI 8)) [121], oA 20 122 [122]] (rS [oM 123 18 [], oM 124 19 [], oO 125 (.bin .lss 123 124) [123,124]] (.cond 125 (rS [oM 126 18 [18], oM 127 20 [20], oO 128 (.bin .geq 126 127) [126,127], oA 10 128 [128]] (rS [oM 129 0 [], oM 130 1 [1], oM 131 16 [], oM 132 3 [], oM 133 4 [], oO 134 (.call 230 [129,130,131,132,133]) [129,130,131,132,133,134]] (rR [oM 135 16 [16], oO 136 (.bin .add 135 (kI 1)) [135], oA 1 136 [136]])))
 (rS [oM 137 19 [19], oM 138 20 [20], oO 139 (.bin .geq 137 138) [137,138], oA 10 139 [139]] (rS [oM 140 0 [], oM 141 16 [], oO 142 (.bin .add 141 (kI 1)) [141], oM 143 2 [2], oM 144 3 [], oM 145 4 [], oO 146 (.call 230 [140,142,143,144,145]) [140,142,143,144,145,146]] (rR [oM 147 16 [16], oA 2 147 [147]])))))))))))))))))))))), []⟩
/-- interrex/qty.May -/
def f231 : AFn := ⟨1, (rS [oO 1 (.box false 0) [0], oA 2 kF [2]] (.seq (rS [oO 5 (.load (some 3) 1) [1], oM 6 (kI 0) []] (.blk 0 (.loop (rS [oO 7 (.bin .lss 6 (kI 3)) []] (.seq (.cond 7 .skip
 (.exit 0))
(.seq (.blk 1 (rS [oO 8 (.ixa 3 1 none 5 6) [], oA 4 8 [8]] (rS [oM 9 4 [], oO 10 (.bin .lss 9 (kI 0)) [9], oM 11 10 [10], oH 12 (.mv 4) 11 [4], oH 13 (.bin .gtr 12 (kI 1000000000)) 11 [12], oO 14 (.pick 11 kT 13) [11,13]] (.cond 14 (rS [oA 2 kF []] .ret)
 .skip))))
(rR [oO 15 (.bin .add 6 (kI 1)) [6], oM 6 15 [15]])))))))
(rS [oA 2 kT []] .ret))), [.t 2]⟩
/-- interrex/obj.mayPorts -/
def f232 : AFn := ⟨1, (rS [oA 2 kF [2]] (.seq (rS [oM 5 0 [], oO 6 (.lenL 5) [], oM 7 (kI 0) []] (.blk 0 (.loop (rS [oO 8 (.bin .lss 7 6) []] (.seq (.cond 8 .skip
 (.exit 0))
(.seq (.blk 1 (rS [oM 9 7 [], oO 10 (.iasl 1 5 7) [], oO 11 (.load none 10) [10], oA 3 9 [9], oA 4 11 [11]] (rS [oM 12 4 [], oO 13 (.bin .lss 12 (kI 1)) [12], oM 14 13 [13], oH 15 (.mv 4) 14 [], oH 16 (.bin .gtr 15 (kI 65535)) 14 [15], oO 17 (.pick 14 kT 16) [14,16], oM 18 17 [17], oH 19 (.mv 3) 18 [], oH 20 (.bin .gtr 19 (kI 0)) 18 [19], oH 21 (.mv 20) 18 [20], oG 22 (.mv 0) 21 [], oG 23 (.mv 3) 21 [3], oG 24 (.bin .sub 23 (kI 1)) 21 [23], oG 25 (.iasl 1 22 24) 21 [22,24], oG 26 (.load none 25) 21 [25], oG 27 (.mv 4) 21 [4], oG 28 (.bin .geq 26 27) 21 [26,27], oH 29 (.pick 21 28 kF) 18 [21,28], oO 30 (.pick 18 kT 29) [18,29]] (.cond 30 (rS [oA 2 kF []] .ret)
 .skip))))
(rR [oO 31 (.bin .add 7 (kI 1)) [7], oM 7 31 [31]])))))))
(rS [oM 32 0 [0], oO 33 (.lenL 32) [32], oO 34 (.bin .leq 33 (kI 6)) [33], oA 2 34 [34]] .ret))), [.t 2]⟩
/-- interrex/label.May -/
def f233 : AFn := ⟨1, (rS [oA 2 kF [2]] (.seq (rS [oM 5 0 [], oO 6 (.lenL 5) [], oM 7 (kI 0) []] (.blk 0 (.loop (rS [oO 8 (.bin .lss 7 6) []] (.seq (.cond 8 .skip
 (.exit 0))
(.seq (.blk 1 (rS [oM 9 7 [], oO 10 (.iasl 2 5 7) [], oO 11 (.load (some 2) 10) [10], oO 4 (.alloc false [vS,vS]) [], oA 3 9 [9], oN (.store 2 4 11) [11]] (.seq (.dreg [⟨0, (oO 12 (.faddr 0 4) []), false, []⟩,
 ⟨1, (oO 13 (.load none 12) []), false, []⟩,
 ⟨2, (oO 14 (.call 214 [13]) []), true, []⟩,
 ⟨3, (oO 15 (.un .not 14) []), false, []⟩,
 ⟨4, (oM 16 15 []), false, []⟩,
 ⟨5, (oH 17 (.faddr 1 4) 16 []), false, []⟩,
 ⟨6, (oH 18 (.load none 17) 16 []), false, []⟩,
 ⟨7, (oH 19 (.call 214 [18]) 16 []), true, []⟩,
 ⟨8, (oH 20 (.un .not 19) 16 []), false, []⟩,
 ⟨9, (oO 21 (.pick 16 kT 20) []), false, []⟩,
 ⟨10, (oM 22 21 []), false, []⟩,
 ⟨11, (oH 23 (.mv 3) 22 []), false, []⟩,
 ⟨12, (oH 24 (.bin .gtr 23 (kI 0)) 22 []), false, []⟩,
 ⟨13, (oH 25 (.mv 24) 22 []), false, []⟩,
 ⟨14, (oG 26 (.mv 0) 25 []), false, []⟩,
 ⟨15, (oG 27 (.mv 3) 25 []), false, []⟩,
 ⟨16, (oG 28 (.bin .sub 27 (kI 1)) 25 []), false, []⟩,
 ⟨17, (oG 29 (.iasl 2 26 28) 25 []), false, []⟩,
 ⟨18, (oG 30 (.faddr 0 29) 25 []), false, []⟩,
 ⟨19, (oG 31 (.load none 30) 25 []), false, []⟩,
 ⟨20, (oG 32 (.faddr 0 4) 25 []), false, []⟩,
 ⟨21, (oG 33 (.load none 32) 25 []), false, []⟩,
 ⟨22, (oG 34 (.bin .geq 31 33) 25 []), false, []⟩,
 ⟨23, (oH 35 (.pick 25 34 kF) 22 []), false, []⟩,
 ⟨24, (oO 36 (.pick 22 kT 35) []), false, []⟩] [4,12,13,14,15,16,17,18,19,20,21,22,3,23,24,25,26,27,28,29,30,31,32,33,34,35])
(.cond 36 (rS [oA 2 kF []] .ret)
 .skip))))
(rR [oO 37 (.bin .add 7 (kI 1)) [7], oM 7 37 [37]])))))))
(rS [oM 38 0 [0], oO 39 (.lenL 38) [38], oO 40 (.bin .leq 39 (kI 6)) [39], oA 2 40 [40]] .ret))), [.t 2]⟩
/-- interrex/label.MayTerms -/
def f234 : AFn := ⟨1, (rS [oA 2 kF [2]] (rS [oM 3 0 [], oO 4 (.lenL 3) [3], oO 5 (.bin .leq 4 (kI 6)) [4], oM 6 5 [5], oG 7 (.mv 0) 6 [0], oG 8 (.call 149 [7,(.c (.fn 275 [] []))]) 6 [7], oG 9 (.un .not 8) 6 [8], oO 10 (.pick 6 9 kF) [6,9], oA 2 10 [10]] .ret)), [.t 2]⟩
/-- interrex/taint.MayTols -/
def f235 : AFn := ⟨1, (rS [oA 2 kF [2]] (rS [oM 3 0 [], oO 4 (.lenL 3) [3], oO 5 (.bin .leq 4 (kI 6)) [4], oM 6 5 [5], oG 7 (.mv 0) 6 [0], oG 8 (.call 152 [7,(.c (.fn 277 [] []))]) 6 [7], oG 9 (.un .not 8) 6 [8], oO 10 (.pick 6 9 kF) [6,9], oA 2 10 [10]] .ret)), [.t 2]⟩
/-- interrex/obj.mayTopo -/
def f236 : AFn := ⟨1, (rS [oO 1 (.box false 0) [0], oA 2 kF [2]] (.seq (rS [oO 3 (.faddr 12 1) [], oO 4 (.load none 3) [3], oO 5 (.bin .lss 4 (kI 0)) [4], oM 6 5 [5], oH 7 (.faddr 12 1) 6 [], oH 8 (.load none 7) 6 [7], oH 9 (.bin .gtr 8 (kI 10)) 6 [8], oO 10 (.pick 6 kT 9) [6,9], oM 11 10 [10], oH 12 (.faddr 11 1) 11 [], oH 13 (.load none 12) 11 [12], oH 14 (.call 234 [13]) 11 [13], oH 15 (.un .not 14) 11 [14], oO 16 (.pick 11 kT 15) [11,15], oM 17 16 [16], oH 18 (.faddr 13 1) 17 [], oH 19 (.load none 18) 17 [18], oH 20 (.call 234 [19]) 17 [19], oH 21 (.un .not 20) 17 [20], oO 22 (.pick 17 kT 21) [17,21]] (.cond 22 (rS [oA 2 kF []] .ret)
 .skip))
(rS [oO 23 (.faddr 10 1) [], oO 24 (.load none 23) [23], oO 25 (.call 214 [24]) [24], oM 26 25 [25], oH 27 (.faddr 10 1) 26 [], oH 28 (.load none 27) 26 [27], oH 29 (.bin .eql 28 (.c vS)) 26 [28], oH 30 (.mv 29) 26 [29], oG 31 (.faddr 11 1) 30 [], oG 32 (.load none 31) 30 [31], oG 33 (.lenL 32) 30 [32], oG 34 (.bin .eql 33 (kI 0)) 30 [33], oH 35 (.pick 30 34 kF) 26 [30,34], oH 36 (.mv 35) 26 [35], oG 37 (.faddr 12 1) 36 [1], oG 38 (.load none 37) 36 [37], oG 39 (.bin .eql 38 (kI 0)) 36 [38], oH 40 (.pick 36 39 kF) 26 [36,39], oO 41 (.pick 26 kT 40) [26,40], oA 2 41 [41]] .ret))), [.t 2]⟩
/-- ( interrex/wire.table).make -/
def f237 : AFn := ⟨1, (rS [oO 1 (.box true 0) [0]] (rR [oO 2 (.load none 1) [], oO 3 (.nilc 2) [2], oO 4 (.faddr 0 3) [3], oO 5 (.mkfn 280 [1]) [1], oO 6 (.call 279 [4,5]) [4,5,6]])), []⟩
/-- interrex/log.New -/
def f238 : AFn := ⟨1, (rS [oA 2 (.c .nilp) [2]] (rS [oM 3 0 [0], oO 4 (.mnmx true [3,(kI 1)]) [3], oO 5 (.mnmx false [4,(kI 1000)]) [4], oO 6 (.bld [.nils,(vI 0),(vI 0),(vI 0)] [(1, 1, 5)]) [5], oO 7 (.box true 6) [6], oA 2 7 [7]] .ret)), [.t 2]⟩
/-- interrex/store.New -/
def f239 : AFn := ⟨0, (rS [oA 0 (.c .nilp) [0]] (rS [oO 1 (.mkmap true none) [], oO 2 (.mkmap true none) [], oO 3 (.call 238 [(kI 64)]) [], oO 4 (.bld [(vI 0),.nilm,.nilm,.nilp,(vI 0),(vI 0)] [(1, 1, 1),(2, 1, 2),(3, 1, 3)]) [1,2,3], oO 5 (.box true 4) [4], oA 0 5 [5]] .ret)), [.t 0]⟩
/-- ( interrex/log.Log).Add -/
def f240 : AFn := ⟨2, (rS [oA 4 kF [4]] (.seq (.seq (.dreg [⟨0, (oM 8 0 []), false, []⟩,
 ⟨1, (oO 9 (.eqn false 8 (.c .nilp)) []), true, []⟩,
 ⟨2, (oM 10 9 []), false, []⟩,
 ⟨3, (oH 11 (.mv 1) 10 []), false, []⟩,
 ⟨4, (oH 12 (.lenL 11) 10 []), false, []⟩,
 ⟨5, (oH 13 (.bin .eql 12 (kI 0)) 10 []), false, []⟩,
 ⟨6, (oO 14 (.pick 10 kT 13) []), false, []⟩,
 ⟨7, (oM 15 14 []), false, []⟩,
 ⟨8, (oH 16 (.mv 1) 15 []), false, []⟩,
 ⟨9, (oH 17 (.iasl 4 16 (kI 0)) 15 []), false, []⟩,
 ⟨10, (oH 18 (.faddr 0 17) 15 []), false, []⟩,
 ⟨11, (oH 19 (.load none 18) 15 []), false, []⟩,
 ⟨12, (oH 20 (.mv 0) 15 []), false, []⟩,
 ⟨13, (oH 21 (.nilc 20) 15 []), false, []⟩,
 ⟨14, (oH 22 (.faddr 3 21) 15 []), false, []⟩,
 ⟨15, (oH 23 (.load none 22) 15 []), false, []⟩,
 ⟨16, (oH 24 (.bin .leq 19 23) 15 []), false, []⟩,
 ⟨17, (oO 25 (.pick 15 kT 24) []), false, []⟩] [8,9,10,11,12,13,14,15,16,17,18,19,20,21,22,23,24])
(.cond 25 (rS [oA 4 kF []] .ret)
 .skip))
(.seq (rS [oM 26 1 [], oO 27 (.lenL 26) [26], oM 28 (kI 0) []] (.blk 0 (.loop (rS [oO 29 (.bin .lss 28 27) []] (.seq (.cond 29 .skip
 (.exit 0))
(.seq (.blk 1 (rS [oM 30 28 [], oA 5 30 [30]] (.seq (.dreg [⟨0, (oM 31 5 []), false, []⟩,
 ⟨1, (oO 32 (.bin .gtr 31 (kI 0)) []), false, []⟩,
 ⟨2, (oM 33 32 []), false, []⟩,
 ⟨3, (oG 34 (.mv 1) 33 []), false, []⟩,
 ⟨4, (oG 35 (.mv 5) 33 []), false, []⟩,
 ⟨5, (oG 36 (.iasl 4 34 35) 33 []), false, []⟩,
 ⟨6, (oG 37 (.faddr 0 36) 33 []), false, []⟩,
 ⟨7, (oG 38 (.load none 37) 33 []), false, []⟩,
 ⟨8, (oG 39 (.mv 1) 33 []), false, []⟩,
 ⟨9, (oG 40 (.mv 5) 33 []), false, []⟩,
 ⟨10, (oG 41 (.bin .sub 40 (kI 1)) 33 []), false, []⟩,
 ⟨11, (oG 42 (.iasl 4 39 41) 33 []), false, []⟩,
 ⟨12, (oG 43 (.faddr 0 42) 33 []), false, []⟩,
 ⟨13, (oG 44 (.load none 43) 33 []), false, []⟩,
 ⟨14, (oG 45 (.bin .lss 38 44) 33 []), false, []⟩,
 ⟨15, (oO 46 (.pick 33 45 kF) []), false, []⟩] [5,31,32,33,34,35,36,37,38,39,40,41,42,43,44,45])
(.cond 46 (rS [oA 4 kF []] .ret)
 .skip))))
(rR [oO 47 (.bin .add 28 (kI 1)) [28], oM 28 47 [47]])))))))
(.seq (rS [oM 48 1 [], oO 49 (.lenL 48) [], oM 50 (kI 0) []] (.blk 2 (.loop (rS [oO 51 (.bin .lss 50 49) []] (.seq (.cond 51 .skip
 (.exit 2))
(.seq (.blk 3 (rS [oO 52 (.iasl 4 48 50) [], oO 53 (.load (some 4) 52) [52], oO 7 (.alloc false [(vI 0),vS,.nils,(.b false)]) [], oN (.store 4 7 53) [53]] (.dreg [⟨0, (oM 54 0 []), false, []⟩,
 ⟨1, (oM 55 0 []), false, []⟩,
 ⟨2, (oO 56 (.nilc 55) []), false, []⟩,
 ⟨3, (oO 57 (.faddr 0 56) []), false, []⟩,
 ⟨4, (oO 58 (.load none 57) []), false, []⟩,
 ⟨5, (oO 59 (.load (some 4) 7) []), false, []⟩,
 ⟨6, (oO 60 (.call 282 [59]) []), true, [4]⟩,
 ⟨7, (oO 61 (.bsl (.mu true) 4 1 [(vI 0),vS,.nils,(.b false)] [(0, 60)]) []), true, [4]⟩,
 ⟨8, (oO 62 (.append (.mu true) 4 56 58 61) []), true, []⟩,
 ⟨9, (oO 63 (.nilc 54) []), false, []⟩,
 ⟨10, (oO 64 (.faddr 0 63) []), false, []⟩,
 ⟨11, (oN (.store 1 64 62) []), true, []⟩] [54,55,56,57,58,7,59,60,61,62,63,64])))
(rR [oO 65 (.bin .add 50 (kI 1)) [50], oM 50 65 [65]])))))))
(rS [oM 66 0 [], oM 67 1 [], oM 68 1 [1], oO 69 (.lenL 68) [68], oO 70 (.bin .sub 69 (kI 1)) [69], oO 71 (.iasl 4 67 70) [67,70], oO 72 (.faddr 0 71) [71], oO 73 (.load none 72) [72], oO 74 (.nilc 66) [66], oO 75 (.faddr 3 74) [74], oN (.store 1 75 73) [75,73]] (.seq (.blk 4 (.loop (.seq (.seq (.dreg [⟨0, (oM 76 0 []), false, []⟩,
 ⟨1, (oO 77 (.nilc 76) []), false, []⟩,
 ⟨2, (oO 78 (.faddr 0 77) []), false, []⟩,
 ⟨3, (oO 79 (.load none 78) []), false, []⟩,
 ⟨4, (oO 80 (.lenL 79) []), false, []⟩,
 ⟨5, (oM 81 0 []), false, []⟩,
 ⟨6, (oO 82 (.nilc 81) []), false, []⟩,
 ⟨7, (oO 83 (.faddr 1 82) []), false, []⟩,
 ⟨8, (oO 84 (.load none 83) []), false, []⟩,
 ⟨9, (oO 85 (.bin .gtr 80 84) []), false, []⟩] [76,77,78,79,80,81,82,83,84])
(.cond 85 .skip
 (.exit 4)))
(.blk 5 (rR [oM 86 0 [], oM 87 0 [], oO 88 (.nilc 87) [87], oO 89 (.faddr 0 88) [88], oO 90 (.load none 89) [89], oO 91 (.iasl 4 90 (kI 0)) [90], oO 92 (.faddr 0 91) [91], oO 93 (.load none 92) [92], oO 94 (.call 283 [86,93]) [86,93,94]])))))
(rS [oA 4 kT []] .ret))))))), [.t 4]⟩
/-- ( interrex/log.Log).From -/
def f241 : AFn := ⟨2, (rS [oA 4 (.c .nils) [4], oA 5 (kI 0) [5]] (.seq (.blk 0 (rS [oM 10 0 [], oO 11 (.eqn false 10 (.c .nilp)) [10], oA 9 11 [11]] (.cond 9 (rS [oA 4 (.c .nils) [], oA 5 (kI 9) []] .ret)
 (rS [oM 13 1 [], oM 14 0 [], oO 15 (.nilc 14) [14], oO 16 (.faddr 2 15) [15], oO 17 (.load none 16) [16], oO 18 (.bin .lss 13 17) [13,17], oA 12 18 [18]] (.cond 12 (rS [oA 4 (.c .nils) [], oA 5 (kI 7) []] .ret)
 (rS [oM 20 1 [], oM 21 0 [], oO 22 (.nilc 21) [21], oO 23 (.faddr 3 22) [22], oO 24 (.load none 23) [23], oO 25 (.bin .gtr 20 24) [20,24], oA 19 25 [25]] (.cond 19 (rS [oA 4 (.c .nils) [], oA 5 (kI 2) []] .ret)
 .skip)))))))
(rS [oA 6 (.c .nils) []] (.seq (rS [oM 26 0 [0], oO 27 (.nilc 26) [26], oO 28 (.faddr 0 27) [27], oO 29 (.load none 28) [28], oO 30 (.lenL 29) [], oM 31 (kI 0) []] (.blk 1 (.loop (rS [oO 32 (.bin .lss 31 30) []] (.seq (.cond 32 .skip
 (.exit 1))
(.seq (.blk 2 (rS [oO 33 (.iasl 4 29 31) [], oO 34 (.load (some 4) 33) [33], oO 8 (.alloc false [(vI 0),vS,.nils,(.b false)]) [], oN (.store 4 8 34) [34]] (rS [oO 35 (.faddr 0 8) [], oO 36 (.load none 35) [35], oM 37 1 [], oO 38 (.bin .gtr 36 37) [36,37]] (.cond 38 (rR [oM 39 6 [6], oO 40 (.load (some 4) 8) [8], oO 41 (.call 282 [40]) [40], oO 42 (.bsl (.im false) 4 1 [(vI 0),vS,.nils,(.b false)] [(0, 41)]) [41], oO 43 (.append (.im false) 4 56 39 42) [39,42], oA 6 43 [43]])
 .skip))))
(rR [oO 44 (.bin .add 31 (kI 1)) [31], oM 31 44 [44]])))))))
(rS [oM 45 6 [6], oA 4 45 [45], oA 5 (kI 0) []] .ret))))), [.t 4,.t 5]⟩
/-- ( interrex/store.Store).Txn -/
def f242 : AFn := ⟨2, (rS [oO 3 (.box false 1) [1], oA 4 (kI 0) [4], oA 5 (kI 0) [5]] (.seq (rS [oM 10 0 [], oO 11 (.eqn false 10 (.c .nilp)) [10]] (.cond 11 (rS [oA 4 (kI 0) [], oA 5 (kI 9) []] .ret)
 .skip))
(rS [oM 12 0 [], oO 13 (.nilc 12) [12], oO 14 (.faddr 5 13) [13], oO 15 (.call 284 [14,(kI 1)]) [14,15]] (.seq (rS [oM 16 0 [], oO 17 (.load (some 2) 3) [], oO 18 (.call 285 [16,17]) [16,17], oA 6 18 [18]] (rS [oM 19 6 [], oO 20 (.bin .neq 19 (kI 0)) [19]] (.cond 20 (rS [oM 21 6 [6], oA 4 (kI 0) [], oA 5 21 [21]] .ret)
 .skip)))
(rS [oM 22 0 [], oO 23 (.nilc 22) [], oO 24 (.faddr 0 23) [23], oO 25 (.load none 24) [24], oO 26 (.bin .add 25 (kI 1)) [25], oO 27 (.nilc 22) [22], oO 28 (.faddr 0 27) [27], oN (.store 1 28 26) [28,26]] (rS [oA 7 (.c .nils) []] (.seq (rS [oO 29 (.faddr 1 3) [3], oO 30 (.load none 29) [29], oO 31 (.lenL 30) [], oM 32 (kI 0) []] (.blk 0 (.loop (rS [oO 33 (.bin .lss 32 31) []] (.seq (.cond 33 .skip
 (.exit 0))
(.seq (.blk 1 (rS [oO 34 (.iasl 3 30 32) [], oO 35 (.load (some 3) 34) [34], oO 9 (.alloc false [vS,.nils,(.b false)]) [], oN (.store 3 9 35) [35]] (.seq (.dreg [⟨0, (oM 36 0 []), false, []⟩,
 ⟨1, (oO 37 (.nilc 36) []), false, []⟩,
 ⟨2, (oO 38 (.faddr 2 37) []), false, []⟩,
 ⟨3, (oO 39 (.load none 38) []), false, []⟩,
 ⟨4, (oO 40 (.faddr 0 9) []), false, []⟩,
 ⟨5, (oO 41 (.load none 40) []), false, []⟩,
 ⟨6, (oM 42 0 []), false, []⟩,
 ⟨7, (oO 43 (.nilc 42) []), false, []⟩,
 ⟨8, (oO 44 (.faddr 0 43) []), false, []⟩,
 ⟨9, (oO 45 (.load none 44) []), false, []⟩,
 ⟨10, (oN (.mupd none 39 41 45) []), true, []⟩] [36,37,38,39,40,41,42,43,44,45])
(.seq (rS [oO 46 (.faddr 2 9) [], oO 47 (.load none 46) [46]] (.cond 47 (.dreg [⟨0, (oM 48 0 []), false, []⟩,
 ⟨1, (oO 49 (.nilc 48) []), false, []⟩,
 ⟨2, (oO 50 (.faddr 1 49) []), false, []⟩,
 ⟨3, (oO 51 (.load none 50) []), false, []⟩,
 ⟨4, (oO 52 (.faddr 0 9) []), false, []⟩,
 ⟨5, (oO 53 (.load none 52) []), false, []⟩,
 ⟨6, (oN (.delete none 51 53) []), true, []⟩] [48,49,50,51,52,53])
 (.dreg [⟨0, (oM 54 0 []), false, []⟩,
 ⟨1, (oO 55 (.nilc 54) []), false, []⟩,
 ⟨2, (oO 56 (.faddr 1 55) []), false, []⟩,
 ⟨3, (oO 57 (.load none 56) []), false, []⟩,
 ⟨4, (oO 58 (.faddr 0 9) []), false, []⟩,
 ⟨5, (oO 59 (.load none 58) []), false, []⟩,
 ⟨6, (oO 60 (.faddr 0 9) []), false, []⟩,
 ⟨7, (oO 61 (.load none 60) []), false, []⟩,
 ⟨8, (oM 62 0 []), false, []⟩,
 ⟨9, (oO 63 (.nilc 62) []), false, []⟩,
 ⟨10, (oO 64 (.faddr 0 63) []), false, []⟩,
 ⟨11, (oO 65 (.load none 64) []), false, []⟩,
 ⟨12, (oO 66 (.faddr 1 9) []), false, []⟩,
 ⟨13, (oO 67 (.load none 66) []), false, []⟩,
 ⟨14, (oO 68 (.bld [vS,(vI 0),.nils] [(0, 1, 61),(1, 1, 65),(2, 1, 67)]) []), false, []⟩,
 ⟨15, (oO 69 (.call 286 [68]) []), true, [5,3]⟩,
 ⟨16, (oN (.mupd none 57 59 69) []), true, []⟩] [54,55,56,57,58,59,60,61,62,63,64,65,66,67,68,69])))
(.dreg [⟨0, (oM 70 7 []), false, []⟩,
 ⟨1, (oM 71 0 []), false, []⟩,
 ⟨2, (oO 72 (.nilc 71) []), false, []⟩,
 ⟨3, (oO 73 (.faddr 0 72) []), false, []⟩,
 ⟨4, (oO 74 (.load none 73) []), false, []⟩,
 ⟨5, (oO 75 (.faddr 0 9) []), false, []⟩,
 ⟨6, (oO 76 (.load none 75) []), false, []⟩,
 ⟨7, (oO 77 (.faddr 1 9) []), false, []⟩,
 ⟨8, (oO 78 (.load none 77) []), false, []⟩,
 ⟨9, (oO 79 (.faddr 2 9) []), false, []⟩,
 ⟨10, (oO 80 (.load none 79) []), false, []⟩,
 ⟨11, (oO 81 (.bld [(vI 0),vS,.nils,(.b false)] [(0, 1, 74),(1, 1, 76),(2, 1, 78),(3, 1, 80)]) []), false, []⟩,
 ⟨12, (oO 82 (.bsl (.im false) 4 1 [(vI 0),vS,.nils,(.b false)] [(0, 81)]) []), true, []⟩,
 ⟨13, (oO 83 (.append (.im false) 4 56 70 82) []), true, []⟩,
 ⟨14, (oA 7 83 []), true, []⟩] [70,71,72,73,74,9,75,76,77,78,79,80,81,82,83])))))
(rR [oO 84 (.bin .add 32 (kI 1)) [32], oM 32 84 [84]])))))))
(rS [oM 85 0 [], oO 86 (.nilc 85) [85], oO 87 (.faddr 3 86) [86], oO 88 (.load none 87) [87], oM 89 7 [7], oO 90 (.call 240 [88,89]) [88,89,90]] (rS [oM 91 0 [0], oO 92 (.nilc 91) [91], oO 93 (.faddr 0 92) [92], oO 94 (.load none 93) [93], oA 4 94 [94], oA 5 (kI 0) []] .ret))))))))), [.t 4,.t 5]⟩
/-- ( interrex/store.Store).Get -/
def f243 : AFn := ⟨2, (rS [oO 4 (.alloc false [vS,(vI 0),.nils]) [], oA 5 kF [5]] (.seq (rS [oM 8 0 [], oO 9 (.eqn false 8 (.c .nilp)) [8]] (.cond 9 (rS [oO 10 (.bld [vS,(vI 0),.nils] []) [], oN (.store 3 4 10) [10], oA 5 kF []] .ret)
 .skip))
(rS [oM 11 0 [], oO 12 (.nilc 11) [11], oO 13 (.faddr 4 12) [12], oO 14 (.call 284 [13,(kI 1)]) [13,14]] (rS [oM 16 0 [0], oO 17 (.nilc 16) [16], oO 18 (.faddr 1 17) [17], oO 19 (.load none 18) [18], oM 20 1 [1], oO 21 (.lkp none (.agg [vS,(vI 0),.nils]) 19 20 true) [19,20], oM 15 21 [21], oO 22 (.ext 15 0) [], oO 23 (.ext 15 1) [15], oO 6 (.alloc false [vS,(vI 0),.nils]) [], oN (.store 3 6 22) [22], oA 7 23 [23]] (rS [oO 24 (.load (some 3) 6) [6], oO 25 (.call 286 [24]) [24], oM 26 7 [7], oN (.store 3 4 25) [25], oA 5 26 [26]] .ret))))), [.cell 4 (some 3),.t 5]⟩
/-- interrex/call.Get -/
def f244 : AFn := ⟨1, (rS [oO 2 (.alloc false [(vI 0),(vI 0),(vI 0),vS,(vI 0),.nils,.nils]) [], oA 3 kF [3]] (rS [oM 6 0 [], oO 7 (.call 215 [6]) [6], oA 4 7 [7]] (rS [oM 8 4 [], oO 9 (.call 216 [8,(kI 1)]) [8], oM 10 4 [], oO 11 (.call 216 [10,(kI 1)]) [10], oM 12 4 [], oO 13 (.call 216 [12,(kI 8)]) [12], oM 14 4 [], oO 15 (.call 287 [14]) [14], oM 16 4 [], oO 17 (.call 216 [16,(kI 8)]) [16], oO 18 (.bld [(vI 0),(vI 0),(vI 0),vS,(vI 0),.nils,.nils] [(2, 1, 9),(0, 1, 11),(1, 1, 13),(3, 1, 15),(4, 1, 17)]) [9,11,13,15,17], oO 5 (.alloc false [(vI 0),(vI 0),(vI 0),vS,(vI 0),.nils,.nils]) [], oN (.store 7 5 18) [18]] (.seq (rS [oM 19 4 [], oO 20 (.call 219 [19,(kI 1)]) [19], oM 21 (kI 0) []] (.blk 0 (.loop (rS [oO 22 (.bin .lss 21 20) []] (.seq (.cond 22 .skip
 (.exit 0))
(.seq (.blk 1 (.dreg [⟨0, (oO 23 (.faddr 5 5) []), false, []⟩,
 ⟨1, (oO 24 (.faddr 0 23) []), false, []⟩,
 ⟨2, (oO 25 (.load none 24) []), false, []⟩,
 ⟨3, (oM 26 4 []), false, []⟩,
 ⟨5, (oM 28 4 []), false, []⟩,
 ⟨7, (oM 30 4 []), false, []⟩,
 ⟨4, (oO 27 (.call 287 [26]) []), true, [2]⟩,
 ⟨6, (oO 29 (.call 216 [28,(kI 8)]) []), true, [2]⟩,
 ⟨8, (oO 31 (.call 223 [30]) []), true, [2]⟩,
 ⟨9, (oO 32 (.bld [vS,(vI 0),(.b false)] [(0, 1, 27),(1, 1, 29),(2, 1, 31)]) []), false, []⟩,
 ⟨10, (oO 33 (.bsl (.im false) 3 1 [vS,(vI 0),(.b false)] [(0, 32)]) []), true, [2]⟩,
 ⟨11, (oO 34 (.append (.im false) 3 32 25 33) []), true, []⟩,
 ⟨12, (oO 35 (.faddr 5 5) []), false, []⟩,
 ⟨13, (oO 36 (.faddr 0 35) []), false, []⟩,
 ⟨14, (oN (.store 1 36 34) []), true, []⟩] [23,24,25,26,27,28,29,30,31,32,33,34,35,36]))
(rR [oO 37 (.bin .add 21 (kI 1)) [21], oM 21 37 [37]])))))))
(.seq (rS [oM 38 4 [], oO 39 (.call 219 [38,(kI 1)]) [38], oM 40 (kI 0) []] (.blk 2 (.loop (rS [oO 41 (.bin .lss 40 39) []] (.seq (.cond 41 .skip
 (.exit 2))
(.seq (.blk 3 (.dreg [⟨0, (oO 42 (.faddr 5 5) []), false, []⟩,
 ⟨1, (oO 43 (.faddr 1 42) []), false, []⟩,
 ⟨2, (oO 44 (.load none 43) []), false, []⟩,
 ⟨3, (oM 45 4 []), false, []⟩,
 ⟨5, (oM 47 4 []), false, []⟩,
 ⟨8, (oM 50 4 []), false, []⟩,
 ⟨4, (oO 46 (.call 287 [45]) []), true, [2]⟩,
 ⟨6, (oO 48 (.call 287 [47]) []), true, [2]⟩,
 ⟨7, (oO 49 (.s2b .fz 48) []), false, []⟩,
 ⟨9, (oO 51 (.call 223 [50]) []), true, [2]⟩,
 ⟨10, (oO 52 (.bld [vS,.nils,(.b false)] [(0, 1, 46),(1, 1, 49),(2, 1, 51)]) []), false, []⟩,
 ⟨11, (oO 53 (.bsl (.im false) 3 1 [vS,.nils,(.b false)] [(0, 52)]) []), true, [2]⟩,
 ⟨12, (oO 54 (.append (.im false) 3 48 44 53) []), true, []⟩,
 ⟨13, (oO 55 (.faddr 5 5) []), false, []⟩,
 ⟨14, (oO 56 (.faddr 1 55) []), false, []⟩,
 ⟨15, (oN (.store 1 56 54) []), true, []⟩] [42,43,44,45,46,47,48,49,50,51,52,53,54,55,56]))
(rR [oO 57 (.bin .add 40 (kI 1)) [40], oM 40 57 [57]])))))))
(.seq (rS [oM 58 4 [4], oO 59 (.call 224 [58]) [58], oO 60 (.un .not 59) [59], oM 61 60 [60], oH 62 (.load (some 7) 5) 61 [], oH 63 (.call 245 [62]) 61 [62], oH 64 (.mv 0) 61 [], oH 65 (.call 225 [63,64]) 61 [63,64], oH 66 (.un .not 65) 61 [65], oO 67 (.pick 61 kT 66) [61,66], oM 68 67 [67], oH 69 (.mv 0) 68 [0], oH 70 (.lenL 69) 68 [69], oH 71 (.bin .eql 70 (kI 0)) 68 [70], oO 72 (.pick 68 kT 71) [68,71]] (.cond 72 (rS [oO 73 (.bld [(vI 0),(vI 0),(vI 0),vS,(vI 0),.nils,.nils] []) [], oN (.store 7 2 73) [73], oA 3 kF []] .ret)
 .skip))
(rS [oO 74 (.load (some 7) 5) [5], oN (.store 7 2 74) [74], oA 3 kT []] .ret))))))), [.cell 2 (some 7),.t 3]⟩
/-- interrex/call.Put -/
def f245 : AFn := ⟨1, (rS [oO 1 (.box false 0) [0], oA 2 (.c .nils) [2]] (.seq (rS [oO 8 (.load (some 7) 1) [], oO 9 (.call 288 [8]) [8], oO 10 (.un .not 9) [9]] (.cond 10 (rS [oA 2 (.c .nils) []] .ret)
 .skip))
(rS [oO 3 (.alloc true [(.i .u32 0),(.i .i32 0),(.i .u32 0),(.i .u64 0),(.i .u64 0),(.i .u64 0),(.i .u64 0),(.i .u64 0),(.i .u64 0),(.i .u64 0),(.i .u64 0),(.i .u64 0),(.i .u64 0),(.i .u64 0),(.i .u64 0),(.i .u64 0),(.i .u64 0),(.i .u64 0),(.i .u64 0),(.i .u64 0),(.i .u64 0),(.i .u64 0),(.i .u64 0),(.i .u64 0),(.i .u64 0),(.i .u64 0),(.i .u64 0),(.i .u64 0),(.i .u64 0),(.i .u64 0),(.i .u64 0),(.i .u64 0),(.i .u64 0),(.i .u64 0),(.i .u64 0),(.i .u64 0),(.i .u64 0),(.i .u64 0),(.i .u64 0),(.i .u64 0),(.i .u64 0),(.i .u64 0),(.i .u64 0),(.i .u64 0),(.i .u64 0),(.i .u64 0),(.i .u64 0),(.i .u64 0),(.i .u64 0),(.i .u64 0),(.i .u64 0),(.i .u64 0),(.i .u64 0),(.i .u64 0),(.i .u64 0),(.i .u64 0),(.i .u64 0),(.i .u64 0),(.i .u64 0),(.i .u64 0),(.i .u64 0),(.i .u64 0),(.i .u64 0),(.i .u64 0),(.i .u64 0),(.i .u64 0),(.i .u64 0),(.i .u64 0),(.i .u64 0),(.i .u64 0),(.i .u64 0),(.i .u64 0),(.i .u64 0),(.i .u64 0),(.i .u64 0),(.i .u64 0),(.i .u64 0),(.i .u64 0),(.i .u64 0),(.i .u64 0),(.i .u64 0),(.i .u64 0),(.i .u64 0),(.i .u64 0),(.i .u64 0),(.i .u64 0),(.i .u64 0),(.i .u64 0),(.i .u64 0),(.i .u64 0),(.i .u64 0),(.i .u64 0),(.i .u64 0),(.i .u64 0),(.i .u64 0),(.i .u64 0),(.i .u64 0),(.i .u64 0),(.i .u64 0),(.i .u64 0),(.i .u64 0),(.i .u64 0),(.i .u64 0),(.i .u64 0),(.i .u64 0),(.i .u64 0),(.i .u64 0),(.i .u64 0),(.i .u64 0),(.i .u64 0),(.i .u64 0),(.i .u64 0),(.i .u64 0),(.i .u64 0),(.i .u64 0),(.i .u64 0),(.i .u64 0),(.i .u64 0),(.i .u64 0),(.i .u64 0),(.i .u64 0),(.i .u64 0),(.i .u64 0),(.i .u64 0),(.i .u64 0),(.i .u64 0),(.i .u64 0),(.i .u64 0),(.i .u64 0),(.i .u64 0),(.i .u64 0),(.i .u64 0),(.i .u64 0),(.i .u64 0),(.i .u64 0),(.i .u64 0),(.i .u64 0),(.i .u64 0),(.i .u64 0),(.i .u64 0),(.i .u64 0),(.i .u64 0),(.i .u64 0),(.i .u64 0),(.i .u64 0),(.i .u64 0),(.i .u64 0),(.i .u64 0),(.i .u64 0),(.i .u64 0),(.i .u64 0),(.i .u64 0),(.i .u64 0),(.i .u64 0),(.i .u64 0),(.i .u64 0),(.i .u64 0),(.i .u64 0),(.i .u64 0),(.i .u64 0),(.i .u64 0),(.i .u64 0),(.i .u64 0),(.i .u64 0),(.i .u64 0),(.i .u64 0),(.i .u64 0),(.i .u64 0),(.i .u64 0),(.i .u64 0),(.i .u64 0),(.i .u64 0),(.i .u64 0),(.i .u64 0),(.i .u64 0),(.i .u64 0),(.i .u64 0),(.i .u64 0),(.i .u64 0),(.i .u64 0),(.i .u64 0),(.i .u64 0),(.i .u64 0),(.i .u64 0),(.i .u64 0),(.i .u64 0),(.i .u64 0),(.i .u64 0),(.i .u64 0),(.i .u64 0),(.i .u64 0),(.i .u64 0),(.i .u64 0),(.i .u64 0),(.i .u64 0),(.i .u64 0),(.i .u64 0),(.i .u64 0),(.i .u64 0),(.i .u64 0),(.i .u64 0),(.i .u64 0),(.i .u64 0),(.i .u64 0),(.i .u64 0),(.i .u64 0),(.i .u64 0),(.i .u64 0),(.i .u64 0),(.i .u64 0),(.i .u64 0),(.i .u64 0),(.i .u64 0),(.i .u64 0),(.i .u64 0),(.i .u64 0),(.i .u64 0),(.i .u64 0),(.i .u64 0),(.i .u64 0),(.i .u64 0),(.i .u64 0),(.i .u64 0),(.i .u64 0),(.i .u64 0),(.i .u64 0),(.i .u64 0),(.i .u64 0),(.i .u64 0),(.i .u64 0),(.i .u64 0),(.i .u64 0),(.i .u64 0),(.i .u64 0),(.i .u64 0),(.i .u64 0),(.i .u64 0),(.i .u64 0),(.i .u64 0),(.i .u64 0),(.i .u64 0),(.i .u64 0),(.i .u64 0),(.i .u64 0),(.i .u64 0),(.i .u64 0),(.i .u64 0),(.i .u64 0),(.i .u64 0),(.i .u64 0),(.i .u64 0),(.i .u64 0),(.i .u64 0),(.i .u64 0),(.i .u64 0),(.i .u64 0),(.i .u64 0),(.i .u64 0),(.i .u64 0),(.i .u8 0),(.i .u8 0),(.i .u8 0),(.i .u8 0),(.i .u8 0),(.i .u8 0),(.i .u8 0),(.i .u8 0),(.i .u8 0),(.i .u8 0),(.i .u8 0),(.i .u8 0),(.i .u8 0),(.i .u8 0),(.i .u8 0),(.i .u8 0),(.i .u8 0),(.i .u8 0),(.i .u8 0),(.i .u8 0),(.i .u8 0),(.i .u8 0),(.i .u8 0),(.i .u8 0),(.i .u8 0),(.i .u8 0),(.i .u8 0),(.i .u8 0),(.i .u8 0),(.i .u8 0),(.i .u8 0),(.i .u8 0),(.i .u8 0),(.i .u8 0),(.i .u8 0),(.i .u8 0),(.i .u8 0),(.i .u8 0),.nils]) []] (rS [oO 11 (.faddr 2 1) [], oO 12 (.load none 11) [11], oO 13 (.call 170 [3,12,(kI 1)]) [12,13]] (rS [oO 14 (.faddr 0 1) [], oO 15 (.load none 14) [14], oO 16 (.call 170 [3,15,(kI 1)]) [15,16]] (rS [oO 17 (.faddr 1 1) [], oO 18 (.load none 17) [17], oO 19 (.call 170 [3,18,(kI 8)]) [18,19]] (rS [oO 20 (.faddr 3 1) [], oO 21 (.load none 20) [20], oO 22 (.call 289 [3,21]) [21,22]] (rS [oO 23 (.faddr 4 1) [], oO 24 (.load none 23) [23], oO 25 (.call 170 [3,24,(kI 8)]) [24,25]] (rS [oO 26 (.faddr 5 1) [], oO 27 (.faddr 0 26) [26], oO 28 (.load none 27) [27], oO 29 (.lenL 28) [28], oO 30 (.call 170 [3,29,(kI 1)]) [29,30]] (.seq (rS [oO 31 (.faddr 5 1) [], oO 32 (.faddr 0 31) [31], oO 33 (.load none 32) [32], oO 34 (.lenL 33) [], oM 35 (kI 0) []] (.blk 0 (.loop (rS [oO 36 (.bin .lss 35 34) []] (.seq (.cond 36 .skip
 (.exit 0))
(.seq (.blk 1 (rS [oO 37 (.iasl 3 33 35) [], oO 38 (.load (some 3) 37) [37], oO 5 (.alloc false [vS,(vI 0),(.b false)]) [], oN (.store 3 5 38) [38]] (rS [oO 39 (.faddr 0 5) [], oO 40 (.load none 39) [39], oO 41 (.call 289 [3,40]) [40,41]] (rS [oO 42 (.faddr 1 5) [], oO 43 (.load none 42) [42], oO 44 (.call 170 [3,43,(kI 8)]) [43,44]] (rR [oO 45 (.faddr 2 5) [5], oO 46 (.load none 45) [45], oO 47 (.call 190 [3,46]) [46,47]])))))
(rR [oO 48 (.bin .add 35 (kI 1)) [35], oM 35 48 [48]])))))))
(rS [oO 49 (.faddr 5 1) [], oO 50 (.faddr 1 49) [49], oO 51 (.load none 50) [50], oO 52 (.lenL 51) [51], oO 53 (.call 170 [3,52,(kI 1)]) [52,53]] (.seq (rS [oO 54 (.faddr 5 1) [1], oO 55 (.faddr 1 54) [54], oO 56 (.load none 55) [55], oO 57 (.lenL 56) [], oM 58 (kI 0) []] (.blk 2 (.loop (rS [oO 59 (.bin .lss 58 57) []] (.seq (.cond 59 .skip
 (.exit 2))
(.seq (.blk 3 (rS [oO 60 (.iasl 3 56 58) [], oO 61 (.load (some 3) 60) [60], oO 7 (.alloc false [vS,.nils,(.b false)]) [], oN (.store 3 7 61) [61]] (rS [oO 62 (.faddr 0 7) [], oO 63 (.load none 62) [62], oO 64 (.call 289 [3,63]) [63,64]] (rS [oO 65 (.faddr 1 7) [], oO 66 (.load none 65) [65], oO 67 (.b2s 66) [66], oO 68 (.call 289 [3,67]) [67,68]] (rR [oO 69 (.faddr 2 7) [7], oO 70 (.load none 69) [69], oO 71 (.call 190 [3,70]) [70,71]])))))
(rR [oO 72 (.bin .add 58 (kI 1)) [58], oM 58 72 [72]])))))))
(rS [oO 73 (.call 171 [3]) [3], oA 2 73 [73]] .ret))))))))))))), [.t 2]⟩
/-- interrex/reply.Of -/
def f246 : AFn := ⟨2, (rS [oO 3 (.box false 1) [1], oO 4 (.alloc false [(vI 0),(vI 0),(vI 0),(vI 0),(vI 0),.nils,.nils]) []] (rS [oO 8 (.faddr 0 3) [], oO 9 (.load none 8) [8], oO 10 (.faddr 1 3) [], oO 11 (.load none 10) [10], oO 12 (.faddr 2 3) [], oO 13 (.load none 12) [12], oO 14 (.bld [(vI 0),(vI 0),(vI 0),(vI 0),(vI 0),.nils,.nils] [(0, 1, 9),(1, 1, 11),(2, 1, 13)]) [9,11,13], oO 5 (.alloc false [(vI 0),(vI 0),(vI 0),(vI 0),(vI 0),.nils,.nils]) [], oN (.store 7 5 14) [14]] (.seq (rS [oO 15 (.load (some 7) 3) [], oO 16 (.call 288 [15]) [15], oO 17 (.un .not 16) [16]] (.cond 17 (rS [oO 18 (.faddr 3 5) [], oN (.store 1 18 (kI 1)) [18]] (rS [oO 19 (.load (some 7) 5) [5], oN (.store 7 4 19) [19]] .ret))
 .skip))
(.seq (rS [oO 20 (.faddr 2 3) [], oO 21 (.load none 20) [20]] (.blk 0 (rS [oO 23 (.bin .eql 21 (kI 1)) [], oA 22 23 [23]] (.cond 22 (rS [oM 25 0 [], oO 26 (.faddr 3 3) [3], oO 27 (.load none 26) [26], oO 28 (.call 243 [25,27]) [25,27], oM 24 28 [28], oO 29 (.ext 24 0) [], oO 30 (.ext 24 1) [24], oO 6 (.alloc false [vS,(vI 0),.nils]) [], oN (.store 3 6 29) [29], oA 7 30 [30]] (rS [oM 31 7 [7]] (.cond 31 (rR [oO 32 (.load (some 3) 6) [6], oO 33 (.bsl (.im false) 3 1 [vS,(vI 0),.nils] [(0, 32)]) [32], oO 34 (.faddr 5 5) [], oN (.store 1 34 33) [34,33]])
 (rR [oO 35 (.faddr 3 5) [], oN (.store 1 35 (kI 3)) [35]]))))
 (rS [oO 37 (.bin .eql 21 (kI 2)) [], oA 36 37 [37]] (.cond 36 (rR [oM 38 0 [], oO 39 (.call 290 [38]) [38], oO 40 (.faddr 5 5) [], oN (.store 1 40 39) [40,39]])
 (rS [oO 42 (.bin .eql 21 (kI 3)) [], oA 41 42 [42]] (.cond 41 (rR [oM 44 0 [], oO 45 (.faddr 4 3) [3], oO 46 (.load none 45) [45], oO 47 (.call 291 [44,46]) [44,46], oM 43 47 [47], oO 48 (.ext 43 0) [], oO 49 (.ext 43 1) [43], oO 50 (.faddr 6 5) [], oN (.store 1 50 48) [50,48], oO 51 (.faddr 3 5) [], oN (.store 1 51 49) [51,49]])
 (rS [oO 53 (.bin .eql 21 (kI 4)) [21], oA 52 53 [53]] (.cond 52 (rR [oM 55 0 [], oO 56 (.faddr 5 3) [3], oO 57 (.load (some 2) 56) [56], oO 58 (.call 242 [55,57]) [55,57], oM 54 58 [58], oO 59 (.ext 54 0) [59], oO 60 (.ext 54 1) [54], oO 61 (.faddr 3 5) [], oN (.store 1 61 60) [61,60]])
 .skip))))))))))
(rS [oM 62 0 [0], oO 63 (.call 292 [62]) [62], oO 64 (.faddr 4 5) [], oN (.store 1 64 63) [64,63]] (rS [oO 65 (.load (some 7) 5) [5], oN (.store 7 4 65) [65]] .ret)))))), [.cell 4 (some 7)]⟩
/-- interrex/reply.Get -/
def f247 : AFn := ⟨1, (rS [oO 2 (.alloc false [(vI 0),(vI 0),(vI 0),(vI 0),(vI 0),.nils,.nils]) [], oA 3 kF [3]] (rS [oM 6 0 [], oO 7 (.call 215 [6]) [6], oA 4 7 [7]] (rS [oM 8 4 [], oO 9 (.call 216 [8,(kI 1)]) [8], oM 10 4 [], oO 11 (.call 216 [10,(kI 1)]) [10], oM 12 4 [], oO 13 (.call 216 [12,(kI 1)]) [12], oM 14 4 [], oO 15 (.call 216 [14,(kI 8)]) [14], oM 16 4 [], oO 17 (.call 216 [16,(kI 8)]) [16], oO 18 (.bld [(vI 0),(vI 0),(vI 0),(vI 0),(vI 0),.nils,.nils] [(2, 1, 9),(0, 1, 11),(3, 1, 13),(1, 1, 15),(4, 1, 17)]) [9,11,13,15,17], oO 5 (.alloc false [(vI 0),(vI 0),(vI 0),(vI 0),(vI 0),.nils,.nils]) [], oN (.store 7 5 18) [18]] (.seq (rS [oM 19 4 [], oO 20 (.call 219 [19,(kI 1)]) [19], oM 21 (kI 0) []] (.blk 0 (.loop (rS [oO 22 (.bin .lss 21 20) []] (.seq (.cond 22 .skip
 (.exit 0))
(.seq (.blk 1 (.dreg [⟨0, (oO 23 (.faddr 5 5) []), false, []⟩,
 ⟨1, (oO 24 (.load none 23) []), false, []⟩,
 ⟨2, (oM 25 4 []), false, []⟩,
 ⟨4, (oM 27 4 []), false, []⟩,
 ⟨6, (oM 29 4 []), false, []⟩,
 ⟨3, (oO 26 (.call 287 [25]) []), true, [1]⟩,
 ⟨5, (oO 28 (.call 216 [27,(kI 8)]) []), true, [1]⟩,
 ⟨7, (oO 30 (.call 287 [29]) []), true, [1]⟩,
 ⟨8, (oO 31 (.s2b .fz 30) []), false, []⟩,
 ⟨9, (oO 32 (.bld [vS,(vI 0),.nils] [(0, 1, 26),(1, 1, 28),(2, 1, 31)]) []), false, []⟩,
 ⟨10, (oO 33 (.bsl (.im false) 3 1 [vS,(vI 0),.nils] [(0, 32)]) []), true, [1]⟩,
 ⟨11, (oO 34 (.append (.im false) 3 48 24 33) []), true, []⟩,
 ⟨12, (oO 35 (.faddr 5 5) []), false, []⟩,
 ⟨13, (oN (.store 1 35 34) []), true, []⟩] [23,24,25,26,27,28,29,30,31,32,33,34,35]))
(rR [oO 36 (.bin .add 21 (kI 1)) [21], oM 21 36 [36]])))))))
(.seq (rS [oM 37 4 [], oO 38 (.call 219 [37,(kI 1)]) [37], oM 39 (kI 0) []] (.blk 2 (.loop (rS [oO 40 (.bin .lss 39 38) []] (.seq (.cond 40 .skip
 (.exit 2))
(.seq (.blk 3 (.dreg [⟨0, (oO 41 (.faddr 6 5) []), false, []⟩,
 ⟨1, (oO 42 (.load none 41) []), false, []⟩,
 ⟨2, (oM 43 4 []), false, []⟩,
 ⟨4, (oM 45 4 []), false, []⟩,
 ⟨6, (oM 47 4 []), false, []⟩,
 ⟨9, (oM 50 4 []), false, []⟩,
 ⟨3, (oO 44 (.call 216 [43,(kI 8)]) []), true, [1]⟩,
 ⟨5, (oO 46 (.call 287 [45]) []), true, [1]⟩,
 ⟨7, (oO 48 (.call 287 [47]) []), true, [1]⟩,
 ⟨8, (oO 49 (.s2b .fz 48) []), false, []⟩,
 ⟨10, (oO 51 (.call 223 [50]) []), true, [1]⟩,
 ⟨11, (oO 52 (.bld [(vI 0),vS,.nils,(.b false)] [(0, 1, 44),(1, 1, 46),(2, 1, 49),(3, 1, 51)]) []), false, []⟩,
 ⟨12, (oO 53 (.bsl (.im false) 4 1 [(vI 0),vS,.nils,(.b false)] [(0, 52)]) []), true, [1]⟩,
 ⟨13, (oO 54 (.append (.im false) 4 56 42 53) []), true, []⟩,
 ⟨14, (oO 55 (.faddr 6 5) []), false, []⟩,
 ⟨15, (oN (.store 1 55 54) []), true, []⟩] [41,42,43,44,45,46,47,48,49,50,51,52,53,54,55]))
(rR [oO 56 (.bin .add 39 (kI 1)) [39], oM 39 56 [56]])))))))
(.seq (rS [oM 57 4 [4], oO 58 (.call 224 [57]) [57], oO 59 (.un .not 58) [58], oM 60 59 [59], oH 61 (.mv 0) 60 [], oH 62 (.lenL 61) 60 [61], oH 63 (.bin .eql 62 (kI 0)) 60 [62], oO 64 (.pick 60 kT 63) [60,63], oM 65 64 [64], oH 66 (.load (some 7) 5) 65 [], oH 67 (.call 248 [66]) 65 [66], oH 68 (.mv 0) 65 [0], oH 69 (.call 225 [67,68]) 65 [67,68], oH 70 (.un .not 69) 65 [69], oO 71 (.pick 65 kT 70) [65,70]] (.cond 71 (rS [oO 72 (.bld [(vI 0),(vI 0),(vI 0),(vI 0),(vI 0),.nils,.nils] []) [], oN (.store 7 2 72) [72], oA 3 kF []] .ret)
 .skip))
(rS [oO 73 (.load (some 7) 5) [5], oN (.store 7 2 73) [73], oA 3 kT []] .ret))))))), [.cell 2 (some 7),.t 3]⟩
/-- interrex/reply.Put -/
def f248 : AFn := ⟨1, (rS [oO 1 (.box false 0) [0], oA 2 (.c .nils) [2]] (.seq (rS [oO 10 (.load (some 7) 1) [], oO 11 (.call 293 [10]) [10], oO 12 (.un .not 11) [11]] (.cond 12 (rS [oA 2 (.c .nils) []] .ret)
 .skip))
(rS [oO 3 (.alloc true [(.i .u32 0),(.i .i32 0),(.i .u32 0),(.i .u64 0),(.i .u64 0),(.i .u64 0),(.i .u64 0),(.i .u64 0),(.i .u64 0),(.i .u64 0),(.i .u64 0),(.i .u64 0),(.i .u64 0),(.i .u64 0),(.i .u64 0),(.i .u64 0),(.i .u64 0),(.i .u64 0),(.i .u64 0),(.i .u64 0),(.i .u64 0),(.i .u64 0),(.i .u64 0),(.i .u64 0),(.i .u64 0),(.i .u64 0),(.i .u64 0),(.i .u64 0),(.i .u64 0),(.i .u64 0),(.i .u64 0),(.i .u64 0),(.i .u64 0),(.i .u64 0),(.i .u64 0),(.i .u64 0),(.i .u64 0),(.i .u64 0),(.i .u64 0),(.i .u64 0),(.i .u64 0),(.i .u64 0),(.i .u64 0),(.i .u64 0),(.i .u64 0),(.i .u64 0),(.i .u64 0),(.i .u64 0),(.i .u64 0),(.i .u64 0),(.i .u64 0),(.i .u64 0),(.i .u64 0),(.i .u64 0),(.i .u64 0),(.i .u64 0),(.i .u64 0),(.i .u64 0),(.i .u64 0),(.i .u64 0),(.i .u64 0),(.i .u64 0),(.i .u64 0),(.i .u64 0),(.i .u64 0),(.i .u64 0),(.i .u64 0),(.i .u64 0),(.i .u64 0),(.i .u64 0),(.i .u64 0),(.i .u64 0),(.i .u64 0),(.i .u64 0),(.i .u64 0),(.i .u64 0),(.i .u64 0),(.i .u64 0),(.i .u64 0),(.i .u64 0),(.i .u64 0),(.i .u64 0),(.i .u64 0),(.i .u64 0),(.i .u64 0),(.i .u64 0),(.i .u64 0),(.i .u64 0),(.i .u64 0),(.i .u64 0),(.i .u64 0),(.i .u64 0),(.i .u64 0),(.i .u64 0),(.i .u64 0),(.i .u64 0),(.i .u64 0),(.i .u64 0),(.i .u64 0),(.i .u64 0),(.i .u64 0),(.i .u64 0),(.i .u64 0),(.i .u64 0),(.i .u64 0),(.i .u64 0),(.i .u64 0),(.i .u64 0),(.i .u64 0),(.i .u64 0),(.i .u64 0),(.i .u64 0),(.i .u64 0),(.i .u64 0),(.i .u64 0),(.i .u64 0),(.i .u64 0),(.i .u64 0),(.i .u64 0),(.i .u64 0),(.i .u64 0),(.i .u64 0),(.i .u64 0),(.i .u64 0),(.i .u64 0),(.i .u64 0),(.i .u64 0),(.i .u64 0),(.i .u64 0),(.i .u64 0),(.i .u64 0),(.i .u64 0),(.i .u64 0),(.i .u64 0),(.i .u64 0),(.i .u64 0),(.i .u64 0),(.i .u64 0),(.i .u64 0),(.i .u64 0),(.i .u64 0),(.i .u64 0),(.i .u64 0),(.i .u64 0),(.i .u64 0),(.i .u64 0),(.i .u64 0),(.i .u64 0),(.i .u64 0),(.i .u64 0),(.i .u64 0),(.i .u64 0),(.i .u64 0),(.i .u64 0),(.i .u64 0),(.i .u64 0),(.i .u64 0),(.i .u64 0),(.i .u64 0),(.i .u64 0),(.i .u64 0),(.i .u64 0),(.i .u64 0),(.i .u64 0),(.i .u64 0),(.i .u64 0),(.i .u64 0),(.i .u64 0),(.i .u64 0),(.i .u64 0),(.i .u64 0),(.i .u64 0),(.i .u64 0),(.i .u64 0),(.i .u64 0),(.i .u64 0),(.i .u64 0),(.i .u64 0),(.i .u64 0),(.i .u64 0),(.i .u64 0),(.i .u64 0),(.i .u64 0),(.i .u64 0),(.i .u64 0),(.i .u64 0),(.i .u64 0),(.i .u64 0),(.i .u64 0),(.i .u64 0),(.i .u64 0),(.i .u64 0),(.i .u64 0),(.i .u64 0),(.i .u64 0),(.i .u64 0),(.i .u64 0),(.i .u64 0),(.i .u64 0),(.i .u64 0),(.i .u64 0),(.i .u64 0),(.i .u64 0),(.i .u64 0),(.i .u64 0),(.i .u64 0),(.i .u64 0),(.i .u64 0),(.i .u64 0),(.i .u64 0),(.i .u64 0),(.i .u64 0),(.i .u64 0),(.i .u64 0),(.i .u64 0),(.i .u64 0),(.i .u64 0),(.i .u64 0),(.i .u64 0),(.i .u64 0),(.i .u64 0),(.i .u64 0),(.i .u64 0),(.i .u64 0),(.i .u64 0),(.i .u64 0),(.i .u64 0),(.i .u64 0),(.i .u64 0),(.i .u64 0),(.i .u64 0),(.i .u64 0),(.i .u64 0),(.i .u64 0),(.i .u64 0),(.i .u64 0),(.i .u64 0),(.i .u64 0),(.i .u64 0),(.i .u64 0),(.i .u64 0),(.i .u64 0),(.i .u64 0),(.i .u64 0),(.i .u64 0),(.i .u64 0),(.i .u64 0),(.i .u64 0),(.i .u64 0),(.i .u64 0),(.i .u64 0),(.i .u64 0),(.i .u64 0),(.i .u64 0),(.i .u64 0),(.i .u64 0),(.i .u64 0),(.i .u64 0),(.i .u64 0),(.i .u8 0),(.i .u8 0),(.i .u8 0),(.i .u8 0),(.i .u8 0),(.i .u8 0),(.i .u8 0),(.i .u8 0),(.i .u8 0),(.i .u8 0),(.i .u8 0),(.i .u8 0),(.i .u8 0),(.i .u8 0),(.i .u8 0),(.i .u8 0),(.i .u8 0),(.i .u8 0),(.i .u8 0),(.i .u8 0),(.i .u8 0),(.i .u8 0),(.i .u8 0),(.i .u8 0),(.i .u8 0),(.i .u8 0),(.i .u8 0),(.i .u8 0),(.i .u8 0),(.i .u8 0),(.i .u8 0),(.i .u8 0),(.i .u8 0),(.i .u8 0),(.i .u8 0),(.i .u8 0),(.i .u8 0),(.i .u8 0),.nils]) []] (.seq (rS [oO 13 (.faddr 2 1) [], oO 14 (.load none 13) [13], oO 15 (.faddr 0 1) [], oO 16 (.load none 15) [15], oO 17 (.faddr 3 1) [], oO 18 (.load none 17) [17], oO 19 (.bsl (.im false) 1 3 [(vI 0)] [(0, 14),(1, 16),(2, 18)]) [14,16,18], oO 20 (.lenL 19) [], oM 21 (kI 0) []] (.blk 0 (.loop (rS [oO 22 (.bin .lss 21 20) []] (.seq (.cond 22 .skip
 (.exit 0))
(.seq (.blk 1 (rS [oO 23 (.iasl 1 19 21) [], oO 24 (.load none 23) [23], oA 5 24 [24]] (rR [oM 25 5 [5], oO 26 (.call 170 [3,25,(kI 1)]) [25,26]])))
(rR [oO 27 (.bin .add 21 (kI 1)) [21], oM 21 27 [27]])))))))
(rS [oO 28 (.faddr 1 1) [], oO 29 (.load none 28) [28], oO 30 (.call 170 [3,29,(kI 8)]) [29,30]] (rS [oO 31 (.faddr 4 1) [], oO 32 (.load none 31) [31], oO 33 (.call 170 [3,32,(kI 8)]) [32,33]] (rS [oO 34 (.faddr 5 1) [], oO 35 (.load none 34) [34], oO 36 (.lenL 35) [35], oO 37 (.call 170 [3,36,(kI 1)]) [36,37]] (.seq (rS [oO 38 (.faddr 5 1) [], oO 39 (.load none 38) [38], oO 40 (.lenL 39) [], oM 41 (kI 0) []] (.blk 2 (.loop (rS [oO 42 (.bin .lss 41 40) []] (.seq (.cond 42 .skip
 (.exit 2))
(.seq (.blk 3 (rS [oO 43 (.iasl 3 39 41) [], oO 44 (.load (some 3) 43) [43], oO 7 (.alloc false [vS,(vI 0),.nils]) [], oN (.store 3 7 44) [44]] (rS [oO 45 (.faddr 0 7) [], oO 46 (.load none 45) [45], oO 47 (.call 289 [3,46]) [46,47]] (rS [oO 48 (.faddr 1 7) [], oO 49 (.load none 48) [48], oO 50 (.call 170 [3,49,(kI 8)]) [49,50]] (rR [oO 51 (.faddr 2 7) [7], oO 52 (.load none 51) [51], oO 53 (.b2s 52) [52], oO 54 (.call 289 [3,53]) [53,54]])))))
(rR [oO 55 (.bin .add 41 (kI 1)) [41], oM 41 55 [55]])))))))
(rS [oO 56 (.faddr 6 1) [], oO 57 (.load none 56) [56], oO 58 (.lenL 57) [57], oO 59 (.call 170 [3,58,(kI 1)]) [58,59]] (.seq (rS [oO 60 (.faddr 6 1) [1], oO 61 (.load none 60) [60], oO 62 (.lenL 61) [], oM 63 (kI 0) []] (.blk 4 (.loop (rS [oO 64 (.bin .lss 63 62) []] (.seq (.cond 64 .skip
 (.exit 4))
(.seq (.blk 5 (rS [oO 65 (.iasl 4 61 63) [], oO 66 (.load (some 4) 65) [65], oO 9 (.alloc false [(vI 0),vS,.nils,(.b false)]) [], oN (.store 4 9 66) [66]] (rS [oO 67 (.faddr 0 9) [], oO 68 (.load none 67) [67], oO 69 (.call 170 [3,68,(kI 8)]) [68,69]] (rS [oO 70 (.faddr 1 9) [], oO 71 (.load none 70) [70], oO 72 (.call 289 [3,71]) [71,72]] (rS [oO 73 (.faddr 2 9) [], oO 74 (.load none 73) [73], oO 75 (.b2s 74) [74], oO 76 (.call 289 [3,75]) [75,76]] (rR [oO 77 (.faddr 3 9) [9], oO 78 (.load none 77) [77], oO 79 (.call 190 [3,78]) [78,79]]))))))
(rR [oO 80 (.bin .add 63 (kI 1)) [63], oM 63 80 [80]])))))))
(rS [oO 81 (.call 171 [3]) [3], oA 2 81 [81]] .ret))))))))))), [.t 2]⟩
/-- interrex/interrexlaw1.Begun -/
def f249 : AFn := ⟨0, (rS [oA 0 kF [0]] (rS [oO 1 (.call 294 []) [], oA 0 1 [1]] .ret)), [.t 0]⟩
/-- interrex/call.Eq -/
def f250 : AFn := ⟨2, (rS [oO 2 (.box false 0) [0], oO 3 (.box false 1) [1], oA 4 kF [4]] (.seq (rS [oO 5 (.faddr 0 2) [], oO 6 (.load none 5) [5], oO 7 (.faddr 0 3) [], oO 8 (.load none 7) [7], oO 9 (.bin .neq 6 8) [6,8], oM 10 9 [9], oH 11 (.faddr 1 2) 10 [], oH 12 (.load none 11) 10 [11], oH 13 (.faddr 1 3) 10 [], oH 14 (.load none 13) 10 [13], oH 15 (.bin .neq 12 14) 10 [12,14], oO 16 (.pick 10 kT 15) [10,15], oM 17 16 [16], oH 18 (.faddr 2 2) 17 [], oH 19 (.load none 18) 17 [18], oH 20 (.faddr 2 3) 17 [], oH 21 (.load none 20) 17 [20], oH 22 (.bin .neq 19 21) 17 [19,21], oO 23 (.pick 17 kT 22) [17,22], oM 24 23 [23], oH 25 (.faddr 3 2) 24 [], oH 26 (.load none 25) 24 [25], oH 27 (.faddr 3 3) 24 [], oH 28 (.load none 27) 24 [27], oH 29 (.bin .neq 26 28) 24 [26,28], oO 30 (.pick 24 kT 29) [24,29], oM 31 30 [30], oH 32 (.faddr 4 2) 31 [], oH 33 (.load none 32) 31 [32], oH 34 (.faddr 4 3) 31 [], oH 35 (.load none 34) 31 [34], oH 36 (.bin .neq 33 35) 31 [33,35], oO 37 (.pick 31 kT 36) [31,36], oM 38 37 [37], oH 39 (.faddr 5 2) 38 [], oH 40 (.faddr 0 39) 38 [39], oH 41 (.load none 40) 38 [40], oH 42 (.faddr 5 3) 38 [], oH 43 (.faddr 0 42) 38 [42], oH 44 (.load none 43) 38 [43], oH 45 (.call 295 [41,44]) 38 [41,44], oH 46 (.un .not 45) 38 [45], oO 47 (.pick 38 kT 46) [38,46]] (.cond 47 (rS [oA 4 kF []] .ret)
 .skip))
(rS [oO 48 (.faddr 5 2) [2], oO 49 (.faddr 1 48) [48], oO 50 (.load none 49) [49], oO 51 (.faddr 5 3) [3], oO 52 (.faddr 1 51) [51], oO 53 (.load none 52) [52], oO 54 (.call 296 [50,53,(.c (.fn 297 [] []))]) [50,53], oA 4 54 [54]] .ret))), [.t 4]⟩
/-- interrex/reply.Eq -/
def f251 : AFn := ⟨2, (rS [oO 2 (.box false 0) [0], oO 3 (.box false 1) [1], oA 4 kF [4]] (.seq (rS [oO 6 (.faddr 0 2) [], oO 7 (.load none 6) [6], oO 8 (.faddr 0 3) [], oO 9 (.load none 8) [8], oO 10 (.bin .neq 7 9) [7,9], oM 11 10 [10], oH 12 (.faddr 1 2) 11 [], oH 13 (.load none 12) 11 [12], oH 14 (.faddr 1 3) 11 [], oH 15 (.load none 14) 11 [14], oH 16 (.bin .neq 13 15) 11 [13,15], oO 17 (.pick 11 kT 16) [11,16], oM 18 17 [17], oH 19 (.faddr 2 2) 18 [], oH 20 (.load none 19) 18 [19], oH 21 (.faddr 2 3) 18 [], oH 22 (.load none 21) 18 [21], oH 23 (.bin .neq 20 22) 18 [20,22], oO 24 (.pick 18 kT 23) [18,23], oM 25 24 [24], oH 26 (.faddr 3 2) 25 [], oH 27 (.load none 26) 25 [26], oH 28 (.faddr 3 3) 25 [], oH 29 (.load none 28) 25 [28], oH 30 (.bin .neq 27 29) 25 [27,29], oO 31 (.pick 25 kT 30) [25,30], oM 32 31 [31], oH 33 (.faddr 4 2) 32 [], oH 34 (.load none 33) 32 [33], oH 35 (.faddr 4 3) 32 [], oH 36 (.load none 35) 32 [35], oH 37 (.bin .neq 34 36) 32 [34,36], oO 38 (.pick 32 kT 37) [32,37]] (.cond 38 (rS [oA 4 kF []] .ret)
 .skip))
(rS [oO 39 (.faddr 5 2) [], oO 40 (.load none 39) [39], oO 41 (.faddr 5 3) [], oO 42 (.load none 41) [41], oO 43 (.call 298 [40,42,(.c (.fn 299 [] []))]) [40,42], oA 5 43 [43]] (rS [oM 44 5 [5], oM 45 44 [44], oG 46 (.faddr 6 2) 45 [2], oG 47 (.load none 46) 45 [46], oG 48 (.faddr 6 3) 45 [3], oG 49 (.load none 48) 45 [48], oG 50 (.call 300 [47,49,(.c (.fn 301 [] []))]) 45 [47,49], oO 51 (.pick 45 50 kF) [45,50], oA 4 51 [51]] .ret)))), [.t 4]⟩
/-- slices.IndexFunc   interrex/assume.one interrex/assume.one  -/
def f252 : AFn := ⟨2, (rS [oA 4 (kI 0) [4]] (.seq (rS [oM 6 0 [], oO 7 (.lenL 6) [6], oM 8 (kI 0) []] (.blk 0 (.loop (rS [oO 9 (.bin .lss 8 7) []] (.seq (.cond 9 .skip
 (.exit 0))
(.seq (.blk 1 (rS [oM 10 8 [], oA 5 10 [10]] (rS [oM 11 1 [], oM 12 0 [], oM 13 5 [], oO 14 (.iasl 6 12 13) [12,13], oO 15 (.load (some 6) 14) [14], oO 16 (.callv 11 [15]) [11,15]] (.cond 16 (rS [oM 17 5 [5], oA 4 17 [17]] .ret)
 .skip))))
(rR [oO 18 (.bin .add 8 (kI 1)) [8], oM 8 18 [18]])))))))
(rS [oA 4 (kI (-1)) []] .ret))), [.t 4]⟩
/-- interrex/label.letter -/
def f256 : AFn := ⟨1, (rS [oA 2 kF [2]] (rS [oM 3 0 [], oO 4 (.bin .geq 3 (.c (.i .u8 97))) [3], oM 5 4 [4], oG 6 (.mv 0) 5 [], oG 7 (.bin .leq 6 (.c (.i .u8 122))) 5 [6], oO 8 (.pick 5 7 kF) [5,7], oM 9 8 [8], oH 10 (.mv 0) 9 [], oH 11 (.bin .geq 10 (.c (.i .u8 48))) 9 [10], oH 12 (.mv 11) 9 [11], oG 13 (.mv 0) 12 [], oG 14 (.bin .leq 13 (.c (.i .u8 57))) 12 [13], oH 15 (.pick 12 14 kF) 9 [12,14], oO 16 (.pick 9 kT 15) [9,15], oM 17 16 [16], oH 18 (.mv 0) 17 [0], oH 19 (.bin .eql 18 (.c (.i .u8 45))) 17 [18], oO 20 (.pick 17 kT 19) [17,19], oA 2 20 [20]] .ret)), [.t 2]⟩
/-- slices.Reverse   byte byte  -/
def f257 : AFn := ⟨1, (rS [oM 4 0 [], oO 5 (.lenL 4) [4], oO 6 (.bin .sub 5 (kI 1)) [5], oA 2 (kI 0) [], oA 3 6 [6]] (.blk 0 (.loop (.seq (rS [oM 7 2 [], oM 8 3 [], oO 9 (.bin .lss 7 8) [7,8]] (.cond 9 .skip
 (.exit 0)))
(.seq (.blk 1 (.dreg [⟨0, (oM 14 0 []), false, []⟩,
 ⟨1, (oM 15 2 []), false, []⟩,
 ⟨2, (oM 16 0 []), false, []⟩,
 ⟨3, (oM 17 3 []), false, []⟩,
 ⟨4, (oM 18 0 []), false, []⟩,
 ⟨5, (oM 19 3 []), false, []⟩,
 ⟨6, (oO 20 (.iasl 1 18 19) []), false, []⟩,
 ⟨7, (oO 21 (.load none 20) []), false, []⟩,
 ⟨8, (oM 22 0 []), false, []⟩,
 ⟨9, (oM 23 2 []), false, []⟩,
 ⟨10, (oO 24 (.iasl 1 22 23) []), false, []⟩,
 ⟨11, (oO 25 (.load none 24) []), false, []⟩,
 ⟨12, (oO 26 (.iasl 1 14 15) []), false, []⟩,
 ⟨13, (oN (.store 1 26 21) []), true, []⟩,
 ⟨14, (oO 27 (.iasl 1 16 17) []), false, []⟩,
 ⟨15, (oN (.store 1 27 25) []), true, []⟩] [14,15,16,17,18,19,20,21,22,23,24,25,26,27]))
(rR [oM 10 2 [2], oO 11 (.bin .add 10 (kI 1)) [10], oM 12 3 [3], oO 13 (.bin .sub 12 (kI 1)) [12], oA 2 11 [11], oA 3 13 [13]])))))), []⟩
/-- interrex/obj.MayNode -/
def f258 : AFn := ⟨1, (rS [oO 1 (.box false 0) [0], oA 2 kF [2]] (rS [oO 3 (.faddr 0 1) [], oO 4 (.load none 3) [3], oO 5 (.call 214 [4]) [4], oM 6 5 [5], oG 7 (.faddr 1 1) 6 [], oG 8 (.load (some 3) 7) 6 [7], oG 9 (.call 231 [8]) 6 [8], oO 10 (.pick 6 9 kF) [6,9], oM 11 10 [10], oG 12 (.faddr 4 1) 11 [], oG 13 (.load none 12) 11 [12], oG 14 (.call 233 [13]) 11 [13], oO 15 (.pick 11 14 kF) [11,14], oM 16 15 [15], oG 17 (.faddr 5 1) 16 [1], oG 18 (.load none 17) 16 [17], oG 19 (.call 303 [18]) 16 [18], oO 20 (.pick 16 19 kF) [16,19], oA 2 20 [20]] .ret)), [.t 2]⟩
/-- interrex/label.MayTerms 1 -/
def f275 : AFn := ⟨1, (rS [oO 1 (.box false 0) [0], oA 2 kF [2]] (rS [oO 3 (.load (some 3) 1) [1], oO 4 (.call 276 [3]) [3], oO 5 (.un .not 4) [4], oA 2 5 [5]] .ret)), [.t 2]⟩
/-- interrex/label.mayTerm -/
def f276 : AFn := ⟨1, (rS [oO 1 (.box false 0) [0], oA 2 kF [2]] (rS [oA 3 (kI 0) [], oA 4 (kI 0) []] (.seq (rS [oO 5 (.faddr 1 1) [], oO 6 (.load none 5) [5]] (.blk 0 (.seq (rS [oO 8 (.bin .eql 6 (kI 1)) [], oA 7 8 [8]] (.cond 7 .skip
 (rR [oO 9 (.bin .eql 6 (kI 2)) [], oA 7 9 [9]])))
(.cond 7 (rR [oA 3 (kI 1) [], oA 4 (kI 6) []])
 (.seq (rS [oO 11 (.bin .eql 6 (kI 3)) [], oA 10 11 [11]] (.cond 10 .skip
 (rR [oO 12 (.bin .eql 6 (kI 4)) [6], oA 10 12 [12]])))
(.cond 10 .skip
 (rS [oA 2 kF []] .ret)))))))
(rS [oO 13 (.faddr 0 1) [], oO 14 (.load none 13) [13], oO 15 (.call 214 [14]) [14], oM 16 15 [15], oG 17 (.faddr 2 1) 16 [], oG 18 (.load none 17) 16 [17], oG 19 (.lenL 18) 16 [18], oG 20 (.mv 3) 16 [3], oG 21 (.bin .geq 19 20) 16 [19,20], oO 22 (.pick 16 21 kF) [16,21], oM 23 22 [22], oG 24 (.faddr 2 1) 23 [], oG 25 (.load none 24) 23 [24], oG 26 (.lenL 25) 23 [25], oG 27 (.mv 4) 23 [4], oG 28 (.bin .leq 26 27) 23 [26,27], oO 29 (.pick 23 28 kF) [23,28], oM 30 29 [29], oG 31 (.faddr 2 1) 30 [1], oG 32 (.load none 31) 30 [31], oG 33 (.call 310 [32,(.c (.fn 311 [] []))]) 30 [32], oG 34 (.un .not 33) 30 [33], oO 35 (.pick 30 34 kF) [30,34], oA 2 35 [35]] .ret)))), [.t 2]⟩
/-- interrex/taint.MayTols 1 -/
def f277 : AFn := ⟨1, (rS [oO 1 (.box false 0) [0], oA 2 kF [2]] (rS [oO 3 (.load (some 3) 1) [1], oO 4 (.call 278 [3]) [3], oO 5 (.un .not 4) [4], oA 2 5 [5]] .ret)), [.t 2]⟩
/-- interrex/taint.mayTol -/
def f278 : AFn := ⟨1, (rS [oO 1 (.box false 0) [0], oA 2 kF [2]] (.seq (rS [oO 3 (.faddr 0 1) [], oO 4 (.load none 3) [3], oO 5 (.bin .neq 4 (.c vS)) [4], oM 6 5 [5], oG 7 (.faddr 0 1) 6 [], oG 8 (.load none 7) 6 [7], oG 9 (.call 214 [8]) 6 [8], oG 10 (.un .not 9) 6 [9], oO 11 (.pick 6 10 kF) [6,10]] (.cond 11 (rS [oA 2 kF []] .ret)
 .skip))
(.seq (rS [oO 12 (.faddr 2 1) [], oO 13 (.load none 12) [12]] (.cond 13 (rS [oO 14 (.faddr 1 1) [1], oO 15 (.load none 14) [14], oO 16 (.bin .eql 15 (.c vS)) [15], oA 2 16 [16]] .ret)
 .skip))
(rS [oO 17 (.faddr 1 1) [1], oO 18 (.load none 17) [17], oO 19 (.call 214 [18]) [18], oA 2 19 [19]] .ret)))), [.t 2]⟩
/-- ( interrex/wire.table).make 1 -/
def f280 : AFn := ⟨1, (rS [oO 1 (.alloc true [(.i .u64 0)]) [], oN (.store 1 1 (.c (.i .u64 0))) []] (rS [oO 5 (.mkfn 281 [1,0]) [1,0], oA 2 5 [5]] (.seq (rS [oM 6 (.c (.i .u8 0)) []] (.blk 0 (.loop (rS [oO 7 (.bin .lss 6 (.c (.i .u8 26))) []] (.seq (.cond 7 .skip
 (.exit 0))
(.seq (.blk 1 (rS [oM 8 6 [], oA 3 8 [8]] (rR [oM 9 2 [], oM 10 3 [3], oO 11 (.bin .add (.c (.i .u8 97)) 10) [10], oO 12 (.callv 9 [11]) [9,11,12]])))
(rR [oO 13 (.bin .add 6 (.c (.i .u8 1))) [6], oM 6 13 [13]])))))))
(.seq (rS [oM 14 (.c (.i .u8 0)) []] (.blk 2 (.loop (rS [oO 15 (.bin .lss 14 (.c (.i .u8 10))) []] (.seq (.cond 15 .skip
 (.exit 2))
(.seq (.blk 3 (rS [oM 16 14 [], oA 4 16 [16]] (rR [oM 17 2 [], oM 18 4 [4], oO 19 (.bin .add (.c (.i .u8 48)) 18) [18], oO 20 (.callv 17 [19]) [17,19,20]])))
(rR [oO 21 (.bin .add 14 (.c (.i .u8 1))) [14], oM 14 21 [21]])))))))
(rR [oM 22 2 [2], oO 23 (.callv 22 [(.c (.i .u8 45))]) [22,23]]))))), []⟩
/-- ( interrex/wire.table).make 1 1 -/
def f281 : AFn := ⟨3, (rS [oO 4 (.load none 1) [], oO 5 (.bin .add 4 (.c (.i .u64 1))) [4], oN (.store 1 1 5) [5]] (.dreg [⟨0, (oO 6 (.load none 2) []), false, []⟩,
 ⟨1, (oM 7 0 []), false, []⟩,
 ⟨2, (oO 8 (.load none 2) []), false, []⟩,
 ⟨3, (oO 9 (.load none 1) []), false, []⟩,
 ⟨4, (oO 10 (.load none 1) []), false, []⟩,
 ⟨5, (oM 11 0 []), false, []⟩,
 ⟨6, (oO 12 (.nilc 6) []), false, []⟩,
 ⟨7, (oO 13 (.faddr 3 12) []), false, []⟩,
 ⟨8, (oO 14 (.iaar 256 1 13 7) []), false, []⟩,
 ⟨10, (oO 15 (.nilc 8) []), false, []⟩,
 ⟨11, (oO 16 (.faddr 259 15) []), false, []⟩,
 ⟨9, (oN (.store 1 14 10) []), true, [3,2]⟩,
 ⟨12, (oO 17 (.iaar 38 1 16 9) []), false, []⟩,
 ⟨13, (oN (.store 1 17 11) []), true, []⟩] [2,6,0,7,8,1,9,10,11,12,13,14,15,16,17])), []⟩
/-- interrex/log.copied -/
def f282 : AFn := ⟨1, (rS [oO 1 (.box false 0) [0], oO 2 (.alloc false [(vI 0),vS,.nils,(.b false)]) []] (rS [oO 3 (.faddr 2 1) [], oO 4 (.load none 3) [3], oO 5 (.call 210 [4]) [4], oO 6 (.faddr 2 1) [], oN (.store 1 6 5) [6,5]] (rS [oO 7 (.load (some 4) 1) [1], oN (.store 4 2 7) [7]] .ret))), [.cell 2 (some 4)]⟩
/-- ( interrex/store.Store).can -/
def f285 : AFn := ⟨2, (rS [oO 3 (.box false 1) [1], oA 4 (kI 0) [4]] (.seq (rS [oO 11 (.load (some 2) 3) [], oO 12 (.call 317 [11]) [11], oO 13 (.un .not 12) [12]] (.cond 13 (rS [oA 4 (kI 1) []] .ret)
 .skip))
(.seq (rS [oO 14 (.faddr 0 3) [], oO 15 (.load none 14) [14], oO 16 (.lenL 15) [], oM 17 (kI 0) []] (.blk 0 (.loop (rS [oO 18 (.bin .lss 17 16) []] (.seq (.cond 18 .skip
 (.exit 0))
(.seq (.blk 1 (rS [oO 19 (.iasl 3 15 17) [], oO 20 (.load (some 3) 19) [19], oO 6 (.alloc false [vS,(vI 0),(.b false)]) [], oN (.store 3 6 20) [20]] (rS [oM 21 0 [], oO 22 (.load (some 3) 6) [6], oO 23 (.call 318 [21,22]) [21,22], oO 24 (.un .not 23) [23]] (.cond 24 (rS [oA 4 (kI 6) []] .ret)
 .skip))))
(rR [oO 25 (.bin .add 17 (kI 1)) [17], oM 17 25 [25]])))))))
(.seq (rS [oO 26 (.faddr 1 3) [3], oO 27 (.load none 26) [26], oO 28 (.lenL 27) [], oM 29 (kI 0) []] (.blk 2 (.loop (rS [oO 30 (.bin .lss 29 28) []] (.seq (.cond 30 .skip
 (.exit 2))
(.seq (.blk 3 (rS [oO 31 (.iasl 3 27 29) [], oO 32 (.load (some 3) 31) [31], oO 8 (.alloc false [vS,.nils,(.b false)]) [], oN (.store 3 8 32) [32]] (.seq (.dreg [⟨0, (oM 34 0 []), false, []⟩,
 ⟨1, (oO 35 (.nilc 34) []), false, []⟩,
 ⟨2, (oO 36 (.faddr 1 35) []), false, []⟩,
 ⟨3, (oO 37 (.load none 36) []), false, []⟩,
 ⟨4, (oO 38 (.faddr 0 8) []), false, []⟩,
 ⟨5, (oO 39 (.load none 38) []), false, []⟩,
 ⟨6, (oO 40 (.lkp none (.agg [vS,(vI 0),.nils]) 37 39 true) []), false, []⟩,
 ⟨7, (oM 33 40 []), false, []⟩,
 ⟨8, (oO 41 (.ext 33 0) []), false, []⟩,
 ⟨9, (oO 42 (.ext 33 1) []), false, []⟩,
 ⟨10, (oO 9 (.alloc false [vS,(vI 0),.nils]) []), true, [6,5,3]⟩,
 ⟨11, (oN (.store 3 9 41) []), true, []⟩,
 ⟨12, (oA 10 42 []), false, []⟩] [34,35,36,37,38,39,40,33,41,42,9])
(rS [oO 43 (.faddr 2 8) [8], oO 44 (.load none 43) [43], oM 45 44 [44], oG 46 (.mv 10) 45 [10], oG 47 (.un .not 46) 45 [46], oO 48 (.pick 45 47 kF) [45,47]] (.cond 48 (rS [oA 4 (kI 3) []] .ret)
 .skip)))))
(rR [oO 49 (.bin .add 29 (kI 1)) [29], oM 29 49 [49]])))))))
(rS [oA 4 (kI 0) []] .ret))))), [.t 4]⟩
/-- interrex/store.copied -/
def f286 : AFn := ⟨1, (rS [oO 1 (.box false 0) [0], oO 2 (.alloc false [vS,(vI 0),.nils]) []] (rS [oO 3 (.faddr 2 1) [], oO 4 (.load none 3) [3], oO 5 (.call 210 [4]) [4], oO 6 (.faddr 2 1) [], oN (.store 1 6 5) [6,5]] (rS [oO 7 (.load (some 3) 1) [1], oN (.store 3 2 7) [7]] .ret))), [.cell 2 (some 3)]⟩
/-- ( interrex/wire.Reader).Text -/
def f287 : AFn := ⟨1, (rS [oA 2 (.c vS) [2]] (rS [oM 5 0 [], oO 6 (.call 216 [5,(kI 2)]) [5], oA 3 6 [6]] (.seq (rS [oM 7 3 [], oM 8 0 [], oO 9 (.nilc 8) [8], oO 10 (.faddr 297 9) [9], oO 11 (.load none 10) [10], oO 12 (.lenL 11) [11], oO 13 (.bin .gtr 7 12) [7,12]] (.cond 13 (rS [oM 14 0 [], oM 15 0 [0], oO 16 (.nilc 14) [14], oO 17 (.faddr 298 16) [16], oN (.store 1 17 kT) [17], oO 18 (.nilc 15) [15], oO 19 (.faddr 297 18) [18], oN (.store 1 19 (.c .nils)) [19]] (rS [oA 2 (.c vS) []] .ret))
 .skip))
(rS [oM 20 0 [], oO 21 (.nilc 20) [20], oO 22 (.faddr 297 21) [21], oO 23 (.load none 22) [22], oM 24 3 [], oO 25 (.slsl 1 23 none (some 24) none) [23,24], oO 26 (.b2s 25) [25], oA 4 26 [26]] (rS [oM 27 0 [], oM 28 0 [0], oO 29 (.nilc 28) [28], oO 30 (.faddr 297 29) [29], oO 31 (.load none 30) [30], oM 32 3 [3], oO 33 (.slsl 1 31 (some 32) none none) [31,32], oO 34 (.nilc 27) [27], oO 35 (.faddr 297 34) [34], oN (.store 1 35 33) [35,33]] (rS [oM 36 4 [4], oA 2 36 [36]] .ret)))))), [.t 2]⟩
/-- interrex/call.May -/
def f288 : AFn := ⟨1, (rS [oO 1 (.box false 0) [0], oA 2 kF [2]] (.seq (.seq (.dreg [⟨0, (oO 3 (.faddr 0 1) []), false, []⟩,
 ⟨1, (oO 4 (.load none 3) []), false, []⟩,
 ⟨2, (oO 5 (.bin .lss 4 (kI 0)) []), false, []⟩,
 ⟨3, (oM 6 5 []), false, []⟩,
 ⟨4, (oH 7 (.faddr 0 1) 6 []), false, []⟩,
 ⟨5, (oH 8 (.load none 7) 6 []), false, []⟩,
 ⟨6, (oH 9 (.bin .gtr 8 (kI 7)) 6 []), false, []⟩,
 ⟨7, (oO 10 (.pick 6 kT 9) []), false, []⟩,
 ⟨8, (oM 11 10 []), false, []⟩,
 ⟨9, (oH 12 (.faddr 1 1) 11 []), false, []⟩,
 ⟨10, (oH 13 (.load none 12) 11 []), false, []⟩,
 ⟨11, (oH 14 (.bin .lss 13 (kI 1)) 11 []), false, []⟩,
 ⟨12, (oO 15 (.pick 11 kT 14) []), false, []⟩,
 ⟨13, (oM 16 15 []), false, []⟩,
 ⟨14, (oH 17 (.faddr 1 1) 16 []), false, []⟩,
 ⟨15, (oH 18 (.load none 17) 16 []), false, []⟩,
 ⟨16, (oH 19 (.bin .gtr 18 (kI 1099511627776)) 16 []), false, []⟩,
 ⟨17, (oO 20 (.pick 16 kT 19) []), false, []⟩,
 ⟨18, (oM 21 20 []), false, []⟩,
 ⟨19, (oH 22 (.load (some 7) 1) 21 []), false, []⟩,
 ⟨20, (oH 23 (.load (some 7) 1) 21 []), false, []⟩,
 ⟨21, (oH 24 (.call 319 [23]) 21 []), true, [19]⟩,
 ⟨22, (oH 25 (.call 250 [22,24]) 21 []), true, []⟩,
 ⟨23, (oH 26 (.un .not 25) 21 []), false, []⟩,
 ⟨24, (oO 27 (.pick 21 kT 26) []), false, []⟩] [3,4,5,6,7,8,9,10,11,12,13,14,15,16,17,18,19,20,21,22,23,24,25,26])
(.cond 27 (rS [oA 2 kF []] .ret)
 .skip))
(.seq (rS [oO 28 (.faddr 2 1) [], oO 29 (.load none 28) [28]] (.blk 0 (rS [oO 31 (.bin .eql 29 (kI 1)) [], oA 30 31 [31]] (.cond 30 (rS [oO 32 (.faddr 3 1) [1], oO 33 (.load none 32) [32], oO 34 (.call 320 [33]) [33], oA 2 34 [34]] .ret)
 (rS [oO 36 (.bin .eql 29 (kI 2)) [], oA 35 36 [36]] (.cond 35 (rS [oA 2 kT []] .ret)
 (rS [oO 38 (.bin .eql 29 (kI 3)) [], oA 37 38 [38]] (.cond 37 (rS [oO 39 (.faddr 4 1) [1], oO 40 (.load none 39) [39], oO 41 (.call 321 [40]) [40], oA 2 41 [41]] .ret)
 (rS [oO 43 (.bin .eql 29 (kI 4)) [29], oA 42 43 [43]] (.cond 42 (rS [oO 44 (.faddr 5 1) [1], oO 45 (.load (some 2) 44) [44], oO 46 (.call 322 [45]) [45], oA 2 46 [46]] .ret)
 .skip))))))))))
(rS [oA 2 kF []] .ret)))), [.t 2]⟩
/-- ( interrex/wire.Writer).Text -/
def f289 : AFn := ⟨2, (rS [oM 4 0 [], oM 5 1 [], oO 6 (.lenS 5) [5], oO 7 (.call 170 [4,6,(kI 2)]) [4,6,7]] (rR [oM 8 0 [], oM 9 0 [0], oO 10 (.nilc 9) [9], oO 11 (.faddr 297 10) [10], oO 12 (.load none 11) [11], oM 13 1 [1], oO 14 (.append (.im true) 1 1 12 13) [12,13], oO 15 (.nilc 8) [8], oO 16 (.faddr 297 15) [15], oN (.store 1 16 14) [16,14]])), []⟩
/-- ( interrex/store.Store).List -/
def f290 : AFn := ⟨1, (rS [oA 2 (.c .nils) [2]] (.seq (rS [oM 6 0 [], oO 7 (.eqn false 6 (.c .nilp)) [6]] (.cond 7 (rS [oA 2 (.c .nils) []] .ret)
 .skip))
(rS [oM 8 0 [], oO 9 (.nilc 8) [8], oO 10 (.faddr 4 9) [9], oO 11 (.call 284 [10,(kI 1)]) [10,11]] (rS [oA 3 (.c .nils) []] (.seq (rS [oM 12 0 [], oO 13 (.nilc 12) [12], oO 14 (.faddr 1 13) [13], oO 15 (.load none 14) [14], oO 16 (.call 324 [15]) [15], oO 17 (.call 323 [16]) [16], oO 18 (.lenL 17) [], oM 19 (kI 0) []] (.blk 0 (.loop (rS [oO 20 (.bin .lss 19 18) []] (.seq (.cond 20 .skip
 (.exit 0))
(.seq (.blk 1 (rS [oO 21 (.iasl 1 17 19) [], oO 22 (.load none 21) [21], oA 5 22 [22]] (rR [oM 23 3 [3], oM 24 0 [], oO 25 (.nilc 24) [24], oO 26 (.faddr 1 25) [25], oO 27 (.load none 26) [26], oM 28 5 [5], oO 29 (.lkp none (.agg [vS,(vI 0),.nils]) 27 28 false) [27,28], oO 30 (.call 286 [29]) [29], oO 31 (.bsl (.im false) 3 1 [vS,(vI 0),.nils] [(0, 30)]) [30], oO 32 (.append (.im false) 3 48 23 31) [23,31], oA 3 32 [32]])))
(rR [oO 33 (.bin .add 19 (kI 1)) [19], oM 19 33 [33]])))))))
(rS [oM 34 3 [3], oA 2 34 [34]] .ret)))))), [.t 2]⟩
/-- ( interrex/store.Store).Rev -/
def f292 : AFn := ⟨1, (rS [oA 2 (kI 0) [2]] (.seq (rS [oM 3 0 [], oO 4 (.eqn false 3 (.c .nilp)) [3]] (.cond 4 (rS [oA 2 (kI 0) []] .ret)
 .skip))
(rS [oM 5 0 [0], oO 6 (.nilc 5) [5], oO 7 (.faddr 0 6) [6], oO 8 (.load none 7) [7], oA 2 8 [8]] .ret))), [.t 2]⟩
/-- interrex/reply.May -/
def f293 : AFn := ⟨1, (rS [oO 1 (.box false 0) [0], oA 2 kF [2]] (.seq (rS [oO 4 (.faddr 0 1) [], oO 5 (.load none 4) [4], oO 6 (.bin .lss 5 (kI 0)) [5], oM 7 6 [6], oH 8 (.faddr 0 1) 7 [], oH 9 (.load none 8) 7 [8], oH 10 (.bin .gtr 9 (kI 7)) 7 [9], oO 11 (.pick 7 kT 10) [7,10], oM 12 11 [11], oH 13 (.faddr 1 1) 12 [], oH 14 (.load none 13) 12 [13], oH 15 (.bin .lss 14 (kI 1)) 12 [14], oO 16 (.pick 12 kT 15) [12,15], oM 17 16 [16], oH 18 (.faddr 1 1) 17 [], oH 19 (.load none 18) 17 [18], oH 20 (.bin .gtr 19 (kI 1099511627776)) 17 [19], oO 21 (.pick 17 kT 20) [17,20], oM 22 21 [21], oH 23 (.faddr 2 1) 22 [], oH 24 (.load none 23) 22 [23], oH 25 (.bin .lss 24 (kI 1)) 22 [24], oO 26 (.pick 22 kT 25) [22,25], oM 27 26 [26], oH 28 (.faddr 2 1) 27 [], oH 29 (.load none 28) 27 [28], oH 30 (.bin .gtr 29 (kI 4)) 27 [29], oO 31 (.pick 27 kT 30) [27,30], oM 32 31 [31], oH 33 (.faddr 3 1) 32 [], oH 34 (.load none 33) 32 [33], oH 35 (.bin .lss 34 (kI 0)) 32 [34], oO 36 (.pick 32 kT 35) [32,35], oM 37 36 [36], oH 38 (.faddr 3 1) 37 [], oH 39 (.load none 38) 37 [38], oH 40 (.bin .gtr 39 (kI 9)) 37 [39], oO 41 (.pick 37 kT 40) [37,40], oM 42 41 [41], oH 43 (.faddr 4 1) 42 [], oH 44 (.load none 43) 42 [43], oH 45 (.bin .lss 44 (kI 0)) 42 [44], oO 46 (.pick 42 kT 45) [42,45], oM 47 46 [46], oH 48 (.faddr 4 1) 47 [], oH 49 (.load none 48) 47 [48], oH 50 (.bin .gtr 49 (kI 1099511627776)) 47 [49], oO 51 (.pick 47 kT 50) [47,50]] (.cond 51 (rS [oA 2 kF []] .ret)
 .skip))
(rS [oO 52 (.faddr 5 1) [], oO 53 (.load none 52) [52], oO 54 (.call 325 [53,(.c (.fn 326 [] []))]) [53], oA 3 54 [54]] (rS [oM 55 3 [3], oM 56 55 [55], oH 57 (.faddr 6 1) 56 [], oH 58 (.load none 57) 56 [57], oH 59 (.call 328 [58,(.c (.fn 329 [] []))]) 56 [58], oO 60 (.pick 56 kT 59) [56,59], oA 3 60 [60]] (rS [oM 61 3 [3], oO 62 (.un .not 61) [61], oM 63 62 [62], oG 64 (.faddr 5 1) 63 [], oG 65 (.load none 64) 63 [64], oG 66 (.lenL 65) 63 [65], oG 67 (.bin .leq 66 (kI 100)) 63 [66], oO 68 (.pick 63 67 kF) [63,67], oM 69 68 [68], oG 70 (.faddr 6 1) 69 [1], oG 71 (.load none 70) 69 [70], oG 72 (.lenL 71) 69 [71], oG 73 (.bin .leq 72 (kI 100)) 69 [72], oO 74 (.pick 69 73 kF) [69,73], oA 2 74 [74]] .ret))))), [.t 2]⟩
/-- interrex/interrexlaw1.begun -/
def f294 : AFn := ⟨0, (rS [oA 0 kF [0]] (rS [oO 10 (.bld [(vI 0),(vI 0),(vI 0)] [(0, 1, (kI 1)),(1, 1, (kI 2)),(2, 1, (kI 3))]) [], oO 11 (.bld [(vI 0),(vI 0),(vI 0)] [(0, 1, (kI 4)),(1, 1, (kI 5)),(2, 1, (kI 6))]) [], oO 12 (.bsl (.im false) 3 2 [(vI 0),(vI 0),(vI 0)] [(0, 10),(1, 11)]) [10,11], oO 13 (.call 80 [12]) [12], oM 9 13 [13], oO 14 (.ext 9 0) [], oO 15 (.ext 9 1) [9], oO 1 (.alloc false [(vI 0),(vI 0),(vI 0)]) [], oN (.store 3 1 14) [14], oA 2 15 [15]] (rS [oO 16 (.call 120 []) [], oO 3 (.alloc false [vS,(vI 0),(vI 0),(vI 0),(vI 0),(vI 0),.nils,.nils,.nils,.nils,vS,.nils,(vI 0),.nils,vS,(vI 0)]) [], oN (.store 16 3 16) [16]] (rS [oO 17 (.load (some 16) 3) [], oO 18 (.call 119 [17]) [17], oA 4 18 [18]] (rS [oM 20 4 [], oO 21 (.call 178 [20]) [20], oM 19 21 [21], oO 22 (.ext 19 0) [], oO 23 (.ext 19 1) [19], oO 5 (.alloc false [vS,(vI 0),(vI 0),(vI 0),(vI 0),(vI 0),.nils,.nils,.nils,.nils,vS,.nils,(vI 0),.nils,vS,(vI 0)]) [], oN (.store 16 5 22) [22], oA 6 23 [23]] (rS [oO 25 (.bld [(vI 0),(vI 0)] [(0, 1, (kI 3)),(1, 1, (kI 1000))]) [], oO 26 (.call 113 [25]) [25], oO 27 (.call 330 [26]) [26], oM 24 27 [27], oO 28 (.ext 24 0) [], oO 29 (.ext 24 1) [24], oO 7 (.alloc false [(vI 0),(vI 0)]) [], oN (.store 2 7 28) [28], oA 8 29 [29]] (rS [oM 30 2 [2], oM 31 30 [30], oG 32 (.load (some 3) 1) 31 [1], oG 33 (.bld [(vI 0),(vI 0),(vI 0)] [(0, 1, (kI 5)),(1, 1, (kI 7)),(2, 1, (kI 9))]) 31 [], oG 34 (.eqc true [.i,.i,.i] false 32 33) 31 [32,33], oO 35 (.pick 31 34 kF) [31,34], oM 36 35 [35], oG 37 (.call 102 [(kI 1),(kI 3)]) 36 [], oG 38 (.bin .eql 37 (kI 33)) 36 [37], oO 39 (.pick 36 38 kF) [36,38], oM 40 39 [39], oG 41 (.faddr 8 3) 40 [], oG 42 (.load none 41) 40 [41], oG 43 (.bld [vS,vS] [(0, 1, (.c (.s [122,111,110,101]))),(1, 1, (.c (.s [98])))]) 40 [], oG 44 (.bsl (.im false) 2 1 [vS,vS] [(0, 43)]) 40 [43], oG 45 (.call 82 [42,44]) 40 [42,44], oO 46 (.pick 40 45 kF) [40,45], oM 47 46 [46], oG 48 (.faddr 9 3) 47 [], oG 49 (.load none 48) 47 [48], oG 50 (.bld [vS,vS] [(0, 1, (.c (.s [120]))),(1, 1, (.c (.s [121])))]) 47 [], oG 51 (.bsl (.im false) 2 1 [vS,vS] [(0, 50)]) 47 [50], oG 52 (.call 83 [49,51]) 47 [49,51], oO 53 (.pick 47 52 kF) [47,52], oM 54 53 [53], oG 55 (.load (some 16) 3) 54 [], oG 56 (.call 184 [55]) 54 [55], oO 57 (.pick 54 56 kF) [54,56], oM 58 57 [57], oG 59 (.mv 6) 58 [6], oO 60 (.pick 58 59 kF) [58,59], oM 61 60 [60], oG 62 (.load (some 16) 3) 61 [3], oG 63 (.load (some 16) 5) 61 [5], oG 64 (.call 99 [62,63]) 61 [62,63], oO 65 (.pick 61 64 kF) [61,64], oM 66 65 [65], oG 67 (.mv 4) 66 [4], oG 68 (.lenL 67) 66 [67], oG 69 (.bin .gtr 68 (kI 0)) 66 [68], oO 70 (.pick 66 69 kF) [66,69], oM 71 70 [70], oG 72 (.mv 8) 71 [8], oO 73 (.pick 71 72 kF) [71,72], oM 74 73 [73], oG 75 (.faddr 0 7) 74 [7], oG 76 (.load none 75) 74 [75], oG 77 (.bin .eql 76 (kI 3)) 74 [76], oO 78 (.pick 74 77 kF) [74,77], oM 79 78 [78], oG 80 (.call 176 [(kI 1),(.c (.s [97]))]) 79 [], oG 81 (.bin .eql 80 (.c (.s [112,47,97]))) 79 [80], oO 82 (.pick 79 81 kF) [79,81], oM 83 82 [82], oG 84 (.call 177 [(.c (.s [110,47,98]))]) 83 [], oG 85 (.bin .eql 84 (kI 2)) 83 [84], oO 86 (.pick 83 85 kF) [83,85], oA 0 86 [86]] .ret))))))), [.t 0]⟩
/-- slices.Equal   interrex/api.Guard interrex/api.Guard  -/
def f295 : AFn := ⟨2, (rS [oA 4 kF [4]] (.seq (rS [oM 6 0 [], oO 7 (.lenL 6) [6], oM 8 1 [], oO 9 (.lenL 8) [8], oO 10 (.bin .neq 7 9) [7,9]] (.cond 10 (rS [oA 4 kF []] .ret)
 .skip))
(.seq (rS [oM 11 0 [], oO 12 (.lenL 11) [11], oM 13 (kI 0) []] (.blk 0 (.loop (rS [oO 14 (.bin .lss 13 12) []] (.seq (.cond 14 .skip
 (.exit 0))
(.seq (.blk 1 (rS [oM 15 13 [], oA 5 15 [15]] (.seq (.dreg [⟨0, (oM 16 0 []), false, []⟩,
 ⟨1, (oM 17 5 []), false, []⟩,
 ⟨2, (oO 18 (.iasl 3 16 17) []), false, []⟩,
 ⟨3, (oO 19 (.load (some 3) 18) []), false, []⟩,
 ⟨4, (oM 20 1 []), false, []⟩,
 ⟨5, (oM 21 5 []), false, []⟩,
 ⟨6, (oO 22 (.iasl 3 20 21) []), false, []⟩,
 ⟨7, (oO 23 (.load (some 3) 22) []), false, []⟩,
 ⟨8, (oO 24 (.eqc true [.s,.i,.b] true 19 23) []), false, []⟩] [16,5,17,18,19,20,21,22,23])
(.cond 24 (rS [oA 4 kF []] .ret)
 .skip))))
(rR [oO 25 (.bin .add 13 (kI 1)) [13], oM 13 25 [25]])))))))
(rS [oA 4 kT []] .ret)))), [.t 4]⟩
/-- slices.EqualFunc   interrex/api.Write   interrex/api.Write interrex/api.Write interrex/api.Write  -/
def f296 : AFn := ⟨3, (rS [oA 6 kF [6]] (.seq (rS [oM 10 0 [], oO 11 (.lenL 10) [10], oM 12 1 [], oO 13 (.lenL 12) [12], oO 14 (.bin .neq 11 13) [11,13]] (.cond 14 (rS [oA 6 kF []] .ret)
 .skip))
(.seq (rS [oM 15 0 [0], oO 16 (.lenL 15) [], oM 17 (kI 0) []] (.blk 0 (.loop (rS [oO 18 (.bin .lss 17 16) []] (.seq (.cond 18 .skip
 (.exit 0))
(.seq (.blk 1 (rS [oM 19 17 [], oO 20 (.iasl 3 15 17) [], oO 21 (.load (some 3) 20) [20], oO 8 (.alloc false [vS,.nils,(.b false)]) [], oA 7 19 [19], oN (.store 3 8 21) [21]] (rS [oM 22 1 [], oM 23 7 [7], oO 24 (.iasl 3 22 23) [22,23], oO 25 (.load (some 3) 24) [24], oO 9 (.alloc false [vS,.nils,(.b false)]) [], oN (.store 3 9 25) [25]] (rS [oM 26 2 [], oO 27 (.load (some 3) 8) [8], oO 28 (.load (some 3) 9) [9], oO 29 (.callv 26 [27,28]) [26,27,28], oO 30 (.un .not 29) [29]] (.cond 30 (rS [oA 6 kF []] .ret)
 .skip)))))
(rR [oO 31 (.bin .add 17 (kI 1)) [17], oM 17 31 [31]])))))))
(rS [oA 6 kT []] .ret)))), [.t 6]⟩
/-- slices.EqualFunc   interrex/api.Entry   interrex/api.Entry interrex/api.Entry interrex/api.Entry  -/
def f298 : AFn := ⟨3, (rS [oA 6 kF [6]] (.seq (rS [oM 10 0 [], oO 11 (.lenL 10) [10], oM 12 1 [], oO 13 (.lenL 12) [12], oO 14 (.bin .neq 11 13) [11,13]] (.cond 14 (rS [oA 6 kF []] .ret)
 .skip))
(.seq (rS [oM 15 0 [0], oO 16 (.lenL 15) [], oM 17 (kI 0) []] (.blk 0 (.loop (rS [oO 18 (.bin .lss 17 16) []] (.seq (.cond 18 .skip
 (.exit 0))
(.seq (.blk 1 (rS [oM 19 17 [], oO 20 (.iasl 3 15 17) [], oO 21 (.load (some 3) 20) [20], oO 8 (.alloc false [vS,(vI 0),.nils]) [], oA 7 19 [19], oN (.store 3 8 21) [21]] (rS [oM 22 1 [], oM 23 7 [7], oO 24 (.iasl 3 22 23) [22,23], oO 25 (.load (some 3) 24) [24], oO 9 (.alloc false [vS,(vI 0),.nils]) [], oN (.store 3 9 25) [25]] (rS [oM 26 2 [], oO 27 (.load (some 3) 8) [8], oO 28 (.load (some 3) 9) [9], oO 29 (.callv 26 [27,28]) [26,27,28], oO 30 (.un .not 29) [29]] (.cond 30 (rS [oA 6 kF []] .ret)
 .skip)))))
(rR [oO 31 (.bin .add 17 (kI 1)) [17], oM 17 31 [31]])))))))
(rS [oA 6 kT []] .ret)))), [.t 6]⟩
/-- interrex/reply.Eq 1 -/
def f299 : AFn := ⟨2, (rS [oO 2 (.box false 0) [0], oO 3 (.box false 1) [1], oA 4 kF [4]] (rS [oO 5 (.faddr 0 2) [], oO 6 (.load none 5) [5], oO 7 (.faddr 0 3) [], oO 8 (.load none 7) [7], oO 9 (.bin .eql 6 8) [6,8], oM 10 9 [9], oG 11 (.faddr 1 2) 10 [], oG 12 (.load none 11) 10 [11], oG 13 (.faddr 1 3) 10 [], oG 14 (.load none 13) 10 [13], oG 15 (.bin .eql 12 14) 10 [12,14], oO 16 (.pick 10 15 kF) [10,15], oM 17 16 [16], oG 18 (.faddr 2 2) 17 [2], oG 19 (.load none 18) 17 [18], oG 20 (.faddr 2 3) 17 [3], oG 21 (.load none 20) 17 [20], oG 22 (.call 225 [19,21]) 17 [19,21], oO 23 (.pick 17 22 kF) [17,22], oA 4 23 [23]] .ret)), [.t 4]⟩
/-- slices.EqualFunc   interrex/api.Event   interrex/api.Event interrex/api.Event interrex/api.Event  -/
def f300 : AFn := ⟨3, (rS [oA 6 kF [6]] (.seq (rS [oM 10 0 [], oO 11 (.lenL 10) [10], oM 12 1 [], oO 13 (.lenL 12) [12], oO 14 (.bin .neq 11 13) [11,13]] (.cond 14 (rS [oA 6 kF []] .ret)
 .skip))
(.seq (rS [oM 15 0 [0], oO 16 (.lenL 15) [], oM 17 (kI 0) []] (.blk 0 (.loop (rS [oO 18 (.bin .lss 17 16) []] (.seq (.cond 18 .skip
 (.exit 0))
(.seq (.blk 1 (rS [oM 19 17 [], oO 20 (.iasl 4 15 17) [], oO 21 (.load (some 4) 20) [20], oO 8 (.alloc false [(vI 0),vS,.nils,(.b false)]) [], oA 7 19 [19], oN (.store 4 8 21) [21]] (rS [oM 22 1 [], oM 23 7 [7], oO 24 (.iasl 4 22 23) [22,23], oO 25 (.load (some 4) 24) [24], oO 9 (.alloc false [(vI 0),vS,.nils,(.b false)]) [], oN (.store 4 9 25) [25]] (rS [oM 26 2 [], oO 27 (.load (some 4) 8) [8], oO 28 (.load (some 4) 9) [9], oO 29 (.callv 26 [27,28]) [26,27,28], oO 30 (.un .not 29) [29]] (.cond 30 (rS [oA 6 kF []] .ret)
 .skip)))))
(rR [oO 31 (.bin .add 17 (kI 1)) [17], oM 17 31 [31]])))))))
(rS [oA 6 kT []] .ret)))), [.t 6]⟩
/-- slices.ContainsFunc   string string  -/
def f310 : AFn := ⟨2, (rS [oA 4 kF [4]] (rS [oM 5 0 [0], oM 6 1 [1], oO 7 (.call 90 [5,6]) [5,6], oO 8 (.bin .geq 7 (kI 0)) [7], oA 4 8 [8]] .ret)), [.t 4]⟩
/-- interrex/label.mayTerm 1 -/
def f311 : AFn := ⟨1, (rS [oA 2 kF [2]] (rS [oM 3 0 [0], oO 4 (.call 214 [3]) [3], oO 5 (.un .not 4) [4], oA 2 5 [5]] .ret)), [.t 2]⟩
/-- interrex/store.may -/
def f317 : AFn := ⟨1, (rS [oO 1 (.box false 0) [0], oA 2 kF [2]] (.seq (rS [oO 8 (.faddr 0 1) [], oO 9 (.load none 8) [8], oO 10 (.lenL 9) [9], oO 11 (.bin .gtr 10 (kI 20)) [10], oM 12 11 [11], oH 13 (.faddr 1 1) 12 [], oH 14 (.load none 13) 12 [13], oH 15 (.lenL 14) 12 [14], oH 16 (.bin .lss 15 (kI 1)) 12 [15], oO 17 (.pick 12 kT 16) [12,16], oM 18 17 [17], oH 19 (.faddr 1 1) 18 [], oH 20 (.load none 19) 18 [19], oH 21 (.lenL 20) 18 [20], oH 22 (.bin .gtr 21 (kI 64)) 18 [21], oO 23 (.pick 18 kT 22) [18,22]] (.cond 23 (rS [oA 2 kF []] .ret)
 .skip))
(.seq (rS [oO 24 (.faddr 0 1) [], oO 25 (.load none 24) [24], oO 26 (.lenL 25) [], oM 27 (kI 0) []] (.blk 0 (.loop (rS [oO 28 (.bin .lss 27 26) []] (.seq (.cond 28 .skip
 (.exit 0))
(.seq (.blk 1 (rS [oO 29 (.iasl 3 25 27) [], oO 30 (.load (some 3) 29) [29], oO 4 (.alloc false [vS,(vI 0),(.b false)]) [], oN (.store 3 4 30) [30]] (rS [oO 31 (.faddr 0 4) [], oO 32 (.load none 31) [31], oO 33 (.call 338 [32]) [32], oO 34 (.un .not 33) [33], oM 35 34 [34], oH 36 (.faddr 1 4) 35 [4], oH 37 (.load none 36) 35 [36], oH 38 (.bin .lss 37 (kI 0)) 35 [37], oO 39 (.pick 35 kT 38) [35,38]] (.cond 39 (rS [oA 2 kF []] .ret)
 .skip))))
(rR [oO 40 (.bin .add 27 (kI 1)) [27], oM 27 40 [40]])))))))
(rS [oO 41 (.mkmap true none) [], oA 5 41 [41]] (.seq (rS [oO 42 (.faddr 1 1) [1], oO 43 (.load none 42) [42], oO 44 (.lenL 43) [], oM 45 (kI 0) []] (.blk 2 (.loop (rS [oO 46 (.bin .lss 45 44) []] (.seq (.cond 46 .skip
 (.exit 2))
(.seq (.blk 3 (rS [oO 47 (.iasl 3 43 45) [], oO 48 (.load (some 3) 47) [47], oO 7 (.alloc false [vS,.nils,(.b false)]) [], oN (.store 3 7 48) [48]] (.seq (rS [oO 49 (.faddr 0 7) [], oO 50 (.load none 49) [49], oO 51 (.call 338 [50]) [50], oO 52 (.un .not 51) [51], oM 53 52 [52], oH 54 (.mv 5) 53 [], oH 55 (.faddr 0 7) 53 [], oH 56 (.load none 55) 53 [55], oH 57 (.lkp none (.b false) 54 56 false) 53 [54,56], oO 58 (.pick 53 kT 57) [53,57], oM 59 58 [58], oH 60 (.faddr 2 7) 59 [], oH 61 (.load none 60) 59 [60], oH 62 (.mv 61) 59 [61], oG 63 (.faddr 1 7) 62 [], oG 64 (.load none 63) 62 [63], oG 65 (.lenL 64) 62 [64], oG 66 (.bin .gtr 65 (kI 0)) 62 [65], oH 67 (.pick 62 66 kF) 59 [62,66], oO 68 (.pick 59 kT 67) [59,67], oM 69 68 [68], oH 70 (.faddr 1 7) 69 [], oH 71 (.load none 70) 69 [70], oH 72 (.lenL 71) 69 [71], oH 73 (.bin .gtr 72 (kI 4000)) 69 [72], oO 74 (.pick 69 kT 73) [69,73]] (.cond 74 (rS [oA 2 kF []] .ret)
 .skip))
(rR [oM 75 5 [], oO 76 (.faddr 0 7) [7], oO 77 (.load none 76) [76], oN (.mupd none 75 77 kT) [75,77]]))))
(rR [oO 78 (.bin .add 45 (kI 1)) [45], oM 45 78 [78]])))))))
(rS [oA 2 kT []] .ret)))))), [.t 2]⟩
/-- ( interrex/store.Store).holds -/
def f318 : AFn := ⟨2, (rS [oO 3 (.box false 1) [1], oA 4 kF [4]] (.seq (rS [oO 7 (.faddr 2 3) [], oO 8 (.load none 7) [7], oO 9 (.un .not 8) [8]] (.cond 9 (.seq (.dreg [⟨0, (oM 10 0 []), false, []⟩,
 ⟨1, (oO 11 (.nilc 10) []), false, []⟩,
 ⟨2, (oO 12 (.faddr 1 11) []), false, []⟩,
 ⟨3, (oO 13 (.load none 12) []), false, []⟩,
 ⟨4, (oO 14 (.faddr 0 3) []), false, []⟩,
 ⟨5, (oO 15 (.load none 14) []), false, []⟩,
 ⟨6, (oO 16 (.lkp none (.agg [vS,(vI 0),.nils]) 13 15 false) []), false, []⟩,
 ⟨7, (oO 17 (.fld 1 none 16) []), false, []⟩,
 ⟨8, (oO 18 (.faddr 1 3) []), false, []⟩,
 ⟨9, (oO 19 (.load none 18) []), false, []⟩,
 ⟨10, (oO 20 (.bin .eql 17 19) []), false, []⟩,
 ⟨11, (oA 4 20 []), false, []⟩] [0,10,11,12,13,3,14,15,16,17,18,19,20])
.ret)
 .skip))
(.seq (rS [oM 21 0 [0], oO 22 (.nilc 21) [21], oO 23 (.faddr 2 22) [22], oO 24 (.load none 23) [23], oO 25 (.no) [24]] (.blk 0 (.loop (rS [oO 26 (.no) [], oO 27 (.ext 26 0) [26]] (.seq (.cond 27 .skip
 (.exit 0))
(.blk 1 (rS [oO 28 (.no) [], oO 29 (.ext 28 0) [], oO 30 (.ext 28 1) [28], oA 5 29 [29], oA 6 30 [30]] (rS [oM 31 6 [6], oO 32 (.faddr 1 3) [], oO 33 (.load none 32) [32], oO 34 (.bin .gtr 31 33) [31,33], oM 35 34 [34], oG 36 (.mv 5) 35 [5], oG 37 (.faddr 0 3) 35 [], oG 38 (.load none 37) 35 [37], oG 39 (.call 339 [36,38]) 35 [36,38], oO 40 (.pick 35 39 kF) [35,39]] (.cond 40 (rS [oA 4 kF []] .ret)
 .skip)))))))))
(rS [oA 4 kT []] .ret)))), [.t 4]⟩
/-- interrex/call.bare -/
def f319 : AFn := ⟨1, (rS [oO 1 (.box false 0) [0], oO 2 (.alloc false [(vI 0),(vI 0),(vI 0),vS,(vI 0),.nils,.nils]) []] (rS [oO 4 (.faddr 0 1) [], oO 5 (.load none 4) [4], oO 6 (.faddr 1 1) [], oO 7 (.load none 6) [6], oO 8 (.faddr 2 1) [], oO 9 (.load none 8) [8], oO 10 (.bld [(vI 0),(vI 0),(vI 0),vS,(vI 0),.nils,.nils] [(0, 1, 5),(1, 1, 7),(2, 1, 9)]) [5,7,9], oO 3 (.alloc false [(vI 0),(vI 0),(vI 0),vS,(vI 0),.nils,.nils]) [], oN (.store 7 3 10) [10]] (.seq (rS [oO 11 (.faddr 2 1) [], oO 12 (.load none 11) [11]] (.blk 0 (rS [oO 14 (.bin .eql 12 (kI 1)) [], oA 13 14 [14]] (.cond 13 (rR [oO 15 (.faddr 3 1) [1], oO 16 (.load none 15) [15], oO 17 (.faddr 3 3) [], oN (.store 1 17 16) [17,16]])
 (rS [oO 19 (.bin .eql 12 (kI 3)) [], oA 18 19 [19]] (.cond 18 (rR [oO 20 (.faddr 4 1) [1], oO 21 (.load none 20) [20], oO 22 (.faddr 4 3) [], oN (.store 1 22 21) [22,21]])
 (rS [oO 24 (.bin .eql 12 (kI 4)) [12], oA 23 24 [24]] (.cond 23 (rR [oO 25 (.faddr 5 1) [1], oO 26 (.load (some 2) 25) [25], oO 27 (.faddr 5 3) [], oN (.store 2 27 26) [27,26]])
 .skip))))))))
(rS [oO 28 (.load (some 7) 3) [3], oN (.store 7 2 28) [28]] .ret)))), [.cell 2 (some 7)]⟩
/-- maps.Keys map string interrex/api.Entry string interrex/api.Entry  -/
def f324 : AFn := ⟨1, (rS [oO 1 (.box true 0) [0], oA 2 (.c .nilf) [2]] (rS [oO 3 (.mkfn 342 [1]) [1], oA 2 3 [3]] .ret)), [.t 2]⟩
/-- slices.ContainsFunc   interrex/api.Entry interrex/api.Entry  -/
def f325 : AFn := ⟨2, (rS [oA 4 kF [4]] (rS [oM 5 0 [0], oM 6 1 [1], oO 7 (.call 343 [5,6]) [5,6], oO 8 (.bin .geq 7 (kI 0)) [7], oA 4 8 [8]] .ret)), [.t 4]⟩
/-- interrex/reply.May 1 -/
def f326 : AFn := ⟨1, (rS [oO 1 (.box false 0) [0], oA 2 kF [2]] (rS [oO 3 (.faddr 0 1) [], oO 4 (.load none 3) [3], oO 5 (.faddr 1 1) [], oO 6 (.load none 5) [5], oO 7 (.faddr 2 1) [1], oO 8 (.load none 7) [7], oO 9 (.call 327 [4,6,8]) [4,6,8], oO 10 (.un .not 9) [9], oA 2 10 [10]] .ret)), [.t 2]⟩
/-- interrex/reply.row -/
def f327 : AFn := ⟨3, (rS [oA 6 kF [6]] (rS [oM 7 0 [], oO 8 (.lenS 7) [7], oO 9 (.bin .geq 8 (kI 1)) [8], oM 10 9 [9], oG 11 (.mv 0) 10 [0], oG 12 (.lenS 11) 10 [11], oG 13 (.bin .leq 12 (kI 20)) 10 [12], oO 14 (.pick 10 13 kF) [10,13], oM 15 14 [14], oG 16 (.mv 1) 15 [], oG 17 (.bin .geq 16 (kI 1)) 15 [16], oO 18 (.pick 15 17 kF) [15,17], oM 19 18 [18], oG 20 (.mv 1) 19 [1], oG 21 (.bin .leq 20 (kI 1099511627776)) 19 [20], oO 22 (.pick 19 21 kF) [19,21], oM 23 22 [22], oG 24 (.mv 2) 23 [2], oG 25 (.lenL 24) 23 [24], oG 26 (.bin .leq 25 (kI 4000)) 23 [25], oO 27 (.pick 23 26 kF) [23,26], oA 6 27 [27]] .ret)), [.t 6]⟩
/-- slices.ContainsFunc   interrex/api.Event interrex/api.Event  -/
def f328 : AFn := ⟨2, (rS [oA 4 kF [4]] (rS [oM 5 0 [0], oM 6 1 [1], oO 7 (.call 337 [5,6]) [5,6], oO 8 (.bin .geq 7 (kI 0)) [7], oA 4 8 [8]] .ret)), [.t 4]⟩
/-- interrex/code.GetLease -/
def f330 : AFn := ⟨1, (rS [oO 2 (.alloc false [(vI 0),(vI 0)]) [], oA 3 kF [3]] (rS [oM 6 0 [], oO 7 (.call 215 [6]) [6], oA 4 7 [7]] (rS [oM 8 4 [], oO 9 (.call 216 [8,(kI 1)]) [8,9]] (rS [oM 10 4 [], oO 11 (.call 216 [10,(kI 1)]) [10], oM 12 4 [], oO 13 (.call 216 [12,(kI 8)]) [12], oO 14 (.bld [(vI 0),(vI 0)] [(0, 1, 11),(1, 1, 13)]) [11,13], oO 5 (.alloc false [(vI 0),(vI 0)]) [], oN (.store 2 5 14) [14]] (.seq (rS [oM 15 4 [4], oO 16 (.call 224 [15]) [15], oO 17 (.un .not 16) [16], oM 18 17 [17], oH 19 (.mv 0) 18 [], oH 20 (.lenL 19) 18 [19], oH 21 (.bin .eql 20 (kI 0)) 18 [20], oO 22 (.pick 18 kT 21) [18,21], oM 23 22 [22], oH 24 (.load (some 2) 5) 23 [], oH 25 (.call 113 [24]) 23 [24], oH 26 (.mv 0) 23 [0], oH 27 (.call 225 [25,26]) 23 [25,26], oH 28 (.un .not 27) 23 [27], oO 29 (.pick 23 kT 28) [23,28]] (.cond 29 (rS [oO 30 (.bld [(vI 0),(vI 0)] []) [], oN (.store 2 2 30) [30], oA 3 kF []] .ret)
 .skip))
(rS [oO 31 (.load (some 2) 5) [5], oN (.store 2 2 31) [31], oA 3 kT []] .ret)))))), [.cell 2 (some 2),.t 3]⟩
/-- slices.IndexFunc   interrex/api.Event interrex/api.Event  -/
def f337 : AFn := ⟨2, (rS [oA 4 (kI 0) [4]] (.seq (rS [oM 6 0 [], oO 7 (.lenL 6) [6], oM 8 (kI 0) []] (.blk 0 (.loop (rS [oO 9 (.bin .lss 8 7) []] (.seq (.cond 9 .skip
 (.exit 0))
(.seq (.blk 1 (rS [oM 10 8 [], oA 5 10 [10]] (rS [oM 11 1 [], oM 12 0 [], oM 13 5 [], oO 14 (.iasl 4 12 13) [12,13], oO 15 (.load (some 4) 14) [14], oO 16 (.callv 11 [15]) [11,15]] (.cond 16 (rS [oM 17 5 [5], oA 4 17 [17]] .ret)
 .skip))))
(rR [oO 18 (.bin .add 8 (kI 1)) [8], oM 8 18 [18]])))))))
(rS [oA 4 (kI (-1)) []] .ret))), [.t 4]⟩
/-- interrex/store.key -/
def f338 : AFn := ⟨1, (rS [oA 2 kF [2]] (rS [oM 3 0 [], oO 4 (.lenS 3) [3], oO 5 (.bin .geq 4 (kI 1)) [4], oM 6 5 [5], oG 7 (.mv 0) 6 [0], oG 8 (.lenS 7) 6 [7], oG 9 (.bin .leq 8 (kI 20)) 6 [8], oO 10 (.pick 6 9 kF) [6,9], oA 2 10 [10]] .ret)), [.t 2]⟩
/-- slices.IndexFunc   interrex/api.Entry interrex/api.Entry  -/
def f343 : AFn := ⟨2, (rS [oA 4 (kI 0) [4]] (.seq (rS [oM 6 0 [], oO 7 (.lenL 6) [6], oM 8 (kI 0) []] (.blk 0 (.loop (rS [oO 9 (.bin .lss 8 7) []] (.seq (.cond 9 .skip
 (.exit 0))
(.seq (.blk 1 (rS [oM 10 8 [], oA 5 10 [10]] (rS [oM 11 1 [], oM 12 0 [], oM 13 5 [], oO 14 (.iasl 3 12 13) [12,13], oO 15 (.load (some 3) 14) [14], oO 16 (.callv 11 [15]) [11,15]] (.cond 16 (rS [oM 17 5 [5], oA 4 17 [17]] .ret)
 .skip))))
(rR [oO 18 (.bin .add 8 (kI 1)) [8], oM 8 18 [18]])))))))
(rS [oA 4 (kI (-1)) []] .ret))), [.t 4]⟩
end Go.Eng.AF
