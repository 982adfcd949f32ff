/-
Functions' abstract texts.
-/
import Derived.Test.YthhlbhmneabhiaaGreatEngC
set_option maxRecDepth 100000
namespace Go.Eng.AF
open Go Go.Eng
/-- slices.IndexFunc   interrex/api.Event interrex/api.Event  -/
def f159 : AFn := ⟨2, (rS [oA 4 (kI 0) [4]] (.seq (rS [oM 6 0 [], oO 7 (.lenL 6) [6], oM 8 (kI 0) []] (.blk 0 (.loop (rS [oO 9 (.bin .lss 8 7) []] (.seq (.cond 9 .skip
 (.exit 0))
(.seq (.blk 1 (rS [oM 10 8 [], oA 5 10 [10]] (rS [oM 11 1 [], oM 12 0 [], oM 13 5 [], oO 14 (.iasl 4 12 13) [12,13], oO 15 (.load (some 4) 14) [14], oO 16 (.callv 11 [15]) [11,15]] (.cond 16 (rS [oM 17 5 [5], oA 4 17 [17]] .ret)
 .skip))))
(rR [oO 18 (.bin .add 8 (kI 1)) [8], oM 8 18 [18]])))))))
(rS [oA 4 (kI (-1)) []] .ret))), [.t 4]⟩
/-- interrex/label.letter -/
def f160 : AFn := ⟨1, (rS [oA 2 kF [2]] (rS [oM 3 0 [], oO 4 (.bin .geq 3 (.c (.i .u8 97))) [3], oM 5 4 [4], oG 6 (.mv 0) 5 [], oG 7 (.bin .leq 6 (.c (.i .u8 122))) 5 [6], oO 8 (.pick 5 7 kF) [5,7], oM 9 8 [8], oH 10 (.mv 0) 9 [], oH 11 (.bin .geq 10 (.c (.i .u8 48))) 9 [10], oH 12 (.mv 11) 9 [11], oG 13 (.mv 0) 12 [], oG 14 (.bin .leq 13 (.c (.i .u8 57))) 12 [13], oH 15 (.pick 12 14 kF) 9 [12,14], oO 16 (.pick 9 kT 15) [9,15], oM 17 16 [16], oH 18 (.mv 0) 17 [0], oH 19 (.bin .eql 18 (.c (.i .u8 45))) 17 [18], oO 20 (.pick 17 kT 19) [17,19], oA 2 20 [20]] .ret)), [.t 2]⟩
/-- slices.ContainsFunc   interrex/api.Term interrex/api.Term  -/
def f161 : AFn := ⟨2, (rS [oA 4 kF [4]] (rS [oM 5 0 [0], oM 6 1 [1], oO 7 (.call 215 [5,6]) [5,6], oO 8 (.bin .geq 7 (kI 0)) [7], oA 4 8 [8]] .ret)), [.t 4]⟩
/-- interrex/label.MayTerms 1 -/
def f162 : AFn := ⟨1, (rS [oO 1 (.box false 0) [0], oA 2 kF [2]] (rS [oO 3 (.load (some 3) 1) [1], oO 4 (.call 163 [3]) [3], oO 5 (.un .not 4) [4], oA 2 5 [5]] .ret)), [.t 2]⟩
/-- interrex/label.mayTerm -/
def f163 : AFn := ⟨1, (rS [oO 1 (.box false 0) [0], oA 2 kF [2]] (rS [oA 3 (kI 0) [], oA 4 (kI 0) []] (.seq (rS [oO 5 (.faddr 1 1) [], oO 6 (.load none 5) [5]] (.blk 0 (.seq (rS [oO 8 (.bin .eql 6 (kI 1)) [], oA 7 8 [8]] (.cond 7 .skip
 (rR [oO 9 (.bin .eql 6 (kI 2)) [], oA 7 9 [9]])))
(.cond 7 (rR [oA 3 (kI 1) [], oA 4 (kI 6) []])
 (.seq (rS [oO 11 (.bin .eql 6 (kI 3)) [], oA 10 11 [11]] (.cond 10 .skip
 (rR [oO 12 (.bin .eql 6 (kI 4)) [6], oA 10 12 [12]])))
(.cond 10 .skip
 (rS [oA 2 kF []] .ret)))))))
(rS [oO 13 (.faddr 0 1) [], oO 14 (.load none 13) [13], oO 15 (.call 116 [14]) [14], oM 16 15 [15], oG 17 (.faddr 2 1) 16 [], oG 18 (.load none 17) 16 [17], oG 19 (.lenL 18) 16 [18], oG 20 (.mv 3) 16 [3], oG 21 (.bin .geq 19 20) 16 [19,20], oO 22 (.pick 16 21 kF) [16,21], oM 23 22 [22], oG 24 (.faddr 2 1) 23 [], oG 25 (.load none 24) 23 [24], oG 26 (.lenL 25) 23 [25], oG 27 (.mv 4) 23 [4], oG 28 (.bin .leq 26 27) 23 [26,27], oO 29 (.pick 23 28 kF) [23,28], oM 30 29 [29], oG 31 (.faddr 2 1) 30 [1], oG 32 (.load none 31) 30 [31], oG 33 (.call 216 [32,(.c (.fn 217 [] []))]) 30 [32], oG 34 (.un .not 33) 30 [33], oO 35 (.pick 30 34 kF) [30,34], oA 2 35 [35]] .ret)))), [.t 2]⟩
/-- slices.ContainsFunc   interrex/api.Toler interrex/api.Toler  -/
def f164 : AFn := ⟨2, (rS [oA 4 kF [4]] (rS [oM 5 0 [0], oM 6 1 [1], oO 7 (.call 218 [5,6]) [5,6], oO 8 (.bin .geq 7 (kI 0)) [7], oA 4 8 [8]] .ret)), [.t 4]⟩
/-- interrex/taint.MayTols 1 -/
def f165 : AFn := ⟨1, (rS [oO 1 (.box false 0) [0], oA 2 kF [2]] (rS [oO 3 (.load (some 3) 1) [1], oO 4 (.call 166 [3]) [3], oO 5 (.un .not 4) [4], oA 2 5 [5]] .ret)), [.t 2]⟩
/-- interrex/taint.mayTol -/
def f166 : AFn := ⟨1, (rS [oO 1 (.box false 0) [0], oA 2 kF [2]] (.seq (rS [oO 3 (.faddr 0 1) [], oO 4 (.load none 3) [3], oO 5 (.bin .neq 4 (.c vS)) [4], oM 6 5 [5], oG 7 (.faddr 0 1) 6 [], oG 8 (.load none 7) 6 [7], oG 9 (.call 116 [8]) 6 [8], oG 10 (.un .not 9) 6 [9], oO 11 (.pick 6 10 kF) [6,10]] (.cond 11 (rS [oA 2 kF []] .ret)
 .skip))
(.seq (rS [oO 12 (.faddr 2 1) [], oO 13 (.load none 12) [12]] (.cond 13 (rS [oO 14 (.faddr 1 1) [1], oO 15 (.load none 14) [14], oO 16 (.bin .eql 15 (.c vS)) [15], oA 2 16 [16]] .ret)
 .skip))
(rS [oO 17 (.faddr 1 1) [1], oO 18 (.load none 17) [17], oO 19 (.call 116 [18]) [18], oA 2 19 [19]] .ret)))), [.t 2]⟩
/-- ( interrex/wire.table).make 1 -/
def f168 : AFn := ⟨1, (rS [oO 1 (.alloc true [(.i .u64 0)]) [], oN (.store 1 1 (.c (.i .u64 0))) []] (rS [oO 5 (.mkfn 169 [1,0]) [1,0], oA 2 5 [5]] (.seq (rS [oM 6 (.c (.i .u8 0)) []] (.blk 0 (.loop (rS [oO 7 (.bin .lss 6 (.c (.i .u8 26))) []] (.seq (.cond 7 .skip
 (.exit 0))
(.seq (.blk 1 (rS [oM 8 6 [], oA 3 8 [8]] (rR [oM 9 2 [], oM 10 3 [3], oO 11 (.bin .add (.c (.i .u8 97)) 10) [10], oO 12 (.callv 9 [11]) [9,11,12]])))
(rR [oO 13 (.bin .add 6 (.c (.i .u8 1))) [6], oM 6 13 [13]])))))))
(.seq (rS [oM 14 (.c (.i .u8 0)) []] (.blk 2 (.loop (rS [oO 15 (.bin .lss 14 (.c (.i .u8 10))) []] (.seq (.cond 15 .skip
 (.exit 2))
(.seq (.blk 3 (rS [oM 16 14 [], oA 4 16 [16]] (rR [oM 17 2 [], oM 18 4 [4], oO 19 (.bin .add (.c (.i .u8 48)) 18) [18], oO 20 (.callv 17 [19]) [17,19,20]])))
(rR [oO 21 (.bin .add 14 (.c (.i .u8 1))) [14], oM 14 21 [21]])))))))
(rR [oM 22 2 [2], oO 23 (.callv 22 [(.c (.i .u8 45))]) [22,23]]))))), []⟩
/-- ( interrex/wire.table).make 1 1 -/
def f169 : AFn := ⟨3, (rS [oO 4 (.load none 1) [], oO 5 (.bin .add 4 (.c (.i .u64 1))) [4], oN (.store 1 1 5) [5]] (.dreg [⟨0, (oO 6 (.load none 2) []), false, []⟩,
 ⟨1, (oM 7 0 []), false, []⟩,
 ⟨2, (oO 8 (.load none 2) []), false, []⟩,
 ⟨3, (oO 9 (.load none 1) []), false, []⟩,
 ⟨4, (oO 10 (.load none 1) []), false, []⟩,
 ⟨5, (oM 11 0 []), false, []⟩,
 ⟨6, (oO 12 (.nilc 6) []), false, []⟩,
 ⟨7, (oO 13 (.faddr 3 12) []), false, []⟩,
 ⟨8, (oO 14 (.iaar 256 1 13 7) []), false, []⟩,
 ⟨10, (oO 15 (.nilc 8) []), false, []⟩,
 ⟨11, (oO 16 (.faddr 259 15) []), false, []⟩,
 ⟨9, (oN (.store 1 14 10) []), true, [3,2]⟩,
 ⟨12, (oO 17 (.iaar 38 1 16 9) []), false, []⟩,
 ⟨13, (oN (.store 1 17 11) []), true, []⟩] [2,6,0,7,8,1,9,10,11,12,13,14,15,16,17])), []⟩
/-- slices.Reverse   byte byte  -/
def f170 : AFn := ⟨1, (rS [oM 4 0 [], oO 5 (.lenL 4) [4], oO 6 (.bin .sub 5 (kI 1)) [5], oA 2 (kI 0) [], oA 3 6 [6]] (.blk 0 (.loop (.seq (rS [oM 7 2 [], oM 8 3 [], oO 9 (.bin .lss 7 8) [7,8]] (.cond 9 .skip
 (.exit 0)))
(.seq (.blk 1 (.dreg [⟨0, (oM 14 0 []), false, []⟩,
 ⟨1, (oM 15 2 []), false, []⟩,
 ⟨2, (oM 16 0 []), false, []⟩,
 ⟨3, (oM 17 3 []), false, []⟩,
 ⟨4, (oM 18 0 []), false, []⟩,
 ⟨5, (oM 19 3 []), false, []⟩,
 ⟨6, (oO 20 (.iasl 1 18 19) []), false, []⟩,
 ⟨7, (oO 21 (.load none 20) []), false, []⟩,
 ⟨8, (oM 22 0 []), false, []⟩,
 ⟨9, (oM 23 2 []), false, []⟩,
 ⟨10, (oO 24 (.iasl 1 22 23) []), false, []⟩,
 ⟨11, (oO 25 (.load none 24) []), false, []⟩,
 ⟨12, (oO 26 (.iasl 1 14 15) []), false, []⟩,
 ⟨13, (oN (.store 1 26 21) []), true, []⟩,
 ⟨14, (oO 27 (.iasl 1 16 17) []), false, []⟩,
 ⟨15, (oN (.store 1 27 25) []), true, []⟩] [14,15,16,17,18,19,20,21,22,23,24,25,26,27]))
(rR [oM 10 2 [2], oO 11 (.bin .add 10 (kI 1)) [10], oM 12 3 [3], oO 13 (.bin .sub 12 (kI 1)) [12], oA 2 11 [11], oA 3 13 [13]])))))), []⟩
/-- interrex/obj.MayNode -/
def f171 : AFn := ⟨1, (rS [oO 1 (.box false 0) [0], oA 2 kF [2]] (rS [oO 3 (.faddr 0 1) [], oO 4 (.load none 3) [3], oO 5 (.call 116 [4]) [4], oM 6 5 [5], oG 7 (.faddr 1 1) 6 [], oG 8 (.load (some 3) 7) 6 [7], oG 9 (.call 117 [8]) 6 [8], oO 10 (.pick 6 9 kF) [6,9], oM 11 10 [10], oG 12 (.faddr 4 1) 11 [], oG 13 (.load none 12) 11 [12], oG 14 (.call 119 [13]) 11 [13], oO 15 (.pick 11 14 kF) [11,14], oM 16 15 [15], oG 17 (.faddr 5 1) 16 [1], oG 18 (.load none 17) 16 [17], oG 19 (.call 221 [18]) 16 [18], oO 20 (.pick 16 19 kF) [16,19], oA 2 20 [20]] .ret)), [.t 2]⟩
/-- interrex/code.putPairs interrex/api.Taint  -/
def f172 : AFn := ⟨3, (rS [oM 10 0 [], oM 11 1 [], oO 12 (.lenL 11) [11], oO 13 (.call 75 [10,12,(kI 1)]) [10,12,13]] (rS [oM 14 1 [1], oO 15 (.lenL 14) [], oM 16 (kI 0) []] (.blk 0 (.loop (rS [oO 17 (.bin .lss 16 15) []] (.seq (.cond 17 .skip
 (.exit 0))
(.seq (.blk 1 (rS [oO 18 (.iasl 2 14 16) [], oO 19 (.load (some 2) 18) [18], oO 7 (.alloc false [vS,vS]) [], oN (.store 2 7 19) [19]] (rS [oM 21 2 [], oO 22 (.load (some 2) 7) [7], oO 23 (.callv 21 [22]) [21,22], oM 20 23 [23], oO 24 (.ext 20 0) [], oO 25 (.ext 20 1) [20], oA 8 24 [24], oA 9 25 [25]] (rS [oM 26 0 [], oM 27 8 [8], oO 28 (.call 76 [26,27]) [26,27,28]] (rR [oM 29 0 [], oM 30 9 [9], oO 31 (.call 76 [29,30]) [29,30,31]])))))
(rR [oO 32 (.bin .add 16 (kI 1)) [16], oM 16 32 [32]])))))))), []⟩
/-- interrex/code.ofTaint -/
def f173 : AFn := ⟨1, (rS [oO 1 (.box false 0) [0], oA 2 (.c vS) [2], oA 3 (.c vS) [3]] (.seq (.dreg [⟨0, (oO 4 (.faddr 0 1) []), false, []⟩,
 ⟨1, (oO 5 (.load none 4) []), false, []⟩,
 ⟨2, (oO 6 (.faddr 1 1) []), false, []⟩,
 ⟨3, (oO 7 (.load none 6) []), false, []⟩,
 ⟨4, (oA 2 5 []), false, []⟩,
 ⟨5, (oA 3 7 []), false, []⟩] [1,4,5,6,7])
.ret)), [.t 2,.t 3]⟩
/-- slices.insertionSortCmpFunc interrex/api.Pod  -/
def f174 : AFn := ⟨4, (rS [oM 10 1 [], oO 11 (.bin .add 10 (kI 1)) [10], oA 8 11 [11]] (.blk 0 (.loop (.seq (rS [oM 12 8 [], oM 13 2 [], oO 14 (.bin .lss 12 13) [12,13]] (.cond 14 .skip
 (.exit 0)))
(.seq (.blk 1 (rS [oM 17 8 [], oA 9 17 [17]] (.blk 2 (.loop (.seq (.seq (.dreg [⟨0, (oM 18 9 []), false, []⟩,
 ⟨1, (oM 19 1 []), false, []⟩,
 ⟨2, (oO 20 (.bin .gtr 18 19) []), false, []⟩,
 ⟨3, (oM 21 20 []), false, []⟩,
 ⟨4, (oG 22 (.mv 3) 21 []), false, []⟩,
 ⟨5, (oG 23 (.mv 0) 21 []), false, []⟩,
 ⟨6, (oG 24 (.mv 9) 21 []), false, []⟩,
 ⟨7, (oG 25 (.iasl 16 23 24) 21 []), false, []⟩,
 ⟨8, (oG 26 (.load (some 16) 25) 21 []), false, []⟩,
 ⟨9, (oG 27 (.mv 0) 21 []), false, []⟩,
 ⟨10, (oG 28 (.mv 9) 21 []), false, []⟩,
 ⟨11, (oG 29 (.bin .sub 28 (kI 1)) 21 []), false, []⟩,
 ⟨12, (oG 30 (.iasl 16 27 29) 21 []), false, []⟩,
 ⟨13, (oG 31 (.load (some 16) 30) 21 []), false, []⟩,
 ⟨14, (oG 32 (.callv 22 [26,31]) 21 []), true, []⟩,
 ⟨15, (oG 33 (.bin .lss 32 (kI 0)) 21 []), false, []⟩,
 ⟨16, (oO 34 (.pick 21 33 kF) []), false, []⟩] [18,19,20,21,22,23,24,25,26,27,28,29,30,31,32,33])
(.cond 34 .skip
 (.exit 2)))
(.seq (.blk 3 (.dreg [⟨0, (oM 37 0 []), false, []⟩,
 ⟨1, (oM 38 9 []), false, []⟩,
 ⟨2, (oM 39 0 []), false, []⟩,
 ⟨3, (oM 40 9 []), false, []⟩,
 ⟨4, (oO 41 (.bin .sub 40 (kI 1)) []), false, []⟩,
 ⟨5, (oM 42 0 []), false, []⟩,
 ⟨6, (oM 43 9 []), false, []⟩,
 ⟨7, (oO 44 (.bin .sub 43 (kI 1)) []), false, []⟩,
 ⟨8, (oO 45 (.iasl 16 42 44) []), false, []⟩,
 ⟨9, (oO 46 (.load (some 16) 45) []), false, []⟩,
 ⟨10, (oM 47 0 []), false, []⟩,
 ⟨11, (oM 48 9 []), false, []⟩,
 ⟨12, (oO 49 (.iasl 16 47 48) []), false, []⟩,
 ⟨13, (oO 50 (.load (some 16) 49) []), false, []⟩,
 ⟨14, (oO 51 (.iasl 16 37 38) []), false, []⟩,
 ⟨15, (oN (.store 16 51 46) []), true, []⟩,
 ⟨16, (oO 52 (.iasl 16 39 41) []), false, []⟩,
 ⟨17, (oN (.store 16 52 50) []), true, []⟩] [37,38,39,40,41,42,43,44,45,46,47,48,49,50,51,52]))
(rR [oM 35 9 [9], oO 36 (.bin .sub 35 (kI 1)) [35], oA 9 36 [36]])))))))
(rR [oM 15 8 [8], oO 16 (.bin .add 15 (kI 1)) [15], oA 8 16 [16]])))))), []⟩
/-- math/bits.Len64 -/
def f183 : AFn := ⟨1, (rS [oA 2 (kI 0) []] (.seq (rS [oM 3 0 [], oO 4 (.bin .geq 3 (.c (.i .u64 4294967296))) [3]] (.cond 4 (rS [oM 5 0 [0], oO 6 (.bin .shr 5 (.c (.i .u64 32))) [5], oA 0 6 [6]] (rR [oA 2 (kI 32) []]))
 .skip))
(.seq (rS [oM 7 0 [], oO 8 (.bin .geq 7 (.c (.i .u64 65536))) [7]] (.cond 8 (rS [oM 9 0 [0], oO 10 (.bin .shr 9 (.c (.i .u64 16))) [9], oA 0 10 [10]] (rR [oM 11 2 [2], oO 12 (.bin .add 11 (kI 16)) [11], oA 2 12 [12]]))
 .skip))
(.seq (rS [oM 13 0 [], oO 14 (.bin .geq 13 (.c (.i .u64 256))) [13]] (.cond 14 (rS [oM 15 0 [0], oO 16 (.bin .shr 15 (.c (.i .u64 8))) [15], oA 0 16 [16]] (rR [oM 17 2 [2], oO 18 (.bin .add 17 (kI 8)) [17], oA 2 18 [18]]))
 .skip))
(rS [oM 19 2 [2], oM 20 0 [0], oO 21 (.cvi .u8 20) [20], oO 22 (.ixs (.c (.s [0,1,2,2,3,3,3,3,4,4,4,4,4,4,4,4,5,5,5,5,5,5,5,5,5,5,5,5,5,5,5,5,6,6,6,6,6,6,6,6,6,6,6,6,6,6,6,6,6,6,6,6,6,6,6,6,6,6,6,6,6,6,6,6,7,7,7,7,7,7,7,7,7,7,7,7,7,7,7,7,7,7,7,7,7,7,7,7,7,7,7,7,7,7,7,7,7,7,7,7,7,7,7,7,7,7,7,7,7,7,7,7,7,7,7,7,7,7,7,7,7,7,7,7,7,7,7,7,8,8,8,8,8,8,8,8,8,8,8,8,8,8,8,8,8,8,8,8,8,8,8,8,8,8,8,8,8,8,8,8,8,8,8,8,8,8,8,8,8,8,8,8,8,8,8,8,8,8,8,8,8,8,8,8,8,8,8,8,8,8,8,8,8,8,8,8,8,8,8,8,8,8,8,8,8,8,8,8,8,8,8,8,8,8,8,8,8,8,8,8,8,8,8,8,8,8,8,8,8,8,8,8,8,8,8,8,8,8,8,8,8,8,8,8,8,8,8,8,8,8,8,8,8,8,8,8])) 21) [21], oO 23 (.cvi .i64 22) [22], oO 24 (.bin .add 19 23) [19,23], oA 2 24 [24]] .ret))))), [.t 2]⟩
/-- slices.insertionSortCmpFunc interrex/api.Node  -/
def f185 : AFn := ⟨4, (rS [oM 10 1 [], oO 11 (.bin .add 10 (kI 1)) [10], oA 8 11 [11]] (.blk 0 (.loop (.seq (rS [oM 12 8 [], oM 13 2 [], oO 14 (.bin .lss 12 13) [12,13]] (.cond 14 .skip
 (.exit 0)))
(.seq (.blk 1 (rS [oM 17 8 [], oA 9 17 [17]] (.blk 2 (.loop (.seq (.seq (.dreg [⟨0, (oM 18 9 []), false, []⟩,
 ⟨1, (oM 19 1 []), false, []⟩,
 ⟨2, (oO 20 (.bin .gtr 18 19) []), false, []⟩,
 ⟨3, (oM 21 20 []), false, []⟩,
 ⟨4, (oG 22 (.mv 3) 21 []), false, []⟩,
 ⟨5, (oG 23 (.mv 0) 21 []), false, []⟩,
 ⟨6, (oG 24 (.mv 9) 21 []), false, []⟩,
 ⟨7, (oG 25 (.iasl 6 23 24) 21 []), false, []⟩,
 ⟨8, (oG 26 (.load (some 6) 25) 21 []), false, []⟩,
 ⟨9, (oG 27 (.mv 0) 21 []), false, []⟩,
 ⟨10, (oG 28 (.mv 9) 21 []), false, []⟩,
 ⟨11, (oG 29 (.bin .sub 28 (kI 1)) 21 []), false, []⟩,
 ⟨12, (oG 30 (.iasl 6 27 29) 21 []), false, []⟩,
 ⟨13, (oG 31 (.load (some 6) 30) 21 []), false, []⟩,
 ⟨14, (oG 32 (.callv 22 [26,31]) 21 []), true, []⟩,
 ⟨15, (oG 33 (.bin .lss 32 (kI 0)) 21 []), false, []⟩,
 ⟨16, (oO 34 (.pick 21 33 kF) []), false, []⟩] [18,19,20,21,22,23,24,25,26,27,28,29,30,31,32,33])
(.cond 34 .skip
 (.exit 2)))
(.seq (.blk 3 (.dreg [⟨0, (oM 37 0 []), false, []⟩,
 ⟨1, (oM 38 9 []), false, []⟩,
 ⟨2, (oM 39 0 []), false, []⟩,
 ⟨3, (oM 40 9 []), false, []⟩,
 ⟨4, (oO 41 (.bin .sub 40 (kI 1)) []), false, []⟩,
 ⟨5, (oM 42 0 []), false, []⟩,
 ⟨6, (oM 43 9 []), false, []⟩,
 ⟨7, (oO 44 (.bin .sub 43 (kI 1)) []), false, []⟩,
 ⟨8, (oO 45 (.iasl 6 42 44) []), false, []⟩,
 ⟨9, (oO 46 (.load (some 6) 45) []), false, []⟩,
 ⟨10, (oM 47 0 []), false, []⟩,
 ⟨11, (oM 48 9 []), false, []⟩,
 ⟨12, (oO 49 (.iasl 6 47 48) []), false, []⟩,
 ⟨13, (oO 50 (.load (some 6) 49) []), false, []⟩,
 ⟨14, (oO 51 (.iasl 6 37 38) []), false, []⟩,
 ⟨15, (oN (.store 6 51 46) []), true, []⟩,
 ⟨16, (oO 52 (.iasl 6 39 41) []), false, []⟩,
 ⟨17, (oN (.store 6 52 50) []), true, []⟩] [37,38,39,40,41,42,43,44,45,46,47,48,49,50,51,52]))
(rR [oM 35 9 [9], oO 36 (.bin .sub 35 (kI 1)) [35], oA 9 36 [36]])))))))
(rR [oM 15 8 [8], oO 16 (.bin .add 15 (kI 1)) [15], oA 8 16 [16]])))))), []⟩
/-- ( interrex/wire.Reader).Text -/
def f193 : AFn := ⟨1, (rS [oA 2 (.c vS) [2]] (rS [oM 5 0 [], oO 6 (.call 129 [5,(kI 2)]) [5], oA 3 6 [6]] (.seq (rS [oM 7 3 [], oM 8 0 [], oO 9 (.nilc 8) [8], oO 10 (.faddr 297 9) [9], oO 11 (.load none 10) [10], oO 12 (.lenL 11) [11], oO 13 (.bin .gtr 7 12) [7,12]] (.cond 13 (rS [oM 14 0 [], oM 15 0 [0], oO 16 (.nilc 14) [14], oO 17 (.faddr 298 16) [16], oN (.store 1 17 kT) [17], oO 18 (.nilc 15) [15], oO 19 (.faddr 297 18) [18], oN (.store 1 19 (.c .nils)) [19]] (rS [oA 2 (.c vS) []] .ret))
 .skip))
(rS [oM 20 0 [], oO 21 (.nilc 20) [20], oO 22 (.faddr 297 21) [21], oO 23 (.load none 22) [22], oM 24 3 [], oO 25 (.slsl 1 23 none (some 24) none) [23,24], oO 26 (.b2s 25) [25], oA 4 26 [26]] (rS [oM 27 0 [], oM 28 0 [0], oO 29 (.nilc 28) [28], oO 30 (.faddr 297 29) [29], oO 31 (.load none 30) [30], oM 32 3 [3], oO 33 (.slsl 1 31 (some 32) none none) [31,32], oO 34 (.nilc 27) [27], oO 35 (.faddr 297 34) [34], oN (.store 1 35 33) [35,33]] (rS [oM 36 4 [4], oA 2 36 [36]] .ret)))))), [.t 2]⟩
/-- interrex/call.May -/
def f194 : AFn := ⟨1, (rS [oO 1 (.box false 0) [0], oA 2 kF [2]] (.seq (.seq (.dreg [⟨0, (oO 3 (.faddr 0 1) []), false, []⟩,
 ⟨1, (oO 4 (.load none 3) []), false, []⟩,
 ⟨2, (oO 5 (.bin .lss 4 (kI 0)) []), false, []⟩,
 ⟨3, (oM 6 5 []), false, []⟩,
 ⟨4, (oH 7 (.faddr 0 1) 6 []), false, []⟩,
 ⟨5, (oH 8 (.load none 7) 6 []), false, []⟩,
 ⟨6, (oH 9 (.bin .gtr 8 (kI 7)) 6 []), false, []⟩,
 ⟨7, (oO 10 (.pick 6 kT 9) []), false, []⟩,
 ⟨8, (oM 11 10 []), false, []⟩,
 ⟨9, (oH 12 (.faddr 1 1) 11 []), false, []⟩,
 ⟨10, (oH 13 (.load none 12) 11 []), false, []⟩,
 ⟨11, (oH 14 (.bin .lss 13 (kI 1)) 11 []), false, []⟩,
 ⟨12, (oO 15 (.pick 11 kT 14) []), false, []⟩,
 ⟨13, (oM 16 15 []), false, []⟩,
 ⟨14, (oH 17 (.faddr 1 1) 16 []), false, []⟩,
 ⟨15, (oH 18 (.load none 17) 16 []), false, []⟩,
 ⟨16, (oH 19 (.bin .gtr 18 (kI 1099511627776)) 16 []), false, []⟩,
 ⟨17, (oO 20 (.pick 16 kT 19) []), false, []⟩,
 ⟨18, (oM 21 20 []), false, []⟩,
 ⟨19, (oH 22 (.load (some 7) 1) 21 []), false, []⟩,
 ⟨20, (oH 23 (.load (some 7) 1) 21 []), false, []⟩,
 ⟨21, (oH 24 (.call 230 [23]) 21 []), true, [19]⟩,
 ⟨22, (oH 25 (.call 153 [22,24]) 21 []), true, []⟩,
 ⟨23, (oH 26 (.un .not 25) 21 []), false, []⟩,
 ⟨24, (oO 27 (.pick 21 kT 26) []), false, []⟩] [3,4,5,6,7,8,9,10,11,12,13,14,15,16,17,18,19,20,21,22,23,24,25,26])
(.cond 27 (rS [oA 2 kF []] .ret)
 .skip))
(.seq (rS [oO 28 (.faddr 2 1) [], oO 29 (.load none 28) [28]] (.blk 0 (rS [oO 31 (.bin .eql 29 (kI 1)) [], oA 30 31 [31]] (.cond 30 (rS [oO 32 (.faddr 3 1) [1], oO 33 (.load none 32) [32], oO 34 (.call 231 [33]) [33], oA 2 34 [34]] .ret)
 (rS [oO 36 (.bin .eql 29 (kI 2)) [], oA 35 36 [36]] (.cond 35 (rS [oA 2 kT []] .ret)
 (rS [oO 38 (.bin .eql 29 (kI 3)) [], oA 37 38 [38]] (.cond 37 (rS [oO 39 (.faddr 4 1) [1], oO 40 (.load none 39) [39], oO 41 (.call 232 [40]) [40], oA 2 41 [41]] .ret)
 (rS [oO 43 (.bin .eql 29 (kI 4)) [29], oA 42 43 [43]] (.cond 42 (rS [oO 44 (.faddr 5 1) [1], oO 45 (.load (some 2) 44) [44], oO 46 (.call 233 [45]) [45], oA 2 46 [46]] .ret)
 .skip))))))))))
(rS [oA 2 kF []] .ret)))), [.t 2]⟩
/-- ( interrex/wire.Writer).Text -/
def f195 : AFn := ⟨2, (rS [oM 4 0 [], oM 5 1 [], oO 6 (.lenS 5) [5], oO 7 (.call 75 [4,6,(kI 2)]) [4,6,7]] (rR [oM 8 0 [], oM 9 0 [0], oO 10 (.nilc 9) [9], oO 11 (.faddr 297 10) [10], oO 12 (.load none 11) [11], oM 13 1 [1], oO 14 (.append (.im true) 1 1 12 13) [12,13], oO 15 (.nilc 8) [8], oO 16 (.faddr 297 15) [15], oN (.store 1 16 14) [16,14]])), []⟩
/-- interrex/reply.May -/
def f196 : AFn := ⟨1, (rS [oO 1 (.box false 0) [0], oA 2 kF [2]] (.seq (rS [oO 4 (.faddr 0 1) [], oO 5 (.load none 4) [4], oO 6 (.bin .lss 5 (kI 0)) [5], oM 7 6 [6], oH 8 (.faddr 0 1) 7 [], oH 9 (.load none 8) 7 [8], oH 10 (.bin .gtr 9 (kI 7)) 7 [9], oO 11 (.pick 7 kT 10) [7,10], oM 12 11 [11], oH 13 (.faddr 1 1) 12 [], oH 14 (.load none 13) 12 [13], oH 15 (.bin .lss 14 (kI 1)) 12 [14], oO 16 (.pick 12 kT 15) [12,15], oM 17 16 [16], oH 18 (.faddr 1 1) 17 [], oH 19 (.load none 18) 17 [18], oH 20 (.bin .gtr 19 (kI 1099511627776)) 17 [19], oO 21 (.pick 17 kT 20) [17,20], oM 22 21 [21], oH 23 (.faddr 2 1) 22 [], oH 24 (.load none 23) 22 [23], oH 25 (.bin .lss 24 (kI 1)) 22 [24], oO 26 (.pick 22 kT 25) [22,25], oM 27 26 [26], oH 28 (.faddr 2 1) 27 [], oH 29 (.load none 28) 27 [28], oH 30 (.bin .gtr 29 (kI 4)) 27 [29], oO 31 (.pick 27 kT 30) [27,30], oM 32 31 [31], oH 33 (.faddr 3 1) 32 [], oH 34 (.load none 33) 32 [33], oH 35 (.bin .lss 34 (kI 0)) 32 [34], oO 36 (.pick 32 kT 35) [32,35], oM 37 36 [36], oH 38 (.faddr 3 1) 37 [], oH 39 (.load none 38) 37 [38], oH 40 (.bin .gtr 39 (kI 9)) 37 [39], oO 41 (.pick 37 kT 40) [37,40], oM 42 41 [41], oH 43 (.faddr 4 1) 42 [], oH 44 (.load none 43) 42 [43], oH 45 (.bin .lss 44 (kI 0)) 42 [44], oO 46 (.pick 42 kT 45) [42,45], oM 47 46 [46], oH 48 (.faddr 4 1) 47 [], oH 49 (.load none 48) 47 [48], oH 50 (.bin .gtr 49 (kI 1099511627776)) 47 [49], oO 51 (.pick 47 kT 50) [47,50]] (.cond 51 (rS [oA 2 kF []] .ret)
 .skip))
(rS [oO 52 (.faddr 5 1) [], oO 53 (.load none 52) [52], oO 54 (.call 234 [53,(.c (.fn 235 [] []))]) [53], oA 3 54 [54]] (rS [oM 55 3 [3], oM 56 55 [55], oH 57 (.faddr 6 1) 56 [], oH 58 (.load none 57) 56 [57], oH 59 (.call 237 [58,(.c (.fn 238 [] []))]) 56 [58], oO 60 (.pick 56 kT 59) [56,59], oA 3 60 [60]] (rS [oM 61 3 [3], oO 62 (.un .not 61) [61], oM 63 62 [62], oG 64 (.faddr 5 1) 63 [], oG 65 (.load none 64) 63 [64], oG 66 (.lenL 65) 63 [65], oG 67 (.bin .leq 66 (kI 100)) 63 [66], oO 68 (.pick 63 67 kF) [63,67], oM 69 68 [68], oG 70 (.faddr 6 1) 69 [1], oG 71 (.load none 70) 69 [70], oG 72 (.lenL 71) 69 [71], oG 73 (.bin .leq 72 (kI 100)) 69 [72], oO 74 (.pick 69 73 kF) [69,73], oA 2 74 [74]] .ret))))), [.t 2]⟩
/-- interrex/interrexlaw1.begun -/
def f197 : AFn := ⟨0, (rS [oA 0 kF [0]] (rS [oO 10 (.bld [(vI 0),(vI 0),(vI 0)] [(0, 1, (kI 1)),(1, 1, (kI 2)),(2, 1, (kI 3))]) [], oO 11 (.bld [(vI 0),(vI 0),(vI 0)] [(0, 1, (kI 4)),(1, 1, (kI 5)),(2, 1, (kI 6))]) [], oO 12 (.bsl (.im false) 3 2 [(vI 0),(vI 0),(vI 0)] [(0, 10),(1, 11)]) [10,11], oO 13 (.call 239 [12]) [12], oM 9 13 [13], oO 14 (.ext 9 0) [], oO 15 (.ext 9 1) [9], oO 1 (.alloc false [(vI 0),(vI 0),(vI 0)]) [], oN (.store 3 1 14) [14], oA 2 15 [15]] (rS [oO 16 (.call 52 []) [], oO 3 (.alloc false [vS,(vI 0),(vI 0),(vI 0),(vI 0),(vI 0),.nils,.nils,.nils,.nils,vS,.nils,(vI 0),.nils,vS,(vI 0)]) [], oN (.store 16 3 16) [16]] (rS [oO 17 (.load (some 16) 3) [], oO 18 (.call 33 [17]) [17], oA 4 18 [18]] (rS [oM 20 4 [], oO 21 (.call 95 [20]) [20], oM 19 21 [21], oO 22 (.ext 19 0) [], oO 23 (.ext 19 1) [19], oO 5 (.alloc false [vS,(vI 0),(vI 0),(vI 0),(vI 0),(vI 0),.nils,.nils,.nils,.nils,vS,.nils,(vI 0),.nils,vS,(vI 0)]) [], oN (.store 16 5 22) [22], oA 6 23 [23]] (rS [oO 25 (.bld [(vI 0),(vI 0)] [(0, 1, (kI 3)),(1, 1, (kI 1000))]) [], oO 26 (.call 47 [25]) [25], oO 27 (.call 240 [26]) [26], oM 24 27 [27], oO 28 (.ext 24 0) [], oO 29 (.ext 24 1) [24], oO 7 (.alloc false [(vI 0),(vI 0)]) [], oN (.store 2 7 28) [28], oA 8 29 [29]] (rS [oM 30 2 [2], oM 31 30 [30], oG 32 (.load (some 3) 1) 31 [1], oG 33 (.bld [(vI 0),(vI 0),(vI 0)] [(0, 1, (kI 5)),(1, 1, (kI 7)),(2, 1, (kI 9))]) 31 [], oG 34 (.eqc true [.i,.i,.i] false 32 33) 31 [32,33], oO 35 (.pick 31 34 kF) [31,34], oM 36 35 [35], oG 37 (.call 241 [(kI 1),(kI 3)]) 36 [], oG 38 (.bin .eql 37 (kI 33)) 36 [37], oO 39 (.pick 36 38 kF) [36,38], oM 40 39 [39], oG 41 (.faddr 8 3) 40 [], oG 42 (.load none 41) 40 [41], oG 43 (.bld [vS,vS] [(0, 1, (.c (.s [122,111,110,101]))),(1, 1, (.c (.s [98])))]) 40 [], oG 44 (.bsl (.im false) 2 1 [vS,vS] [(0, 43)]) 40 [43], oG 45 (.call 242 [42,44]) 40 [42,44], oO 46 (.pick 40 45 kF) [40,45], oM 47 46 [46], oG 48 (.faddr 9 3) 47 [], oG 49 (.load none 48) 47 [48], oG 50 (.bld [vS,vS] [(0, 1, (.c (.s [120]))),(1, 1, (.c (.s [121])))]) 47 [], oG 51 (.bsl (.im false) 2 1 [vS,vS] [(0, 50)]) 47 [50], oG 52 (.call 243 [49,51]) 47 [49,51], oO 53 (.pick 47 52 kF) [47,52], oM 54 53 [53], oG 55 (.load (some 16) 3) 54 [], oG 56 (.call 74 [55]) 54 [55], oO 57 (.pick 54 56 kF) [54,56], oM 58 57 [57], oG 59 (.mv 6) 58 [6], oO 60 (.pick 58 59 kF) [58,59], oM 61 60 [60], oG 62 (.load (some 16) 3) 61 [3], oG 63 (.load (some 16) 5) 61 [5], oG 64 (.call 244 [62,63]) 61 [62,63], oO 65 (.pick 61 64 kF) [61,64], oM 66 65 [65], oG 67 (.mv 4) 66 [4], oG 68 (.lenL 67) 66 [67], oG 69 (.bin .gtr 68 (kI 0)) 66 [68], oO 70 (.pick 66 69 kF) [66,69], oM 71 70 [70], oG 72 (.mv 8) 71 [8], oO 73 (.pick 71 72 kF) [71,72], oM 74 73 [73], oG 75 (.faddr 0 7) 74 [7], oG 76 (.load none 75) 74 [75], oG 77 (.bin .eql 76 (kI 3)) 74 [76], oO 78 (.pick 74 77 kF) [74,77], oM 79 78 [78], oG 80 (.call 93 [(kI 1),(.c (.s [97]))]) 79 [], oG 81 (.bin .eql 80 (.c (.s [112,47,97]))) 79 [80], oO 82 (.pick 79 81 kF) [79,81], oM 83 82 [82], oG 84 (.call 94 [(.c (.s [110,47,98]))]) 83 [], oG 85 (.bin .eql 84 (kI 2)) 83 [84], oO 86 (.pick 83 85 kF) [83,85], oA 0 86 [86]] .ret))))))), [.t 0]⟩
/-- slices.Equal   interrex/api.Guard interrex/api.Guard  -/
def f198 : AFn := ⟨2, (rS [oA 4 kF [4]] (.seq (rS [oM 6 0 [], oO 7 (.lenL 6) [6], oM 8 1 [], oO 9 (.lenL 8) [8], oO 10 (.bin .neq 7 9) [7,9]] (.cond 10 (rS [oA 4 kF []] .ret)
 .skip))
(.seq (rS [oM 11 0 [], oO 12 (.lenL 11) [11], oM 13 (kI 0) []] (.blk 0 (.loop (rS [oO 14 (.bin .lss 13 12) []] (.seq (.cond 14 .skip
 (.exit 0))
(.seq (.blk 1 (rS [oM 15 13 [], oA 5 15 [15]] (.seq (.dreg [⟨0, (oM 16 0 []), false, []⟩,
 ⟨1, (oM 17 5 []), false, []⟩,
 ⟨2, (oO 18 (.iasl 3 16 17) []), false, []⟩,
 ⟨3, (oO 19 (.load (some 3) 18) []), false, []⟩,
 ⟨4, (oM 20 1 []), false, []⟩,
 ⟨5, (oM 21 5 []), false, []⟩,
 ⟨6, (oO 22 (.iasl 3 20 21) []), false, []⟩,
 ⟨7, (oO 23 (.load (some 3) 22) []), false, []⟩,
 ⟨8, (oO 24 (.eqc true [.s,.i,.b] true 19 23) []), false, []⟩] [16,5,17,18,19,20,21,22,23])
(.cond 24 (rS [oA 4 kF []] .ret)
 .skip))))
(rR [oO 25 (.bin .add 13 (kI 1)) [13], oM 13 25 [25]])))))))
(rS [oA 4 kT []] .ret)))), [.t 4]⟩
/-- slices.EqualFunc   interrex/api.Write   interrex/api.Write interrex/api.Write interrex/api.Write  -/
def f199 : AFn := ⟨3, (rS [oA 6 kF [6]] (.seq (rS [oM 10 0 [], oO 11 (.lenL 10) [10], oM 12 1 [], oO 13 (.lenL 12) [12], oO 14 (.bin .neq 11 13) [11,13]] (.cond 14 (rS [oA 6 kF []] .ret)
 .skip))
(.seq (rS [oM 15 0 [0], oO 16 (.lenL 15) [], oM 17 (kI 0) []] (.blk 0 (.loop (rS [oO 18 (.bin .lss 17 16) []] (.seq (.cond 18 .skip
 (.exit 0))
(.seq (.blk 1 (rS [oM 19 17 [], oO 20 (.iasl 3 15 17) [], oO 21 (.load (some 3) 20) [20], oO 8 (.alloc false [vS,.nils,(.b false)]) [], oA 7 19 [19], oN (.store 3 8 21) [21]] (rS [oM 22 1 [], oM 23 7 [7], oO 24 (.iasl 3 22 23) [22,23], oO 25 (.load (some 3) 24) [24], oO 9 (.alloc false [vS,.nils,(.b false)]) [], oN (.store 3 9 25) [25]] (rS [oM 26 2 [], oO 27 (.load (some 3) 8) [8], oO 28 (.load (some 3) 9) [9], oO 29 (.callv 26 [27,28]) [26,27,28], oO 30 (.un .not 29) [29]] (.cond 30 (rS [oA 6 kF []] .ret)
 .skip)))))
(rR [oO 31 (.bin .add 17 (kI 1)) [17], oM 17 31 [31]])))))))
(rS [oA 6 kT []] .ret)))), [.t 6]⟩
/-- slices.EqualFunc   interrex/api.Entry   interrex/api.Entry interrex/api.Entry interrex/api.Entry  -/
def f201 : AFn := ⟨3, (rS [oA 6 kF [6]] (.seq (rS [oM 10 0 [], oO 11 (.lenL 10) [10], oM 12 1 [], oO 13 (.lenL 12) [12], oO 14 (.bin .neq 11 13) [11,13]] (.cond 14 (rS [oA 6 kF []] .ret)
 .skip))
(.seq (rS [oM 15 0 [0], oO 16 (.lenL 15) [], oM 17 (kI 0) []] (.blk 0 (.loop (rS [oO 18 (.bin .lss 17 16) []] (.seq (.cond 18 .skip
 (.exit 0))
(.seq (.blk 1 (rS [oM 19 17 [], oO 20 (.iasl 3 15 17) [], oO 21 (.load (some 3) 20) [20], oO 8 (.alloc false [vS,(vI 0),.nils]) [], oA 7 19 [19], oN (.store 3 8 21) [21]] (rS [oM 22 1 [], oM 23 7 [7], oO 24 (.iasl 3 22 23) [22,23], oO 25 (.load (some 3) 24) [24], oO 9 (.alloc false [vS,(vI 0),.nils]) [], oN (.store 3 9 25) [25]] (rS [oM 26 2 [], oO 27 (.load (some 3) 8) [8], oO 28 (.load (some 3) 9) [9], oO 29 (.callv 26 [27,28]) [26,27,28], oO 30 (.un .not 29) [29]] (.cond 30 (rS [oA 6 kF []] .ret)
 .skip)))))
(rR [oO 31 (.bin .add 17 (kI 1)) [17], oM 17 31 [31]])))))))
(rS [oA 6 kT []] .ret)))), [.t 6]⟩
/-- interrex/reply.Eq 1 -/
def f202 : AFn := ⟨2, (rS [oO 2 (.box false 0) [0], oO 3 (.box false 1) [1], oA 4 kF [4]] (rS [oO 5 (.faddr 0 2) [], oO 6 (.load none 5) [5], oO 7 (.faddr 0 3) [], oO 8 (.load none 7) [7], oO 9 (.bin .eql 6 8) [6,8], oM 10 9 [9], oG 11 (.faddr 1 2) 10 [], oG 12 (.load none 11) 10 [11], oG 13 (.faddr 1 3) 10 [], oG 14 (.load none 13) 10 [13], oG 15 (.bin .eql 12 14) 10 [12,14], oO 16 (.pick 10 15 kF) [10,15], oM 17 16 [16], oG 18 (.faddr 2 2) 17 [2], oG 19 (.load none 18) 17 [18], oG 20 (.faddr 2 3) 17 [3], oG 21 (.load none 20) 17 [20], oG 22 (.call 138 [19,21]) 17 [19,21], oO 23 (.pick 17 22 kF) [17,22], oA 4 23 [23]] .ret)), [.t 4]⟩
/-- slices.EqualFunc   interrex/api.Event   interrex/api.Event interrex/api.Event interrex/api.Event  -/
def f203 : AFn := ⟨3, (rS [oA 6 kF [6]] (.seq (rS [oM 10 0 [], oO 11 (.lenL 10) [10], oM 12 1 [], oO 13 (.lenL 12) [12], oO 14 (.bin .neq 11 13) [11,13]] (.cond 14 (rS [oA 6 kF []] .ret)
 .skip))
(.seq (rS [oM 15 0 [0], oO 16 (.lenL 15) [], oM 17 (kI 0) []] (.blk 0 (.loop (rS [oO 18 (.bin .lss 17 16) []] (.seq (.cond 18 .skip
 (.exit 0))
(.seq (.blk 1 (rS [oM 19 17 [], oO 20 (.iasl 4 15 17) [], oO 21 (.load (some 4) 20) [20], oO 8 (.alloc false [(vI 0),vS,.nils,(.b false)]) [], oA 7 19 [19], oN (.store 4 8 21) [21]] (rS [oM 22 1 [], oM 23 7 [7], oO 24 (.iasl 4 22 23) [22,23], oO 25 (.load (some 4) 24) [24], oO 9 (.alloc false [(vI 0),vS,.nils,(.b false)]) [], oN (.store 4 9 25) [25]] (rS [oM 26 2 [], oO 27 (.load (some 4) 8) [8], oO 28 (.load (some 4) 9) [9], oO 29 (.callv 26 [27,28]) [26,27,28], oO 30 (.un .not 29) [29]] (.cond 30 (rS [oA 6 kF []] .ret)
 .skip)))))
(rR [oO 31 (.bin .add 17 (kI 1)) [17], oM 17 31 [31]])))))))
(rS [oA 6 kT []] .ret)))), [.t 6]⟩
/-- slices.IndexFunc   interrex/api.Term interrex/api.Term  -/
def f215 : AFn := ⟨2, (rS [oA 4 (kI 0) [4]] (.seq (rS [oM 6 0 [], oO 7 (.lenL 6) [6], oM 8 (kI 0) []] (.blk 0 (.loop (rS [oO 9 (.bin .lss 8 7) []] (.seq (.cond 9 .skip
 (.exit 0))
(.seq (.blk 1 (rS [oM 10 8 [], oA 5 10 [10]] (rS [oM 11 1 [], oM 12 0 [], oM 13 5 [], oO 14 (.iasl 3 12 13) [12,13], oO 15 (.load (some 3) 14) [14], oO 16 (.callv 11 [15]) [11,15]] (.cond 16 (rS [oM 17 5 [5], oA 4 17 [17]] .ret)
 .skip))))
(rR [oO 18 (.bin .add 8 (kI 1)) [8], oM 8 18 [18]])))))))
(rS [oA 4 (kI (-1)) []] .ret))), [.t 4]⟩
/-- slices.ContainsFunc   string string  -/
def f216 : AFn := ⟨2, (rS [oA 4 kF [4]] (rS [oM 5 0 [0], oM 6 1 [1], oO 7 (.call 249 [5,6]) [5,6], oO 8 (.bin .geq 7 (kI 0)) [7], oA 4 8 [8]] .ret)), [.t 4]⟩
/-- interrex/label.mayTerm 1 -/
def f217 : AFn := ⟨1, (rS [oA 2 kF [2]] (rS [oM 3 0 [0], oO 4 (.call 116 [3]) [3], oO 5 (.un .not 4) [4], oA 2 5 [5]] .ret)), [.t 2]⟩
/-- slices.IndexFunc   interrex/api.Toler interrex/api.Toler  -/
def f218 : AFn := ⟨2, (rS [oA 4 (kI 0) [4]] (.seq (rS [oM 6 0 [], oO 7 (.lenL 6) [6], oM 8 (kI 0) []] (.blk 0 (.loop (rS [oO 9 (.bin .lss 8 7) []] (.seq (.cond 9 .skip
 (.exit 0))
(.seq (.blk 1 (rS [oM 10 8 [], oA 5 10 [10]] (rS [oM 11 1 [], oM 12 0 [], oM 13 5 [], oO 14 (.iasl 3 12 13) [12,13], oO 15 (.load (some 3) 14) [14], oO 16 (.callv 11 [15]) [11,15]] (.cond 16 (rS [oM 17 5 [5], oA 4 17 [17]] .ret)
 .skip))))
(rR [oO 18 (.bin .add 8 (kI 1)) [8], oM 8 18 [18]])))))))
(rS [oA 4 (kI (-1)) []] .ret))), [.t 4]⟩
/-- interrex/call.bare -/
def f230 : AFn := ⟨1, (rS [oO 1 (.box false 0) [0], oO 2 (.alloc false [(vI 0),(vI 0),(vI 0),vS,(vI 0),.nils,.nils]) []] (rS [oO 4 (.faddr 0 1) [], oO 5 (.load none 4) [4], oO 6 (.faddr 1 1) [], oO 7 (.load none 6) [6], oO 8 (.faddr 2 1) [], oO 9 (.load none 8) [8], oO 10 (.bld [(vI 0),(vI 0),(vI 0),vS,(vI 0),.nils,.nils] [(0, 1, 5),(1, 1, 7),(2, 1, 9)]) [5,7,9], oO 3 (.alloc false [(vI 0),(vI 0),(vI 0),vS,(vI 0),.nils,.nils]) [], oN (.store 7 3 10) [10]] (.seq (rS [oO 11 (.faddr 2 1) [], oO 12 (.load none 11) [11]] (.blk 0 (rS [oO 14 (.bin .eql 12 (kI 1)) [], oA 13 14 [14]] (.cond 13 (rR [oO 15 (.faddr 3 1) [1], oO 16 (.load none 15) [15], oO 17 (.faddr 3 3) [], oN (.store 1 17 16) [17,16]])
 (rS [oO 19 (.bin .eql 12 (kI 3)) [], oA 18 19 [19]] (.cond 18 (rR [oO 20 (.faddr 4 1) [1], oO 21 (.load none 20) [20], oO 22 (.faddr 4 3) [], oN (.store 1 22 21) [22,21]])
 (rS [oO 24 (.bin .eql 12 (kI 4)) [12], oA 23 24 [24]] (.cond 23 (rR [oO 25 (.faddr 5 1) [1], oO 26 (.load (some 2) 25) [25], oO 27 (.faddr 5 3) [], oN (.store 2 27 26) [27,26]])
 .skip))))))))
(rS [oO 28 (.load (some 7) 3) [3], oN (.store 7 2 28) [28]] .ret)))), [.cell 2 (some 7)]⟩
/-- slices.ContainsFunc   interrex/api.Entry interrex/api.Entry  -/
def f234 : AFn := ⟨2, (rS [oA 4 kF [4]] (rS [oM 5 0 [0], oM 6 1 [1], oO 7 (.call 256 [5,6]) [5,6], oO 8 (.bin .geq 7 (kI 0)) [7], oA 4 8 [8]] .ret)), [.t 4]⟩
/-- interrex/reply.May 1 -/
def f235 : AFn := ⟨1, (rS [oO 1 (.box false 0) [0], oA 2 kF [2]] (rS [oO 3 (.faddr 0 1) [], oO 4 (.load none 3) [3], oO 5 (.faddr 1 1) [], oO 6 (.load none 5) [5], oO 7 (.faddr 2 1) [1], oO 8 (.load none 7) [7], oO 9 (.call 236 [4,6,8]) [4,6,8], oO 10 (.un .not 9) [9], oA 2 10 [10]] .ret)), [.t 2]⟩
/-- interrex/reply.row -/
def f236 : AFn := ⟨3, (rS [oA 6 kF [6]] (rS [oM 7 0 [], oO 8 (.lenS 7) [7], oO 9 (.bin .geq 8 (kI 1)) [8], oM 10 9 [9], oG 11 (.mv 0) 10 [0], oG 12 (.lenS 11) 10 [11], oG 13 (.bin .leq 12 (kI 20)) 10 [12], oO 14 (.pick 10 13 kF) [10,13], oM 15 14 [14], oG 16 (.mv 1) 15 [], oG 17 (.bin .geq 16 (kI 1)) 15 [16], oO 18 (.pick 15 17 kF) [15,17], oM 19 18 [18], oG 20 (.mv 1) 19 [1], oG 21 (.bin .leq 20 (kI 1099511627776)) 19 [20], oO 22 (.pick 19 21 kF) [19,21], oM 23 22 [22], oG 24 (.mv 2) 23 [2], oG 25 (.lenL 24) 23 [24], oG 26 (.bin .leq 25 (kI 4000)) 23 [25], oO 27 (.pick 23 26 kF) [23,26], oA 6 27 [27]] .ret)), [.t 6]⟩
/-- slices.ContainsFunc   interrex/api.Event interrex/api.Event  -/
def f237 : AFn := ⟨2, (rS [oA 4 kF [4]] (rS [oM 5 0 [0], oM 6 1 [1], oO 7 (.call 159 [5,6]) [5,6], oO 8 (.bin .geq 7 (kI 0)) [7], oA 4 8 [8]] .ret)), [.t 4]⟩
/-- interrex/qty.Sum -/
def f239 : AFn := ⟨1, (rS [oO 2 (.alloc false [(vI 0),(vI 0),(vI 0)]) [], oA 3 kF [3]] (rS [oO 4 (.alloc false [(vI 0),(vI 0),(vI 0)]) []] (.seq (rS [oM 9 0 [0], oO 10 (.lenL 9) [], oM 11 (kI 0) []] (.blk 0 (.loop (rS [oO 12 (.bin .lss 11 10) []] (.seq (.cond 12 .skip
 (.exit 0))
(.seq (.blk 1 (rS [oO 13 (.iasl 3 9 11) [], oO 14 (.load (some 3) 13) [13], oO 6 (.alloc false [(vI 0),(vI 0),(vI 0)]) [], oN (.store 3 6 14) [14]] (rS [oO 16 (.load (some 3) 4) [], oO 17 (.load (some 3) 6) [6], oO 18 (.call 257 [16,17]) [16,17], oM 15 18 [18], oO 19 (.ext 15 0) [], oO 20 (.ext 15 1) [15], oO 7 (.alloc false [(vI 0),(vI 0),(vI 0)]) [], oN (.store 3 7 19) [19], oA 8 20 [20]] (.seq (rS [oM 21 8 [8], oO 22 (.un .not 21) [21]] (.cond 22 (rS [oO 23 (.bld [(vI 0),(vI 0),(vI 0)] []) [], oN (.store 3 2 23) [23], oA 3 kF []] .ret)
 .skip))
(rR [oO 24 (.load (some 3) 7) [7], oN (.store 3 4 24) [24]])))))
(rR [oO 25 (.bin .add 11 (kI 1)) [11], oM 11 25 [25]])))))))
(rS [oO 26 (.load (some 3) 4) [4], oN (.store 3 2 26) [26], oA 3 kT []] .ret)))), [.cell 2 (some 3),.t 3]⟩
/-- interrex/code.GetLease -/
def f240 : AFn := ⟨1, (rS [oO 2 (.alloc false [(vI 0),(vI 0)]) [], oA 3 kF [3]] (rS [oM 6 0 [], oO 7 (.call 128 [6]) [6], oA 4 7 [7]] (rS [oM 8 4 [], oO 9 (.call 129 [8,(kI 1)]) [8,9]] (rS [oM 10 4 [], oO 11 (.call 129 [10,(kI 1)]) [10], oM 12 4 [], oO 13 (.call 129 [12,(kI 8)]) [12], oO 14 (.bld [(vI 0),(vI 0)] [(0, 1, 11),(1, 1, 13)]) [11,13], oO 5 (.alloc false [(vI 0),(vI 0)]) [], oN (.store 2 5 14) [14]] (.seq (rS [oM 15 4 [4], oO 16 (.call 137 [15]) [15], oO 17 (.un .not 16) [16], oM 18 17 [17], oH 19 (.mv 0) 18 [], oH 20 (.lenL 19) 18 [19], oH 21 (.bin .eql 20 (kI 0)) 18 [20], oO 22 (.pick 18 kT 21) [18,21], oM 23 22 [22], oH 24 (.load (some 2) 5) 23 [], oH 25 (.call 47 [24]) 23 [24], oH 26 (.mv 0) 23 [0], oH 27 (.call 138 [25,26]) 23 [25,26], oH 28 (.un .not 27) 23 [27], oO 29 (.pick 23 kT 28) [23,28]] (.cond 29 (rS [oO 30 (.bld [(vI 0),(vI 0)] []) [], oN (.store 2 2 30) [30], oA 3 kF []] .ret)
 .skip))
(rS [oO 31 (.load (some 2) 5) [5], oN (.store 2 2 31) [31], oA 3 kT []] .ret)))))), [.cell 2 (some 2),.t 3]⟩
/-- interrex/qty.Share -/
def f241 : AFn := ⟨2, (rS [oA 4 (kI 0) [4]] (.seq (rS [oM 5 1 [], oO 6 (.bin .lss 5 (kI 1)) [5], oM 7 6 [6], oH 8 (.mv 1) 7 [], oH 9 (.bin .gtr 8 (kI 1000000000)) 7 [8], oO 10 (.pick 7 kT 9) [7,9]] (.cond 10 (rS [oA 4 (kI 0) []] .ret)
 .skip))
(rS [oM 11 0 [0], oO 12 (.mnmx true [11,(kI 0)]) [11], oM 13 1 [], oO 14 (.mnmx false [12,13]) [12,13], oO 15 (.bin .mul (kI 100) 14) [14], oM 16 1 [1], oO 17 (.bin .quo 15 16) [15,16], oA 4 17 [17]] .ret))), [.t 4]⟩
/-- interrex/label.Match -/
def f242 : AFn := ⟨2, (rS [oO 3 (.box true 1) [1], oA 4 kF [4]] (rS [oM 5 0 [0], oO 6 (.mkfn 258 [3]) [3], oO 7 (.call 161 [5,6]) [5,6], oO 8 (.un .not 7) [7], oA 4 8 [8]] .ret)), [.t 4]⟩
/-- interrex/taint.All -/
def f243 : AFn := ⟨2, (rS [oA 4 kF [4]] (.seq (rS [oM 7 1 [1], oO 8 (.lenL 7) [], oM 9 (kI 0) []] (.blk 0 (.loop (rS [oO 10 (.bin .lss 9 8) []] (.seq (.cond 10 .skip
 (.exit 0))
(.seq (.blk 1 (rS [oO 11 (.iasl 2 7 9) [], oO 12 (.load (some 2) 11) [11], oO 6 (.alloc true [vS,vS]) [], oN (.store 2 6 12) [12]] (rS [oM 13 0 [], oO 14 (.mkfn 260 [6]) [6], oO 15 (.call 164 [13,14]) [13,14], oO 16 (.un .not 15) [15]] (.cond 16 (rS [oA 4 kF []] .ret)
 .skip))))
(rR [oO 17 (.bin .add 9 (kI 1)) [9], oM 9 17 [17]])))))))
(rS [oA 4 kT []] .ret))), [.t 4]⟩
/-- interrex/obj.EqPod -/
def f244 : AFn := ⟨2, (rS [oO 2 (.box false 0) [0], oO 3 (.box false 1) [1], oA 4 kF [4]] (.seq (rS [oO 6 (.faddr 0 2) [], oO 7 (.load none 6) [6], oO 8 (.faddr 0 3) [], oO 9 (.load none 8) [8], oO 10 (.bin .neq 7 9) [7,9], oM 11 10 [10], oH 12 (.faddr 1 2) 11 [], oH 13 (.load none 12) 11 [12], oH 14 (.faddr 1 3) 11 [], oH 15 (.load none 14) 11 [14], oH 16 (.bin .neq 13 15) 11 [13,15], oO 17 (.pick 11 kT 16) [11,16], oM 18 17 [17], oH 19 (.faddr 2 2) 18 [], oH 20 (.load none 19) 18 [19], oH 21 (.faddr 2 3) 18 [], oH 22 (.load none 21) 18 [21], oH 23 (.bin .neq 20 22) 18 [20,22], oO 24 (.pick 18 kT 23) [18,23], oM 25 24 [24], oH 26 (.faddr 3 2) 25 [], oH 27 (.load (some 3) 26) 25 [26], oH 28 (.faddr 3 3) 25 [], oH 29 (.load (some 3) 28) 25 [28], oH 30 (.eqc true [.i,.i,.i] true 27 29) 25 [27,29], oO 31 (.pick 25 kT 30) [25,30], oM 32 31 [31], oH 33 (.faddr 10 2) 32 [], oH 34 (.load none 33) 32 [33], oH 35 (.faddr 10 3) 32 [], oH 36 (.load none 35) 32 [35], oH 37 (.bin .neq 34 36) 32 [34,36], oO 38 (.pick 32 kT 37) [32,37], oM 39 38 [38], oH 40 (.faddr 12 2) 39 [], oH 41 (.load none 40) 39 [40], oH 42 (.faddr 12 3) 39 [], oH 43 (.load none 42) 39 [42], oH 44 (.bin .neq 41 43) 39 [41,43], oO 45 (.pick 39 kT 44) [39,44], oM 46 45 [45], oH 47 (.faddr 14 2) 46 [], oH 48 (.load none 47) 46 [47], oH 49 (.faddr 14 3) 46 [], oH 50 (.load none 49) 46 [49], oH 51 (.bin .neq 48 50) 46 [48,50], oO 52 (.pick 46 kT 51) [46,51], oM 53 52 [52], oH 54 (.faddr 15 2) 53 [], oH 55 (.load none 54) 53 [54], oH 56 (.faddr 15 3) 53 [], oH 57 (.load none 56) 53 [56], oH 58 (.bin .neq 55 57) 53 [55,57], oO 59 (.pick 53 kT 58) [53,58]] (.cond 59 (rS [oA 4 kF []] .ret)
 .skip))
(rS [oO 60 (.faddr 6 2) [], oO 61 (.load none 60) [60], oO 62 (.faddr 6 3) [], oO 63 (.load none 62) [62], oO 64 (.call 262 [61,63]) [61,63], oM 65 64 [64], oG 66 (.faddr 7 2) 65 [], oG 67 (.load none 66) 65 [66], oG 68 (.faddr 7 3) 65 [], oG 69 (.load none 68) 65 [68], oG 70 (.call 263 [67,69]) 65 [67,69], oO 71 (.pick 65 70 kF) [65,70], oM 72 71 [71], oG 73 (.faddr 9 2) 72 [], oG 74 (.load none 73) 72 [73], oG 75 (.faddr 9 3) 72 [], oG 76 (.load none 75) 72 [75], oG 77 (.call 264 [74,76]) 72 [74,76], oO 78 (.pick 72 77 kF) [72,77], oA 5 78 [78]] (rS [oM 79 5 [5], oM 80 79 [79], oG 81 (.faddr 8 2) 80 [], oG 82 (.load none 81) 80 [81], oG 83 (.faddr 8 3) 80 [], oG 84 (.load none 83) 80 [83], oG 85 (.call 265 [82,84]) 80 [82,84], oO 86 (.pick 80 85 kF) [80,85], oM 87 86 [86], oG 88 (.faddr 11 2) 87 [], oG 89 (.load none 88) 87 [88], oG 90 (.faddr 11 3) 87 [], oG 91 (.load none 90) 87 [90], oG 92 (.call 265 [89,91]) 87 [89,91], oO 93 (.pick 87 92 kF) [87,92], oM 94 93 [93], oG 95 (.faddr 13 2) 94 [2], oG 96 (.load none 95) 94 [95], oG 97 (.faddr 13 3) 94 [3], oG 98 (.load none 97) 94 [97], oG 99 (.call 265 [96,98]) 94 [96,98], oO 100 (.pick 94 99 kF) [94,99], oA 4 100 [100]] .ret)))), [.t 4]⟩
/-- slices.IndexFunc   string string  -/
def f249 : AFn := ⟨2, (rS [oA 4 (kI 0) [4]] (.seq (rS [oM 6 0 [], oO 7 (.lenL 6) [6], oM 8 (kI 0) []] (.blk 0 (.loop (rS [oO 9 (.bin .lss 8 7) []] (.seq (.cond 9 .skip
 (.exit 0))
(.seq (.blk 1 (rS [oM 10 8 [], oA 5 10 [10]] (rS [oM 11 1 [], oM 12 0 [], oM 13 5 [], oO 14 (.iasl 1 12 13) [12,13], oO 15 (.load none 14) [14], oO 16 (.callv 11 [15]) [11,15]] (.cond 16 (rS [oM 17 5 [5], oA 4 17 [17]] .ret)
 .skip))))
(rR [oO 18 (.bin .add 8 (kI 1)) [8], oM 8 18 [18]])))))))
(rS [oA 4 (kI (-1)) []] .ret))), [.t 4]⟩
/-- slices.IndexFunc   interrex/api.Entry interrex/api.Entry  -/
def f256 : AFn := ⟨2, (rS [oA 4 (kI 0) [4]] (.seq (rS [oM 6 0 [], oO 7 (.lenL 6) [6], oM 8 (kI 0) []] (.blk 0 (.loop (rS [oO 9 (.bin .lss 8 7) []] (.seq (.cond 9 .skip
 (.exit 0))
(.seq (.blk 1 (rS [oM 10 8 [], oA 5 10 [10]] (rS [oM 11 1 [], oM 12 0 [], oM 13 5 [], oO 14 (.iasl 3 12 13) [12,13], oO 15 (.load (some 3) 14) [14], oO 16 (.callv 11 [15]) [11,15]] (.cond 16 (rS [oM 17 5 [5], oA 4 17 [17]] .ret)
 .skip))))
(rR [oO 18 (.bin .add 8 (kI 1)) [8], oM 8 18 [18]])))))))
(rS [oA 4 (kI (-1)) []] .ret))), [.t 4]⟩
/-- interrex/qty.Add -/
def f257 : AFn := ⟨2, (rS [oO 2 (.box false 0) [0], oO 3 (.box false 1) [1], oO 4 (.alloc false [(vI 0),(vI 0),(vI 0)]) [], oA 5 kF [5]] (rS [oO 6 (.alloc false [(vI 0),(vI 0),(vI 0)]) []] (.seq (rS [oM 8 (kI 0) []] (.blk 0 (.loop (rS [oO 9 (.bin .lss 8 (kI 3)) []] (.seq (.cond 9 .skip
 (.exit 0))
(.seq (.blk 1 (rS [oM 10 8 [], oA 7 10 [10]] (.seq (.seq (.dreg [⟨0, (oM 11 7 []), false, []⟩,
 ⟨1, (oO 12 (.iaar 3 1 2 11) []), false, []⟩,
 ⟨2, (oO 13 (.load none 12) []), false, []⟩,
 ⟨3, (oO 14 (.call 271 [13]) []), true, []⟩,
 ⟨4, (oO 15 (.un .not 14) []), false, []⟩,
 ⟨5, (oM 16 15 []), false, []⟩,
 ⟨6, (oH 17 (.mv 7) 16 []), false, []⟩,
 ⟨7, (oH 18 (.iaar 3 1 3 17) 16 []), false, []⟩,
 ⟨8, (oH 19 (.load none 18) 16 []), false, []⟩,
 ⟨9, (oH 20 (.call 271 [19]) 16 []), true, []⟩,
 ⟨10, (oH 21 (.un .not 20) 16 []), false, []⟩,
 ⟨11, (oO 22 (.pick 16 kT 21) []), false, []⟩,
 ⟨12, (oM 23 22 []), false, []⟩,
 ⟨13, (oH 24 (.mv 7) 23 []), false, []⟩,
 ⟨14, (oH 25 (.iaar 3 1 2 24) 23 []), false, []⟩,
 ⟨15, (oH 26 (.load none 25) 23 []), false, []⟩,
 ⟨16, (oH 27 (.mv 7) 23 []), false, []⟩,
 ⟨17, (oH 28 (.iaar 3 1 3 27) 23 []), false, []⟩,
 ⟨18, (oH 29 (.load none 28) 23 []), false, []⟩,
 ⟨19, (oH 30 (.bin .sub (kI 4611686018427387904) 29) 23 []), false, []⟩,
 ⟨20, (oH 31 (.bin .gtr 26 30) 23 []), false, []⟩,
 ⟨21, (oO 32 (.pick 23 kT 31) []), false, []⟩] [11,12,13,14,15,16,17,18,19,20,21,22,23,24,25,26,27,28,29,30,31])
(.cond 32 (rS [oO 33 (.bld [(vI 0),(vI 0),(vI 0)] []) [], oN (.store 3 4 33) [33], oA 5 kF []] .ret)
 .skip))
(.dreg [⟨0, (oM 34 7 []), false, []⟩,
 ⟨1, (oM 35 7 []), false, []⟩,
 ⟨2, (oO 36 (.iaar 3 1 2 35) []), false, []⟩,
 ⟨3, (oO 37 (.load none 36) []), false, []⟩,
 ⟨4, (oM 38 7 []), false, []⟩,
 ⟨5, (oO 39 (.iaar 3 1 3 38) []), false, []⟩,
 ⟨6, (oO 40 (.load none 39) []), false, []⟩,
 ⟨7, (oO 41 (.bin .add 37 40) []), false, []⟩,
 ⟨8, (oO 42 (.iaar 3 1 6 34) []), false, []⟩,
 ⟨9, (oN (.store 1 42 41) []), true, []⟩] [7,34,35,36,37,38,39,40,41,42]))))
(rR [oO 43 (.bin .add 8 (kI 1)) [8], oM 8 43 [43]])))))))
(rS [oO 44 (.load (some 3) 6) [6], oN (.store 3 4 44) [44], oA 5 kT []] .ret)))), [.cell 4 (some 3),.t 5]⟩
/-- interrex/label.Match 1 -/
def f258 : AFn := ⟨2, (rS [oO 2 (.box false 0) [0], oA 3 kF [3]] (rS [oO 4 (.load (some 3) 2) [2], oO 5 (.load none 1) [1], oO 6 (.call 259 [4,5]) [4,5], oO 7 (.un .not 6) [6], oA 3 7 [7]] .ret)), [.t 3]⟩
/-- interrex/label.holds -/
def f259 : AFn := ⟨2, (rS [oO 2 (.box false 0) [0], oA 4 kF [4]] (rS [oM 9 1 [1], oO 10 (.faddr 0 2) [], oO 11 (.load none 10) [10], oO 12 (.call 272 [9,11]) [9,11], oM 8 12 [12], oO 13 (.ext 8 0) [], oO 14 (.ext 8 1) [8], oA 5 13 [13], oA 6 14 [14]] (rS [oM 15 6 [], oM 16 15 [15], oG 17 (.faddr 2 2) 16 [], oG 18 (.load none 17) 16 [17], oG 19 (.mv 5) 16 [5], oG 20 (.call 273 [18,19]) 16 [18,19], oO 21 (.pick 16 20 kF) [16,20], oA 7 21 [21]] (.seq (rS [oO 22 (.faddr 1 2) [2], oO 23 (.load none 22) [22]] (.blk 0 (rS [oO 25 (.bin .eql 23 (kI 1)) [], oA 24 25 [25]] (.cond 24 (rS [oM 26 7 [7], oA 4 26 [26]] .ret)
 (rS [oO 28 (.bin .eql 23 (kI 2)) [], oA 27 28 [28]] (.cond 27 (rS [oM 29 7 [7], oO 30 (.un .not 29) [29], oA 4 30 [30]] .ret)
 (rS [oO 32 (.bin .eql 23 (kI 3)) [], oA 31 32 [32]] (.cond 31 (rS [oM 33 6 [6], oA 4 33 [33]] .ret)
 (rS [oO 35 (.bin .eql 23 (kI 4)) [23], oA 34 35 [35]] (.cond 34 (rS [oM 36 6 [6], oO 37 (.un .not 36) [36], oA 4 37 [37]] .ret)
 .skip))))))))))
(rS [oA 4 kF []] .ret))))), [.t 4]⟩
/-- interrex/taint.All 1 -/
def f260 : AFn := ⟨2, (rS [oO 2 (.box false 0) [0], oA 3 kF [3]] (rS [oO 4 (.load (some 3) 2) [2], oO 5 (.load (some 2) 1) [1], oO 6 (.call 261 [4,5]) [4,5], oA 3 6 [6]] .ret)), [.t 3]⟩
/-- interrex/taint.Bears -/
def f261 : AFn := ⟨2, (rS [oO 2 (.box false 0) [0], oO 3 (.box false 1) [1], oA 4 kF [4]] (rS [oO 5 (.faddr 0 2) [], oO 6 (.load none 5) [5], oO 7 (.bin .eql 6 (.c vS)) [6], oM 8 7 [7], oH 9 (.faddr 0 2) 8 [], oH 10 (.load none 9) 8 [9], oH 11 (.faddr 0 3) 8 [], oH 12 (.load none 11) 8 [11], oH 13 (.bin .eql 10 12) 8 [10,12], oO 14 (.pick 8 kT 13) [8,13], oM 15 14 [14], oG 16 (.faddr 2 2) 15 [], oG 17 (.load none 16) 15 [16], oG 18 (.mv 17) 15 [17], oH 19 (.faddr 1 2) 18 [2], oH 20 (.load none 19) 18 [19], oH 21 (.faddr 1 3) 18 [3], oH 22 (.load none 21) 18 [21], oH 23 (.bin .eql 20 22) 18 [20,22], oG 24 (.pick 18 kT 23) 15 [18,23], oO 25 (.pick 15 24 kF) [15,24], oA 4 25 [25]] .ret)), [.t 4]⟩
/-- slices.Equal   int int  -/
def f262 : AFn := ⟨2, (rS [oA 4 kF [4]] (.seq (rS [oM 6 0 [], oO 7 (.lenL 6) [6], oM 8 1 [], oO 9 (.lenL 8) [8], oO 10 (.bin .neq 7 9) [7,9]] (.cond 10 (rS [oA 4 kF []] .ret)
 .skip))
(.seq (rS [oM 11 0 [], oO 12 (.lenL 11) [11], oM 13 (kI 0) []] (.blk 0 (.loop (rS [oO 14 (.bin .lss 13 12) []] (.seq (.cond 14 .skip
 (.exit 0))
(.seq (.blk 1 (rS [oM 15 13 [], oA 5 15 [15]] (.seq (.dreg [⟨0, (oM 16 0 []), false, []⟩,
 ⟨1, (oM 17 5 []), false, []⟩,
 ⟨2, (oO 18 (.iasl 1 16 17) []), false, []⟩,
 ⟨3, (oO 19 (.load none 18) []), false, []⟩,
 ⟨4, (oM 20 1 []), false, []⟩,
 ⟨5, (oM 21 5 []), false, []⟩,
 ⟨6, (oO 22 (.iasl 1 20 21) []), false, []⟩,
 ⟨7, (oO 23 (.load none 22) []), false, []⟩,
 ⟨8, (oO 24 (.bin .neq 19 23) []), false, []⟩] [16,5,17,18,19,20,21,22,23])
(.cond 24 (rS [oA 4 kF []] .ret)
 .skip))))
(rR [oO 25 (.bin .add 13 (kI 1)) [13], oM 13 25 [25]])))))))
(rS [oA 4 kT []] .ret)))), [.t 4]⟩
/-- slices.Equal   interrex/api.Pair interrex/api.Pair  -/
def f263 : AFn := ⟨2, (rS [oA 4 kF [4]] (.seq (rS [oM 6 0 [], oO 7 (.lenL 6) [6], oM 8 1 [], oO 9 (.lenL 8) [8], oO 10 (.bin .neq 7 9) [7,9]] (.cond 10 (rS [oA 4 kF []] .ret)
 .skip))
(.seq (rS [oM 11 0 [], oO 12 (.lenL 11) [11], oM 13 (kI 0) []] (.blk 0 (.loop (rS [oO 14 (.bin .lss 13 12) []] (.seq (.cond 14 .skip
 (.exit 0))
(.seq (.blk 1 (rS [oM 15 13 [], oA 5 15 [15]] (.seq (.dreg [⟨0, (oM 16 0 []), false, []⟩,
 ⟨1, (oM 17 5 []), false, []⟩,
 ⟨2, (oO 18 (.iasl 2 16 17) []), false, []⟩,
 ⟨3, (oO 19 (.load (some 2) 18) []), false, []⟩,
 ⟨4, (oM 20 1 []), false, []⟩,
 ⟨5, (oM 21 5 []), false, []⟩,
 ⟨6, (oO 22 (.iasl 2 20 21) []), false, []⟩,
 ⟨7, (oO 23 (.load (some 2) 22) []), false, []⟩,
 ⟨8, (oO 24 (.eqc true [.s,.s] true 19 23) []), false, []⟩] [16,5,17,18,19,20,21,22,23])
(.cond 24 (rS [oA 4 kF []] .ret)
 .skip))))
(rR [oO 25 (.bin .add 13 (kI 1)) [13], oM 13 25 [25]])))))))
(rS [oA 4 kT []] .ret)))), [.t 4]⟩
/-- slices.Equal   interrex/api.Toler interrex/api.Toler  -/
def f264 : AFn := ⟨2, (rS [oA 4 kF [4]] (.seq (rS [oM 6 0 [], oO 7 (.lenL 6) [6], oM 8 1 [], oO 9 (.lenL 8) [8], oO 10 (.bin .neq 7 9) [7,9]] (.cond 10 (rS [oA 4 kF []] .ret)
 .skip))
(.seq (rS [oM 11 0 [], oO 12 (.lenL 11) [11], oM 13 (kI 0) []] (.blk 0 (.loop (rS [oO 14 (.bin .lss 13 12) []] (.seq (.cond 14 .skip
 (.exit 0))
(.seq (.blk 1 (rS [oM 15 13 [], oA 5 15 [15]] (.seq (.dreg [⟨0, (oM 16 0 []), false, []⟩,
 ⟨1, (oM 17 5 []), false, []⟩,
 ⟨2, (oO 18 (.iasl 3 16 17) []), false, []⟩,
 ⟨3, (oO 19 (.load (some 3) 18) []), false, []⟩,
 ⟨4, (oM 20 1 []), false, []⟩,
 ⟨5, (oM 21 5 []), false, []⟩,
 ⟨6, (oO 22 (.iasl 3 20 21) []), false, []⟩,
 ⟨7, (oO 23 (.load (some 3) 22) []), false, []⟩,
 ⟨8, (oO 24 (.eqc true [.s,.s,.b] true 19 23) []), false, []⟩] [16,5,17,18,19,20,21,22,23])
(.cond 24 (rS [oA 4 kF []] .ret)
 .skip))))
(rR [oO 25 (.bin .add 13 (kI 1)) [13], oM 13 25 [25]])))))))
(rS [oA 4 kT []] .ret)))), [.t 4]⟩
/-- interrex/obj.eqTerms -/
def f265 : AFn := ⟨2, (rS [oA 4 kF [4]] (rS [oM 5 0 [0], oM 6 1 [1], oO 7 (.call 274 [5,6,(.c (.fn 275 [] []))]) [5,6], oA 4 7 [7]] .ret)), [.t 4]⟩
/-- interrex/qty.in -/
def f271 : AFn := ⟨1, (rS [oA 2 kF [2]] (rS [oM 3 0 [], oO 4 (.bin .geq 3 (kI 0)) [3], oM 5 4 [4], oG 6 (.mv 0) 5 [0], oG 7 (.bin .leq 6 (kI 4611686018427387904)) 5 [6], oO 8 (.pick 5 7 kF) [5,7], oA 2 8 [8]] .ret)), [.t 2]⟩
/-- interrex/label.Get -/
def f272 : AFn := ⟨2, (rS [oA 4 (.c vS) [4], oA 5 kF [5]] (.seq (rS [oM 8 0 [0], oO 9 (.lenL 8) [], oM 10 (kI 0) []] (.blk 0 (.loop (rS [oO 11 (.bin .lss 10 9) []] (.seq (.cond 11 .skip
 (.exit 0))
(.seq (.blk 1 (rS [oO 12 (.iasl 2 8 10) [], oO 13 (.load (some 2) 12) [12], oO 7 (.alloc false [vS,vS]) [], oN (.store 2 7 13) [13]] (rS [oO 14 (.faddr 0 7) [], oO 15 (.load none 14) [14], oM 16 1 [], oO 17 (.bin .eql 15 16) [15,16]] (.cond 17 (rS [oO 18 (.faddr 1 7) [7], oO 19 (.load none 18) [18], oA 4 19 [19], oA 5 kT []] .ret)
 .skip))))
(rR [oO 20 (.bin .add 10 (kI 1)) [10], oM 10 20 [20]])))))))
(rS [oA 4 (.c vS) [], oA 5 kF []] .ret))), [.t 4,.t 5]⟩
/-- slices.Contains   string string  -/
def f273 : AFn := ⟨2, (rS [oA 4 kF [4]] (rS [oM 5 0 [0], oM 6 1 [1], oO 7 (.call 285 [5,6]) [5,6], oO 8 (.bin .geq 7 (kI 0)) [7], oA 4 8 [8]] .ret)), [.t 4]⟩
/-- slices.EqualFunc   interrex/api.Term   interrex/api.Term interrex/api.Term interrex/api.Term  -/
def f274 : AFn := ⟨3, (rS [oA 6 kF [6]] (.seq (rS [oM 10 0 [], oO 11 (.lenL 10) [10], oM 12 1 [], oO 13 (.lenL 12) [12], oO 14 (.bin .neq 11 13) [11,13]] (.cond 14 (rS [oA 6 kF []] .ret)
 .skip))
(.seq (rS [oM 15 0 [0], oO 16 (.lenL 15) [], oM 17 (kI 0) []] (.blk 0 (.loop (rS [oO 18 (.bin .lss 17 16) []] (.seq (.cond 18 .skip
 (.exit 0))
(.seq (.blk 1 (rS [oM 19 17 [], oO 20 (.iasl 3 15 17) [], oO 21 (.load (some 3) 20) [20], oO 8 (.alloc false [vS,(vI 0),.nils]) [], oA 7 19 [19], oN (.store 3 8 21) [21]] (rS [oM 22 1 [], oM 23 7 [7], oO 24 (.iasl 3 22 23) [22,23], oO 25 (.load (some 3) 24) [24], oO 9 (.alloc false [vS,(vI 0),.nils]) [], oN (.store 3 9 25) [25]] (rS [oM 26 2 [], oO 27 (.load (some 3) 8) [8], oO 28 (.load (some 3) 9) [9], oO 29 (.callv 26 [27,28]) [26,27,28], oO 30 (.un .not 29) [29]] (.cond 30 (rS [oA 6 kF []] .ret)
 .skip)))))
(rR [oO 31 (.bin .add 17 (kI 1)) [17], oM 17 31 [31]])))))))
(rS [oA 6 kT []] .ret)))), [.t 6]⟩
/-- interrex/obj.eqTerms 1 -/
def f275 : AFn := ⟨2, (rS [oO 2 (.box false 0) [0], oO 3 (.box false 1) [1], oA 4 kF [4]] (rS [oO 5 (.faddr 0 2) [], oO 6 (.load none 5) [5], oO 7 (.faddr 0 3) [], oO 8 (.load none 7) [7], oO 9 (.bin .eql 6 8) [6,8], oM 10 9 [9], oG 11 (.faddr 1 2) 10 [], oG 12 (.load none 11) 10 [11], oG 13 (.faddr 1 3) 10 [], oG 14 (.load none 13) 10 [13], oG 15 (.bin .eql 12 14) 10 [12,14], oO 16 (.pick 10 15 kF) [10,15], oM 17 16 [16], oG 18 (.faddr 2 2) 17 [2], oG 19 (.load none 18) 17 [18], oG 20 (.faddr 2 3) 17 [3], oG 21 (.load none 20) 17 [20], oG 22 (.call 276 [19,21]) 17 [19,21], oO 23 (.pick 17 22 kF) [17,22], oA 4 23 [23]] .ret)), [.t 4]⟩
/-- slices.Equal   string string  -/
def f276 : AFn := ⟨2, (rS [oA 4 kF [4]] (.seq (rS [oM 6 0 [], oO 7 (.lenL 6) [6], oM 8 1 [], oO 9 (.lenL 8) [8], oO 10 (.bin .neq 7 9) [7,9]] (.cond 10 (rS [oA 4 kF []] .ret)
 .skip))
(.seq (rS [oM 11 0 [], oO 12 (.lenL 11) [11], oM 13 (kI 0) []] (.blk 0 (.loop (rS [oO 14 (.bin .lss 13 12) []] (.seq (.cond 14 .skip
 (.exit 0))
(.seq (.blk 1 (rS [oM 15 13 [], oA 5 15 [15]] (.seq (.dreg [⟨0, (oM 16 0 []), false, []⟩,
 ⟨1, (oM 17 5 []), false, []⟩,
 ⟨2, (oO 18 (.iasl 1 16 17) []), false, []⟩,
 ⟨3, (oO 19 (.load none 18) []), false, []⟩,
 ⟨4, (oM 20 1 []), false, []⟩,
 ⟨5, (oM 21 5 []), false, []⟩,
 ⟨6, (oO 22 (.iasl 1 20 21) []), false, []⟩,
 ⟨7, (oO 23 (.load none 22) []), false, []⟩,
 ⟨8, (oO 24 (.bin .neq 19 23) []), false, []⟩] [16,5,17,18,19,20,21,22,23])
(.cond 24 (rS [oA 4 kF []] .ret)
 .skip))))
(rR [oO 25 (.bin .add 13 (kI 1)) [13], oM 13 25 [25]])))))))
(rS [oA 4 kT []] .ret)))), [.t 4]⟩
/-- slices.Index   string string  -/
def f285 : AFn := ⟨2, (rS [oA 4 (kI 0) [4]] (.seq (rS [oM 6 0 [], oO 7 (.lenL 6) [6], oM 8 (kI 0) []] (.blk 0 (.loop (rS [oO 9 (.bin .lss 8 7) []] (.seq (.cond 9 .skip
 (.exit 0))
(.seq (.blk 1 (rS [oM 10 8 [], oA 5 10 [10]] (rS [oM 11 1 [], oM 12 0 [], oM 13 5 [], oO 14 (.iasl 1 12 13) [12,13], oO 15 (.load none 14) [14], oO 16 (.bin .eql 11 15) [11,15]] (.cond 16 (rS [oM 17 5 [5], oA 4 17 [17]] .ret)
 .skip))))
(rR [oO 18 (.bin .add 8 (kI 1)) [8], oM 8 18 [18]])))))))
(rS [oA 4 (kI (-1)) []] .ret))), [.t 4]⟩
end Go.Eng.AF
