/-
Functions' abstract texts.
-/
import Derived.Test.YtomcdckppplieaaGreatEngC
set_option maxRecDepth 100000
namespace Go.Eng.AF
open Go Go.Eng
/-- interrex/interrexlaw10.begun -/
def f7 : AFn := ⟨0, (rS [oA 0 kF [0]] (rS [oO 17 (.call 9 [(kI 2)]) [], oO 18 (.call 23 [(kI 3)]) [], oO 19 (.call 29 []) [], oO 20 (.call 30 [(kI 1)]) [], oO 21 (.call 31 []) [], oO 22 (.call 10 [(kI 1)]) [], oB 1 17, oB 2 18, oB 3 19, oB 4 20, oB 5 21, oB 6 22] (.seq (rS [oP 23 1, oO 24 (.eqn false 23 (.c .nilp)) [23], oQ 25 24, oH 26 (.mv 2) 25 [], oH 27 (.eqn false 26 (.c .nilp)) 25 [26], oO 28 (.pick 25 kT 27) [25,27], oQ 29 28, oH 30 (.mv 3) 29 [], oH 31 (.eqn false 30 (.c .nilp)) 29 [30], oO 32 (.pick 29 kT 31) [29,31], oQ 33 32, oH 34 (.mv 4) 33 [], oH 35 (.eqn false 34 (.c .nilp)) 33 [34], oO 36 (.pick 33 kT 35) [33,35], oQ 37 36, oH 38 (.mv 5) 37 [], oH 39 (.eqn false 38 (.c .nilp)) 37 [38], oO 40 (.pick 37 kT 39) [37,39], oQ 41 40, oH 42 (.mv 6) 41 [], oH 43 (.eqn false 42 (.c .nilp)) 41 [42], oO 44 (.pick 41 kT 43) [41,43]] (.cond 44 (rS [oA 0 kF []] .ret)
 .skip))
(rS [oP 45 1, oO 46 (.bsl (.im false) 1 2 [(vI 0)] [(0, (kI 5)),(1, (kI 9))]) [], oO 47 (.call 18 [45,46]) [45,46], oB 7 47] (rS [oP 48 2, oO 49 (.bsl (.im false) 1 1 [(.i .u8 0)] [(0, (.c (.i .u8 120)))]) [], oO 50 (.mkb 49) [49], oO 51 (.bld [(.b false),(vI 0),.nils] [(1, 1, (kI 1)),(2, 1, 50)]) [50], oO 52 (.call 25 [48,51]) [48,51], oB 8 52] (rS [oP 54 4, oO 55 (.call 32 [54,(kI 0)]) [54], oQ 53 55, oO 56 (.ext 53 0) [], oO 57 (.ext 53 1) [53], oO 9 (.alloc false [(vI 0),(vI 0),(vI 0),vS,(vI 0),.nils,.nils]) [], oN (.store 7 9 56) [56], oB 10 57] (.seq (.dreg [dq 0 (oP 58 4),
 dq 1 (oF 59 1 9),
 dq 2 (oK 60 59),
 dq 3 (oO 61 (.bld [(vI 0),(vI 0)] [(0, 1, (kI 1)),(1, 1, (kI 1000))]) []),
 ⟨4, (oO 62 (.call 34 [61]) []), true, [2]⟩,
 dq 5 (oO 63 (.bld [vS,(vI 0),.nils] [(0, 1, (.c (.s [108]))),(1, 1, (kI 2)),(2, 1, 62)]) []),
 ⟨6, (oO 64 (.bsl (.im false) 3 1 [vS,(vI 0),.nils] [(0, 63)]) []), true, [2]⟩,
 dq 7 (oO 65 (.bld [(vI 0),(vI 0),(vI 0),(vI 0),(vI 0),.nils,.nils] [(0, 1, (kI 1)),(1, 1, 60),(2, 1, (kI 2)),(4, 1, (kI 4)),(5, 1, 64)]) []),
 ⟨8, (oO 66 (.call 33 [58,65]) []), true, []⟩,
 dq 9 (oA 11 66 [])] [58,59,60,61,62,63,64,65,66])
(rS [oP 67 5, oO 68 (.bld [vS,vS,.nils] [(0, 1, (.c (.s [97]))),(1, 1, (.c (.s [110])))]) [], oO 69 (.call 35 [67,68,(kI 7),(kI 3),(kI 100)]) [67,68], oB 12 69] (rS [oP 70 6, oO 71 (.bld [(vI 0),(vI 0)] []) [], oO 72 (.call 14 [70,(kI 0),(kI 0),71,kF]) [70,71,72]] (rS [oP 74 6, oO 75 (.call 15 [74,(kI 10)]) [74], oQ 73 75, oO 76 (.ext 73 0) [], oO 77 (.ext 73 1) [73], oO 13 (.alloc false [.nils,.nils]) [], oN (.store 2 13 76) [76], oB 14 77] (rS [oP 78 6, oO 79 (.call 17 [78,(kI 20),(kI 6),(kI 0)]) [78,79]] (rS [oO 81 (.call 38 []) [], oO 82 (.call 37 [81]) [81], oO 83 (.bld [vS,(vI 0),.nils] [(0, 1, (.c (.s [112,47,97]))),(1, 1, (kI 1)),(2, 1, 82)]) [82], oO 84 (.bsl (.im false) 3 1 [vS,(vI 0),.nils] [(0, 83)]) [83], oO 85 (.call 36 [84]) [84], oQ 80 85, oO 86 (.ext 80 0) [], oO 87 (.ext 80 1) [80], oO 15 (.alloc false [.nils,.nils]) [], oN (.store 2 15 86) [86], oB 16 87] (rS [oO 88 (.call 39 []) [], oQ 89 88, oG 90 (.mv 7) 89 [7], oO 91 (.pick 89 90 kF) [89,90], oQ 92 91, oG 93 (.mv 1) 92 [], oG 94 (.call 11 [93,(kI 1)]) 92 [93], oG 95 (.bin .eql 94 (kI 9)) 92 [94], oO 96 (.pick 92 95 kF) [92,95], oQ 97 96, oG 98 (.mv 1) 97 [1], oG 99 (.call 19 [98]) 97 [98], oG 100 (.bin .eql 99 (kI 4)) 97 [99], oO 101 (.pick 97 100 kF) [97,100], oQ 102 101, oG 103 (.mv 8) 102 [8], oO 104 (.pick 102 103 kF) [102,103], oQ 105 104, oG 106 (.mv 2) 105 [2], oG 107 (.call 24 [106]) 105 [106], oG 108 (.bin .eql 107 (kI 1)) 105 [107], oO 109 (.pick 105 108 kF) [105,108], oQ 110 109, oG 111 (.mv 10) 110 [10], oO 112 (.pick 110 111 kF) [110,111], oQ 113 112, oG 114 (.faddr 2 9) 113 [9], oG 115 (.load none 114) 113 [114], oG 116 (.bin .eql 115 (kI 2)) 113 [115], oO 117 (.pick 113 116 kF) [113,116], oQ 118 117, oG 119 (.mv 11) 118 [11], oO 120 (.pick 118 119 kF) [118,119], oQ 121 120, oG 122 (.mv 4) 121 [], oG 123 (.call 40 [122]) 121 [122], oG 124 (.call 41 [123]) 121 [123], oG 125 (.bin .eql 124 (kI 4)) 121 [124], oO 126 (.pick 121 125 kF) [121,125], oQ 127 126, oG 128 (.mv 4) 127 [4], oG 129 (.call 42 [128]) 127 [128], oG 130 (.bin .eql 129 (kI 1)) 127 [129], oO 131 (.pick 127 130 kF) [127,130], oQ 132 131, oG 133 (.mv 12) 132 [12], oO 134 (.pick 132 133 kF) [132,133], oQ 135 134, oG 136 (.mv 5) 135 [5], oG 137 (.call 43 [136,(.c (.s [97]))]) 135 [136], oO 138 (.pick 135 137 kF) [135,137], oQ 139 138, oG 140 (.mv 14) 139 [14], oO 141 (.pick 139 140 kF) [139,140], oQ 142 141, oG 143 (.faddr 1 13) 142 [13], oG 144 (.load none 143) 142 [143], oG 145 (.lenL 144) 142 [144], oG 146 (.bin .eql 145 (kI 1)) 142 [145], oO 147 (.pick 142 146 kF) [142,146], oQ 148 147, oG 149 (.mv 6) 148 [], oG 150 (.call 20 [149,(kI 20)]) 148 [149], oO 151 (.pick 148 150 kF) [148,150], oQ 152 151, oG 153 (.mv 6) 152 [6], oG 154 (.call 22 [153]) 152 [153], oG 155 (.bin .eql 154 (kI 6)) 152 [154], oO 156 (.pick 152 155 kF) [152,155], oQ 157 156, oG 158 (.call 44 [(kI 0)]) 157 [], oG 159 (.bin .eql 158 (kI 900)) 157 [158], oO 160 (.pick 157 159 kF) [157,159], oQ 161 160, oG 162 (.mv 16) 161 [16], oO 163 (.pick 161 162 kF) [161,162], oQ 164 163, oG 165 (.faddr 1 15) 164 [15], oG 166 (.load none 165) 164 [165], oG 167 (.lenL 166) 164 [166], oG 168 (.bin .eql 167 (kI 1)) 164 [167], oO 169 (.pick 164 168 kF) [164,168], oQ 170 169, oG 171 (.mv 3) 170 [3], oG 172 (.call 41 [171]) 170 [171], oG 173 (.bin .eql 172 (kI (-1))) 170 [172], oO 174 (.pick 170 173 kF) [170,173], oB 0 174] .ret))))))))))))), [.t 0]⟩
/-- interrex/store.New -/
def f8 : AFn := ⟨0, (rS [oA 0 (.c .nilp) [0]] (rS [oO 1 (.mkmap true none) [], oO 2 (.mkmap true none) [], oO 3 (.call 45 [(kI 64)]) [], oO 4 (.bld [(vI 0),.nilm,.nilm,.nilp,(vI 0),(vI 0)] [(1, 1, 1),(2, 1, 2),(3, 1, 3)]) [1,2,3], oO 5 (.box true 4) [4], oB 0 5] .ret)), [.t 0]⟩
/-- interrex/clock.New -/
def f9 : AFn := ⟨1, (rS [oA 2 (.c .nilp) [2]] (rS [oQ 3 0, oO 4 (.mnmx true [3,(kI 1)]) [3], oO 5 (.mnmx false [4,(kI 8)]) [4], oO 6 (.mksl (.mu true) 1 8 [(vI 0)] 5 5) [5], oO 7 (.bld [.nils,(vI 0),(vI 0),(vI 0),(vI 0),(vI 0),(vI 0),(vI 0),(vI 0),(vI 0),(vI 0),(vI 0),(vI 0),(vI 0),(vI 0),(vI 0),(vI 0),(vI 0),(vI 0),(vI 0),(vI 0),(vI 0),(vI 0),(vI 0),(vI 0),(vI 0),(vI 0),(vI 0),(vI 0),(vI 0),(vI 0),(vI 0),(vI 0),(vI 0),(vI 0),(vI 0),(vI 0),(vI 0),(vI 0),(vI 0),(vI 0),(vI 0),(vI 0),(vI 0),(vI 0),(vI 0),(vI 0),(vI 0),(vI 0),(vI 0),(vI 0),(vI 0),(vI 0),(vI 0),(vI 0),(vI 0),(vI 0),(vI 0),(vI 0),(vI 0),(vI 0),(vI 0),(vI 0),(vI 0),(vI 0),(vI 0),(vI 0),(vI 0),(vI 0),(vI 0),(vI 0),(vI 0),(vI 0),(vI 0),(vI 0),(vI 0),(vI 0),(vI 0),(vI 0),(vI 0),(vI 0),(vI 0),(vI 0),(vI 0),(vI 0),(vI 0),(vI 0),(vI 0),(vI 0),(vI 0),(vI 0),(vI 0),(vI 0),(vI 0),(vI 0),(vI 0),(vI 0),(vI 0),(vI 0),(vI 0),(vI 0),(vI 0),(vI 0),(vI 0),(vI 0),(vI 0),(vI 0),(vI 0),(vI 0),(vI 0),(vI 0),(vI 0),(vI 0),(vI 0),(vI 0),(vI 0),(vI 0),(vI 0),(vI 0),(vI 0),(vI 0),(vI 0),(vI 0),(vI 0),(vI 0),(vI 0),(vI 0),(vI 0),(vI 0)] [(0, 1, 6)]) [6], oO 8 (.box true 7) [7], oB 2 8] .ret)), [.t 2]⟩
/-- interrex/elect.New -/
def f10 : AFn := ⟨1, (rS [oA 2 (.c .nilp) [2]] (.seq (rS [oP 3 0, oO 4 (.bin .lss 3 (kI 0)) [3], oQ 5 4, oH 6 (.mv 0) 5 [], oH 7 (.bin .gtr 6 (kI 7)) 5 [6], oO 8 (.pick 5 kT 7) [5,7]] (.cond 8 (rS [oA 2 (.c .nilp) []] .ret)
 .skip))
(rS [oQ 9 0, oO 10 (.bld [(vI 0),(.b false),(.b false),(vI 0),(vI 0),(vI 0),(vI 0),(.b false),(vI 0),(vI 0),(vI 0)] [(0, 1, 9)]) [9], oO 11 (.box true 10) [10], oB 2 11] .ret))), [.t 2]⟩
/-- ( interrex/clock.Clocks).Now -/
def f11 : AFn := ⟨2, (rS [oA 4 (kI 0) [4]] (.seq (rS [oP 5 0, oO 6 (.eqn false 5 (.c .nilp)) [5], oQ 7 6, oH 8 (.mv 1) 7 [], oH 9 (.bin .lss 8 (kI 0)) 7 [8], oO 10 (.pick 7 kT 9) [7,9], oQ 11 10, oH 12 (.mv 1) 11 [], oH 13 (.mv 0) 11 [], oH 14 (.nilc 13) 11 [13], oH 15 (.faddr 0 14) 11 [14], oH 16 (.load none 15) 11 [15], oH 17 (.lenL 16) 11 [16], oH 18 (.bin .geq 12 17) 11 [12,17], oO 19 (.pick 11 kT 18) [11,18]] (.cond 19 (rS [oA 4 (kI 0) []] .ret)
 .skip))
(rS [oQ 20 0, oO 21 (.nilc 20) [20], oE 22 0 21, oL 23 22, oQ 24 1, oO 25 (.iasl 1 23 24) [23,24], oL 26 25, oB 4 26] .ret))), [.t 4]⟩
/-- ( interrex/store.Store).Get -/
def f12 : AFn := ⟨2, (rS [oO 4 (.alloc false [vS,(vI 0),.nils]) [], oA 5 kF [5]] (.seq (rS [oP 8 0, oO 9 (.eqn false 8 (.c .nilp)) [8]] (.cond 9 (rS [oO 10 (.bld [vS,(vI 0),.nils] []) [], oN (.store 3 4 10) [10], oA 5 kF []] .ret)
 .skip))
(rS [oP 11 0, oO 12 (.nilc 11) [11], oE 13 4 12, oO 14 (.call 46 [13,(kI 1)]) [13,14]] (rS [oQ 16 0, oO 17 (.nilc 16) [16], oE 18 1 17, oL 19 18, oQ 20 1, oO 21 (.lkp none (.agg [vS,(vI 0),.nils]) 19 20 true) [19,20], oQ 15 21, oO 22 (.ext 15 0) [], oO 23 (.ext 15 1) [15], oO 6 (.alloc false [vS,(vI 0),.nils]) [], oN (.store 3 6 22) [22], oB 7 23] (rS [oO 24 (.load (some 3) 6) [6], oO 25 (.call 47 [24]) [24], oQ 26 7, oN (.store 3 4 25) [25], oB 5 26] .ret))))), [.cell 4 (some 3),.t 5]⟩
/-- interrex/code.GetLease -/
def f13 : AFn := ⟨1, (rS [oO 2 (.alloc false [(vI 0),(vI 0)]) [], oA 3 kF [3]] (rS [oP 6 0, oO 7 (.call 48 [6]) [6], oB 4 7] (rS [oP 8 4, oO 9 (.call 49 [8,(kI 1)]) [8,9]] (rS [oP 10 4, oO 11 (.call 49 [10,(kI 1)]) [10], oP 12 4, oO 13 (.call 49 [12,(kI 8)]) [12], oO 14 (.bld [(vI 0),(vI 0)] [(0, 1, 11),(1, 1, 13)]) [11,13], oO 5 (.alloc false [(vI 0),(vI 0)]) [], oN (.store 2 5 14) [14]] (.seq (rS [oQ 15 4, oO 16 (.call 50 [15]) [15], oO 17 (.un .not 16) [16], oQ 18 17, oH 19 (.mv 0) 18 [], oH 20 (.lenL 19) 18 [19], oH 21 (.bin .eql 20 (kI 0)) 18 [20], oO 22 (.pick 18 kT 21) [18,21], oQ 23 22, oH 24 (.load (some 2) 5) 23 [], oH 25 (.call 34 [24]) 23 [24], oH 26 (.mv 0) 23 [0], oH 27 (.call 51 [25,26]) 23 [25,26], oH 28 (.un .not 27) 23 [27], oO 29 (.pick 23 kT 28) [23,28]] (.cond 29 (rS [oO 30 (.bld [(vI 0),(vI 0)] []) [], oN (.store 2 2 30) [30], oA 3 kF []] .ret)
 .skip))
(rS [oO 31 (.load (some 2) 5) [5], oN (.store 2 2 31) [31], oA 3 kT []] .ret)))))), [.cell 2 (some 2),.t 3]⟩
/-- ( interrex/elect.Elect).See -/
def f14 : AFn := ⟨5, (rS [oO 8 (.box false 3) [3]] (.seq (rS [oP 10 0, oO 11 (.eqn false 10 (.c .nilp)) [10]] (.cond 11 .ret
 .skip))
(.seq (rS [oP 12 4, oO 13 (.un .not 12) [12]] (.cond 13 (rR [oO 14 (.bld [(vI 0),(vI 0)] []) [], oA 2 (kI 0) [], oN (.store 2 8 14) [14]])
 .skip))
(.seq (rS [oP 15 0, oO 16 (.nilc 15) [15], oE 17 1 16, oL 18 17, oQ 19 18, oG 20 (.mv 2) 19 [], oG 21 (.mv 0) 19 [], oG 22 (.nilc 21) 19 [21], oG 23 (.faddr 3 22) 19 [22], oG 24 (.load none 23) 19 [23], oG 25 (.bin .lss 20 24) 19 [20,24], oO 26 (.pick 19 25 kF) [19,25]] (.cond 26 .ret
 .skip))
(.seq (rS [oP 27 0, oO 28 (.nilc 27) [27], oE 29 1 28, oL 30 29, oO 31 (.un .not 30) [30], oQ 32 31, oH 33 (.mv 2) 32 [], oH 34 (.mv 0) 32 [], oH 35 (.nilc 34) 32 [34], oH 36 (.faddr 3 35) 32 [35], oH 37 (.load none 36) 32 [36], oH 38 (.bin .neq 33 37) 32 [33,37], oO 39 (.pick 32 kT 38) [32,38]] (.cond 39 (rR [oP 40 0, oQ 41 1, oO 42 (.nilc 40) [40], oE 43 6 42, oN (.store 1 43 41) [43,41]])
 .skip))
(.seq (.dreg [dq 0 (oP 44 0),
 dq 1 (oP 45 0),
 dq 2 (oP 46 0),
 dq 3 (oP 47 0),
 dq 4 (oP 48 4),
 dq 5 (oP 49 2),
 dq 6 (oO 50 (.load (some 2) 8) []),
 dq 7 (oO 51 (.nilc 44) []),
 dq 8 (oF 52 1 51),
 ⟨9, (oN (.store 1 52 kT) []), true, [6]⟩,
 dq 10 (oO 53 (.nilc 45) []),
 dq 11 (oF 54 2 53),
 ⟨12, (oN (.store 1 54 48) []), true, [6]⟩,
 dq 13 (oO 55 (.nilc 46) []),
 dq 14 (oF 56 3 55),
 ⟨15, (oN (.store 1 56 49) []), true, [6]⟩,
 dq 16 (oO 57 (.nilc 47) []),
 dq 17 (oF 58 4 57),
 ⟨18, (oN (.store 2 58 50) []), true, []⟩] [44,45,46,47,48,49,50,51,52,53,54,55,56,57,58])
(.seq (.dreg [dq 0 (oP 59 0),
 dq 1 (oO 60 (.nilc 59) []),
 dq 2 (oF 61 9 60),
 dq 3 (oK 62 61),
 dq 4 (oO 63 (.bin .gtr 62 (kI 0)) []),
 dq 5 (oP 64 63),
 dq 6 (oG 65 (.mv 0) 64 []),
 dq 7 (oG 66 (.nilc 65) 64 []),
 dq 8 (oG 67 (.faddr 9 66) 64 []),
 dq 9 (oG 68 (.load none 67) 64 []),
 dq 10 (oG 69 (.mv 2) 64 []),
 dq 11 (oG 70 (.bin .lss 68 69) 64 []),
 dq 12 (oO 71 (.pick 64 70 kF) []),
 dq 13 (oP 72 71),
 dq 14 (oG 73 (.mv 4) 72 []),
 dq 15 (oG 74 (.un .not 73) 72 []),
 dq 16 (oG 75 (.mv 74) 72 []),
 dq 17 (oH 76 (.faddr 0 8) 75 []),
 dq 18 (oH 77 (.load none 76) 75 []),
 dq 19 (oH 78 (.mv 0) 75 []),
 dq 20 (oH 79 (.nilc 78) 75 []),
 dq 21 (oH 80 (.faddr 0 79) 75 []),
 dq 22 (oH 81 (.load none 80) 75 []),
 dq 23 (oH 82 (.bin .neq 77 81) 75 []),
 dq 24 (oG 83 (.pick 75 kT 82) 72 []),
 dq 25 (oO 84 (.pick 72 83 kF) [])] [59,60,61,62,63,64,65,66,67,68,2,69,70,71,72,4,73,74,75,8,76,77,78,79,80,81,82,83])
(.cond 84 (rR [oQ 85 0, oO 86 (.call 52 [85]) [85,86]])
 .skip)))))))), []⟩
/-- ( interrex/elect.Elect).Want -/
def f15 : AFn := ⟨2, (rS [oO 4 (.alloc false [.nils,.nils]) [], oA 5 kF [5]] (.seq (rS [oP 8 0, oO 9 (.eqn false 8 (.c .nilp)) [8], oQ 10 9, oH 11 (.mv 0) 10 [], oH 12 (.nilc 11) 10 [11], oH 13 (.faddr 7 12) 10 [12], oH 14 (.load none 13) 10 [13], oH 15 (.mv 14) 10 [14], oG 16 (.mv 1) 15 [], oG 17 (.mv 0) 15 [], oG 18 (.nilc 17) 15 [17], oG 19 (.faddr 8 18) 15 [18], oG 20 (.load none 19) 15 [19], oG 21 (.call 53 [16,20]) 15 [16,20], oG 22 (.un .not 21) 15 [21], oH 23 (.pick 15 22 kF) 10 [15,22], oO 24 (.pick 10 kT 23) [10,23]] (.cond 24 (rS [oO 25 (.bld [.nils,.nils] []) [], oN (.store 2 4 25) [25], oA 5 kF []] .ret)
 .skip))
(rS [oP 26 0, oO 27 (.nilc 26) [26], oE 28 7 27, oN (.store 1 28 kF) [28]] (.seq (rS [oP 29 0, oP 30 1, oO 31 (.call 54 [29,30]) [29,30], oO 32 (.un .not 31) [31]] (.cond 32 (rS [oO 33 (.bld [.nils,.nils] []) [], oN (.store 2 4 33) [33], oA 5 kF []] .ret)
 .skip))
(rS [oP 34 0, oP 35 0, oQ 36 1, oO 37 (.nilc 34) [34], oE 38 7 37, oN (.store 1 38 kT) [38], oO 39 (.nilc 35) [35], oE 40 8 39, oN (.store 1 40 36) [40,36]] (rS [oO 41 (.call 55 [(kI 3),(.c vS)]) [], oB 6 41] (rS [oP 42 0, oO 43 (.nilc 42) [42], oE 44 0 43, oL 45 44, oO 46 (.bld [(vI 0),(vI 0)] [(0, 1, 45),(1, 1, (kI 1000))]) [45], oO 47 (.call 34 [46]) [46], oB 7 47] (rS [oP 48 6, oQ 49 0, oO 50 (.nilc 49) [49], oE 51 3 50, oL 52 51, oO 53 (.bld [vS,(vI 0),(.b false)] [(0, 1, 48),(1, 1, 52)]) [48,52], oO 54 (.bsl (.im false) 3 1 [vS,(vI 0),(.b false)] [(0, 53)]) [53], oQ 55 6, oQ 56 7, oO 57 (.bld [vS,.nils,(.b false)] [(0, 1, 55),(1, 1, 56)]) [55,56], oO 58 (.bsl (.im false) 3 1 [vS,.nils,(.b false)] [(0, 57)]) [57], oO 59 (.bld [.nils,.nils] [(0, 1, 54),(1, 1, 58)]) [54,58], oN (.store 2 4 59) [59], oA 5 kT []] .ret)))))))), [.cell 4 (some 2),.t 5]⟩
/-- ( interrex/store.Store).Txn -/
def f16 : AFn := ⟨2, (rS [oO 3 (.box false 1) [1], oA 4 (kI 0) [4], oA 5 (kI 0) [5]] (.seq (rS [oP 10 0, oO 11 (.eqn false 10 (.c .nilp)) [10]] (.cond 11 (rS [oA 4 (kI 0) [], oA 5 (kI 9) []] .ret)
 .skip))
(rS [oP 12 0, oO 13 (.nilc 12) [12], oE 14 5 13, oO 15 (.call 46 [14,(kI 1)]) [14,15]] (.seq (rS [oP 16 0, oO 17 (.load (some 2) 3) [], oO 18 (.call 56 [16,17]) [16,17], oB 6 18] (rS [oP 19 6, oO 20 (.bin .neq 19 (kI 0)) [19]] (.cond 20 (rS [oQ 21 6, oA 4 (kI 0) [], oB 5 21] .ret)
 .skip)))
(rS [oP 22 0, oO 23 (.nilc 22) [], oE 24 0 23, oL 25 24, oO 26 (.bin .add 25 (kI 1)) [25], oO 27 (.nilc 22) [22], oE 28 0 27, oN (.store 1 28 26) [28,26]] (rS [oA 7 (.c .nils) []] (.seq (rS [oE 29 1 3, oL 30 29, oO 31 (.lenL 30) [], oM 32 (kI 0) []] (.blk 0 (.loop (rS [oO 33 (.bin .lss 32 31) []] (.seq (.cond 33 .skip
 (.exit 0))
(.seq (.blk 1 (rS [oO 34 (.iasl 3 30 32) [], oO 35 (.load (some 3) 34) [34], oO 9 (.alloc false [vS,.nils,(.b false)]) [], oN (.store 3 9 35) [35]] (.seq (.dreg [dq 0 (oP 36 0),
 dq 1 (oO 37 (.nilc 36) []),
 dq 2 (oF 38 2 37),
 dq 3 (oK 39 38),
 dq 4 (oF 40 0 9),
 dq 5 (oK 41 40),
 dq 6 (oP 42 0),
 dq 7 (oO 43 (.nilc 42) []),
 dq 8 (oF 44 0 43),
 dq 9 (oK 45 44),
 ⟨10, (oN (.mupd none 39 41 45) []), true, []⟩] [36,37,38,39,40,41,42,43,44,45])
(.seq (rS [oF 46 2 9, oL 47 46] (.cond 47 (.dreg [dq 0 (oP 48 0),
 dq 1 (oO 49 (.nilc 48) []),
 dq 2 (oF 50 1 49),
 dq 3 (oK 51 50),
 dq 4 (oF 52 0 9),
 dq 5 (oK 53 52),
 ⟨6, (oN (.delete none 51 53) []), true, []⟩] [48,49,50,51,52,53])
 (.dreg [dq 0 (oP 54 0),
 dq 1 (oO 55 (.nilc 54) []),
 dq 2 (oF 56 1 55),
 dq 3 (oK 57 56),
 dq 4 (oF 58 0 9),
 dq 5 (oK 59 58),
 dq 6 (oF 60 0 9),
 dq 7 (oK 61 60),
 dq 8 (oP 62 0),
 dq 9 (oO 63 (.nilc 62) []),
 dq 10 (oF 64 0 63),
 dq 11 (oK 65 64),
 dq 12 (oF 66 1 9),
 dq 13 (oK 67 66),
 dq 14 (oO 68 (.bld [vS,(vI 0),.nils] [(0, 1, 61),(1, 1, 65),(2, 1, 67)]) []),
 ⟨15, (oO 69 (.call 47 [68]) []), true, [5,3]⟩,
 ⟨16, (oN (.mupd none 57 59 69) []), true, []⟩] [54,55,56,57,58,59,60,61,62,63,64,65,66,67,68,69])))
(.dreg [dq 0 (oP 70 7),
 dq 1 (oP 71 0),
 dq 2 (oO 72 (.nilc 71) []),
 dq 3 (oF 73 0 72),
 dq 4 (oK 74 73),
 dq 5 (oF 75 0 9),
 dq 6 (oK 76 75),
 dq 7 (oF 77 1 9),
 dq 8 (oK 78 77),
 dq 9 (oF 79 2 9),
 dq 10 (oK 80 79),
 dq 11 (oO 81 (.bld [(vI 0),vS,.nils,(.b false)] [(0, 1, 74),(1, 1, 76),(2, 1, 78),(3, 1, 80)]) []),
 ⟨12, (oO 82 (.bsl (.im false) 4 1 [(vI 0),vS,.nils,(.b false)] [(0, 81)]) []), true, []⟩,
 ⟨13, (oO 83 (.append (.im false) 4 56 70 82) []), true, []⟩,
 ⟨14, (oA 7 83 []), true, []⟩] [70,71,72,73,74,9,75,76,77,78,79,80,81,82,83])))))
(rR [oO 84 (.bin .add 32 (kI 1)) [32], oQ 32 84])))))))
(rS [oP 85 0, oO 86 (.nilc 85) [85], oE 87 3 86, oL 88 87, oQ 89 7, oO 90 (.call 57 [88,89]) [88,89,90]] (rS [oQ 91 0, oO 92 (.nilc 91) [91], oE 93 0 92, oL 94 93, oB 4 94, oA 5 (kI 0) []] .ret))))))))), [.t 4,.t 5]⟩
/-- ( interrex/elect.Elect).Told -/
def f17 : AFn := ⟨4, (.seq (rS [oP 8 0, oO 9 (.eqn false 8 (.c .nilp)) [8], oQ 10 9, oH 11 (.mv 0) 10 [], oH 12 (.nilc 11) 10 [11], oH 13 (.faddr 7 12) 10 [12], oH 14 (.load none 13) 10 [13], oH 15 (.un .not 14) 10 [14], oO 16 (.pick 10 kT 15) [10,15]] (.cond 16 .ret
 .skip))
(rS [oP 17 0, oO 18 (.nilc 17) [17], oE 19 7 18, oN (.store 1 19 kF) [19]] (rS [oQ 20 3] (.blk 0 (rS [oO 22 (.bin .eql 20 (kI 0)) [], oB 21 22] (.cond 21 (rS [oP 23 0, oP 24 0, oP 25 2, oP 26 0, oO 27 (.nilc 26) [26], oE 28 8 27, oL 29 28, oO 30 (.nilc 23) [23], oE 31 9 30, oN (.store 1 31 25) [31,25], oO 32 (.nilc 24) [24], oE 33 10 32, oN (.store 1 33 29) [33,29]] (rS [oP 34 0, oP 35 0, oP 36 0, oP 37 0, oQ 38 2, oQ 39 1, oO 40 (.nilc 34) [34], oE 41 1 40, oN (.store 1 41 kT) [41], oO 42 (.nilc 35) [35], oE 43 2 42, oN (.store 1 43 kT) [43], oO 44 (.nilc 36) [36], oE 45 3 44, oN (.store 1 45 38) [45,38], oO 46 (.nilc 37) [37], oE 47 6 46, oN (.store 1 47 39) [47,39]] (rR [oP 48 0, oQ 49 0, oO 50 (.nilc 49) [49], oE 51 0 50, oL 52 51, oO 53 (.bld [(vI 0),(vI 0)] [(0, 1, 52),(1, 1, (kI 1000))]) [52], oO 54 (.nilc 48) [48], oE 55 4 54, oN (.store 2 55 53) [55,53]])))
 (rS [oO 57 (.bin .eql 20 (kI 6)) [20], oB 56 57] (.cond 56 (rR [oQ 58 0, oO 59 (.call 52 [58]) [58,59]])
 .skip)))))))), []⟩
/-- ( interrex/clock.Clocks).Tick -/
def f18 : AFn := ⟨2, (rS [oA 4 kF [4]] (.seq (rS [oP 13 0, oO 14 (.eqn false 13 (.c .nilp)) [13]] (.cond 14 (rS [oA 4 kF []] .ret)
 .skip))
(rS [oP 15 1, oQ 16 1, oO 17 (.lenL 16) [16], oP 18 0, oO 19 (.nilc 18) [18], oE 20 0 19, oL 21 20, oO 22 (.lenL 21) [21], oO 23 (.mnmx false [17,22]) [17,22], oO 24 (.slsl 1 15 none (some 23) none) [15,23], oB 1 24] (.seq (rS [oP 25 1, oO 26 (.lenL 25) [], oM 27 (kI 0) []] (.blk 0 (.loop (rS [oO 28 (.bin .lss 27 26) []] (.seq (.cond 28 .skip
 (.exit 0))
(.seq (.blk 1 (rS [oP 29 27, oO 30 (.iasl 1 25 27) [], oL 31 30, oB 5 29, oB 6 31] (rS [oP 32 6, oO 33 (.bin .lss 32 (kI 0)) [32], oQ 34 33, oH 35 (.mv 6) 34 [], oH 36 (.bin .gtr 35 (kI 1000000)) 34 [35], oO 37 (.pick 34 kT 36) [34,36], oQ 38 37, oH 39 (.mv 0) 38 [], oH 40 (.nilc 39) 38 [39], oH 41 (.faddr 0 40) 38 [40], oH 42 (.load none 41) 38 [41], oH 43 (.mv 5) 38 [5], oH 44 (.iasl 1 42 43) 38 [42,43], oH 45 (.load none 44) 38 [44], oH 46 (.mv 6) 38 [6], oH 47 (.bin .add 45 46) 38 [45,46], oH 48 (.bin .gtr 47 (kI 1125899906842624)) 38 [47], oO 49 (.pick 38 kT 48) [38,48]] (.cond 49 (rS [oA 4 kF []] .ret)
 .skip))))
(rR [oO 50 (.bin .add 27 (kI 1)) [27], oQ 27 50])))))))
(.seq (rS [oQ 51 1, oO 52 (.lenL 51) [], oM 53 (kI 0) []] (.blk 2 (.loop (rS [oO 54 (.bin .lss 53 52) []] (.seq (.cond 54 .skip
 (.exit 2))
(.seq (.blk 3 (rS [oP 55 53, oO 56 (.iasl 1 51 53) [], oL 57 56, oB 7 55, oB 8 57] (rR [oP 58 0, oO 59 (.nilc 58) [58], oE 60 0 59, oL 61 60, oQ 62 7, oO 63 (.iasl 1 61 62) [], oL 64 63, oQ 65 8, oO 66 (.bin .add 64 65) [64,65], oO 67 (.iasl 1 61 62) [61,62], oN (.store 1 67 66) [67,66]])))
(rR [oO 68 (.bin .add 53 (kI 1)) [53], oQ 53 68])))))))
(.seq (rS [oP 69 0, oO 70 (.nilc 69) [69], oE 71 0 70, oL 72 71, oO 73 (.lenL 72) [], oM 74 (kI 0) []] (.blk 4 (.loop (rS [oO 75 (.bin .lss 74 73) []] (.seq (.cond 75 .skip
 (.exit 4))
(.seq (.blk 5 (rS [oP 76 74, oO 77 (.iasl 1 72 74) [], oL 78 77, oB 9 76, oB 10 78] (rS [oP 79 0, oO 80 (.nilc 79) [79], oE 81 0 80, oL 82 81, oO 83 (.lenL 82) [], oM 84 (kI 0) []] (.blk 6 (.loop (rS [oO 85 (.bin .lss 84 83) []] (.seq (.cond 85 .skip
 (.exit 6))
(.seq (.blk 7 (rS [oP 86 84, oO 87 (.iasl 1 82 84) [], oL 88 87, oB 11 86, oB 12 88] (.dreg [dq 0 (oP 89 0),
 dq 1 (oP 90 9),
 dq 2 (oP 91 11),
 dq 3 (oP 92 0),
 dq 4 (oP 93 9),
 dq 5 (oP 94 11),
 dq 6 (oP 95 0),
 dq 7 (oP 96 9),
 dq 8 (oP 97 11),
 dq 9 (oO 98 (.nilc 95) []),
 dq 10 (oF 99 1 98),
 dq 11 (oO 100 (.iaar 8 8 99 96) []),
 dq 12 (oO 101 (.iaar 8 1 100 97) []),
 dq 13 (oK 102 101),
 dq 14 (oP 103 10),
 dq 15 (oP 104 12),
 dq 16 (oO 105 (.bin .sub 103 104) []),
 dq 17 (oO 106 (.mnmx false [102,105]) []),
 dq 18 (oP 107 0),
 dq 19 (oP 108 9),
 dq 20 (oP 109 11),
 dq 21 (oO 110 (.nilc 107) []),
 dq 22 (oF 111 65 110),
 dq 23 (oO 112 (.iaar 8 8 111 108) []),
 dq 24 (oO 113 (.iaar 8 1 112 109) []),
 dq 25 (oK 114 113),
 dq 26 (oP 115 10),
 dq 27 (oP 116 12),
 dq 28 (oO 117 (.bin .sub 115 116) []),
 dq 29 (oO 118 (.mnmx true [114,117]) []),
 dq 30 (oO 119 (.nilc 89) []),
 dq 31 (oF 120 1 119),
 dq 32 (oO 121 (.iaar 8 8 120 90) []),
 dq 33 (oO 122 (.iaar 8 1 121 91) []),
 dq 35 (oO 123 (.nilc 92) []),
 dq 36 (oF 124 65 123),
 dq 37 (oO 125 (.iaar 8 8 124 93) []),
 ⟨34, (oN (.store 1 122 106) []), true, []⟩,
 dq 38 (oO 126 (.iaar 8 1 125 94) []),
 ⟨39, (oN (.store 1 126 118) []), true, []⟩] [89,90,11,91,92,93,94,95,96,97,98,99,100,101,102,103,12,104,105,106,107,108,109,110,111,112,113,114,115,116,117,118,119,120,121,122,123,124,125,126])))
(rR [oO 127 (.bin .add 84 (kI 1)) [84], oQ 84 127])))))))))
(rR [oO 128 (.bin .add 74 (kI 1)) [74], oQ 74 128])))))))
(rS [oA 4 kT []] .ret))))))), [.t 4]⟩
/-- ( interrex/clock.Clocks).Drift -/
def f19 : AFn := ⟨1, (rS [oA 2 (kI 0) [2]] (rS [oA 3 (kI 0) []] (.seq (rS [oP 6 0, oO 7 (.eqn true 6 (.c .nilp)) [6]] (.cond 7 (rS [oP 8 0, oO 9 (.nilc 8) [8], oE 10 0 9, oL 11 10, oO 12 (.lenL 11) [11], oM 13 (kI 0) []] (.blk 0 (.loop (rS [oO 14 (.bin .lss 13 12) []] (.seq (.cond 14 .skip
 (.exit 0))
(.seq (.blk 1 (rS [oP 15 13, oB 4 15] (rS [oP 16 0, oO 17 (.nilc 16) [16], oE 18 0 17, oL 19 18, oO 20 (.lenL 19) [19], oM 21 (kI 0) []] (.blk 2 (.loop (rS [oO 22 (.bin .lss 21 20) []] (.seq (.cond 22 .skip
 (.exit 2))
(.seq (.blk 3 (rS [oP 23 21, oB 5 23] (.dreg [dq 0 (oP 24 3),
 dq 1 (oP 25 0),
 dq 2 (oP 26 4),
 dq 3 (oP 27 5),
 dq 4 (oO 28 (.nilc 25) []),
 dq 5 (oF 29 65 28),
 dq 6 (oO 30 (.iaar 8 8 29 26) []),
 dq 7 (oO 31 (.iaar 8 1 30 27) []),
 dq 8 (oK 32 31),
 dq 9 (oP 33 0),
 dq 10 (oP 34 4),
 dq 11 (oP 35 5),
 dq 12 (oO 36 (.nilc 33) []),
 dq 13 (oF 37 1 36),
 dq 14 (oO 38 (.iaar 8 8 37 34) []),
 dq 15 (oO 39 (.iaar 8 1 38 35) []),
 dq 16 (oK 40 39),
 dq 17 (oO 41 (.bin .sub 32 40) []),
 dq 18 (oO 42 (.mnmx true [24,41]) []),
 ⟨19, (oA 3 42 []), true, []⟩] [24,25,26,5,27,28,29,30,31,32,33,34,35,36,37,38,39,40,41,42])))
(rR [oO 43 (.bin .add 21 (kI 1)) [21], oQ 21 43])))))))))
(rR [oO 44 (.bin .add 13 (kI 1)) [13], oQ 13 44])))))))
 .skip))
(rS [oQ 45 3, oB 2 45] .ret)))), [.t 2]⟩
/-- ( interrex/elect.Elect).Leads -/
def f20 : AFn := ⟨2, (rS [oA 4 kF [4]] (rS [oP 5 0, oO 6 (.eqn true 5 (.c .nilp)) [5], oQ 7 6, oG 8 (.mv 0) 7 [], oG 9 (.nilc 8) 7 [8], oG 10 (.faddr 9 9) 7 [9], oG 11 (.load none 10) 7 [10], oG 12 (.bin .gtr 11 (kI 0)) 7 [11], oO 13 (.pick 7 12 kF) [7,12], oQ 14 13, oG 15 (.mv 1) 14 [1], oG 16 (.mv 0) 14 [0], oG 17 (.nilc 16) 14 [16], oG 18 (.faddr 10 17) 14 [17], oG 19 (.load none 18) 14 [18], oG 20 (.call 58 [15,19]) 14 [15,19], oO 21 (.pick 14 20 kF) [14,20], oB 4 21] .ret)), [.t 4]⟩
/-- interrex/lease.Due -/
def f21 : AFn := ⟨2, (rS [oA 4 kF [4]] (rS [oQ 5 0, oO 6 (.call 59 [5]) [5], oQ 7 1, oO 8 (.call 59 [7]) [7], oO 9 (.bin .sub 6 8) [6,8], oO 10 (.bin .geq 9 (kI 300)) [9], oB 4 10] .ret)), [.t 4]⟩
/-- ( interrex/elect.Elect).Term -/
def f22 : AFn := ⟨1, (rS [oA 2 (kI 0) [2]] (.seq (rS [oP 3 0, oO 4 (.eqn false 3 (.c .nilp)) [3]] (.cond 4 (rS [oA 2 (kI 0) []] .ret)
 .skip))
(rS [oQ 5 0, oO 6 (.nilc 5) [5], oE 7 9 6, oL 8 7, oB 2 8] .ret))), [.t 2]⟩
/-- interrex/net.New -/
def f23 : AFn := ⟨1, (rS [oA 2 (.c .nilp) [2]] (rS [oQ 3 0, oO 4 (.mnmx true [3,(kI 1)]) [3], oO 5 (.mnmx false [4,(kI 1000)]) [4], oO 6 (.bld [.nils,(vI 0)] [(1, 1, 5)]) [5], oO 7 (.box true 6) [6], oB 2 7] .ret)), [.t 2]⟩
/-- ( interrex/net.Net).Len -/
def f24 : AFn := ⟨1, (rS [oA 2 (kI 0) [2]] (.seq (rS [oP 3 0, oO 4 (.eqn false 3 (.c .nilp)) [3]] (.cond 4 (rS [oA 2 (kI 0) []] .ret)
 .skip))
(rS [oQ 5 0, oO 6 (.nilc 5) [5], oE 7 0 6, oL 8 7, oO 9 (.lenL 8) [8], oB 2 9] .ret))), [.t 2]⟩
/-- ( interrex/net.Net).Send -/
def f25 : AFn := ⟨2, (rS [oO 3 (.box false 1) [1], oA 4 kF [4]] (.seq (.seq (.dreg [dq 0 (oP 5 0),
 ⟨1, (oO 6 (.eqn false 5 (.c .nilp)) []), true, []⟩,
 dq 2 (oP 7 6),
 dq 3 (oH 8 (.mv 0) 7 []),
 dq 4 (oH 9 (.nilc 8) 7 []),
 dq 5 (oH 10 (.faddr 0 9) 7 []),
 dq 6 (oH 11 (.load none 10) 7 []),
 dq 7 (oH 12 (.lenL 11) 7 []),
 dq 8 (oH 13 (.mv 0) 7 []),
 dq 9 (oH 14 (.nilc 13) 7 []),
 dq 10 (oH 15 (.faddr 1 14) 7 []),
 dq 11 (oH 16 (.load none 15) 7 []),
 dq 12 (oH 17 (.bin .geq 12 16) 7 []),
 dq 13 (oO 18 (.pick 7 kT 17) [])] [5,6,7,8,9,10,11,12,13,14,15,16,17])
(.cond 18 (rS [oA 4 kF []] .ret)
 .skip))
(.seq (.dreg [dq 0 (oP 19 0),
 dq 1 (oP 20 0),
 dq 2 (oO 21 (.nilc 20) []),
 dq 3 (oF 22 0 21),
 dq 4 (oK 23 22),
 dq 5 (oO 24 (.load (some 3) 3) []),
 ⟨6, (oO 25 (.call 60 [24]) []), true, [4]⟩,
 ⟨7, (oO 26 (.bsl (.mu true) 3 1 [(.b false),(vI 0),.nils] [(0, 25)]) []), true, [4]⟩,
 ⟨8, (oO 27 (.append (.mu true) 3 40 23 26) []), true, []⟩,
 dq 9 (oO 28 (.nilc 19) []),
 dq 10 (oF 29 0 28),
 ⟨11, (oN (.store 1 29 27) []), true, []⟩] [0,19,20,21,22,23,3,24,25,26,27,28,29])
(rS [oA 4 kT []] .ret)))), [.t 4]⟩
/-- ( interrex/net.Net).Take -/
def f26 : AFn := ⟨3, (rS [oO 6 (.alloc false [(.b false),(vI 0),.nils]) [], oA 7 kF [7]] (rS [oP 10 0, oO 11 (.call 24 [10]) [10], oB 8 11] (.seq (rS [oP 12 8, oO 13 (.bin .eql 12 (kI 0)) [12]] (.cond 13 (rS [oO 14 (.bld [(.b false),(vI 0),.nils] []) [], oN (.store 3 6 14) [14], oA 7 kF []] .ret)
 .skip))
(rS [oQ 15 1, oP 16 8, oO 17 (.bin .rem 15 16) [15,16], oP 18 8, oO 19 (.bin .add 17 18) [17,18], oQ 20 8, oO 21 (.bin .rem 19 20) [19,20], oB 1 21] (rS [oP 22 0, oO 23 (.nilc 22) [22], oE 24 0 23, oL 25 24, oP 26 1, oO 27 (.iasl 3 25 26) [25,26], oO 28 (.load (some 3) 27) [27], oO 29 (.call 60 [28]) [28], oO 9 (.alloc false [(.b false),(vI 0),.nils]) [], oN (.store 3 9 29) [29]] (.seq (rS [oQ 30 2, oO 31 (.un .not 30) [30]] (.cond 31 (rR [oP 32 0, oQ 33 0, oO 34 (.nilc 33) [33], oE 35 0 34, oL 36 35, oP 37 1, oQ 38 1, oO 39 (.bin .add 38 (kI 1)) [38], oO 40 (.call 61 [36,37,39]) [36,37,39], oO 41 (.nilc 32) [32], oE 42 0 41, oN (.store 1 42 40) [42,40]])
 .skip))
(rS [oO 43 (.load (some 3) 9) [9], oN (.store 3 6 43) [43], oA 7 kT []] .ret))))))), [.cell 6 (some 3),.t 7]⟩
/-- interrex/interrexlaw10.sameMail -/
def f27 : AFn := ⟨2, (rS [oO 2 (.box false 0) [0], oO 3 (.box false 1) [1], oA 4 kF [4]] (rS [oF 5 0 2, oL 6 5, oF 7 0 3, oL 8 7, oO 9 (.eqc false [.b] false 6 8) [6,8], oQ 10 9, oG 11 (.faddr 1 2) 10 [], oG 12 (.load none 11) 10 [11], oG 13 (.faddr 1 3) 10 [], oG 14 (.load none 13) 10 [13], oG 15 (.bin .eql 12 14) 10 [12,14], oO 16 (.pick 10 15 kF) [10,15], oQ 17 16, oG 18 (.faddr 2 2) 17 [2], oG 19 (.load none 18) 17 [18], oG 20 (.faddr 2 3) 17 [3], oG 21 (.load none 20) 17 [20], oG 22 (.call 62 [19,21]) 17 [19,21], oO 23 (.pick 17 22 kF) [17,22], oB 4 23] .ret)), [.t 4]⟩
/-- ( interrex/net.Net).All -/
def f28 : AFn := ⟨1, (rS [oA 2 (.c .nils) [2]] (rS [oA 3 (.c .nils) []] (.seq (rS [oP 5 0, oO 6 (.call 24 [5]) [5], oM 7 (kI 0) []] (.blk 0 (.loop (rS [oO 8 (.bin .lss 7 6) []] (.seq (.cond 8 .skip
 (.exit 0))
(.seq (.blk 1 (rS [oP 9 7, oB 4 9] (rR [oQ 10 3, oP 11 0, oO 12 (.nilc 11) [11], oE 13 0 12, oL 14 13, oQ 15 4, oO 16 (.iasl 3 14 15) [14,15], oO 17 (.load (some 3) 16) [16], oO 18 (.call 60 [17]) [17], oO 19 (.bsl (.im false) 3 1 [(.b false),(vI 0),.nils] [(0, 18)]) [18], oO 20 (.append (.im false) 3 40 10 19) [10,19], oB 3 20])))
(rR [oO 21 (.bin .add 7 (kI 1)) [7], oQ 7 21])))))))
(rS [oQ 22 3, oB 2 22] .ret)))), [.t 2]⟩
/-- interrex/cache.New -/
def f29 : AFn := ⟨0, (rS [oA 0 (.c .nilp) [0]] (rS [oO 1 (.bld [.nilm,(vI 0)] [(1, 1, (kI (-1)))]) [], oO 2 (.box true 1) [1], oB 0 2] .ret)), [.t 0]⟩
/-- interrex/relist.New -/
def f30 : AFn := ⟨1, (rS [oA 2 (.c .nilp) [2]] (.seq (rS [oP 3 0, oO 4 (.bin .lss 3 (kI 0)) [3], oQ 5 4, oH 6 (.mv 0) 5 [], oH 7 (.bin .gtr 6 (kI 7)) 5 [6], oO 8 (.pick 5 kT 7) [5,7]] (.cond 8 (rS [oA 2 (.c .nilp) []] .ret)
 .skip))
(rS [oQ 9 0, oO 10 (.call 29 []) [], oO 11 (.bld [(vI 0),(vI 0),.nilp,(.b false),(vI 0),(vI 0),(vI 0),vS,(vI 0),.nils,.nils,(vI 0),(vI 0)] [(0, 1, 9),(2, 1, 10)]) [9,10], oO 12 (.box true 11) [11], oB 2 12] .ret))), [.t 2]⟩
/-- interrex/assume.New -/
def f31 : AFn := ⟨0, (rS [oA 0 (.c .nilp) [0]] (rS [oO 1 (.bld [.nils] []) [], oO 2 (.box true 1) [1], oB 0 2] .ret)), [.t 0]⟩
/-- ( interrex/relist.Relist).Want -/
def f32 : AFn := ⟨2, (rS [oO 4 (.alloc false [(vI 0),(vI 0),(vI 0),vS,(vI 0),.nils,.nils]) [], oA 5 kF [5]] (.seq (rS [oP 7 0, oO 8 (.eqn false 7 (.c .nilp)) [7], oQ 9 8, oH 10 (.mv 0) 9 [], oH 11 (.nilc 10) 9 [10], oH 12 (.faddr 3 11) 9 [11], oH 13 (.load none 12) 9 [12], oH 14 (.mv 13) 9 [13], oG 15 (.mv 1) 14 [], oG 16 (.mv 0) 14 [], oG 17 (.nilc 16) 14 [16], oG 18 (.faddr 11 17) 14 [17], oG 19 (.load none 18) 14 [18], oG 20 (.call 63 [15,19]) 14 [15,19], oG 21 (.un .not 20) 14 [20], oH 22 (.pick 14 21 kF) 9 [14,21], oO 23 (.pick 9 kT 22) [9,22]] (.cond 23 (rS [oO 24 (.bld [(vI 0),(vI 0),(vI 0),vS,(vI 0),.nils,.nils] []) [], oN (.store 7 4 24) [24], oA 5 kF []] .ret)
 .skip))
(rS [oP 25 0, oO 26 (.nilc 25) [], oE 27 1 26, oL 28 27, oO 29 (.bin .add 28 (kI 1)) [28], oO 30 (.nilc 25) [25], oE 31 1 30, oN (.store 1 31 29) [31,29]] (.seq (.dreg [dq 0 (oP 32 0),
 dq 1 (oP 33 0),
 dq 2 (oO 34 (.nilc 33) []),
 dq 3 (oF 35 0 34),
 dq 4 (oK 36 35),
 dq 5 (oP 37 0),
 dq 6 (oO 38 (.nilc 37) []),
 dq 7 (oF 39 1 38),
 dq 8 (oK 40 39),
 dq 9 (oO 41 (.bld [(vI 0),(vI 0),(vI 0),vS,(vI 0),.nils,.nils] [(0, 1, 36),(1, 1, 40),(2, 1, (kI 2))]) []),
 dq 10 (oO 42 (.nilc 32) []),
 dq 11 (oF 43 4 42),
 ⟨12, (oN (.store 7 43 41) []), true, []⟩] [32,33,34,35,36,37,38,39,40,41,42,43])
(.seq (rS [oP 44 0, oO 45 (.nilc 44) [44], oE 46 2 45, oL 47 46, oO 48 (.call 41 [47]) [47], oB 6 48] (rS [oP 49 6, oO 50 (.bin .geq 49 (kI 0)) [49]] (.cond 50 (rR [oP 51 0, oP 52 0, oQ 53 6, oO 54 (.nilc 51) [51], oE 55 4 54, oE 56 2 55, oN (.store 1 56 (kI 3)) [56], oO 57 (.nilc 52) [52], oE 58 4 57, oE 59 4 58, oN (.store 1 59 53) [59,53]])
 .skip)))
(rS [oP 60 0, oP 61 0, oQ 62 1, oO 63 (.nilc 60) [60], oE 64 3 63, oN (.store 1 64 kT) [64], oO 65 (.nilc 61) [61], oE 66 11 65, oN (.store 1 66 62) [66,62]] (rS [oQ 67 0, oO 68 (.nilc 67) [67], oE 69 4 68, oO 70 (.load (some 7) 69) [69], oN (.store 7 4 70) [70], oA 5 kT []] .ret))))))), [.cell 4 (some 7),.t 5]⟩
/-- ( interrex/relist.Relist).Take -/
def f33 : AFn := ⟨2, (rS [oO 3 (.box false 1) [1], oA 4 kF [4]] (.seq (.seq (.dreg [dq 0 (oP 6 0),
 ⟨1, (oO 7 (.eqn false 6 (.c .nilp)) []), true, []⟩,
 dq 2 (oP 8 7),
 dq 3 (oH 9 (.mv 0) 8 []),
 dq 4 (oH 10 (.nilc 9) 8 []),
 dq 5 (oH 11 (.faddr 3 10) 8 []),
 dq 6 (oH 12 (.load none 11) 8 []),
 dq 7 (oH 13 (.un .not 12) 8 []),
 dq 8 (oO 14 (.pick 8 kT 13) []),
 dq 9 (oP 15 14),
 dq 10 (oH 16 (.faddr 0 3) 15 []),
 dq 11 (oH 17 (.load none 16) 15 []),
 dq 12 (oH 18 (.mv 0) 15 []),
 dq 13 (oH 19 (.nilc 18) 15 []),
 dq 14 (oH 20 (.faddr 0 19) 15 []),
 dq 15 (oH 21 (.load none 20) 15 []),
 dq 16 (oH 22 (.bin .neq 17 21) 15 []),
 dq 17 (oO 23 (.pick 15 kT 22) []),
 dq 18 (oP 24 23),
 dq 19 (oH 25 (.faddr 1 3) 24 []),
 dq 20 (oH 26 (.load none 25) 24 []),
 dq 21 (oH 27 (.mv 0) 24 []),
 dq 22 (oH 28 (.nilc 27) 24 []),
 dq 23 (oH 29 (.faddr 4 28) 24 []),
 dq 24 (oH 30 (.faddr 1 29) 24 []),
 dq 25 (oH 31 (.load none 30) 24 []),
 dq 26 (oH 32 (.bin .neq 26 31) 24 []),
 dq 27 (oO 33 (.pick 24 kT 32) []),
 dq 28 (oP 34 33),
 dq 29 (oH 35 (.faddr 2 3) 34 []),
 dq 30 (oH 36 (.load none 35) 34 []),
 dq 31 (oH 37 (.mv 0) 34 []),
 dq 32 (oH 38 (.nilc 37) 34 []),
 dq 33 (oH 39 (.faddr 4 38) 34 []),
 dq 34 (oH 40 (.faddr 2 39) 34 []),
 dq 35 (oH 41 (.load none 40) 34 []),
 dq 36 (oH 42 (.bin .neq 36 41) 34 []),
 dq 37 (oO 43 (.pick 34 kT 42) [])] [6,7,8,9,10,11,12,13,14,15,16,17,18,19,20,21,22,23,24,25,26,27,28,29,30,31,32,33,34,35,36,37,38,39,40,41,42])
(.cond 43 (rS [oA 4 kF []] .ret)
 .skip))
(rS [oP 44 0, oO 45 (.nilc 44) [44], oE 46 3 45, oN (.store 1 46 kF) [46]] (.seq (.blk 0 (rS [oF 48 2 3, oL 49 48, oO 50 (.bin .eql 49 (kI 2)) [49], oQ 51 50, oG 52 (.faddr 3 3) 51 [], oG 53 (.load none 52) 51 [52], oG 54 (.bin .eql 53 (kI 0)) 51 [53], oO 55 (.pick 51 54 kF) [51,54], oB 47 55] (.cond 47 (.seq (.dreg [dq 0 (oP 56 0),
 dq 1 (oO 57 (.nilc 56) []),
 dq 2 (oF 58 2 57),
 dq 3 (oK 59 58),
 dq 4 (oF 60 4 3),
 dq 5 (oK 61 60),
 dq 6 (oF 62 5 3),
 dq 7 (oK 63 62),
 ⟨8, (oO 64 (.call 64 [59,61,63]) []), true, []⟩,
 dq 9 (oA 5 64 [])] [56,57,58,59,3,60,61,62,63,64])
(.seq (rS [oP 65 5] (.cond 65 (rR [oQ 66 0, oO 67 (.nilc 66) [], oE 68 12 67, oL 69 68, oO 70 (.bin .add 69 (kI 1)) [69], oO 71 (.nilc 66) [66], oE 72 12 71, oN (.store 1 72 70) [72,70]])
 .skip))
(rS [oQ 73 5, oB 4 73] .ret)))
 (rS [oF 75 2 3, oL 76 75, oO 77 (.bin .eql 76 (kI 3)) [76], oQ 78 77, oG 79 (.faddr 3 3) 78 [], oG 80 (.load none 79) 78 [79], oG 81 (.bin .eql 80 (kI 0)) 78 [80], oG 82 (.mv 81) 78 [81], oH 83 (.faddr 3 3) 82 [], oH 84 (.load none 83) 82 [83], oH 85 (.bin .eql 84 (kI 7)) 82 [84], oG 86 (.pick 82 kT 85) 78 [82,85], oG 87 (.mv 86) 78 [86], oH 88 (.faddr 3 3) 87 [], oH 89 (.load none 88) 87 [88], oH 90 (.bin .eql 89 (kI 2)) 87 [89], oG 91 (.pick 87 kT 90) 78 [87,90], oO 92 (.pick 78 91 kF) [78,91], oB 74 92] (.cond 74 (.seq (.seq (.dreg [dq 0 (oF 93 3 3),
 dq 1 (oK 94 93),
 dq 2 (oO 95 (.bin .eql 94 (kI 0)) []),
 dq 3 (oP 96 95),
 dq 4 (oG 97 (.mv 0) 96 []),
 dq 5 (oG 98 (.nilc 97) 96 []),
 dq 6 (oG 99 (.faddr 2 98) 96 []),
 dq 7 (oG 100 (.load none 99) 96 []),
 dq 8 (oG 101 (.mv 0) 96 []),
 dq 9 (oG 102 (.nilc 101) 96 []),
 dq 10 (oG 103 (.faddr 4 102) 96 []),
 dq 11 (oG 104 (.faddr 4 103) 96 []),
 dq 12 (oG 105 (.load none 104) 96 []),
 dq 13 (oG 106 (.faddr 4 3) 96 []),
 dq 14 (oG 107 (.load none 106) 96 []),
 dq 15 (oG 108 (.faddr 6 3) 96 []),
 dq 16 (oG 109 (.load none 108) 96 []),
 ⟨17, (oG 110 (.call 65 [100,105,107,109]) 96 []), true, []⟩,
 dq 18 (oO 111 (.pick 96 110 kF) [])] [3,93,94,95,96,97,98,99,100,101,102,103,104,105,106,107,108,109,110])
(.cond 111 (rS [oA 4 kT []] .ret)
 .skip))
(rR [oQ 112 0, oO 113 (.nilc 112) [112], oE 114 2 113, oL 115 114, oO 116 (.call 66 [115]) [115,116]]))
 .skip)))))
(rS [oA 4 kF []] .ret))))), [.t 4]⟩
/-- interrex/code.PutLease -/
def f34 : AFn := ⟨1, (rS [oO 1 (.box false 0) [0], oA 2 (.c .nils) [2]] (.seq (rS [oF 4 0 1, oL 5 4, oO 6 (.bin .lss 5 (kI 0)) [5], oQ 7 6, oH 8 (.faddr 0 1) 7 [], oH 9 (.load none 8) 7 [8], oH 10 (.bin .gtr 9 (kI 7)) 7 [9], oO 11 (.pick 7 kT 10) [7,10], oQ 12 11, oH 13 (.faddr 1 1) 12 [], oH 14 (.load none 13) 12 [13], oH 15 (.bin .lss 14 (kI 1)) 12 [14], oO 16 (.pick 12 kT 15) [12,15], oQ 17 16, oH 18 (.faddr 1 1) 17 [], oH 19 (.load none 18) 17 [18], oH 20 (.bin .gtr 19 (kI 1099511627776)) 17 [19], oO 21 (.pick 17 kT 20) [17,20]] (.cond 21 (rS [oA 2 (.c .nils) []] .ret)
 .skip))
(rS [oO 3 (.alloc true [(.i .u32 0),(.i .i32 0),(.i .u32 0),(.i .u64 0),(.i .u64 0),(.i .u64 0),(.i .u64 0),(.i .u64 0),(.i .u64 0),(.i .u64 0),(.i .u64 0),(.i .u64 0),(.i .u64 0),(.i .u64 0),(.i .u64 0),(.i .u64 0),(.i .u64 0),(.i .u64 0),(.i .u64 0),(.i .u64 0),(.i .u64 0),(.i .u64 0),(.i .u64 0),(.i .u64 0),(.i .u64 0),(.i .u64 0),(.i .u64 0),(.i .u64 0),(.i .u64 0),(.i .u64 0),(.i .u64 0),(.i .u64 0),(.i .u64 0),(.i .u64 0),(.i .u64 0),(.i .u64 0),(.i .u64 0),(.i .u64 0),(.i .u64 0),(.i .u64 0),(.i .u64 0),(.i .u64 0),(.i .u64 0),(.i .u64 0),(.i .u64 0),(.i .u64 0),(.i .u64 0),(.i .u64 0),(.i .u64 0),(.i .u64 0),(.i .u64 0),(.i .u64 0),(.i .u64 0),(.i .u64 0),(.i .u64 0),(.i .u64 0),(.i .u64 0),(.i .u64 0),(.i .u64 0),(.i .u64 0),(.i .u64 0),(.i .u64 0),(.i .u64 0),(.i .u64 0),(.i .u64 0),(.i .u64 0),(.i .u64 0),(.i .u64 0),(.i .u64 0),(.i .u64 0),(.i .u64 0),(.i .u64 0),(.i .u64 0),(.i .u64 0),(.i .u64 0),(.i .u64 0),(.i .u64 0),(.i .u64 0),(.i .u64 0),(.i .u64 0),(.i .u64 0),(.i .u64 0),(.i .u64 0),(.i .u64 0),(.i .u64 0),(.i .u64 0),(.i .u64 0),(.i .u64 0),(.i .u64 0),(.i .u64 0),(.i .u64 0),(.i .u64 0),(.i .u64 0),(.i .u64 0),(.i .u64 0),(.i .u64 0),(.i .u64 0),(.i .u64 0),(.i .u64 0),(.i .u64 0),(.i .u64 0),(.i .u64 0),(.i .u64 0),(.i .u64 0),(.i .u64 0),(.i .u64 0),(.i .u64 0),(.i .u64 0),(.i .u64 0),(.i .u64 0),(.i .u64 0),(.i .u64 0),(.i .u64 0),(.i .u64 0),(.i .u64 0),(.i .u64 0),(.i .u64 0),(.i .u64 0),(.i .u64 0),(.i .u64 0),(.i .u64 0),(.i .u64 0),(.i .u64 0),(.i .u64 0),(.i .u64 0),(.i .u64 0),(.i .u64 0),(.i .u64 0),(.i .u64 0),(.i .u64 0),(.i .u64 0),(.i .u64 0),(.i .u64 0),(.i .u64 0),(.i .u64 0),(.i .u64 0),(.i .u64 0),(.i .u64 0),(.i .u64 0),(.i .u64 0),(.i .u64 0),(.i .u64 0),(.i .u64 0),(.i .u64 0),(.i .u64 0),(.i .u64 0),(.i .u64 0),(.i .u64 0),(.i .u64 0),(.i .u64 0),(.i .u64 0),(.i .u64 0),(.i .u64 0),(.i .u64 0),(.i .u64 0),(.i .u64 0),(.i .u64 0),(.i .u64 0),(.i .u64 0),(.i .u64 0),(.i .u64 0),(.i .u64 0),(.i .u64 0),(.i .u64 0),(.i .u64 0),(.i .u64 0),(.i .u64 0),(.i .u64 0),(.i .u64 0),(.i .u64 0),(.i .u64 0),(.i .u64 0),(.i .u64 0),(.i .u64 0),(.i .u64 0),(.i .u64 0),(.i .u64 0),(.i .u64 0),(.i .u64 0),(.i .u64 0),(.i .u64 0),(.i .u64 0),(.i .u64 0),(.i .u64 0),(.i .u64 0),(.i .u64 0),(.i .u64 0),(.i .u64 0),(.i .u64 0),(.i .u64 0),(.i .u64 0),(.i .u64 0),(.i .u64 0),(.i .u64 0),(.i .u64 0),(.i .u64 0),(.i .u64 0),(.i .u64 0),(.i .u64 0),(.i .u64 0),(.i .u64 0),(.i .u64 0),(.i .u64 0),(.i .u64 0),(.i .u64 0),(.i .u64 0),(.i .u64 0),(.i .u64 0),(.i .u64 0),(.i .u64 0),(.i .u64 0),(.i .u64 0),(.i .u64 0),(.i .u64 0),(.i .u64 0),(.i .u64 0),(.i .u64 0),(.i .u64 0),(.i .u64 0),(.i .u64 0),(.i .u64 0),(.i .u64 0),(.i .u64 0),(.i .u64 0),(.i .u64 0),(.i .u64 0),(.i .u64 0),(.i .u64 0),(.i .u64 0),(.i .u64 0),(.i .u64 0),(.i .u64 0),(.i .u64 0),(.i .u64 0),(.i .u64 0),(.i .u64 0),(.i .u64 0),(.i .u64 0),(.i .u64 0),(.i .u64 0),(.i .u64 0),(.i .u64 0),(.i .u64 0),(.i .u64 0),(.i .u64 0),(.i .u64 0),(.i .u64 0),(.i .u64 0),(.i .u64 0),(.i .u64 0),(.i .u64 0),(.i .u64 0),(.i .u64 0),(.i .u64 0),(.i .u64 0),(.i .u64 0),(.i .u64 0),(.i .u64 0),(.i .u64 0),(.i .u8 0),(.i .u8 0),(.i .u8 0),(.i .u8 0),(.i .u8 0),(.i .u8 0),(.i .u8 0),(.i .u8 0),(.i .u8 0),(.i .u8 0),(.i .u8 0),(.i .u8 0),(.i .u8 0),(.i .u8 0),(.i .u8 0),(.i .u8 0),(.i .u8 0),(.i .u8 0),(.i .u8 0),(.i .u8 0),(.i .u8 0),(.i .u8 0),(.i .u8 0),(.i .u8 0),(.i .u8 0),(.i .u8 0),(.i .u8 0),(.i .u8 0),(.i .u8 0),(.i .u8 0),(.i .u8 0),(.i .u8 0),(.i .u8 0),(.i .u8 0),(.i .u8 0),(.i .u8 0),(.i .u8 0),(.i .u8 0),.nils]) []] (rS [oO 22 (.call 67 [3,(kI 3),(kI 1)]) [22]] (rS [oF 23 0 1, oL 24 23, oO 25 (.call 67 [3,24,(kI 1)]) [24,25]] (rS [oE 26 1 1, oL 27 26, oO 28 (.call 67 [3,27,(kI 8)]) [27,28]] (rS [oO 29 (.call 68 [3]) [3], oB 2 29] .ret))))))), [.t 2]⟩
/-- ( interrex/assume.Assume).Put -/
def f35 : AFn := ⟨5, (rS [oO 6 (.box false 1) [1], oA 10 kF [10]] (.seq (rS [oP 11 0, oO 12 (.eqn false 11 (.c .nilp)) [11], oQ 13 12, oH 14 (.mv 0) 13 [], oH 15 (.nilc 14) 13 [14], oH 16 (.faddr 0 15) 13 [15], oH 17 (.load none 16) 13 [16], oH 18 (.lenL 17) 13 [17], oH 19 (.bin .geq 18 (kI 40)) 13 [18], oO 20 (.pick 13 kT 19) [13,19], oQ 21 20, oH 22 (.faddr 1 6) 21 [], oH 23 (.load none 22) 21 [22], oH 24 (.bin .eql 23 (.c vS)) 21 [23], oO 25 (.pick 21 kT 24) [21,24], oQ 26 25, oH 27 (.mv 0) 26 [], oH 28 (.faddr 0 6) 26 [], oH 29 (.load none 28) 26 [28], oH 30 (.call 43 [27,29]) 26 [27,29], oO 31 (.pick 26 kT 30) [26,30]] (.cond 31 (rS [oA 10 kF []] .ret)
 .skip))
(.seq (.dreg [dq 0 (oP 32 0),
 dq 1 (oP 33 0),
 dq 2 (oO 34 (.nilc 33) []),
 dq 3 (oF 35 0 34),
 dq 4 (oK 36 35),
 dq 5 (oO 37 (.load (some 3) 6) []),
 dq 7 (oP 39 2),
 dq 8 (oP 40 3),
 dq 9 (oP 41 4),
 ⟨6, (oO 38 (.call 69 [37]) []), true, [4]⟩,
 dq 10 (oO 42 (.bld [vS,vS,.nils,(vI 0),(vI 0),(vI 0)] [(0, 3, 38),(3, 1, 39),(4, 1, 40),(5, 1, 41)]) []),
 ⟨11, (oO 43 (.bsl (.mu true) 6 1 [vS,vS,.nils,(vI 0),(vI 0),(vI 0)] [(0, 42)]) []), true, [4]⟩,
 ⟨12, (oO 44 (.append (.mu true) 6 80 36 43) []), true, []⟩,
 dq 13 (oO 45 (.nilc 32) []),
 dq 14 (oF 46 0 45),
 ⟨15, (oN (.store 1 46 44) []), true, []⟩] [0,32,33,34,35,36,6,37,38,2,39,3,40,4,41,42,43,44,45,46])
(rS [oA 10 kT []] .ret)))), [.t 10]⟩
/-- interrex/state.Of -/
def f36 : AFn := ⟨1, (rS [oO 2 (.alloc false [.nils,.nils]) [], oA 3 kF [3]] (rS [oO 4 (.alloc false [.nils,.nils]) []] (.seq (rS [oQ 12 0, oO 13 (.lenL 12) [], oM 14 (kI 0) []] (.blk 0 (.loop (rS [oO 15 (.bin .lss 14 13) []] (.seq (.cond 15 .skip
 (.exit 0))
(.seq (.blk 1 (rS [oO 16 (.iasl 3 12 14) [], oO 17 (.load (some 3) 16) [16], oO 6 (.alloc false [vS,(vI 0),.nils]) [], oN (.store 3 6 17) [17]] (rS [oA 7 kT []] (.seq (rS [oF 18 0 6, oL 19 18, oO 20 (.call 70 [19]) [19]] (.blk 2 (rS [oO 22 (.bin .eql 20 (kI 1)) [], oB 21 22] (.cond 21 (rS [oO 8 (.alloc false zP) []] (rS [oF 24 2 6, oL 25 24, oO 26 (.call 71 [25]) [25], oQ 23 26, oO 27 (.ext 23 0) [], oO 28 (.ext 23 1) [23], oN (.store 16 8 27) [27], oB 7 28] (.seq (.dreg [dq 0 (oP 29 7),
 dq 1 (oP 30 29),
 dq 2 (oG 31 (.faddr 0 8) 30 []),
 dq 3 (oG 32 (.load none 31) 30 []),
 dq 5 (oG 34 (.faddr 0 6) 30 []),
 dq 6 (oG 35 (.load none 34) 30 []),
 ⟨4, (oG 33 (.call 55 [(kI 1),32]) 30 []), true, [6]⟩,
 dq 7 (oG 36 (.bin .eql 33 35) 30 []),
 dq 8 (oO 37 (.pick 30 36 kF) []),
 ⟨9, (oA 7 37 []), true, []⟩] [29,30,31,32,33,6,34,35,36,37])
(rR [oF 38 1 4, oL 39 38, oO 40 (.load (some 16) 8) [8], oO 41 (.bsl (.mu true) 16 1 zP [(0, 40)]) [40], oO 42 (.append (.mu true) 16 248 39 41) [39,41], oF 43 1 4, oN (.store 1 43 42) [43,42]]))))
 (rS [oO 45 (.bin .eql 20 (kI 2)) [20], oB 44 45] (.cond 44 (rS [oO 9 (.alloc false zN) []] (rS [oF 47 2 6, oL 48 47, oO 49 (.call 72 [48]) [48], oQ 46 49, oO 50 (.ext 46 0) [], oO 51 (.ext 46 1) [46], oN (.store 6 9 50) [50], oB 7 51] (.seq (.dreg [dq 0 (oP 52 7),
 dq 1 (oP 53 52),
 dq 2 (oG 54 (.faddr 0 9) 53 []),
 dq 3 (oG 55 (.load none 54) 53 []),
 dq 5 (oG 57 (.faddr 0 6) 53 []),
 dq 6 (oG 58 (.load none 57) 53 []),
 ⟨4, (oG 56 (.call 55 [(kI 2),55]) 53 []), true, [6]⟩,
 dq 7 (oG 59 (.bin .eql 56 58) 53 []),
 dq 8 (oO 60 (.pick 53 59 kF) []),
 ⟨9, (oA 7 60 []), true, []⟩] [52,53,54,55,56,6,57,58,59,60])
(rR [oF 61 0 4, oL 62 61, oO 63 (.load (some 6) 9) [9], oO 64 (.bsl (.mu true) 6 1 zN [(0, 63)]) [63], oO 65 (.append (.mu true) 6 88 62 64) [62,64], oF 66 0 4, oN (.store 1 66 65) [66,65]]))))
 .skip))))))
(rS [oQ 67 7, oO 68 (.un .not 67) [67]] (.cond 68 (rS [oO 69 (.bld [.nils,.nils] []) [], oN (.store 2 2 69) [69], oA 3 kF []] .ret)
 .skip))))))
(rR [oO 70 (.bin .add 14 (kI 1)) [14], oQ 14 70])))))))
(rS [oF 71 1 4, oL 72 71, oO 73 (.call 73 [72,(.c (.fn 74 [] []))]) [72,73]] (rS [oF 74 0 4, oL 75 74, oO 76 (.call 76 [75,(.c (.fn 77 [] []))]) [75,76]] (.seq (rS [oA 10 (kI 1) []] (.blk 3 (.loop (.seq (rS [oP 77 10, oF 78 1 4, oL 79 78, oO 80 (.lenL 79) [79], oO 81 (.bin .lss 77 80) [77,80]] (.cond 81 .skip
 (.exit 3)))
(.seq (.blk 4 (.seq (.dreg [dq 0 (oF 84 1 4),
 dq 1 (oK 85 84),
 dq 2 (oP 86 10),
 dq 3 (oO 87 (.iasl 16 85 86) []),
 dq 4 (oF 88 0 87),
 dq 5 (oK 89 88),
 dq 6 (oF 90 1 4),
 dq 7 (oK 91 90),
 dq 8 (oP 92 10),
 dq 9 (oO 93 (.bin .sub 92 (kI 1)) []),
 dq 10 (oO 94 (.iasl 16 91 93) []),
 dq 11 (oF 95 0 94),
 dq 12 (oK 96 95),
 dq 13 (oO 97 (.bin .eql 89 96) [])] [84,85,86,87,88,89,90,91,92,93,94,95,96])
(.cond 97 (rS [oO 98 (.bld [.nils,.nils] []) [], oN (.store 2 2 98) [98], oA 3 kF []] .ret)
 .skip)))
(rR [oQ 82 10, oO 83 (.bin .add 82 (kI 1)) [82], oB 10 83]))))))
(.seq (rS [oA 11 (kI 1) []] (.blk 5 (.loop (.seq (rS [oP 99 11, oF 100 0 4, oL 101 100, oO 102 (.lenL 101) [101], oO 103 (.bin .lss 99 102) [99,102]] (.cond 103 .skip
 (.exit 5)))
(.seq (.blk 6 (.seq (.dreg [dq 0 (oF 106 0 4),
 dq 1 (oK 107 106),
 dq 2 (oP 108 11),
 dq 3 (oO 109 (.iasl 6 107 108) []),
 dq 4 (oF 110 0 109),
 dq 5 (oK 111 110),
 dq 6 (oF 112 0 4),
 dq 7 (oK 113 112),
 dq 8 (oP 114 11),
 dq 9 (oO 115 (.bin .sub 114 (kI 1)) []),
 dq 10 (oO 116 (.iasl 6 113 115) []),
 dq 11 (oF 117 0 116),
 dq 12 (oK 118 117),
 dq 13 (oO 119 (.bin .eql 111 118) [])] [106,107,108,109,110,111,112,113,114,115,116,117,118])
(.cond 119 (rS [oO 120 (.bld [.nils,.nils] []) [], oN (.store 2 2 120) [120], oA 3 kF []] .ret)
 .skip)))
(rR [oQ 104 11, oO 105 (.bin .add 104 (kI 1)) [104], oB 11 105]))))))
(rS [oO 121 (.load (some 2) 4) [4], oN (.store 2 2 121) [121], oA 3 kT []] .ret)))))))), [.cell 2 (some 2),.t 3]⟩
/-- interrex/code.PutPod -/
def f37 : AFn := ⟨1, (rS [oO 1 (.box false 0) [0], oA 2 (.c .nils) [2]] (.seq (rS [oO 8 (.load (some 16) 1) [], oO 9 (.call 78 [8]) [8], oO 10 (.un .not 9) [9]] (.cond 10 (rS [oA 2 (.c .nils) []] .ret)
 .skip))
(rS [oO 3 (.alloc true [(.i .u32 0),(.i .i32 0),(.i .u32 0),(.i .u64 0),(.i .u64 0),(.i .u64 0),(.i .u64 0),(.i .u64 0),(.i .u64 0),(.i .u64 0),(.i .u64 0),(.i .u64 0),(.i .u64 0),(.i .u64 0),(.i .u64 0),(.i .u64 0),(.i .u64 0),(.i .u64 0),(.i .u64 0),(.i .u64 0),(.i .u64 0),(.i .u64 0),(.i .u64 0),(.i .u64 0),(.i .u64 0),(.i .u64 0),(.i .u64 0),(.i .u64 0),(.i .u64 0),(.i .u64 0),(.i .u64 0),(.i .u64 0),(.i .u64 0),(.i .u64 0),(.i .u64 0),(.i .u64 0),(.i .u64 0),(.i .u64 0),(.i .u64 0),(.i .u64 0),(.i .u64 0),(.i .u64 0),(.i .u64 0),(.i .u64 0),(.i .u64 0),(.i .u64 0),(.i .u64 0),(.i .u64 0),(.i .u64 0),(.i .u64 0),(.i .u64 0),(.i .u64 0),(.i .u64 0),(.i .u64 0),(.i .u64 0),(.i .u64 0),(.i .u64 0),(.i .u64 0),(.i .u64 0),(.i .u64 0),(.i .u64 0),(.i .u64 0),(.i .u64 0),(.i .u64 0),(.i .u64 0),(.i .u64 0),(.i .u64 0),(.i .u64 0),(.i .u64 0),(.i .u64 0),(.i .u64 0),(.i .u64 0),(.i .u64 0),(.i .u64 0),(.i .u64 0),(.i .u64 0),(.i .u64 0),(.i .u64 0),(.i .u64 0),(.i .u64 0),(.i .u64 0),(.i .u64 0),(.i .u64 0),(.i .u64 0),(.i .u64 0),(.i .u64 0),(.i .u64 0),(.i .u64 0),(.i .u64 0),(.i .u64 0),(.i .u64 0),(.i .u64 0),(.i .u64 0),(.i .u64 0),(.i .u64 0),(.i .u64 0),(.i .u64 0),(.i .u64 0),(.i .u64 0),(.i .u64 0),(.i .u64 0),(.i .u64 0),(.i .u64 0),(.i .u64 0),(.i .u64 0),(.i .u64 0),(.i .u64 0),(.i .u64 0),(.i .u64 0),(.i .u64 0),(.i .u64 0),(.i .u64 0),(.i .u64 0),(.i .u64 0),(.i .u64 0),(.i .u64 0),(.i .u64 0),(.i .u64 0),(.i .u64 0),(.i .u64 0),(.i .u64 0),(.i .u64 0),(.i .u64 0),(.i .u64 0),(.i .u64 0),(.i .u64 0),(.i .u64 0),(.i .u64 0),(.i .u64 0),(.i .u64 0),(.i .u64 0),(.i .u64 0),(.i .u64 0),(.i .u64 0),(.i .u64 0),(.i .u64 0),(.i .u64 0),(.i .u64 0),(.i .u64 0),(.i .u64 0),(.i .u64 0),(.i .u64 0),(.i .u64 0),(.i .u64 0),(.i .u64 0),(.i .u64 0),(.i .u64 0),(.i .u64 0),(.i .u64 0),(.i .u64 0),(.i .u64 0),(.i .u64 0),(.i .u64 0),(.i .u64 0),(.i .u64 0),(.i .u64 0),(.i .u64 0),(.i .u64 0),(.i .u64 0),(.i .u64 0),(.i .u64 0),(.i .u64 0),(.i .u64 0),(.i .u64 0),(.i .u64 0),(.i .u64 0),(.i .u64 0),(.i .u64 0),(.i .u64 0),(.i .u64 0),(.i .u64 0),(.i .u64 0),(.i .u64 0),(.i .u64 0),(.i .u64 0),(.i .u64 0),(.i .u64 0),(.i .u64 0),(.i .u64 0),(.i .u64 0),(.i .u64 0),(.i .u64 0),(.i .u64 0),(.i .u64 0),(.i .u64 0),(.i .u64 0),(.i .u64 0),(.i .u64 0),(.i .u64 0),(.i .u64 0),(.i .u64 0),(.i .u64 0),(.i .u64 0),(.i .u64 0),(.i .u64 0),(.i .u64 0),(.i .u64 0),(.i .u64 0),(.i .u64 0),(.i .u64 0),(.i .u64 0),(.i .u64 0),(.i .u64 0),(.i .u64 0),(.i .u64 0),(.i .u64 0),(.i .u64 0),(.i .u64 0),(.i .u64 0),(.i .u64 0),(.i .u64 0),(.i .u64 0),(.i .u64 0),(.i .u64 0),(.i .u64 0),(.i .u64 0),(.i .u64 0),(.i .u64 0),(.i .u64 0),(.i .u64 0),(.i .u64 0),(.i .u64 0),(.i .u64 0),(.i .u64 0),(.i .u64 0),(.i .u64 0),(.i .u64 0),(.i .u64 0),(.i .u64 0),(.i .u64 0),(.i .u64 0),(.i .u64 0),(.i .u64 0),(.i .u64 0),(.i .u64 0),(.i .u64 0),(.i .u64 0),(.i .u64 0),(.i .u64 0),(.i .u64 0),(.i .u64 0),(.i .u64 0),(.i .u64 0),(.i .u64 0),(.i .u64 0),(.i .u64 0),(.i .u64 0),(.i .u64 0),(.i .u64 0),(.i .u64 0),(.i .u64 0),(.i .u64 0),(.i .u64 0),(.i .u64 0),(.i .u64 0),(.i .u64 0),(.i .u64 0),(.i .u64 0),(.i .u64 0),(.i .u8 0),(.i .u8 0),(.i .u8 0),(.i .u8 0),(.i .u8 0),(.i .u8 0),(.i .u8 0),(.i .u8 0),(.i .u8 0),(.i .u8 0),(.i .u8 0),(.i .u8 0),(.i .u8 0),(.i .u8 0),(.i .u8 0),(.i .u8 0),(.i .u8 0),(.i .u8 0),(.i .u8 0),(.i .u8 0),(.i .u8 0),(.i .u8 0),(.i .u8 0),(.i .u8 0),(.i .u8 0),(.i .u8 0),(.i .u8 0),(.i .u8 0),(.i .u8 0),(.i .u8 0),(.i .u8 0),(.i .u8 0),(.i .u8 0),(.i .u8 0),(.i .u8 0),(.i .u8 0),(.i .u8 0),(.i .u8 0),.nils]) []] (rS [oO 11 (.call 67 [3,(kI 1),(kI 1)]) [11]] (rS [oF 12 0 1, oL 13 12, oO 14 (.call 79 [3,13]) [13,14]] (rS [oF 15 1 1, oL 16 15, oO 17 (.call 67 [3,16,(kI 8)]) [16,17]] (rS [oF 18 2 1, oL 19 18, oO 20 (.call 67 [3,19,(kI 2)]) [19,20]] (rS [oF 21 3 1, oO 22 (.load (some 3) 21) [21], oO 23 (.call 80 [3,22]) [22,23]] (rS [oF 24 6 1, oL 25 24, oO 26 (.lenL 25) [25], oO 27 (.call 67 [3,26,(kI 1)]) [26,27]] (.seq (rS [oF 28 6 1, oL 29 28, oO 30 (.lenL 29) [], oM 31 (kI 0) []] (.blk 0 (.loop (rS [oO 32 (.bin .lss 31 30) []] (.seq (.cond 32 .skip
 (.exit 0))
(.seq (.blk 1 (rS [oO 33 (.iasl 1 29 31) [], oL 34 33, oB 5 34] (rR [oQ 35 5, oO 36 (.call 67 [3,35,(kI 2)]) [35,36]])))
(rR [oO 37 (.bin .add 31 (kI 1)) [31], oQ 31 37])))))))
(rS [oF 38 7 1, oL 39 38, oO 40 (.call 81 [3,39,(.c (.fn 82 [] []))]) [39,40]] (rS [oF 41 8 1, oL 42 41, oO 43 (.call 83 [3,42]) [42,43]] (rS [oF 44 9 1, oL 45 44, oO 46 (.lenL 45) [45], oO 47 (.call 67 [3,46,(kI 1)]) [46,47]] (.seq (rS [oF 48 9 1, oL 49 48, oO 50 (.lenL 49) [], oM 51 (kI 0) []] (.blk 2 (.loop (rS [oO 52 (.bin .lss 51 50) []] (.seq (.cond 52 .skip
 (.exit 2))
(.seq (.blk 3 (rS [oO 53 (.iasl 3 49 51) [], oO 54 (.load (some 3) 53) [53], oO 7 (.alloc false [vS,vS,(.b false)]) [], oN (.store 3 7 54) [54]] (rS [oF 55 0 7, oL 56 55, oO 57 (.call 79 [3,56]) [56,57]] (rS [oF 58 1 7, oL 59 58, oO 60 (.call 79 [3,59]) [59,60]] (rR [oE 61 2 7, oL 62 61, oO 63 (.call 84 [3,62]) [62,63]])))))
(rR [oO 64 (.bin .add 51 (kI 1)) [51], oQ 51 64])))))))
(rS [oF 65 10 1, oL 66 65, oO 67 (.call 79 [3,66]) [66,67]] (rS [oF 68 11 1, oL 69 68, oO 70 (.call 83 [3,69]) [69,70]] (rS [oF 71 12 1, oL 72 71, oO 73 (.call 67 [3,72,(kI 1)]) [72,73]] (rS [oF 74 13 1, oL 75 74, oO 76 (.call 83 [3,75]) [75,76]] (rS [oF 77 14 1, oL 78 77, oO 79 (.call 79 [3,78]) [78,79]] (rS [oE 80 15 1, oL 81 80, oO 82 (.call 67 [3,81,(kI 8)]) [81,82]] (rS [oO 83 (.call 68 [3]) [3], oB 2 83] .ret))))))))))))))))))))), [.t 2]⟩
/-- interrex/interrexlaw1.Some -/
def f38 : AFn := ⟨0, (rS [oO 0 (.alloc false zP) []] (rS [oO 1 (.bld [(vI 0),(vI 0),(vI 0)] [(0, 1, (kI 2)),(1, 1, (kI 3)),(2, 1, (kI 0))]) [], oO 2 (.bsl (.im false) 1 2 [(vI 0)] [(0, (kI 80)),(1, (kI 443))]) [], oO 3 (.bld [vS,vS] [(0, 1, (.c (.s [97,112,112]))),(1, 1, (.c (.s [120])))]) [], oO 4 (.bsl (.im false) 2 1 [vS,vS] [(0, 3)]) [3], oO 5 (.bsl (.im false) 1 2 [vS] [(0, (.c (.s [97]))),(1, (.c (.s [98])))]) [], oO 6 (.bld [vS,(vI 0),.nils] [(0, 1, (.c (.s [122,111,110,101]))),(1, 1, (kI 1)),(2, 1, 5)]) [5], oO 7 (.bsl (.im false) 3 1 [vS,(vI 0),.nils] [(0, 6)]) [6], oO 8 (.bld [vS,vS,(.b false)] [(2, 1, kT)]) [], oO 9 (.bsl (.im false) 3 1 [vS,vS,(.b false)] [(0, 8)]) [8], oO 10 (.bld [vS,(vI 0),.nils] [(0, 1, (.c (.s [97,112,112]))),(1, 1, (kI 3))]) [], oO 11 (.bsl (.im false) 3 1 [vS,(vI 0),.nils] [(0, 10)]) [10], oO 12 (.bld zP [(0, 1, (.c (.s [97]))),(1, 1, (kI 7)),(2, 1, (kI 3)),(3, 3, 1),(6, 1, 2),(7, 1, 4),(8, 1, 7),(9, 1, 9),(10, 1, (.c (.s [122,111,110,101]))),(11, 1, 11),(12, 1, (kI 2))]) [1,2,4,7,9,11], oN (.store 16 0 12) [12]] .ret)), [.cell 0 (some 16)]⟩
/-- interrex/interrexlaw6.Begun -/
def f39 : AFn := ⟨0, (rS [oA 0 kF [0]] (rS [oO 1 (.call 85 []) [], oB 0 1] .ret)), [.t 0]⟩
/-- ( interrex/relist.Relist).Cache -/
def f40 : AFn := ⟨1, (rS [oA 2 (.c .nilp) [2]] (.seq (rS [oP 3 0, oO 4 (.eqn false 3 (.c .nilp)) [3]] (.cond 4 (rS [oA 2 (.c .nilp) []] .ret)
 .skip))
(rS [oQ 5 0, oO 6 (.nilc 5) [5], oE 7 2 6, oL 8 7, oB 2 8] .ret))), [.t 2]⟩
/-- ( interrex/cache.Cache).Rev -/
def f41 : AFn := ⟨1, (rS [oA 2 (kI 0) [2]] (.seq (rS [oP 3 0, oO 4 (.eqn false 3 (.c .nilp)) [3]] (.cond 4 (rS [oA 2 (kI (-1)) []] .ret)
 .skip))
(rS [oQ 5 0, oO 6 (.nilc 5) [5], oE 7 1 6, oL 8 7, oB 2 8] .ret))), [.t 2]⟩
/-- ( interrex/relist.Relist).Fresh -/
def f42 : AFn := ⟨1, (rS [oA 2 (kI 0) [2]] (.seq (rS [oP 3 0, oO 4 (.eqn false 3 (.c .nilp)) [3]] (.cond 4 (rS [oA 2 (kI 0) []] .ret)
 .skip))
(rS [oQ 5 0, oO 6 (.nilc 5) [5], oE 7 12 6, oL 8 7, oB 2 8] .ret))), [.t 2]⟩
/-- ( interrex/assume.Assume).Has -/
def f43 : AFn := ⟨2, (rS [oO 3 (.box true 1) [1], oA 4 kF [4]] (rS [oP 5 0, oO 6 (.eqn true 5 (.c .nilp)) [5], oQ 7 6, oG 8 (.mv 0) 7 [0], oG 9 (.nilc 8) 7 [8], oG 10 (.faddr 0 9) 7 [9], oG 11 (.load none 10) 7 [10], oG 12 (.mkfn 87 [3]) 7 [3], oG 13 (.call 86 [11,12]) 7 [11,12], oO 14 (.pick 7 13 kF) [7,13], oB 4 14] .ret)), [.t 4]⟩
/-- interrex/lease.Until -/
def f44 : AFn := ⟨1, (rS [oA 2 (kI 0) [2]] (rS [oQ 3 0, oO 4 (.call 59 [3]) [3], oO 5 (.bin .add 4 (kI 1000)) [4], oO 6 (.bin .sub 5 (kI 100)) [5], oB 2 6] .ret)), [.t 2]⟩
/-- interrex/log.New -/
def f45 : AFn := ⟨1, (rS [oA 2 (.c .nilp) [2]] (rS [oQ 3 0, oO 4 (.mnmx true [3,(kI 1)]) [3], oO 5 (.mnmx false [4,(kI 1000)]) [4], oO 6 (.bld [.nils,(vI 0),(vI 0),(vI 0)] [(1, 1, 5)]) [5], oO 7 (.box true 6) [6], oB 2 7] .ret)), [.t 2]⟩
/-- interrex/store.copied -/
def f47 : AFn := ⟨1, (rS [oO 1 (.box false 0) [0], oO 2 (.alloc false [vS,(vI 0),.nils]) []] (rS [oF 3 2 1, oL 4 3, oO 5 (.call 89 [4]) [4], oF 6 2 1, oN (.store 1 6 5) [6,5]] (rS [oO 7 (.load (some 3) 1) [1], oN (.store 3 2 7) [7]] .ret))), [.cell 2 (some 3)]⟩
/-- interrex/wire.NewReader -/
def f48 : AFn := ⟨1, (rS [oA 2 (.c .nilp) [2]] (rS [oQ 3 0, oO 4 (.call 89 [3]) [3], oO 5 (.bld [(.i .u32 0),(.i .i32 0),(.i .u32 0),(.i .u64 0),(.i .u64 0),(.i .u64 0),(.i .u64 0),(.i .u64 0),(.i .u64 0),(.i .u64 0),(.i .u64 0),(.i .u64 0),(.i .u64 0),(.i .u64 0),(.i .u64 0),(.i .u64 0),(.i .u64 0),(.i .u64 0),(.i .u64 0),(.i .u64 0),(.i .u64 0),(.i .u64 0),(.i .u64 0),(.i .u64 0),(.i .u64 0),(.i .u64 0),(.i .u64 0),(.i .u64 0),(.i .u64 0),(.i .u64 0),(.i .u64 0),(.i .u64 0),(.i .u64 0),(.i .u64 0),(.i .u64 0),(.i .u64 0),(.i .u64 0),(.i .u64 0),(.i .u64 0),(.i .u64 0),(.i .u64 0),(.i .u64 0),(.i .u64 0),(.i .u64 0),(.i .u64 0),(.i .u64 0),(.i .u64 0),(.i .u64 0),(.i .u64 0),(.i .u64 0),(.i .u64 0),(.i .u64 0),(.i .u64 0),(.i .u64 0),(.i .u64 0),(.i .u64 0),(.i .u64 0),(.i .u64 0),(.i .u64 0),(.i .u64 0),(.i .u64 0),(.i .u64 0),(.i .u64 0),(.i .u64 0),(.i .u64 0),(.i .u64 0),(.i .u64 0),(.i .u64 0),(.i .u64 0),(.i .u64 0),(.i .u64 0),(.i .u64 0),(.i .u64 0),(.i .u64 0),(.i .u64 0),(.i .u64 0),(.i .u64 0),(.i .u64 0),(.i .u64 0),(.i .u64 0),(.i .u64 0),(.i .u64 0),(.i .u64 0),(.i .u64 0),(.i .u64 0),(.i .u64 0),(.i .u64 0),(.i .u64 0),(.i .u64 0),(.i .u64 0),(.i .u64 0),(.i .u64 0),(.i .u64 0),(.i .u64 0),(.i .u64 0),(.i .u64 0),(.i .u64 0),(.i .u64 0),(.i .u64 0),(.i .u64 0),(.i .u64 0),(.i .u64 0),(.i .u64 0),(.i .u64 0),(.i .u64 0),(.i .u64 0),(.i .u64 0),(.i .u64 0),(.i .u64 0),(.i .u64 0),(.i .u64 0),(.i .u64 0),(.i .u64 0),(.i .u64 0),(.i .u64 0),(.i .u64 0),(.i .u64 0),(.i .u64 0),(.i .u64 0),(.i .u64 0),(.i .u64 0),(.i .u64 0),(.i .u64 0),(.i .u64 0),(.i .u64 0),(.i .u64 0),(.i .u64 0),(.i .u64 0),(.i .u64 0),(.i .u64 0),(.i .u64 0),(.i .u64 0),(.i .u64 0),(.i .u64 0),(.i .u64 0),(.i .u64 0),(.i .u64 0),(.i .u64 0),(.i .u64 0),(.i .u64 0),(.i .u64 0),(.i .u64 0),(.i .u64 0),(.i .u64 0),(.i .u64 0),(.i .u64 0),(.i .u64 0),(.i .u64 0),(.i .u64 0),(.i .u64 0),(.i .u64 0),(.i .u64 0),(.i .u64 0),(.i .u64 0),(.i .u64 0),(.i .u64 0),(.i .u64 0),(.i .u64 0),(.i .u64 0),(.i .u64 0),(.i .u64 0),(.i .u64 0),(.i .u64 0),(.i .u64 0),(.i .u64 0),(.i .u64 0),(.i .u64 0),(.i .u64 0),(.i .u64 0),(.i .u64 0),(.i .u64 0),(.i .u64 0),(.i .u64 0),(.i .u64 0),(.i .u64 0),(.i .u64 0),(.i .u64 0),(.i .u64 0),(.i .u64 0),(.i .u64 0),(.i .u64 0),(.i .u64 0),(.i .u64 0),(.i .u64 0),(.i .u64 0),(.i .u64 0),(.i .u64 0),(.i .u64 0),(.i .u64 0),(.i .u64 0),(.i .u64 0),(.i .u64 0),(.i .u64 0),(.i .u64 0),(.i .u64 0),(.i .u64 0),(.i .u64 0),(.i .u64 0),(.i .u64 0),(.i .u64 0),(.i .u64 0),(.i .u64 0),(.i .u64 0),(.i .u64 0),(.i .u64 0),(.i .u64 0),(.i .u64 0),(.i .u64 0),(.i .u64 0),(.i .u64 0),(.i .u64 0),(.i .u64 0),(.i .u64 0),(.i .u64 0),(.i .u64 0),(.i .u64 0),(.i .u64 0),(.i .u64 0),(.i .u64 0),(.i .u64 0),(.i .u64 0),(.i .u64 0),(.i .u64 0),(.i .u64 0),(.i .u64 0),(.i .u64 0),(.i .u64 0),(.i .u64 0),(.i .u64 0),(.i .u64 0),(.i .u64 0),(.i .u64 0),(.i .u64 0),(.i .u64 0),(.i .u64 0),(.i .u64 0),(.i .u64 0),(.i .u64 0),(.i .u64 0),(.i .u64 0),(.i .u64 0),(.i .u64 0),(.i .u64 0),(.i .u64 0),(.i .u64 0),(.i .u64 0),(.i .u64 0),(.i .u64 0),(.i .u64 0),(.i .u64 0),(.i .u64 0),(.i .u64 0),(.i .u64 0),(.i .u64 0),(.i .u64 0),(.i .u64 0),(.i .u64 0),(.i .u64 0),(.i .u64 0),(.i .u8 0),(.i .u8 0),(.i .u8 0),(.i .u8 0),(.i .u8 0),(.i .u8 0),(.i .u8 0),(.i .u8 0),(.i .u8 0),(.i .u8 0),(.i .u8 0),(.i .u8 0),(.i .u8 0),(.i .u8 0),(.i .u8 0),(.i .u8 0),(.i .u8 0),(.i .u8 0),(.i .u8 0),(.i .u8 0),(.i .u8 0),(.i .u8 0),(.i .u8 0),(.i .u8 0),(.i .u8 0),(.i .u8 0),(.i .u8 0),(.i .u8 0),(.i .u8 0),(.i .u8 0),(.i .u8 0),(.i .u8 0),(.i .u8 0),(.i .u8 0),(.i .u8 0),(.i .u8 0),(.i .u8 0),(.i .u8 0),.nils,(.b false)] [(297, 1, 4)]) [4], oO 6 (.box true 5) [5], oB 2 6] .ret)), [.t 2]⟩
/-- ( interrex/wire.Reader).Num -/
def f49 : AFn := ⟨2, (rS [oA 4 (kI 0) [4]] (.seq (rS [oP 8 0, oO 9 (.nilc 8) [8], oE 10 297 9, oL 11 10, oO 12 (.lenL 11) [11], oP 13 1, oO 14 (.bin .lss 12 13) [12,13]] (.cond 14 (rS [oP 15 0, oQ 16 0, oO 17 (.nilc 15) [15], oE 18 298 17, oN (.store 1 18 kT) [18], oO 19 (.nilc 16) [16], oE 20 297 19, oN (.store 1 20 (.c .nils)) [20]] (rS [oA 4 (kI 0) []] .ret))
 .skip))
(rS [oA 5 (kI 0) []] (.seq (rS [oP 21 0, oO 22 (.nilc 21) [21], oE 23 297 22, oL 24 23, oP 25 1, oO 26 (.slsl 1 24 none (some 25) none) [24,25], oO 27 (.lenL 26) [], oM 28 (kI 0) []] (.blk 0 (.loop (rS [oO 29 (.bin .lss 28 27) []] (.seq (.cond 29 .skip
 (.exit 0))
(.seq (.blk 1 (rS [oO 30 (.iasl 1 26 28) [], oL 31 30, oB 7 31] (rR [oQ 32 5, oO 33 (.bin .shl 32 (.c (.i .u64 8))) [32], oQ 34 7, oO 35 (.cvi .i64 34) [34], oO 36 (.bin .or 33 35) [33,35], oB 5 36])))
(rR [oO 37 (.bin .add 28 (kI 1)) [28], oQ 28 37])))))))
(rS [oP 38 0, oQ 39 0, oO 40 (.nilc 39) [39], oE 41 297 40, oL 42 41, oQ 43 1, oO 44 (.slsl 1 42 (some 43) none none) [42,43], oO 45 (.nilc 38) [38], oE 46 297 45, oN (.store 1 46 44) [46,44]] (rS [oQ 47 5, oB 4 47] .ret)))))), [.t 4]⟩
/-- ( interrex/wire.Reader).End -/
def f50 : AFn := ⟨1, (rS [oA 2 kF [2]] (rS [oP 3 0, oO 4 (.nilc 3) [3], oE 5 298 4, oL 6 5, oO 7 (.un .not 6) [6], oQ 8 7, oG 9 (.mv 0) 8 [0], oG 10 (.nilc 9) 8 [9], oG 11 (.faddr 297 10) 8 [10], oG 12 (.load none 11) 8 [11], oG 13 (.lenL 12) 8 [12], oG 14 (.bin .eql 13 (kI 0)) 8 [13], oO 15 (.pick 8 14 kF) [8,14], oB 2 15] .ret)), [.t 2]⟩
/-- bytes.Equal -/
def f51 : AFn := ⟨2, (rS [oA 4 kF [4]] (rS [oQ 5 0, oO 6 (.b2s 5) [5], oQ 7 1, oO 8 (.b2s 7) [7], oO 9 (.bin .eql 6 8) [6,8], oB 4 9] .ret)), [.t 4]⟩
/-- ( interrex/elect.Elect).Quit -/
def f52 : AFn := ⟨1, (rS [oP 2 0, oO 3 (.eqn true 2 (.c .nilp)) [2]] (.cond 3 (rR [oQ 4 0, oO 5 (.nilc 4) [4], oE 6 9 5, oN (.store 1 6 (kI 0)) [6]])
 .skip)), []⟩
/-- interrex/elect.late -/
def f53 : AFn := ⟨2, (rS [oA 4 kF [4]] (rS [oP 5 0, oP 6 1, oO 7 (.bin .geq 5 6) [5,6], oQ 8 7, oG 9 (.mv 0) 8 [0], oG 10 (.cvi .u64 9) 8 [9], oG 11 (.mv 1) 8 [1], oG 12 (.cvi .u64 11) 8 [11], oG 13 (.bin .sub 10 12) 8 [10,12], oG 14 (.bin .geq 13 (.c (.i .u64 200))) 8 [13], oO 15 (.pick 8 14 kF) [8,14], oB 4 15] .ret)), [.t 4]⟩
/-- ( interrex/elect.Elect).wants -/
def f54 : AFn := ⟨2, (rS [oA 4 kF [4]] (.seq (.blk 0 (rS [oP 6 0, oO 7 (.nilc 6) [6], oE 8 1 7, oL 9 8, oO 10 (.un .not 9) [9], oB 5 10] (.cond 5 (rS [oA 4 kF []] .ret)
 (rS [oP 12 0, oP 13 1, oO 14 (.call 20 [12,13]) [12,13], oB 11 14] (.cond 11 (rS [oQ 15 1, oQ 16 0, oO 17 (.nilc 16) [16], oE 18 10 17, oL 19 18, oO 20 (.call 21 [15,19]) [15,19], oB 4 20] .ret)
 .skip)))))
(.seq (.dreg [dq 0 (oP 21 0),
 dq 1 (oO 22 (.nilc 21) []),
 dq 2 (oF 23 2 22),
 dq 3 (oK 24 23),
 dq 4 (oO 25 (.un .not 24) []),
 dq 5 (oP 26 25),
 dq 6 (oH 27 (.mv 0) 26 []),
 dq 7 (oH 28 (.nilc 27) 26 []),
 dq 8 (oH 29 (.faddr 4 28) 26 []),
 dq 9 (oH 30 (.faddr 0 29) 26 []),
 dq 10 (oH 31 (.load none 30) 26 []),
 dq 11 (oH 32 (.mv 0) 26 []),
 dq 12 (oH 33 (.nilc 32) 26 []),
 dq 13 (oH 34 (.faddr 0 33) 26 []),
 dq 14 (oH 35 (.load none 34) 26 []),
 dq 15 (oH 36 (.bin .eql 31 35) 26 []),
 dq 16 (oO 37 (.pick 26 kT 36) []),
 dq 17 (oP 38 37),
 dq 18 (oH 39 (.mv 1) 38 []),
 dq 19 (oH 40 (.mv 0) 38 []),
 dq 20 (oH 41 (.nilc 40) 38 []),
 dq 21 (oH 42 (.faddr 6 41) 38 []),
 dq 22 (oH 43 (.load none 42) 38 []),
 dq 23 (oH 44 (.mv 0) 38 []),
 dq 24 (oH 45 (.nilc 44) 38 []),
 dq 25 (oH 46 (.faddr 4 45) 38 []),
 dq 26 (oH 47 (.faddr 1 46) 38 []),
 dq 27 (oH 48 (.load none 47) 38 []),
 ⟨28, (oH 49 (.call 90 [39,43,48]) 38 []), true, []⟩,
 dq 29 (oO 50 (.pick 38 kT 49) []),
 dq 30 (oA 4 50 [])] [0,21,22,23,24,25,26,27,28,29,30,31,32,33,34,35,36,37,38,1,39,40,41,42,43,44,45,46,47,48,49,50])
.ret))), [.t 4]⟩
/-- interrex/code.Key -/
def f55 : AFn := ⟨2, (rS [oA 4 (.c vS) [4]] (.seq (.blk 0 (rS [oP 6 0, oO 7 (.bin .eql 6 (kI 3)) [6], oB 5 7] (.cond 5 (rS [oA 4 (.c (.s [108])) []] .ret)
 (rS [oP 9 0, oO 10 (.bin .eql 9 (kI 1)) [9], oQ 11 10, oG 12 (.mv 1) 11 [], oG 13 (.call 91 [12]) 11 [12], oO 14 (.pick 11 13 kF) [11,13], oB 8 14] (.cond 8 (rS [oQ 15 1, oO 16 (.bin .add (.c (.s [112,47])) 15) [15], oB 4 16] .ret)
 (rS [oQ 18 0, oO 19 (.bin .eql 18 (kI 2)) [18], oQ 20 19, oG 21 (.mv 1) 20 [], oG 22 (.call 91 [21]) 20 [21], oO 23 (.pick 20 22 kF) [20,22], oB 17 23] (.cond 17 (rS [oQ 24 1, oO 25 (.bin .add (.c (.s [110,47])) 24) [24], oB 4 25] .ret)
 .skip)))))))
(rS [oA 4 (.c vS) []] .ret))), [.t 4]⟩
/-- ( interrex/store.Store).can -/
def f56 : AFn := ⟨2, (rS [oO 3 (.box false 1) [1], oA 4 (kI 0) [4]] (.seq (rS [oO 11 (.load (some 2) 3) [], oO 12 (.call 92 [11]) [11], oO 13 (.un .not 12) [12]] (.cond 13 (rS [oA 4 (kI 1) []] .ret)
 .skip))
(.seq (rS [oF 14 0 3, oL 15 14, oO 16 (.lenL 15) [], oM 17 (kI 0) []] (.blk 0 (.loop (rS [oO 18 (.bin .lss 17 16) []] (.seq (.cond 18 .skip
 (.exit 0))
(.seq (.blk 1 (rS [oO 19 (.iasl 3 15 17) [], oO 20 (.load (some 3) 19) [19], oO 6 (.alloc false [vS,(vI 0),(.b false)]) [], oN (.store 3 6 20) [20]] (rS [oP 21 0, oO 22 (.load (some 3) 6) [6], oO 23 (.call 93 [21,22]) [21,22], oO 24 (.un .not 23) [23]] (.cond 24 (rS [oA 4 (kI 6) []] .ret)
 .skip))))
(rR [oO 25 (.bin .add 17 (kI 1)) [17], oQ 17 25])))))))
(.seq (rS [oE 26 1 3, oL 27 26, oO 28 (.lenL 27) [], oM 29 (kI 0) []] (.blk 2 (.loop (rS [oO 30 (.bin .lss 29 28) []] (.seq (.cond 30 .skip
 (.exit 2))
(.seq (.blk 3 (rS [oO 31 (.iasl 3 27 29) [], oO 32 (.load (some 3) 31) [31], oO 8 (.alloc false [vS,.nils,(.b false)]) [], oN (.store 3 8 32) [32]] (.seq (.dreg [dq 0 (oP 34 0),
 dq 1 (oO 35 (.nilc 34) []),
 dq 2 (oF 36 1 35),
 dq 3 (oK 37 36),
 dq 4 (oF 38 0 8),
 dq 5 (oK 39 38),
 dq 6 (oO 40 (.lkp none (.agg [vS,(vI 0),.nils]) 37 39 true) []),
 dq 7 (oP 33 40),
 dq 8 (oO 41 (.ext 33 0) []),
 dq 9 (oO 42 (.ext 33 1) []),
 ⟨10, (oO 9 (.alloc false [vS,(vI 0),.nils]) []), true, [6,5,3]⟩,
 ⟨11, (oN (.store 3 9 41) []), true, []⟩,
 dq 12 (oA 10 42 [])] [34,35,36,37,38,39,40,33,41,42,9])
(rS [oE 43 2 8, oL 44 43, oQ 45 44, oG 46 (.mv 10) 45 [10], oG 47 (.un .not 46) 45 [46], oO 48 (.pick 45 47 kF) [45,47]] (.cond 48 (rS [oA 4 (kI 3) []] .ret)
 .skip)))))
(rR [oO 49 (.bin .add 29 (kI 1)) [29], oQ 29 49])))))))
(rS [oA 4 (kI 0) []] .ret))))), [.t 4]⟩
/-- ( interrex/log.Log).Add -/
def f57 : AFn := ⟨2, (rS [oA 4 kF [4]] (.seq (.seq (.dreg [dq 0 (oP 8 0),
 ⟨1, (oO 9 (.eqn false 8 (.c .nilp)) []), true, []⟩,
 dq 2 (oP 10 9),
 dq 3 (oH 11 (.mv 1) 10 []),
 dq 4 (oH 12 (.lenL 11) 10 []),
 dq 5 (oH 13 (.bin .eql 12 (kI 0)) 10 []),
 dq 6 (oO 14 (.pick 10 kT 13) []),
 dq 7 (oP 15 14),
 dq 8 (oH 16 (.mv 1) 15 []),
 dq 9 (oH 17 (.iasl 4 16 (kI 0)) 15 []),
 dq 10 (oH 18 (.faddr 0 17) 15 []),
 dq 11 (oH 19 (.load none 18) 15 []),
 dq 12 (oH 20 (.mv 0) 15 []),
 dq 13 (oH 21 (.nilc 20) 15 []),
 dq 14 (oH 22 (.faddr 3 21) 15 []),
 dq 15 (oH 23 (.load none 22) 15 []),
 dq 16 (oH 24 (.bin .leq 19 23) 15 []),
 dq 17 (oO 25 (.pick 15 kT 24) [])] [8,9,10,11,12,13,14,15,16,17,18,19,20,21,22,23,24])
(.cond 25 (rS [oA 4 kF []] .ret)
 .skip))
(.seq (rS [oP 26 1, oO 27 (.lenL 26) [26], oM 28 (kI 0) []] (.blk 0 (.loop (rS [oO 29 (.bin .lss 28 27) []] (.seq (.cond 29 .skip
 (.exit 0))
(.seq (.blk 1 (rS [oP 30 28, oB 5 30] (.seq (.dreg [dq 0 (oP 31 5),
 dq 1 (oO 32 (.bin .gtr 31 (kI 0)) []),
 dq 2 (oP 33 32),
 dq 3 (oG 34 (.mv 1) 33 []),
 dq 4 (oG 35 (.mv 5) 33 []),
 dq 5 (oG 36 (.iasl 4 34 35) 33 []),
 dq 6 (oG 37 (.faddr 0 36) 33 []),
 dq 7 (oG 38 (.load none 37) 33 []),
 dq 8 (oG 39 (.mv 1) 33 []),
 dq 9 (oG 40 (.mv 5) 33 []),
 dq 10 (oG 41 (.bin .sub 40 (kI 1)) 33 []),
 dq 11 (oG 42 (.iasl 4 39 41) 33 []),
 dq 12 (oG 43 (.faddr 0 42) 33 []),
 dq 13 (oG 44 (.load none 43) 33 []),
 dq 14 (oG 45 (.bin .lss 38 44) 33 []),
 dq 15 (oO 46 (.pick 33 45 kF) [])] [5,31,32,33,34,35,36,37,38,39,40,41,42,43,44,45])
(.cond 46 (rS [oA 4 kF []] .ret)
 .skip))))
(rR [oO 47 (.bin .add 28 (kI 1)) [28], oQ 28 47])))))))
(.seq (rS [oP 48 1, oO 49 (.lenL 48) [], oM 50 (kI 0) []] (.blk 2 (.loop (rS [oO 51 (.bin .lss 50 49) []] (.seq (.cond 51 .skip
 (.exit 2))
(.seq (.blk 3 (rS [oO 52 (.iasl 4 48 50) [], oO 53 (.load (some 4) 52) [52], oO 7 (.alloc false [(vI 0),vS,.nils,(.b false)]) [], oN (.store 4 7 53) [53]] (.dreg [dq 0 (oP 54 0),
 dq 1 (oP 55 0),
 dq 2 (oO 56 (.nilc 55) []),
 dq 3 (oF 57 0 56),
 dq 4 (oK 58 57),
 dq 5 (oO 59 (.load (some 4) 7) []),
 ⟨6, (oO 60 (.call 94 [59]) []), true, [4]⟩,
 ⟨7, (oO 61 (.bsl (.mu true) 4 1 [(vI 0),vS,.nils,(.b false)] [(0, 60)]) []), true, [4]⟩,
 ⟨8, (oO 62 (.append (.mu true) 4 56 58 61) []), true, []⟩,
 dq 9 (oO 63 (.nilc 54) []),
 dq 10 (oF 64 0 63),
 ⟨11, (oN (.store 1 64 62) []), true, []⟩] [54,55,56,57,58,7,59,60,61,62,63,64])))
(rR [oO 65 (.bin .add 50 (kI 1)) [50], oQ 50 65])))))))
(rS [oP 66 0, oP 67 1, oQ 68 1, oO 69 (.lenL 68) [68], oO 70 (.bin .sub 69 (kI 1)) [69], oO 71 (.iasl 4 67 70) [67,70], oE 72 0 71, oL 73 72, oO 74 (.nilc 66) [66], oE 75 3 74, oN (.store 1 75 73) [75,73]] (.seq (.blk 4 (.loop (.seq (.seq (.dreg [dq 0 (oP 76 0),
 dq 1 (oO 77 (.nilc 76) []),
 dq 2 (oF 78 0 77),
 dq 3 (oK 79 78),
 dq 4 (oO 80 (.lenL 79) []),
 dq 5 (oP 81 0),
 dq 6 (oO 82 (.nilc 81) []),
 dq 7 (oF 83 1 82),
 dq 8 (oK 84 83),
 dq 9 (oO 85 (.bin .gtr 80 84) [])] [76,77,78,79,80,81,82,83,84])
(.cond 85 .skip
 (.exit 4)))
(.blk 5 (rR [oP 86 0, oP 87 0, oO 88 (.nilc 87) [87], oE 89 0 88, oL 90 89, oO 91 (.iasl 4 90 (kI 0)) [90], oE 92 0 91, oL 93 92, oO 94 (.call 95 [86,93]) [86,93,94]])))))
(rS [oA 4 kT []] .ret))))))), [.t 4]⟩
/-- interrex/lease.Leads -/
def f58 : AFn := ⟨2, (rS [oA 4 kF [4]] (rS [oQ 5 0, oO 6 (.call 59 [5]) [5], oQ 7 1, oO 8 (.call 44 [7]) [7], oO 9 (.bin .lss 6 8) [6,8], oB 4 9] .ret)), [.t 4]⟩
/-- interrex/lease.bring -/
def f59 : AFn := ⟨1, (rS [oA 2 (kI 0) [2]] (rS [oQ 3 0, oO 4 (.mnmx true [3,(kI 0)]) [3], oO 5 (.mnmx false [4,(kI 1152921504606846976)]) [4], oB 2 5] .ret)), [.t 2]⟩
/-- interrex/net.copied -/
def f60 : AFn := ⟨1, (rS [oO 1 (.box false 0) [0], oO 2 (.alloc false [(.b false),(vI 0),.nils]) []] (rS [oF 3 2 1, oL 4 3, oO 5 (.call 89 [4]) [4], oF 6 2 1, oN (.store 1 6 5) [6,5]] (rS [oO 7 (.load (some 3) 1) [1], oN (.store 3 2 7) [7]] .ret))), [.cell 2 (some 3)]⟩
/-- slices.Delete   interrex/api.Mail interrex/api.Mail  -/
def f61 : AFn := ⟨3, (rS [oA 6 (.c .nils) [6]] (rS [oP 8 0, oP 9 1, oP 10 2, oP 11 0, oO 12 (.lenL 11) [11], oO 13 (.slsl 3 8 (some 9) (some 10) (some 12)) [8,9,10,12,13]] (.seq (rS [oP 14 1, oP 15 2, oO 16 (.bin .eql 14 15) [14,15]] (.cond 16 (rS [oQ 17 0, oB 6 17] .ret)
 .skip))
(rS [oP 18 0, oO 19 (.lenL 18) [18], oB 7 19] (.seq (.dreg [dq 0 (oP 20 0),
 dq 1 (oP 21 1),
 dq 2 (oO 22 (.slsl 3 20 none (some 21) none) []),
 dq 3 (oP 23 0),
 dq 4 (oP 24 2),
 dq 5 (oO 25 (.slsl 3 23 (some 24) none none) []),
 ⟨6, (oO 26 (.append (.im false) 3 40 22 25) []), true, []⟩,
 ⟨7, (oA 0 26 []), true, []⟩] [20,1,21,22,23,2,24,25,26])
(rS [oP 27 0, oP 28 0, oO 29 (.lenL 28) [28], oQ 30 7, oO 31 (.slsl 3 27 (some 29) (some 30) none) [27,29,30], oN (.clear 3 [(.b false),(vI 0),.nils] 31) [31]] (rS [oQ 32 0, oB 6 32] .ret))))))), [.t 6]⟩
/-- interrex/interrexref1.Bytes -/
def f62 : AFn := ⟨2, (rS [oA 4 kF [4]] (rS [oQ 5 0, oO 6 (.b2s 5) [5], oQ 7 1, oO 8 (.b2s 7) [7], oO 9 (.bin .eql 6 8) [6,8], oB 4 9] .ret)), [.t 4]⟩
/-- ( interrex/cache.Cache).List -/
def f64 : AFn := ⟨3, (rS [oA 6 kF [6]] (.seq (rS [oP 12 0, oO 13 (.eqn false 12 (.c .nilp)) [12], oQ 14 13, oH 15 (.mv 1) 14 [], oH 16 (.bin .lss 15 (kI 0)) 14 [15], oO 17 (.pick 14 kT 16) [14,16]] (.cond 17 (rS [oA 6 kF []] .ret)
 .skip))
(rS [oO 18 (.mkmap true none) [], oB 7 18] (.seq (rS [oQ 19 2, oO 20 (.lenL 19) [], oM 21 (kI 0) []] (.blk 0 (.loop (rS [oO 22 (.bin .lss 21 20) []] (.seq (.cond 22 .skip
 (.exit 0))
(.seq (.blk 1 (rS [oO 23 (.iasl 3 19 21) [], oO 24 (.load (some 3) 23) [23], oO 9 (.alloc false [vS,(vI 0),.nils]) [], oN (.store 3 9 24) [24]] (.seq (rS [oP 26 7, oF 27 0 9, oL 28 27, oO 29 (.lkp none (.agg [vS,(vI 0),.nils]) 26 28 true) [26,28], oQ 25 29, oO 30 (.ext 25 0) [], oO 31 (.ext 25 1) [25], oO 10 (.alloc false [vS,(vI 0),.nils]) [], oN (.store 3 10 30) [10,30], oB 11 31] (rS [oQ 32 11, oQ 33 32, oH 34 (.faddr 0 9) 33 [], oH 35 (.load none 34) 33 [34], oH 36 (.bin .eql 35 (.c vS)) 33 [35], oO 37 (.pick 33 kT 36) [33,36], oQ 38 37, oH 39 (.faddr 1 9) 38 [], oH 40 (.load none 39) 38 [39], oH 41 (.bin .lss 40 (kI 1)) 38 [40], oO 42 (.pick 38 kT 41) [38,41], oQ 43 42, oH 44 (.faddr 1 9) 43 [], oH 45 (.load none 44) 43 [44], oH 46 (.mv 1) 43 [], oH 47 (.bin .gtr 45 46) 43 [45,46], oO 48 (.pick 43 kT 47) [43,47]] (.cond 48 (rS [oA 6 kF []] .ret)
 .skip)))
(.dreg [dq 0 (oP 49 7),
 dq 1 (oF 50 0 9),
 dq 2 (oK 51 50),
 dq 3 (oO 52 (.load (some 3) 9) []),
 ⟨4, (oO 53 (.call 96 [52]) []), true, [2]⟩,
 ⟨5, (oN (.mupd none 49 51 53) []), true, []⟩] [49,9,50,51,52,53]))))
(rR [oO 54 (.bin .add 21 (kI 1)) [21], oQ 21 54])))))))
(rS [oP 55 0, oQ 56 0, oQ 57 7, oQ 58 1, oO 59 (.nilc 55) [55], oE 60 0 59, oN (.store 1 60 57) [60,57], oO 61 (.nilc 56) [56], oE 62 1 61, oN (.store 1 62 58) [62,58]] (rS [oA 6 kT []] .ret)))))), [.t 6]⟩
/-- ( interrex/wire.Writer).Num -/
def f67 : AFn := ⟨3, (rS [oP 7 2, oM 8 (kI 0) []] (.blk 0 (.loop (rS [oO 9 (.bin .lss 8 7) []] (.seq (.cond 9 .skip
 (.exit 0))
(.seq (.blk 1 (rS [oP 10 8, oB 6 10] (.dreg [dq 0 (oP 11 0),
 dq 1 (oP 12 0),
 dq 2 (oO 13 (.nilc 12) []),
 dq 3 (oF 14 297 13),
 dq 4 (oK 15 14),
 dq 5 (oP 16 1),
 dq 6 (oP 17 2),
 dq 7 (oO 18 (.bin .sub 17 (kI 1)) []),
 dq 8 (oP 19 6),
 dq 9 (oO 20 (.bin .sub 18 19) []),
 dq 10 (oO 21 (.bin .mul (kI 8) 20) []),
 dq 11 (oO 22 (.bin .shr 16 21) []),
 dq 12 (oO 23 (.cvi .u8 22) []),
 ⟨13, (oO 24 (.bsl (.im true) 1 1 [(.i .u8 0)] [(0, 23)]) []), true, [4]⟩,
 ⟨14, (oO 25 (.append (.im true) 1 1 15 24) []), true, []⟩,
 dq 15 (oO 26 (.nilc 11) []),
 dq 16 (oF 27 297 26),
 ⟨17, (oN (.store 1 27 25) []), true, []⟩] [11,12,13,14,15,16,17,18,6,19,20,21,22,23,24,25,26,27])))
(rR [oO 28 (.bin .add 8 (kI 1)) [8], oQ 8 28]))))))), []⟩
/-- ( interrex/wire.Writer).Bytes -/
def f68 : AFn := ⟨1, (rS [oA 2 (.c .nils) [2]] (rS [oQ 3 0, oO 4 (.nilc 3) [3], oE 5 297 4, oL 6 5, oO 7 (.call 89 [6]) [6], oB 2 7] .ret)), [.t 2]⟩
/-- interrex/assume.copied -/
def f69 : AFn := ⟨1, (rS [oO 1 (.box false 0) [0], oO 2 (.alloc false [vS,vS,.nils]) []] (rS [oF 3 2 1, oL 4 3, oO 5 (.call 97 [4]) [4], oF 6 2 1, oN (.store 1 6 5) [6,5]] (rS [oO 7 (.load (some 3) 1) [1], oN (.store 3 2 7) [7]] .ret))), [.cell 2 (some 3)]⟩
/-- interrex/code.Kind -/
def f70 : AFn := ⟨1, (rS [oA 2 (kI 0) [2]] (.seq (.blk 0 (rS [oP 4 0, oO 5 (.bin .eql 4 (.c (.s [108]))) [4], oB 3 5] (.cond 3 (rS [oA 2 (kI 3) []] .ret)
 (rS [oP 7 0, oO 8 (.lenS 7) [7], oO 9 (.bin .gtr 8 (kI 2)) [8], oQ 10 9, oG 11 (.mv 0) 10 [], oG 12 (.slstr 11 none (some (kI 2))) 10 [11], oG 13 (.bin .eql 12 (.c (.s [112,47]))) 10 [12], oO 14 (.pick 10 13 kF) [10,13], oQ 15 14, oG 16 (.mv 0) 15 [], oG 17 (.slstr 16 (some (kI 2)) none) 15 [16], oG 18 (.call 91 [17]) 15 [17], oO 19 (.pick 15 18 kF) [15,18], oB 6 19] (.cond 6 (rS [oA 2 (kI 1) []] .ret)
 (rS [oP 21 0, oO 22 (.lenS 21) [21], oO 23 (.bin .gtr 22 (kI 2)) [22], oQ 24 23, oG 25 (.mv 0) 24 [], oG 26 (.slstr 25 none (some (kI 2))) 24 [25], oG 27 (.bin .eql 26 (.c (.s [110,47]))) 24 [26], oO 28 (.pick 24 27 kF) [24,27], oQ 29 28, oG 30 (.mv 0) 29 [0], oG 31 (.slstr 30 (some (kI 2)) none) 29 [30], oG 32 (.call 91 [31]) 29 [31], oO 33 (.pick 29 32 kF) [29,32], oB 20 33] (.cond 20 (rS [oA 2 (kI 2) []] .ret)
 .skip)))))))
(rS [oA 2 (kI 0) []] .ret))), [.t 2]⟩
/-- interrex/code.GetPod -/
def f71 : AFn := ⟨1, (rS [oO 2 (.alloc false zP) [], oA 3 kF [3]] (rS [oP 6 0, oO 7 (.call 48 [6]) [6], oB 4 7] (rS [oP 8 4, oO 9 (.call 49 [8,(kI 1)]) [8,9]] (rS [oP 10 4, oO 11 (.call 98 [10]) [10], oP 12 4, oO 13 (.call 49 [12,(kI 8)]) [12], oP 14 4, oO 15 (.call 49 [14,(kI 2)]) [14], oP 16 4, oO 17 (.call 99 [16]) [16], oO 18 (.bld zP [(0, 1, 11),(1, 1, 13),(2, 1, 15),(3, 3, 17)]) [11,13,15,17], oO 5 (.alloc false zP) [], oN (.store 16 5 18) [18]] (.seq (rS [oP 19 4, oO 20 (.call 100 [19,(kI 1)]) [19], oM 21 (kI 0) []] (.blk 0 (.loop (rS [oO 22 (.bin .lss 21 20) []] (.seq (.cond 22 .skip
 (.exit 0))
(.seq (.blk 1 (.dreg [dq 0 (oF 23 6 5),
 dq 1 (oK 24 23),
 dq 2 (oP 25 4),
 ⟨3, (oO 26 (.call 49 [25,(kI 2)]) []), true, [1]⟩,
 ⟨4, (oO 27 (.bsl (.im false) 1 1 [(vI 0)] [(0, 26)]) []), true, [1]⟩,
 ⟨5, (oO 28 (.append (.im false) 1 8 24 27) []), true, []⟩,
 dq 6 (oF 29 6 5),
 ⟨7, (oN (.store 1 29 28) []), true, []⟩] [23,24,25,26,27,28,29]))
(rR [oO 30 (.bin .add 21 (kI 1)) [21], oQ 21 30])))))))
(rS [oP 31 4, oO 32 (.call 101 [31,(.c (.fn 102 [] []))]) [31], oF 33 7 5, oN (.store 1 33 32) [33,32]] (rS [oP 34 4, oO 35 (.call 103 [34]) [34], oF 36 8 5, oN (.store 1 36 35) [36,35]] (.seq (rS [oP 37 4, oO 38 (.call 100 [37,(kI 1)]) [37], oM 39 (kI 0) []] (.blk 2 (.loop (rS [oO 40 (.bin .lss 39 38) []] (.seq (.cond 40 .skip
 (.exit 2))
(.seq (.blk 3 (.dreg [dq 0 (oF 41 9 5),
 dq 1 (oK 42 41),
 dq 2 (oP 43 4),
 dq 4 (oP 45 4),
 dq 6 (oP 47 4),
 ⟨3, (oO 44 (.call 98 [43]) []), true, [1]⟩,
 ⟨5, (oO 46 (.call 98 [45]) []), true, [1]⟩,
 ⟨7, (oO 48 (.call 104 [47]) []), true, [1]⟩,
 dq 8 (oO 49 (.bld [vS,vS,(.b false)] [(0, 1, 44),(1, 1, 46),(2, 1, 48)]) []),
 ⟨9, (oO 50 (.bsl (.im false) 3 1 [vS,vS,(.b false)] [(0, 49)]) []), true, [1]⟩,
 ⟨10, (oO 51 (.append (.im false) 3 40 42 50) []), true, []⟩,
 dq 11 (oF 52 9 5),
 ⟨12, (oN (.store 1 52 51) []), true, []⟩] [41,42,43,44,45,46,47,48,49,50,51,52]))
(rR [oO 53 (.bin .add 39 (kI 1)) [39], oQ 39 53])))))))
(rS [oP 54 4, oO 55 (.call 98 [54]) [54], oF 56 10 5, oN (.store 1 56 55) [56,55]] (rS [oP 57 4, oO 58 (.call 103 [57]) [57], oF 59 11 5, oN (.store 1 59 58) [59,58]] (rS [oP 60 4, oO 61 (.call 49 [60,(kI 1)]) [60], oF 62 12 5, oN (.store 1 62 61) [62,61]] (rS [oP 63 4, oO 64 (.call 103 [63]) [63], oF 65 13 5, oN (.store 1 65 64) [65,64]] (rS [oP 66 4, oO 67 (.call 98 [66]) [66], oF 68 14 5, oN (.store 1 68 67) [68,67]] (rS [oP 69 4, oO 70 (.call 49 [69,(kI 8)]) [69], oF 71 15 5, oN (.store 1 71 70) [71,70]] (.seq (rS [oQ 72 4, oO 73 (.call 50 [72]) [72], oO 74 (.un .not 73) [73], oQ 75 74, oH 76 (.mv 0) 75 [], oH 77 (.lenL 76) 75 [76], oH 78 (.bin .eql 77 (kI 0)) 75 [77], oO 79 (.pick 75 kT 78) [75,78], oQ 80 79, oH 81 (.load (some 16) 5) 80 [], oH 82 (.call 37 [81]) 80 [81], oH 83 (.mv 0) 80 [0], oH 84 (.call 51 [82,83]) 80 [82,83], oH 85 (.un .not 84) 80 [84], oO 86 (.pick 80 kT 85) [80,85]] (.cond 86 (rS [oO 87 (.bld zP []) [], oN (.store 16 2 87) [87], oA 3 kF []] .ret)
 .skip))
(rS [oO 88 (.load (some 16) 5) [5], oN (.store 16 2 88) [88], oA 3 kT []] .ret)))))))))))))))), [.cell 2 (some 16),.t 3]⟩
/-- slices.SortFunc   interrex/api.Pod interrex/api.Pod  -/
def f73 : AFn := ⟨2, (rS [oP 5 0, oO 6 (.lenL 5) [5], oB 4 6] (rR [oQ 7 0, oP 8 4, oQ 9 4, oO 10 (.cvi .u64 9) [9], oO 11 (.call 109 [10]) [10], oQ 12 1, oO 13 (.call 108 [7,(kI 0),8,11,12]) [7,8,11,12,13]])), []⟩
/-- slices.SortFunc   interrex/api.Node interrex/api.Node  -/
def f76 : AFn := ⟨2, (rS [oP 5 0, oO 6 (.lenL 5) [5], oB 4 6] (rR [oQ 7 0, oP 8 4, oQ 9 4, oO 10 (.cvi .u64 9) [9], oO 11 (.call 109 [10]) [10], oQ 12 1, oO 13 (.call 111 [7,(kI 0),8,11,12]) [7,8,11,12,13]])), []⟩
/-- interrex/obj.MayPod -/
def f78 : AFn := ⟨1, (rS [oO 1 (.box false 0) [0], oA 2 kF [2]] (.seq (rS [oF 3 0 1, oL 4 3, oO 5 (.call 91 [4]) [4], oO 6 (.un .not 5) [5], oQ 7 6, oH 8 (.faddr 1 1) 7 [], oH 9 (.load none 8) 7 [8], oH 10 (.bin .lss 9 (kI 1)) 7 [9], oO 11 (.pick 7 kT 10) [7,10], oQ 12 11, oH 13 (.faddr 1 1) 12 [], oH 14 (.load none 13) 12 [13], oH 15 (.bin .gtr 14 (kI 1099511627776)) 12 [14], oO 16 (.pick 12 kT 15) [12,15], oQ 17 16, oH 18 (.faddr 2 1) 17 [], oH 19 (.load none 18) 17 [18], oH 20 (.bin .lss 19 (kI 0)) 17 [19], oO 21 (.pick 17 kT 20) [17,20], oQ 22 21, oH 23 (.faddr 2 1) 22 [], oH 24 (.load none 23) 22 [23], oH 25 (.bin .gtr 24 (kI 1000)) 22 [24], oO 26 (.pick 22 kT 25) [22,25], oQ 27 26, oH 28 (.faddr 3 1) 27 [], oH 29 (.load (some 3) 28) 27 [28], oH 30 (.call 112 [29]) 27 [29], oH 31 (.un .not 30) 27 [30], oO 32 (.pick 27 kT 31) [27,31], oQ 33 32, oH 34 (.faddr 6 1) 33 [], oH 35 (.load none 34) 33 [34], oH 36 (.call 113 [35]) 33 [35], oH 37 (.un .not 36) 33 [36], oO 38 (.pick 33 kT 37) [33,37]] (.cond 38 (rS [oA 2 kF []] .ret)
 .skip))
(.seq (rS [oF 39 7 1, oL 40 39, oO 41 (.call 114 [40]) [40], oO 42 (.un .not 41) [41], oQ 43 42, oH 44 (.faddr 8 1) 43 [], oH 45 (.load none 44) 43 [44], oH 46 (.call 115 [45]) 43 [45], oH 47 (.un .not 46) 43 [46], oO 48 (.pick 43 kT 47) [43,47], oQ 49 48, oH 50 (.faddr 9 1) 49 [], oH 51 (.load none 50) 49 [50], oH 52 (.call 116 [51]) 49 [51], oH 53 (.un .not 52) 49 [52], oO 54 (.pick 49 kT 53) [49,53], oQ 55 54, oH 56 (.load (some 16) 1) 55 [], oH 57 (.call 117 [56]) 55 [56], oH 58 (.un .not 57) 55 [57], oO 59 (.pick 55 kT 58) [55,58]] (.cond 59 (rS [oA 2 kF []] .ret)
 .skip))
(rS [oF 60 14 1, oL 61 60, oO 62 (.call 91 [61]) [61], oQ 63 62, oG 64 (.faddr 15 1) 63 [], oG 65 (.load none 64) 63 [64], oG 66 (.bin .gtr 65 (kI 0)) 63 [65], oO 67 (.pick 63 66 kF) [63,66], oQ 68 67, oH 69 (.faddr 14 1) 68 [], oH 70 (.load none 69) 68 [69], oH 71 (.bin .eql 70 (.c vS)) 68 [70], oH 72 (.mv 71) 68 [71], oG 73 (.faddr 15 1) 72 [1], oG 74 (.load none 73) 72 [73], oG 75 (.bin .eql 74 (kI 0)) 72 [74], oH 76 (.pick 72 75 kF) 68 [72,75], oO 77 (.pick 68 kT 76) [68,76], oB 2 77] .ret)))), [.t 2]⟩
/-- ( interrex/wire.Writer).Name -/
def f79 : AFn := ⟨2, (rS [oP 6 0, oO 7 (.nilc 6) [6], oE 8 0 7, oO 9 (.call 118 [8]) [8,9]] (rS [oA 4 (.c (.i .u64 0)) []] (.seq (rS [oM 10 (kI 0) []] (.blk 0 (.loop (rS [oO 11 (.bin .lss 10 (kI 12)) []] (.seq (.cond 11 .skip
 (.exit 0))
(.seq (.blk 1 (rS [oP 12 10, oB 5 12] (rS [oQ 13 4, oO 14 (.bin .mul 13 (.c (.i .u64 38))) [13], oB 4 14] (rS [oP 15 5, oP 16 1, oO 17 (.lenS 16) [16], oO 18 (.bin .lss 15 17) [15,17]] (.cond 18 (.dreg [dq 0 (oP 19 4),
 dq 1 (oP 20 0),
 dq 2 (oP 21 1),
 dq 3 (oP 22 5),
 dq 4 (oO 23 (.ixs 21 22) []),
 dq 5 (oO 24 (.nilc 20) []),
 dq 6 (oF 25 0 24),
 dq 7 (oF 26 3 25),
 dq 8 (oO 27 (.iaar 256 1 26 23) []),
 dq 9 (oK 28 27),
 dq 10 (oO 29 (.bin .add 19 28) []),
 ⟨11, (oA 4 29 []), true, []⟩] [19,20,21,5,22,23,24,25,26,27,28,29])
 .skip)))))
(rR [oO 30 (.bin .add 10 (kI 1)) [10], oQ 10 30])))))))
(rR [oQ 31 0, oQ 32 4, oO 33 (.cvi .i64 32) [32], oO 34 (.call 67 [31,33,(kI 8)]) [31,33,34]])))), []⟩
/-- interrex/code.putRes -/
def f80 : AFn := ⟨2, (rS [oO 3 (.box false 1) [1]] (rS [oO 6 (.load (some 3) 3) [3], oM 7 (kI 0) []] (.blk 0 (.loop (rS [oO 8 (.bin .lss 7 (kI 3)) []] (.seq (.cond 8 .skip
 (.exit 0))
(.seq (.blk 1 (rS [oO 9 (.ixa 3 1 none 6 7) [], oB 5 9] (rR [oP 10 0, oQ 11 5, oO 12 (.call 67 [10,11,(kI 4)]) [10,11,12]])))
(rR [oO 13 (.bin .add 7 (kI 1)) [7], oQ 7 13])))))))), []⟩
/-- interrex/code.putPairs interrex/api.Pair  -/
def f81 : AFn := ⟨3, (rS [oP 10 0, oP 11 1, oO 12 (.lenL 11) [11], oO 13 (.call 67 [10,12,(kI 1)]) [10,12,13]] (rS [oQ 14 1, oO 15 (.lenL 14) [], oM 16 (kI 0) []] (.blk 0 (.loop (rS [oO 17 (.bin .lss 16 15) []] (.seq (.cond 17 .skip
 (.exit 0))
(.seq (.blk 1 (rS [oO 18 (.iasl 2 14 16) [], oO 19 (.load (some 2) 18) [18], oO 7 (.alloc false [vS,vS]) [], oN (.store 2 7 19) [19]] (rS [oP 21 2, oO 22 (.load (some 2) 7) [7], oO 23 (.callv 21 [22]) [21,22], oQ 20 23, oO 24 (.ext 20 0) [], oO 25 (.ext 20 1) [20], oB 8 24, oB 9 25] (rS [oP 26 0, oQ 27 8, oO 28 (.call 79 [26,27]) [26,27,28]] (rR [oP 29 0, oQ 30 9, oO 31 (.call 79 [29,30]) [29,30,31]])))))
(rR [oO 32 (.bin .add 16 (kI 1)) [16], oQ 16 32])))))))), []⟩
/-- interrex/code.ofPair -/
def f82 : AFn := ⟨1, (rS [oO 1 (.box false 0) [0], oA 2 (.c vS) [2], oA 3 (.c vS) [3]] (.seq (.dreg [dq 0 (oF 4 0 1),
 dq 1 (oK 5 4),
 dq 2 (oF 6 1 1),
 dq 3 (oK 7 6),
 dq 4 (oA 2 5 []),
 dq 5 (oA 3 7 [])] [1,4,5,6,7])
.ret)), [.t 2,.t 3]⟩
/-- interrex/code.putTerms -/
def f83 : AFn := ⟨2, (rS [oP 8 0, oP 9 1, oO 10 (.lenL 9) [9], oO 11 (.call 67 [8,10,(kI 1)]) [8,10,11]] (rS [oQ 12 1, oO 13 (.lenL 12) [], oM 14 (kI 0) []] (.blk 0 (.loop (rS [oO 15 (.bin .lss 14 13) []] (.seq (.cond 15 .skip
 (.exit 0))
(.seq (.blk 1 (rS [oO 16 (.iasl 3 12 14) [], oO 17 (.load (some 3) 16) [16], oO 5 (.alloc false [vS,(vI 0),.nils]) [], oN (.store 3 5 17) [17]] (rS [oP 18 0, oF 19 0 5, oL 20 19, oO 21 (.call 79 [18,20]) [18,20,21]] (rS [oP 22 0, oF 23 1 5, oL 24 23, oO 25 (.call 67 [22,24,(kI 1)]) [22,24,25]] (rS [oP 26 0, oF 27 2 5, oL 28 27, oO 29 (.lenL 28) [28], oO 30 (.call 67 [26,29,(kI 1)]) [26,29,30]] (rS [oE 31 2 5, oL 32 31, oO 33 (.lenL 32) [], oM 34 (kI 0) []] (.blk 2 (.loop (rS [oO 35 (.bin .lss 34 33) []] (.seq (.cond 35 .skip
 (.exit 2))
(.seq (.blk 3 (rS [oO 36 (.iasl 1 32 34) [], oL 37 36, oB 7 37] (rR [oP 38 0, oQ 39 7, oO 40 (.call 79 [38,39]) [38,39,40]])))
(rR [oO 41 (.bin .add 34 (kI 1)) [34], oQ 34 41]))))))))))))
(rR [oO 42 (.bin .add 14 (kI 1)) [14], oQ 14 42])))))))), []⟩
/-- ( interrex/wire.Writer).Bool -/
def f84 : AFn := ⟨2, (rS [oA 4 (kI 0) []] (.seq (rS [oQ 5 1] (.cond 5 (rR [oA 4 (kI 1) []])
 .skip))
(rR [oQ 6 0, oQ 7 4, oO 8 (.call 67 [6,7,(kI 1)]) [6,7,8]]))), []⟩
/-- interrex/interrexlaw6.begun -/
def f85 : AFn := ⟨0, (rS [oA 0 kF [0]] (rS [oO 18 (.call 45 [(kI 3)]) [], oO 19 (.call 8 []) [], oB 1 18, oB 2 19] (.seq (rS [oP 20 1, oO 21 (.eqn false 20 (.c .nilp)) [20], oQ 22 21, oH 23 (.mv 2) 22 [], oH 24 (.eqn false 23 (.c .nilp)) 22 [23], oO 25 (.pick 22 kT 24) [22,24]] (.cond 25 (rS [oA 0 kF []] .ret)
 .skip))
(rS [oP 26 1, oO 27 (.bld [(vI 0),vS,.nils,(.b false)] [(0, 1, (kI 4)),(1, 1, (.c (.s [107])))]) [], oO 28 (.bsl (.im false) 4 1 [(vI 0),vS,.nils,(.b false)] [(0, 27)]) [27], oO 29 (.call 57 [26,28]) [26,28], oB 3 29] (rS [oQ 31 1, oO 32 (.call 119 [31,(kI 0)]) [31], oQ 30 32, oO 33 (.ext 30 0) [], oO 34 (.ext 30 1) [30], oB 4 33, oB 5 34] (rS [oP 36 2, oO 37 (.bld [vS,(vI 0),(.b false)] [(0, 1, (.c (.s [97])))]) [], oO 38 (.bsl (.im false) 3 1 [vS,(vI 0),(.b false)] [(0, 37)]) [37], oO 39 (.bsl (.im false) 1 1 [(.i .u8 0)] [(0, (.c (.i .u8 120)))]) [], oO 40 (.mkb 39) [39], oO 41 (.bld [vS,.nils,(.b false)] [(0, 1, (.c (.s [97]))),(1, 1, 40)]) [40], oO 42 (.bsl (.im false) 3 1 [vS,.nils,(.b false)] [(0, 41)]) [41], oO 43 (.bld [.nils,.nils] [(0, 1, 38),(1, 1, 42)]) [38,42], oO 44 (.call 16 [36,43]) [36,43], oQ 35 44, oO 45 (.ext 35 0) [], oO 46 (.ext 35 1) [35], oB 6 45, oB 7 46] (rS [oP 48 2, oO 49 (.bld [vS,(vI 0),(.b false)] [(0, 1, (.c (.s [97])))]) [], oO 50 (.bsl (.im false) 3 1 [vS,(vI 0),(.b false)] [(0, 49)]) [49], oO 51 (.bsl (.im false) 1 1 [(.i .u8 0)] [(0, (.c (.i .u8 121)))]) [], oO 52 (.mkb 51) [51], oO 53 (.bld [vS,.nils,(.b false)] [(0, 1, (.c (.s [97]))),(1, 1, 52)]) [52], oO 54 (.bsl (.im false) 3 1 [vS,.nils,(.b false)] [(0, 53)]) [53], oO 55 (.bld [.nils,.nils] [(0, 1, 50),(1, 1, 54)]) [50,54], oO 56 (.call 16 [48,55]) [48,55], oQ 47 56, oO 57 (.ext 47 0) [], oO 58 (.ext 47 1) [47], oA 8 57 [57,8], oB 9 58] (rS [oP 60 2, oO 61 (.call 12 [60,(.c (.s [97]))]) [60], oQ 59 61, oO 62 (.ext 59 0) [], oO 63 (.ext 59 1) [59], oO 10 (.alloc false [vS,(vI 0),.nils]) [], oN (.store 3 10 62) [62], oB 11 63] (rS [oO 64 (.bld [(vI 0),(vI 0),(vI 0),vS,(vI 0),.nils,.nils] [(0, 1, (kI 1)),(1, 1, (kI 5)),(2, 1, (kI 2))]) [], oO 12 (.alloc false [(vI 0),(vI 0),(vI 0),vS,(vI 0),.nils,.nils]) [], oN (.store 7 12 64) [64]] (rS [oO 66 (.load (some 7) 12) [], oO 67 (.call 121 [66]) [66], oO 68 (.call 120 [67]) [67], oQ 65 68, oO 69 (.ext 65 0) [], oO 70 (.ext 65 1) [65], oO 13 (.alloc false [(vI 0),(vI 0),(vI 0),vS,(vI 0),.nils,.nils]) [], oN (.store 7 13 69) [69], oB 14 70] (rS [oQ 71 2, oO 72 (.load (some 7) 12) [], oO 73 (.call 122 [71,72]) [71,72], oO 15 (.alloc false [(vI 0),(vI 0),(vI 0),(vI 0),(vI 0),.nils,.nils]) [], oN (.store 7 15 73) [73]] (rS [oO 75 (.load (some 7) 15) [], oO 76 (.call 124 [75]) [75], oO 77 (.call 123 [76]) [76], oQ 74 77, oO 78 (.ext 74 0) [], oO 79 (.ext 74 1) [74], oO 16 (.alloc false [(vI 0),(vI 0),(vI 0),(vI 0),(vI 0),.nils,.nils]) [], oN (.store 7 16 78) [78], oB 17 79] (rS [oO 80 (.call 125 []) [], oQ 81 80, oG 82 (.mv 3) 81 [3], oO 83 (.pick 81 82 kF) [81,82], oQ 84 83, oG 85 (.mv 5) 84 [5], oG 86 (.bin .eql 85 (kI 0)) 84 [85], oO 87 (.pick 84 86 kF) [84,86], oQ 88 87, oG 89 (.mv 4) 88 [4], oG 90 (.lenL 89) 88 [89], oG 91 (.bin .eql 90 (kI 1)) 88 [90], oO 92 (.pick 88 91 kF) [88,91], oQ 93 92, oG 94 (.mv 6) 93 [6], oG 95 (.bin .eql 94 (kI 1)) 93 [94], oO 96 (.pick 93 95 kF) [93,95], oQ 97 96, oG 98 (.mv 7) 97 [7], oG 99 (.bin .eql 98 (kI 0)) 97 [98], oO 100 (.pick 97 99 kF) [97,99], oQ 101 100, oG 102 (.mv 9) 101 [9], oG 103 (.bin .eql 102 (kI 6)) 101 [102], oO 104 (.pick 101 103 kF) [101,103], oQ 105 104, oG 106 (.mv 11) 105 [11], oO 107 (.pick 105 106 kF) [105,106], oQ 108 107, oG 109 (.faddr 2 10) 108 [], oG 110 (.load none 109) 108 [109], oG 111 (.b2s 110) 108 [110], oG 112 (.bin .eql 111 (.c (.s [120]))) 108 [111], oO 113 (.pick 108 112 kF) [108,112], oQ 114 113, oG 115 (.faddr 1 10) 114 [10], oG 116 (.load none 115) 114 [115], oG 117 (.bin .eql 116 (kI 1)) 114 [116], oO 118 (.pick 114 117 kF) [114,117], oQ 119 118, oG 120 (.mv 14) 119 [14], oO 121 (.pick 119 120 kF) [119,120], oQ 122 121, oG 123 (.load (some 7) 12) 122 [12], oG 124 (.load (some 7) 13) 122 [13], oG 125 (.call 126 [123,124]) 122 [123,124], oO 126 (.pick 122 125 kF) [122,125], oQ 127 126, oG 128 (.mv 17) 127 [17], oO 129 (.pick 127 128 kF) [127,128], oQ 130 129, oG 131 (.load (some 7) 15) 130 [15], oG 132 (.load (some 7) 16) 130 [], oG 133 (.call 127 [131,132]) 130 [131,132], oO 134 (.pick 130 133 kF) [130,133], oQ 135 134, oG 136 (.faddr 5 16) 135 [], oG 137 (.load none 136) 135 [136], oG 138 (.lenL 137) 135 [137], oG 139 (.bin .eql 138 (kI 1)) 135 [138], oO 140 (.pick 135 139 kF) [135,139], oQ 141 140, oG 142 (.faddr 4 16) 141 [], oG 143 (.load none 142) 141 [142], oG 144 (.bin .eql 143 (kI 1)) 141 [143], oO 145 (.pick 141 144 kF) [141,144], oQ 146 145, oG 147 (.faddr 0 16) 146 [16], oG 148 (.load none 147) 146 [147], oG 149 (.bin .eql 148 (kI 1)) 146 [148], oO 150 (.pick 146 149 kF) [146,149], oB 0 150] .ret))))))))))))), [.t 0]⟩
/-- slices.ContainsFunc   interrex/assume.one interrex/assume.one  -/
def f86 : AFn := ⟨2, (rS [oA 4 kF [4]] (rS [oQ 5 0, oQ 6 1, oO 7 (.call 128 [5,6]) [5,6], oO 8 (.bin .geq 7 (kI 0)) [7], oB 4 8] .ret)), [.t 4]⟩
/-- ( interrex/assume.Assume).Has 1 -/
def f87 : AFn := ⟨2, (rS [oO 2 (.box false 0) [0], oA 3 kF [3]] (rS [oE 4 0 2, oE 5 0 4, oL 6 5, oL 7 1, oO 8 (.bin .eql 6 7) [6,7], oB 3 8] .ret)), [.t 3]⟩
/-- slices.Clone   byte byte  -/
def f89 : AFn := ⟨1, (rS [oA 2 (.c .nils) [2]] (.seq (rS [oP 3 0, oO 4 (.eqn false 3 (.c .nils)) [3]] (.cond 4 (rS [oA 2 (.c .nils) []] .ret)
 .skip))
(rS [oO 5 (.bsl (.im false) 1 0 [(.i .u8 0)] []) [], oQ 6 0, oO 7 (.append (.im false) 1 1 5 6) [5,6], oB 2 7] .ret))), [.t 2]⟩
/-- interrex/lease.Free -/
def f90 : AFn := ⟨3, (rS [oA 6 kF [6]] (rS [oP 7 2, oO 8 (.bin .geq 7 (kI 1)) [7], oQ 9 8, oG 10 (.mv 2) 9 [], oG 11 (.bin .leq 10 (kI 1099511627776)) 9 [10], oO 12 (.pick 9 11 kF) [9,11], oQ 13 12, oG 14 (.mv 0) 13 [0], oG 15 (.call 59 [14]) 13 [14], oG 16 (.mv 1) 13 [1], oG 17 (.call 59 [16]) 13 [16], oG 18 (.bin .sub 15 17) 13 [15,17], oG 19 (.mv 2) 13 [2], oG 20 (.bin .geq 18 19) 13 [18,19], oO 21 (.pick 13 20 kF) [13,20], oB 6 21] .ret)), [.t 6]⟩
/-- interrex/label.Name -/
def f91 : AFn := ⟨1, (rS [oA 2 kF [2]] (.seq (rS [oP 4 0, oO 5 (.lenS 4) [4], oO 6 (.bin .lss 5 (kI 1)) [5], oQ 7 6, oH 8 (.mv 0) 7 [], oH 9 (.lenS 8) 7 [8], oH 10 (.bin .gtr 9 (kI 12)) 7 [9], oO 11 (.pick 7 kT 10) [7,10]] (.cond 11 (rS [oA 2 kF []] .ret)
 .skip))
(.seq (rS [oP 12 0, oO 13 (.lenS 12) [12], oM 14 (kI 0) []] (.blk 0 (.loop (rS [oO 15 (.bin .lss 14 13) []] (.seq (.cond 15 .skip
 (.exit 0))
(.seq (.blk 1 (rS [oP 16 14, oB 3 16] (rS [oP 17 0, oQ 18 3, oO 19 (.ixs 17 18) [17,18], oO 20 (.call 129 [19]) [19], oO 21 (.un .not 20) [20]] (.cond 21 (rS [oA 2 kF []] .ret)
 .skip))))
(rR [oO 22 (.bin .add 14 (kI 1)) [14], oQ 14 22])))))))
(rS [oA 2 kT []] .ret)))), [.t 2]⟩
/-- interrex/store.may -/
def f92 : AFn := ⟨1, (rS [oO 1 (.box false 0) [0], oA 2 kF [2]] (.seq (rS [oF 8 0 1, oL 9 8, oO 10 (.lenL 9) [9], oO 11 (.bin .gtr 10 (kI 20)) [10], oQ 12 11, oH 13 (.faddr 1 1) 12 [], oH 14 (.load none 13) 12 [13], oH 15 (.lenL 14) 12 [14], oH 16 (.bin .lss 15 (kI 1)) 12 [15], oO 17 (.pick 12 kT 16) [12,16], oQ 18 17, oH 19 (.faddr 1 1) 18 [], oH 20 (.load none 19) 18 [19], oH 21 (.lenL 20) 18 [20], oH 22 (.bin .gtr 21 (kI 64)) 18 [21], oO 23 (.pick 18 kT 22) [18,22]] (.cond 23 (rS [oA 2 kF []] .ret)
 .skip))
(.seq (rS [oF 24 0 1, oL 25 24, oO 26 (.lenL 25) [], oM 27 (kI 0) []] (.blk 0 (.loop (rS [oO 28 (.bin .lss 27 26) []] (.seq (.cond 28 .skip
 (.exit 0))
(.seq (.blk 1 (rS [oO 29 (.iasl 3 25 27) [], oO 30 (.load (some 3) 29) [29], oO 4 (.alloc false [vS,(vI 0),(.b false)]) [], oN (.store 3 4 30) [30]] (rS [oF 31 0 4, oL 32 31, oO 33 (.call 130 [32]) [32], oO 34 (.un .not 33) [33], oQ 35 34, oH 36 (.faddr 1 4) 35 [4], oH 37 (.load none 36) 35 [36], oH 38 (.bin .lss 37 (kI 0)) 35 [37], oO 39 (.pick 35 kT 38) [35,38]] (.cond 39 (rS [oA 2 kF []] .ret)
 .skip))))
(rR [oO 40 (.bin .add 27 (kI 1)) [27], oQ 27 40])))))))
(rS [oO 41 (.mkmap true none) [], oB 5 41] (.seq (rS [oE 42 1 1, oL 43 42, oO 44 (.lenL 43) [], oM 45 (kI 0) []] (.blk 2 (.loop (rS [oO 46 (.bin .lss 45 44) []] (.seq (.cond 46 .skip
 (.exit 2))
(.seq (.blk 3 (rS [oO 47 (.iasl 3 43 45) [], oO 48 (.load (some 3) 47) [47], oO 7 (.alloc false [vS,.nils,(.b false)]) [], oN (.store 3 7 48) [48]] (.seq (rS [oF 49 0 7, oL 50 49, oO 51 (.call 130 [50]) [50], oO 52 (.un .not 51) [51], oQ 53 52, oH 54 (.mv 5) 53 [], oH 55 (.faddr 0 7) 53 [], oH 56 (.load none 55) 53 [55], oH 57 (.lkp none (.b false) 54 56 false) 53 [54,56], oO 58 (.pick 53 kT 57) [53,57], oQ 59 58, oH 60 (.faddr 2 7) 59 [], oH 61 (.load none 60) 59 [60], oH 62 (.mv 61) 59 [61], oG 63 (.faddr 1 7) 62 [], oG 64 (.load none 63) 62 [63], oG 65 (.lenL 64) 62 [64], oG 66 (.bin .gtr 65 (kI 0)) 62 [65], oH 67 (.pick 62 66 kF) 59 [62,66], oO 68 (.pick 59 kT 67) [59,67], oQ 69 68, oH 70 (.faddr 1 7) 69 [], oH 71 (.load none 70) 69 [70], oH 72 (.lenL 71) 69 [71], oH 73 (.bin .gtr 72 (kI 4000)) 69 [72], oO 74 (.pick 69 kT 73) [69,73]] (.cond 74 (rS [oA 2 kF []] .ret)
 .skip))
(rR [oP 75 5, oE 76 0 7, oL 77 76, oN (.mupd none 75 77 kT) [75,77]]))))
(rR [oO 78 (.bin .add 45 (kI 1)) [45], oQ 45 78])))))))
(rS [oA 2 kT []] .ret)))))), [.t 2]⟩
/-- ( interrex/store.Store).holds -/
def f93 : AFn := ⟨2, (rS [oO 3 (.box false 1) [1], oA 4 kF [4]] (.seq (rS [oF 7 2 3, oL 8 7, oO 9 (.un .not 8) [8]] (.cond 9 (.seq (.dreg [dq 0 (oP 10 0),
 dq 1 (oO 11 (.nilc 10) []),
 dq 2 (oF 12 1 11),
 dq 3 (oK 13 12),
 dq 4 (oF 14 0 3),
 dq 5 (oK 15 14),
 dq 6 (oO 16 (.lkp none (.agg [vS,(vI 0),.nils]) 13 15 false) []),
 dq 7 (oO 17 (.fld 1 none 16) []),
 dq 8 (oF 18 1 3),
 dq 9 (oK 19 18),
 dq 10 (oO 20 (.bin .eql 17 19) []),
 dq 11 (oA 4 20 [])] [0,10,11,12,13,3,14,15,16,17,18,19,20])
.ret)
 .skip))
(.seq (rS [oQ 21 0, oO 22 (.nilc 21) [21], oE 23 2 22, oL 24 23, oO 25 (.no) [24]] (.blk 0 (.loop (rS [oO 26 (.no) [], oO 27 (.ext 26 0) [26]] (.seq (.cond 27 .skip
 (.exit 0))
(.blk 1 (rS [oO 28 (.no) [], oO 29 (.ext 28 0) [], oO 30 (.ext 28 1) [28], oB 5 29, oB 6 30] (rS [oQ 31 6, oF 32 1 3, oL 33 32, oO 34 (.bin .gtr 31 33) [31,33], oQ 35 34, oG 36 (.mv 5) 35 [5], oG 37 (.faddr 0 3) 35 [], oG 38 (.load none 37) 35 [37], oG 39 (.call 131 [36,38]) 35 [36,38], oO 40 (.pick 35 39 kF) [35,39]] (.cond 40 (rS [oA 4 kF []] .ret)
 .skip)))))))))
(rS [oA 4 kT []] .ret)))), [.t 4]⟩
/-- interrex/log.copied -/
def f94 : AFn := ⟨1, (rS [oO 1 (.box false 0) [0], oO 2 (.alloc false [(vI 0),vS,.nils,(.b false)]) []] (rS [oF 3 2 1, oL 4 3, oO 5 (.call 89 [4]) [4], oF 6 2 1, oN (.store 1 6 5) [6,5]] (rS [oO 7 (.load (some 4) 1) [1], oN (.store 4 2 7) [7]] .ret))), [.cell 2 (some 4)]⟩
/-- ( interrex/log.Log).Cut -/
def f95 : AFn := ⟨2, (rS [oO 3 (.box true 1) [1]] (.seq (rS [oP 4 0, oO 5 (.eqn false 4 (.c .nilp)) [4]] (.cond 5 .ret
 .skip))
(rS [oP 6 0, oP 7 0, oO 8 (.nilc 7) [7], oE 9 0 8, oL 10 9, oO 11 (.mkfn 133 [3]) [], oO 12 (.call 132 [10,11]) [10,11], oO 13 (.nilc 6) [6], oE 14 0 13, oN (.store 1 14 12) [14,12]] (.dreg [dq 0 (oP 15 0),
 dq 1 (oP 16 0),
 dq 2 (oO 17 (.nilc 16) []),
 dq 3 (oF 18 2 17),
 dq 4 (oK 19 18),
 dq 5 (oK 20 3),
 dq 6 (oP 21 0),
 dq 7 (oO 22 (.nilc 21) []),
 dq 8 (oF 23 3 22),
 dq 9 (oK 24 23),
 dq 10 (oO 25 (.mnmx false [20,24]) []),
 dq 11 (oO 26 (.mnmx true [19,25]) []),
 dq 12 (oO 27 (.nilc 15) []),
 dq 13 (oF 28 2 27),
 ⟨14, (oN (.store 1 28 26) []), true, []⟩] [0,15,16,17,18,19,3,20,21,22,23,24,25,26,27,28])))), []⟩
/-- interrex/cache.copied -/
def f96 : AFn := ⟨1, (rS [oO 1 (.box false 0) [0], oO 2 (.alloc false [vS,(vI 0),.nils]) []] (rS [oF 3 2 1, oL 4 3, oO 5 (.call 89 [4]) [4], oF 6 2 1, oN (.store 1 6 5) [6,5]] (rS [oO 7 (.load (some 3) 1) [1], oN (.store 3 2 7) [7]] .ret))), [.cell 2 (some 3)]⟩
/-- slices.Clone   string string  -/
def f97 : AFn := ⟨1, (rS [oA 2 (.c .nils) [2]] (.seq (rS [oP 3 0, oO 4 (.eqn false 3 (.c .nils)) [3]] (.cond 4 (rS [oA 2 (.c .nils) []] .ret)
 .skip))
(rS [oO 5 (.bsl (.mu true) 1 0 [vS] []) [], oQ 6 0, oO 7 (.append (.mu true) 1 16 5 6) [5,6], oB 2 7] .ret))), [.t 2]⟩
/-- ( interrex/wire.Reader).Name -/
def f98 : AFn := ⟨1, (rS [oA 2 (.c vS) [2]] (rS [oP 6 0, oO 7 (.nilc 6) [6], oE 8 0 7, oO 9 (.call 118 [8]) [8,9]] (rS [oP 10 0, oO 11 (.call 49 [10,(kI 8)]) [10], oO 12 (.cvi .u64 11) [11], oB 3 12] (rS [oA 4 (.c .nils) []] (.seq (rS [oM 13 (kI 0) []] (.blk 0 (.loop (rS [oO 14 (.bin .lss 13 (kI 12)) []] (.seq (.cond 14 .skip
 (.exit 0))
(.seq (.blk 1 (.seq (rS [oP 15 3, oO 16 (.bin .rem 15 (.c (.i .u64 38))) [15], oB 5 16] (rS [oP 17 5, oO 18 (.bin .gtr 17 (.c (.i .u64 0))) [17]] (.cond 18 (rR [oQ 19 4, oP 20 0, oQ 21 5, oO 22 (.nilc 20) [20], oE 23 0 22, oE 24 259 23, oO 25 (.iaar 38 1 24 21) [24,21], oL 26 25, oO 27 (.bsl (.mu true) 1 1 [(.i .u8 0)] [(0, 26)]) [26], oO 28 (.append (.mu true) 1 1 19 27) [19,27], oB 4 28])
 .skip)))
(rR [oQ 29 3, oO 30 (.bin .quo 29 (.c (.i .u64 38))) [29], oB 3 30])))
(rR [oO 31 (.bin .add 13 (kI 1)) [13], oQ 13 31])))))))
(rS [oP 32 4, oO 33 (.call 134 [32]) [32,33]] (rS [oQ 34 4, oO 35 (.b2s 34) [34], oB 2 35] .ret))))))), [.t 2]⟩
/-- interrex/code.getRes -/
def f99 : AFn := ⟨1, (rS [oO 2 (.alloc false [(vI 0),(vI 0),(vI 0)]) []] (rS [oO 3 (.alloc false [(vI 0),(vI 0),(vI 0)]) []] (.seq (rS [oM 5 (kI 0) []] (.blk 0 (.loop (rS [oO 6 (.bin .lss 5 (kI 3)) []] (.seq (.cond 6 .skip
 (.exit 0))
(.seq (.blk 1 (rS [oP 7 5, oB 4 7] (rR [oQ 8 4, oP 9 0, oO 10 (.call 49 [9,(kI 4)]) [9], oO 11 (.iaar 3 1 3 8) [8], oN (.store 1 11 10) [11,10]])))
(rR [oO 12 (.bin .add 5 (kI 1)) [5], oQ 5 12])))))))
(rS [oO 13 (.load (some 3) 3) [3], oN (.store 3 2 13) [13]] .ret)))), [.cell 2 (some 3)]⟩
/-- ( interrex/wire.Reader).Count -/
def f100 : AFn := ⟨2, (rS [oA 4 (kI 0) [4]] (rS [oP 6 0, oQ 7 1, oO 8 (.call 49 [6,7]) [6,7], oB 5 8] (.seq (rS [oP 9 5, oP 10 0, oO 11 (.nilc 10) [10], oE 12 297 11, oL 13 12, oO 14 (.lenL 13) [13], oO 15 (.bin .gtr 9 14) [9,14]] (.cond 15 (rS [oP 16 0, oQ 17 0, oO 18 (.nilc 16) [16], oE 19 298 18, oN (.store 1 19 kT) [19], oO 20 (.nilc 17) [17], oE 21 297 20, oN (.store 1 21 (.c .nils)) [21]] (rS [oA 4 (kI 0) []] .ret))
 .skip))
(rS [oQ 22 5, oB 4 22] .ret)))), [.t 4]⟩
/-- interrex/code.getPairs interrex/api.Pair  -/
def f101 : AFn := ⟨2, (rS [oA 4 (.c .nils) [4]] (rS [oA 5 (.c .nils) []] (.seq (rS [oP 8 0, oO 9 (.call 100 [8,(kI 1)]) [8], oM 10 (kI 0) []] (.blk 0 (.loop (rS [oO 11 (.bin .lss 10 9) []] (.seq (.cond 11 .skip
 (.exit 0))
(.seq (.blk 1 (rS [oP 12 0, oO 13 (.call 98 [12]) [12], oP 14 0, oO 15 (.call 98 [14]) [14], oB 6 13, oB 7 15] (rR [oQ 16 5, oP 17 1, oQ 18 6, oQ 19 7, oO 20 (.callv 17 [18,19]) [17,18,19], oO 21 (.bsl (.im false) 2 1 [vS,vS] [(0, 20)]) [20], oO 22 (.append (.im false) 2 32 16 21) [16,21], oB 5 22])))
(rR [oO 23 (.bin .add 10 (kI 1)) [10], oQ 10 23])))))))
(rS [oQ 24 5, oB 4 24] .ret)))), [.t 4]⟩
/-- interrex/code.toPair -/
def f102 : AFn := ⟨2, (rS [oO 4 (.alloc false [vS,vS]) []] (rS [oQ 5 0, oQ 6 1, oO 7 (.bld [vS,vS] [(0, 1, 5),(1, 1, 6)]) [5,6], oN (.store 2 4 7) [7]] .ret)), [.cell 4 (some 2)]⟩
/-- interrex/code.getTerms -/
def f103 : AFn := ⟨1, (rS [oA 2 (.c .nils) [2]] (rS [oA 3 (.c .nils) []] (.seq (rS [oP 5 0, oO 6 (.call 100 [5,(kI 1)]) [5], oM 7 (kI 0) []] (.blk 0 (.loop (rS [oO 8 (.bin .lss 7 6) []] (.seq (.cond 8 .skip
 (.exit 0))
(.seq (.blk 1 (rS [oP 9 0, oO 10 (.call 98 [9]) [9], oP 11 0, oO 12 (.call 49 [11,(kI 1)]) [11], oO 13 (.bld [vS,(vI 0),.nils] [(0, 1, 10),(1, 1, 12)]) [10,12], oO 4 (.alloc false [vS,(vI 0),.nils]) [], oN (.store 3 4 13) [13]] (.seq (rS [oP 14 0, oO 15 (.call 100 [14,(kI 1)]) [14], oM 16 (kI 0) []] (.blk 2 (.loop (rS [oO 17 (.bin .lss 16 15) []] (.seq (.cond 17 .skip
 (.exit 2))
(.seq (.blk 3 (.dreg [dq 0 (oF 18 2 4),
 dq 1 (oK 19 18),
 dq 2 (oP 20 0),
 ⟨3, (oO 21 (.call 98 [20]) []), true, [1]⟩,
 ⟨4, (oO 22 (.bsl (.im false) 1 1 [vS] [(0, 21)]) []), true, [1]⟩,
 ⟨5, (oO 23 (.append (.im false) 1 16 19 22) []), true, []⟩,
 dq 6 (oF 24 2 4),
 ⟨7, (oN (.store 1 24 23) []), true, []⟩] [18,19,20,21,22,23,24]))
(rR [oO 25 (.bin .add 16 (kI 1)) [16], oQ 16 25])))))))
(rR [oQ 26 3, oO 27 (.load (some 3) 4) [4], oO 28 (.bsl (.im false) 3 1 [vS,(vI 0),.nils] [(0, 27)]) [27], oO 29 (.append (.im false) 3 48 26 28) [26,28], oB 3 29]))))
(rR [oO 30 (.bin .add 7 (kI 1)) [7], oQ 7 30])))))))
(rS [oQ 31 3, oB 2 31] .ret)))), [.t 2]⟩
/-- ( interrex/wire.Reader).Bool -/
def f104 : AFn := ⟨1, (rS [oA 2 kF [2]] (rS [oQ 3 0, oO 4 (.call 49 [3,(kI 1)]) [3], oO 5 (.bin .eql 4 (kI 1)) [4], oB 2 5] .ret)), [.t 2]⟩
/-- slices.pdqsortCmpFunc interrex/api.Pod  -/
def f108 : AFn := ⟨5, (rS [oA 10 kT []] (rS [oA 11 kT []] (.blk 0 (.loop (.blk 1 (rS [oP 21 2, oP 22 1, oO 23 (.bin .sub 21 22) [21,22], oB 12 23] (.seq (rS [oP 24 12, oO 25 (.bin .leq 24 (kI 12)) [24]] (.cond 25 (rS [oQ 26 0, oQ 27 1, oQ 28 2, oQ 29 4, oO 30 (.call 138 [26,27,28,29]) [26,27,28,29,30]] .ret)
 .skip))
(.seq (rS [oP 31 3, oO 32 (.bin .eql 31 (kI 0)) [31]] (.cond 32 (rS [oQ 33 0, oQ 34 1, oQ 35 2, oQ 36 4, oO 37 (.call 139 [33,34,35,36]) [33,34,35,36,37]] .ret)
 .skip))
(.seq (rS [oP 38 10, oO 39 (.un .not 38) [38]] (.cond 39 (rS [oP 40 0, oP 41 1, oP 42 2, oP 43 4, oO 44 (.call 140 [40,41,42,43]) [40,41,42,43,44]] (rR [oQ 45 3, oO 46 (.bin .sub 45 (kI 1)) [45], oB 3 46]))
 .skip))
(rS [oP 48 0, oP 49 1, oP 50 2, oP 51 4, oO 52 (.call 141 [48,49,50,51]) [48,49,50,51], oQ 47 52, oO 53 (.ext 47 0) [], oO 54 (.ext 47 1) [47], oB 13 53, oB 14 54] (.seq (rS [oP 55 14, oO 56 (.bin .eql 55 (kI 2)) [55]] (.cond 56 (rS [oP 57 0, oP 58 1, oP 59 2, oP 60 4, oO 61 (.call 142 [57,58,59,60]) [57,58,59,60,61]] (rS [oP 62 2, oO 63 (.bin .sub 62 (kI 1)) [62], oQ 64 13, oP 65 1, oO 66 (.bin .sub 64 65) [64,65], oO 67 (.bin .sub 63 66) [63,66], oB 13 67] (rR [oA 14 (kI 1) []])))
 .skip))
(.seq (rS [oP 68 10, oQ 69 68, oG 70 (.mv 11) 69 [], oO 71 (.pick 69 70 kF) [69,70], oQ 72 71, oG 73 (.mv 14) 72 [14], oG 74 (.bin .eql 73 (kI 1)) 72 [73], oO 75 (.pick 72 74 kF) [72,74]] (.cond 75 (rS [oP 76 0, oP 77 1, oP 78 2, oP 79 4, oO 80 (.call 143 [76,77,78,79]) [76,77,78,79]] (.cond 80 .ret
 .skip))
 .skip))
(.seq (.seq (.dreg [dq 0 (oP 81 1),
 dq 1 (oO 82 (.bin .gtr 81 (kI 0)) []),
 dq 2 (oP 83 82),
 dq 3 (oG 84 (.mv 4) 83 []),
 dq 4 (oG 85 (.mv 0) 83 []),
 dq 5 (oG 86 (.mv 1) 83 []),
 dq 6 (oG 87 (.bin .sub 86 (kI 1)) 83 []),
 dq 7 (oG 88 (.iasl 16 85 87) 83 []),
 dq 8 (oG 89 (.load (some 16) 88) 83 []),
 dq 9 (oG 90 (.mv 0) 83 []),
 dq 10 (oG 91 (.mv 13) 83 []),
 dq 11 (oG 92 (.iasl 16 90 91) 83 []),
 dq 12 (oG 93 (.load (some 16) 92) 83 []),
 ⟨13, (oG 94 (.callv 84 [89,93]) 83 []), true, []⟩,
 dq 14 (oG 95 (.bin .lss 94 (kI 0)) 83 []),
 dq 15 (oG 96 (.un .not 95) 83 []),
 dq 16 (oO 97 (.pick 83 96 kF) [])] [81,82,83,84,85,86,87,88,89,90,91,92,93,94,95,96])
(.cond 97 (rS [oP 98 0, oQ 99 1, oP 100 2, oQ 101 13, oP 102 4, oO 103 (.call 144 [98,99,100,101,102]) [98,99,100,101,102], oB 15 103] (rS [oQ 104 15, oB 1 104] (.exit 1)))
 .skip))
(rS [oP 106 0, oP 107 1, oP 108 2, oQ 109 13, oP 110 4, oO 111 (.call 145 [106,107,108,109,110]) [106,107,108,109,110], oQ 105 111, oO 112 (.ext 105 0) [], oO 113 (.ext 105 1) [105], oB 16 112, oB 17 113] (rS [oQ 114 17, oB 11 114] (rS [oP 115 16, oP 116 1, oO 117 (.bin .sub 115 116) [115,116], oP 118 2, oP 119 16, oO 120 (.bin .sub 118 119) [118,119], oB 18 117, oB 19 120] (rS [oQ 121 12, oO 122 (.bin .quo 121 (kI 8)) [121], oB 20 122] (rS [oP 123 18, oP 124 19, oO 125 (.bin .lss 123 124) [123,124]] (.cond 125 (rS [oQ 126 18, oQ 127 20, oO 128 (.bin .geq 126 127) [126,127], oB 10 128] (rS [oP 129 0, oQ 130 1, oP 131 16, oP 132 3, oP 133 4, oO 134 (.call 108 [129,130,131,132,133]) [129,130,131,132,133,134]] (rR [oQ 135 16, oO 136 (.bin .add 135 (kI 1)) [135], oB 1 136])))
 (rS [oQ 137 19, oQ 138 20, oO 139 (.bin .geq 137 138) [137,138], oB 10 139] (rS [oP 140 0, oP 141 16, oO 142 (.bin .add 141 (kI 1)) [141], oQ 143 2, oP 144 3, oP 145 4, oO 146 (.call 108 [140,142,143,144,145]) [140,142,143,144,145,146]] (rR [oQ 147 16, oB 2 147])))))))))))))))))))))), []⟩
/-- math/bits.Len -/
def f109 : AFn := ⟨1, (rS [oA 2 (kI 0) [2]] (.seq (.cond kF (rS [oQ 3 0, oO 4 (.cvi .u32 3) [3], oO 5 (.call 146 [4]) [4], oB 2 5] .ret)
 .skip)
(rS [oQ 6 0, oO 7 (.call 147 [6]) [6], oB 2 7] .ret))), [.t 2]⟩
/-- slices.pdqsortCmpFunc interrex/api.Node  -/
def f111 : AFn := ⟨5, (rS [oA 10 kT []] (rS [oA 11 kT []] (.blk 0 (.loop (.blk 1 (rS [oP 21 2, oP 22 1, oO 23 (.bin .sub 21 22) [21,22], oB 12 23] (.seq (rS [oP 24 12, oO 25 (.bin .leq 24 (kI 12)) [24]] (.cond 25 (rS [oQ 26 0, oQ 27 1, oQ 28 2, oQ 29 4, oO 30 (.call 149 [26,27,28,29]) [26,27,28,29,30]] .ret)
 .skip))
(.seq (rS [oP 31 3, oO 32 (.bin .eql 31 (kI 0)) [31]] (.cond 32 (rS [oQ 33 0, oQ 34 1, oQ 35 2, oQ 36 4, oO 37 (.call 150 [33,34,35,36]) [33,34,35,36,37]] .ret)
 .skip))
(.seq (rS [oP 38 10, oO 39 (.un .not 38) [38]] (.cond 39 (rS [oP 40 0, oP 41 1, oP 42 2, oP 43 4, oO 44 (.call 151 [40,41,42,43]) [40,41,42,43,44]] (rR [oQ 45 3, oO 46 (.bin .sub 45 (kI 1)) [45], oB 3 46]))
 .skip))
(rS [oP 48 0, oP 49 1, oP 50 2, oP 51 4, oO 52 (.call 152 [48,49,50,51]) [48,49,50,51], oQ 47 52, oO 53 (.ext 47 0) [], oO 54 (.ext 47 1) [47], oB 13 53, oB 14 54] (.seq (rS [oP 55 14, oO 56 (.bin .eql 55 (kI 2)) [55]] (.cond 56 (rS [oP 57 0, oP 58 1, oP 59 2, oP 60 4, oO 61 (.call 153 [57,58,59,60]) [57,58,59,60,61]] (rS [oP 62 2, oO 63 (.bin .sub 62 (kI 1)) [62], oQ 64 13, oP 65 1, oO 66 (.bin .sub 64 65) [64,65], oO 67 (.bin .sub 63 66) [63,66], oB 13 67] (rR [oA 14 (kI 1) []])))
 .skip))
(.seq (rS [oP 68 10, oQ 69 68, oG 70 (.mv 11) 69 [], oO 71 (.pick 69 70 kF) [69,70], oQ 72 71, oG 73 (.mv 14) 72 [14], oG 74 (.bin .eql 73 (kI 1)) 72 [73], oO 75 (.pick 72 74 kF) [72,74]] (.cond 75 (rS [oP 76 0, oP 77 1, oP 78 2, oP 79 4, oO 80 (.call 154 [76,77,78,79]) [76,77,78,79]] (.cond 80 .ret
 .skip))
 .skip))
(.seq (.seq (.dreg [dq 0 (oP 81 1),
 dq 1 (oO 82 (.bin .gtr 81 (kI 0)) []),
 dq 2 (oP 83 82),
 dq 3 (oG 84 (.mv 4) 83 []),
 dq 4 (oG 85 (.mv 0) 83 []),
 dq 5 (oG 86 (.mv 1) 83 []),
 dq 6 (oG 87 (.bin .sub 86 (kI 1)) 83 []),
 dq 7 (oG 88 (.iasl 6 85 87) 83 []),
 dq 8 (oG 89 (.load (some 6) 88) 83 []),
 dq 9 (oG 90 (.mv 0) 83 []),
 dq 10 (oG 91 (.mv 13) 83 []),
 dq 11 (oG 92 (.iasl 6 90 91) 83 []),
 dq 12 (oG 93 (.load (some 6) 92) 83 []),
 ⟨13, (oG 94 (.callv 84 [89,93]) 83 []), true, []⟩,
 dq 14 (oG 95 (.bin .lss 94 (kI 0)) 83 []),
 dq 15 (oG 96 (.un .not 95) 83 []),
 dq 16 (oO 97 (.pick 83 96 kF) [])] [81,82,83,84,85,86,87,88,89,90,91,92,93,94,95,96])
(.cond 97 (rS [oP 98 0, oQ 99 1, oP 100 2, oQ 101 13, oP 102 4, oO 103 (.call 155 [98,99,100,101,102]) [98,99,100,101,102], oB 15 103] (rS [oQ 104 15, oB 1 104] (.exit 1)))
 .skip))
(rS [oP 106 0, oP 107 1, oP 108 2, oQ 109 13, oP 110 4, oO 111 (.call 156 [106,107,108,109,110]) [106,107,108,109,110], oQ 105 111, oO 112 (.ext 105 0) [], oO 113 (.ext 105 1) [105], oB 16 112, oB 17 113] (rS [oQ 114 17, oB 11 114] (rS [oP 115 16, oP 116 1, oO 117 (.bin .sub 115 116) [115,116], oP 118 2, oP 119 16, oO 120 (.bin .sub 118 119) [118,119], oB 18 117, oB 19 120] (rS [oQ 121 12, oO 122 (.bin .quo 121 (kI 8)) [121], oB 20 122] (rS [oP 123 18, oP 124 19, oO 125 (.bin .lss 123 124) [123,124]] (.cond 125 (rS [oQ 126 18, oQ 127 20, oO 128 (.bin .geq 126 127) [126,127], oB 10 128] (rS [oP 129 0, oQ 130 1, oP 131 16, oP 132 3, oP 133 4, oO 134 (.call 111 [129,130,131,132,133]) [129,130,131,132,133,134]] (rR [oQ 135 16, oO 136 (.bin .add 135 (kI 1)) [135], oB 1 136])))
 (rS [oQ 137 19, oQ 138 20, oO 139 (.bin .geq 137 138) [137,138], oB 10 139] (rS [oP 140 0, oP 141 16, oO 142 (.bin .add 141 (kI 1)) [141], oQ 143 2, oP 144 3, oP 145 4, oO 146 (.call 111 [140,142,143,144,145]) [140,142,143,144,145,146]] (rR [oQ 147 16, oB 2 147])))))))))))))))))))))), []⟩
/-- interrex/qty.May -/
def f112 : AFn := ⟨1, (rS [oO 1 (.box false 0) [0], oA 2 kF [2]] (.seq (rS [oO 5 (.load (some 3) 1) [1], oM 6 (kI 0) []] (.blk 0 (.loop (rS [oO 7 (.bin .lss 6 (kI 3)) []] (.seq (.cond 7 .skip
 (.exit 0))
(.seq (.blk 1 (rS [oO 8 (.ixa 3 1 none 5 6) [], oB 4 8] (rS [oP 9 4, oO 10 (.bin .lss 9 (kI 0)) [9], oQ 11 10, oH 12 (.mv 4) 11 [4], oH 13 (.bin .gtr 12 (kI 1000000000)) 11 [12], oO 14 (.pick 11 kT 13) [11,13]] (.cond 14 (rS [oA 2 kF []] .ret)
 .skip))))
(rR [oO 15 (.bin .add 6 (kI 1)) [6], oQ 6 15])))))))
(rS [oA 2 kT []] .ret))), [.t 2]⟩
/-- interrex/obj.mayPorts -/
def f113 : AFn := ⟨1, (rS [oA 2 kF [2]] (.seq (rS [oP 5 0, oO 6 (.lenL 5) [], oM 7 (kI 0) []] (.blk 0 (.loop (rS [oO 8 (.bin .lss 7 6) []] (.seq (.cond 8 .skip
 (.exit 0))
(.seq (.blk 1 (rS [oP 9 7, oO 10 (.iasl 1 5 7) [], oL 11 10, oB 3 9, oB 4 11] (rS [oP 12 4, oO 13 (.bin .lss 12 (kI 1)) [12], oQ 14 13, oH 15 (.mv 4) 14 [], oH 16 (.bin .gtr 15 (kI 65535)) 14 [15], oO 17 (.pick 14 kT 16) [14,16], oQ 18 17, oH 19 (.mv 3) 18 [], oH 20 (.bin .gtr 19 (kI 0)) 18 [19], oH 21 (.mv 20) 18 [20], oG 22 (.mv 0) 21 [], oG 23 (.mv 3) 21 [3], oG 24 (.bin .sub 23 (kI 1)) 21 [23], oG 25 (.iasl 1 22 24) 21 [22,24], oG 26 (.load none 25) 21 [25], oG 27 (.mv 4) 21 [4], oG 28 (.bin .geq 26 27) 21 [26,27], oH 29 (.pick 21 28 kF) 18 [21,28], oO 30 (.pick 18 kT 29) [18,29]] (.cond 30 (rS [oA 2 kF []] .ret)
 .skip))))
(rR [oO 31 (.bin .add 7 (kI 1)) [7], oQ 7 31])))))))
(rS [oQ 32 0, oO 33 (.lenL 32) [32], oO 34 (.bin .leq 33 (kI 6)) [33], oB 2 34] .ret))), [.t 2]⟩
/-- interrex/label.May -/
def f114 : AFn := ⟨1, (rS [oA 2 kF [2]] (.seq (rS [oP 5 0, oO 6 (.lenL 5) [], oM 7 (kI 0) []] (.blk 0 (.loop (rS [oO 8 (.bin .lss 7 6) []] (.seq (.cond 8 .skip
 (.exit 0))
(.seq (.blk 1 (rS [oP 9 7, oO 10 (.iasl 2 5 7) [], oO 11 (.load (some 2) 10) [10], oO 4 (.alloc false [vS,vS]) [], oB 3 9, oN (.store 2 4 11) [11]] (.seq (.dreg [dq 0 (oF 12 0 4),
 dq 1 (oK 13 12),
 ⟨2, (oO 14 (.call 91 [13]) []), true, []⟩,
 dq 3 (oO 15 (.un .not 14) []),
 dq 4 (oP 16 15),
 dq 5 (oH 17 (.faddr 1 4) 16 []),
 dq 6 (oH 18 (.load none 17) 16 []),
 ⟨7, (oH 19 (.call 91 [18]) 16 []), true, []⟩,
 dq 8 (oH 20 (.un .not 19) 16 []),
 dq 9 (oO 21 (.pick 16 kT 20) []),
 dq 10 (oP 22 21),
 dq 11 (oH 23 (.mv 3) 22 []),
 dq 12 (oH 24 (.bin .gtr 23 (kI 0)) 22 []),
 dq 13 (oH 25 (.mv 24) 22 []),
 dq 14 (oG 26 (.mv 0) 25 []),
 dq 15 (oG 27 (.mv 3) 25 []),
 dq 16 (oG 28 (.bin .sub 27 (kI 1)) 25 []),
 dq 17 (oG 29 (.iasl 2 26 28) 25 []),
 dq 18 (oG 30 (.faddr 0 29) 25 []),
 dq 19 (oG 31 (.load none 30) 25 []),
 dq 20 (oG 32 (.faddr 0 4) 25 []),
 dq 21 (oG 33 (.load none 32) 25 []),
 dq 22 (oG 34 (.bin .geq 31 33) 25 []),
 dq 23 (oH 35 (.pick 25 34 kF) 22 []),
 dq 24 (oO 36 (.pick 22 kT 35) [])] [4,12,13,14,15,16,17,18,19,20,21,22,3,23,24,25,26,27,28,29,30,31,32,33,34,35])
(.cond 36 (rS [oA 2 kF []] .ret)
 .skip))))
(rR [oO 37 (.bin .add 7 (kI 1)) [7], oQ 7 37])))))))
(rS [oQ 38 0, oO 39 (.lenL 38) [38], oO 40 (.bin .leq 39 (kI 6)) [39], oB 2 40] .ret))), [.t 2]⟩
/-- interrex/label.MayTerms -/
def f115 : AFn := ⟨1, (rS [oA 2 kF [2]] (rS [oP 3 0, oO 4 (.lenL 3) [3], oO 5 (.bin .leq 4 (kI 6)) [4], oQ 6 5, oG 7 (.mv 0) 6 [0], oG 8 (.call 157 [7,(.c (.fn 158 [] []))]) 6 [7], oG 9 (.un .not 8) 6 [8], oO 10 (.pick 6 9 kF) [6,9], oB 2 10] .ret)), [.t 2]⟩
/-- interrex/taint.MayTols -/
def f116 : AFn := ⟨1, (rS [oA 2 kF [2]] (rS [oP 3 0, oO 4 (.lenL 3) [3], oO 5 (.bin .leq 4 (kI 6)) [4], oQ 6 5, oG 7 (.mv 0) 6 [0], oG 8 (.call 160 [7,(.c (.fn 161 [] []))]) 6 [7], oG 9 (.un .not 8) 6 [8], oO 10 (.pick 6 9 kF) [6,9], oB 2 10] .ret)), [.t 2]⟩
/-- interrex/obj.mayTopo -/
def f117 : AFn := ⟨1, (rS [oO 1 (.box false 0) [0], oA 2 kF [2]] (.seq (rS [oF 3 12 1, oL 4 3, oO 5 (.bin .lss 4 (kI 0)) [4], oQ 6 5, oH 7 (.faddr 12 1) 6 [], oH 8 (.load none 7) 6 [7], oH 9 (.bin .gtr 8 (kI 10)) 6 [8], oO 10 (.pick 6 kT 9) [6,9], oQ 11 10, oH 12 (.faddr 11 1) 11 [], oH 13 (.load none 12) 11 [12], oH 14 (.call 115 [13]) 11 [13], oH 15 (.un .not 14) 11 [14], oO 16 (.pick 11 kT 15) [11,15], oQ 17 16, oH 18 (.faddr 13 1) 17 [], oH 19 (.load none 18) 17 [18], oH 20 (.call 115 [19]) 17 [19], oH 21 (.un .not 20) 17 [20], oO 22 (.pick 17 kT 21) [17,21]] (.cond 22 (rS [oA 2 kF []] .ret)
 .skip))
(rS [oF 23 10 1, oL 24 23, oO 25 (.call 91 [24]) [24], oQ 26 25, oH 27 (.faddr 10 1) 26 [], oH 28 (.load none 27) 26 [27], oH 29 (.bin .eql 28 (.c vS)) 26 [28], oH 30 (.mv 29) 26 [29], oG 31 (.faddr 11 1) 30 [], oG 32 (.load none 31) 30 [31], oG 33 (.lenL 32) 30 [32], oG 34 (.bin .eql 33 (kI 0)) 30 [33], oH 35 (.pick 30 34 kF) 26 [30,34], oH 36 (.mv 35) 26 [35], oG 37 (.faddr 12 1) 36 [1], oG 38 (.load none 37) 36 [37], oG 39 (.bin .eql 38 (kI 0)) 36 [38], oH 40 (.pick 36 39 kF) 26 [36,39], oO 41 (.pick 26 kT 40) [26,40], oB 2 41] .ret))), [.t 2]⟩
/-- ( interrex/wire.table).make -/
def f118 : AFn := ⟨1, (rS [oO 1 (.box true 0) [0]] (rR [oK 2 1, oO 3 (.nilc 2) [2], oE 4 0 3, oO 5 (.mkfn 164 [1]) [1], oO 6 (.call 163 [4,5]) [4,5,6]])), []⟩
/-- ( interrex/log.Log).From -/
def f119 : AFn := ⟨2, (rS [oA 4 (.c .nils) [4], oA 5 (kI 0) [5]] (.seq (.blk 0 (rS [oP 10 0, oO 11 (.eqn false 10 (.c .nilp)) [10], oB 9 11] (.cond 9 (rS [oA 4 (.c .nils) [], oA 5 (kI 9) []] .ret)
 (rS [oP 13 1, oP 14 0, oO 15 (.nilc 14) [14], oE 16 2 15, oL 17 16, oO 18 (.bin .lss 13 17) [13,17], oB 12 18] (.cond 12 (rS [oA 4 (.c .nils) [], oA 5 (kI 7) []] .ret)
 (rS [oP 20 1, oP 21 0, oO 22 (.nilc 21) [21], oE 23 3 22, oL 24 23, oO 25 (.bin .gtr 20 24) [20,24], oB 19 25] (.cond 19 (rS [oA 4 (.c .nils) [], oA 5 (kI 2) []] .ret)
 .skip)))))))
(rS [oA 6 (.c .nils) []] (.seq (rS [oQ 26 0, oO 27 (.nilc 26) [26], oE 28 0 27, oL 29 28, oO 30 (.lenL 29) [], oM 31 (kI 0) []] (.blk 1 (.loop (rS [oO 32 (.bin .lss 31 30) []] (.seq (.cond 32 .skip
 (.exit 1))
(.seq (.blk 2 (rS [oO 33 (.iasl 4 29 31) [], oO 34 (.load (some 4) 33) [33], oO 8 (.alloc false [(vI 0),vS,.nils,(.b false)]) [], oN (.store 4 8 34) [34]] (rS [oF 35 0 8, oL 36 35, oP 37 1, oO 38 (.bin .gtr 36 37) [36,37]] (.cond 38 (rR [oQ 39 6, oO 40 (.load (some 4) 8) [8], oO 41 (.call 94 [40]) [40], oO 42 (.bsl (.im false) 4 1 [(vI 0),vS,.nils,(.b false)] [(0, 41)]) [41], oO 43 (.append (.im false) 4 56 39 42) [39,42], oB 6 43])
 .skip))))
(rR [oO 44 (.bin .add 31 (kI 1)) [31], oQ 31 44])))))))
(rS [oQ 45 6, oB 4 45, oA 5 (kI 0) []] .ret))))), [.t 4,.t 5]⟩
/-- interrex/call.Get -/
def f120 : AFn := ⟨1, (rS [oO 2 (.alloc false [(vI 0),(vI 0),(vI 0),vS,(vI 0),.nils,.nils]) [], oA 3 kF [3]] (rS [oP 6 0, oO 7 (.call 48 [6]) [6], oB 4 7] (rS [oP 8 4, oO 9 (.call 49 [8,(kI 1)]) [8], oP 10 4, oO 11 (.call 49 [10,(kI 1)]) [10], oP 12 4, oO 13 (.call 49 [12,(kI 8)]) [12], oP 14 4, oO 15 (.call 166 [14]) [14], oP 16 4, oO 17 (.call 49 [16,(kI 8)]) [16], oO 18 (.bld [(vI 0),(vI 0),(vI 0),vS,(vI 0),.nils,.nils] [(2, 1, 9),(0, 1, 11),(1, 1, 13),(3, 1, 15),(4, 1, 17)]) [9,11,13,15,17], oO 5 (.alloc false [(vI 0),(vI 0),(vI 0),vS,(vI 0),.nils,.nils]) [], oN (.store 7 5 18) [18]] (.seq (rS [oP 19 4, oO 20 (.call 100 [19,(kI 1)]) [19], oM 21 (kI 0) []] (.blk 0 (.loop (rS [oO 22 (.bin .lss 21 20) []] (.seq (.cond 22 .skip
 (.exit 0))
(.seq (.blk 1 (.dreg [dq 0 (oF 23 5 5),
 dq 1 (oF 24 0 23),
 dq 2 (oK 25 24),
 dq 3 (oP 26 4),
 dq 5 (oP 28 4),
 dq 7 (oP 30 4),
 ⟨4, (oO 27 (.call 166 [26]) []), true, [2]⟩,
 ⟨6, (oO 29 (.call 49 [28,(kI 8)]) []), true, [2]⟩,
 ⟨8, (oO 31 (.call 104 [30]) []), true, [2]⟩,
 dq 9 (oO 32 (.bld [vS,(vI 0),(.b false)] [(0, 1, 27),(1, 1, 29),(2, 1, 31)]) []),
 ⟨10, (oO 33 (.bsl (.im false) 3 1 [vS,(vI 0),(.b false)] [(0, 32)]) []), true, [2]⟩,
 ⟨11, (oO 34 (.append (.im false) 3 32 25 33) []), true, []⟩,
 dq 12 (oF 35 5 5),
 dq 13 (oF 36 0 35),
 ⟨14, (oN (.store 1 36 34) []), true, []⟩] [23,24,25,26,27,28,29,30,31,32,33,34,35,36]))
(rR [oO 37 (.bin .add 21 (kI 1)) [21], oQ 21 37])))))))
(.seq (rS [oP 38 4, oO 39 (.call 100 [38,(kI 1)]) [38], oM 40 (kI 0) []] (.blk 2 (.loop (rS [oO 41 (.bin .lss 40 39) []] (.seq (.cond 41 .skip
 (.exit 2))
(.seq (.blk 3 (.dreg [dq 0 (oF 42 5 5),
 dq 1 (oF 43 1 42),
 dq 2 (oK 44 43),
 dq 3 (oP 45 4),
 dq 5 (oP 47 4),
 dq 8 (oP 50 4),
 ⟨4, (oO 46 (.call 166 [45]) []), true, [2]⟩,
 ⟨6, (oO 48 (.call 166 [47]) []), true, [2]⟩,
 dq 7 (oO 49 (.s2b .fz 48) []),
 ⟨9, (oO 51 (.call 104 [50]) []), true, [2]⟩,
 dq 10 (oO 52 (.bld [vS,.nils,(.b false)] [(0, 1, 46),(1, 1, 49),(2, 1, 51)]) []),
 ⟨11, (oO 53 (.bsl (.im false) 3 1 [vS,.nils,(.b false)] [(0, 52)]) []), true, [2]⟩,
 ⟨12, (oO 54 (.append (.im false) 3 48 44 53) []), true, []⟩,
 dq 13 (oF 55 5 5),
 dq 14 (oF 56 1 55),
 ⟨15, (oN (.store 1 56 54) []), true, []⟩] [42,43,44,45,46,47,48,49,50,51,52,53,54,55,56]))
(rR [oO 57 (.bin .add 40 (kI 1)) [40], oQ 40 57])))))))
(.seq (rS [oQ 58 4, oO 59 (.call 50 [58]) [58], oO 60 (.un .not 59) [59], oQ 61 60, oH 62 (.load (some 7) 5) 61 [], oH 63 (.call 121 [62]) 61 [62], oH 64 (.mv 0) 61 [], oH 65 (.call 51 [63,64]) 61 [63,64], oH 66 (.un .not 65) 61 [65], oO 67 (.pick 61 kT 66) [61,66], oQ 68 67, oH 69 (.mv 0) 68 [0], oH 70 (.lenL 69) 68 [69], oH 71 (.bin .eql 70 (kI 0)) 68 [70], oO 72 (.pick 68 kT 71) [68,71]] (.cond 72 (rS [oO 73 (.bld [(vI 0),(vI 0),(vI 0),vS,(vI 0),.nils,.nils] []) [], oN (.store 7 2 73) [73], oA 3 kF []] .ret)
 .skip))
(rS [oO 74 (.load (some 7) 5) [5], oN (.store 7 2 74) [74], oA 3 kT []] .ret))))))), [.cell 2 (some 7),.t 3]⟩
/-- interrex/call.Put -/
def f121 : AFn := ⟨1, (rS [oO 1 (.box false 0) [0], oA 2 (.c .nils) [2]] (.seq (rS [oO 8 (.load (some 7) 1) [], oO 9 (.call 167 [8]) [8], oO 10 (.un .not 9) [9]] (.cond 10 (rS [oA 2 (.c .nils) []] .ret)
 .skip))
(rS [oO 3 (.alloc true [(.i .u32 0),(.i .i32 0),(.i .u32 0),(.i .u64 0),(.i .u64 0),(.i .u64 0),(.i .u64 0),(.i .u64 0),(.i .u64 0),(.i .u64 0),(.i .u64 0),(.i .u64 0),(.i .u64 0),(.i .u64 0),(.i .u64 0),(.i .u64 0),(.i .u64 0),(.i .u64 0),(.i .u64 0),(.i .u64 0),(.i .u64 0),(.i .u64 0),(.i .u64 0),(.i .u64 0),(.i .u64 0),(.i .u64 0),(.i .u64 0),(.i .u64 0),(.i .u64 0),(.i .u64 0),(.i .u64 0),(.i .u64 0),(.i .u64 0),(.i .u64 0),(.i .u64 0),(.i .u64 0),(.i .u64 0),(.i .u64 0),(.i .u64 0),(.i .u64 0),(.i .u64 0),(.i .u64 0),(.i .u64 0),(.i .u64 0),(.i .u64 0),(.i .u64 0),(.i .u64 0),(.i .u64 0),(.i .u64 0),(.i .u64 0),(.i .u64 0),(.i .u64 0),(.i .u64 0),(.i .u64 0),(.i .u64 0),(.i .u64 0),(.i .u64 0),(.i .u64 0),(.i .u64 0),(.i .u64 0),(.i .u64 0),(.i .u64 0),(.i .u64 0),(.i .u64 0),(.i .u64 0),(.i .u64 0),(.i .u64 0),(.i .u64 0),(.i .u64 0),(.i .u64 0),(.i .u64 0),(.i .u64 0),(.i .u64 0),(.i .u64 0),(.i .u64 0),(.i .u64 0),(.i .u64 0),(.i .u64 0),(.i .u64 0),(.i .u64 0),(.i .u64 0),(.i .u64 0),(.i .u64 0),(.i .u64 0),(.i .u64 0),(.i .u64 0),(.i .u64 0),(.i .u64 0),(.i .u64 0),(.i .u64 0),(.i .u64 0),(.i .u64 0),(.i .u64 0),(.i .u64 0),(.i .u64 0),(.i .u64 0),(.i .u64 0),(.i .u64 0),(.i .u64 0),(.i .u64 0),(.i .u64 0),(.i .u64 0),(.i .u64 0),(.i .u64 0),(.i .u64 0),(.i .u64 0),(.i .u64 0),(.i .u64 0),(.i .u64 0),(.i .u64 0),(.i .u64 0),(.i .u64 0),(.i .u64 0),(.i .u64 0),(.i .u64 0),(.i .u64 0),(.i .u64 0),(.i .u64 0),(.i .u64 0),(.i .u64 0),(.i .u64 0),(.i .u64 0),(.i .u64 0),(.i .u64 0),(.i .u64 0),(.i .u64 0),(.i .u64 0),(.i .u64 0),(.i .u64 0),(.i .u64 0),(.i .u64 0),(.i .u64 0),(.i .u64 0),(.i .u64 0),(.i .u64 0),(.i .u64 0),(.i .u64 0),(.i .u64 0),(.i .u64 0),(.i .u64 0),(.i .u64 0),(.i .u64 0),(.i .u64 0),(.i .u64 0),(.i .u64 0),(.i .u64 0),(.i .u64 0),(.i .u64 0),(.i .u64 0),(.i .u64 0),(.i .u64 0),(.i .u64 0),(.i .u64 0),(.i .u64 0),(.i .u64 0),(.i .u64 0),(.i .u64 0),(.i .u64 0),(.i .u64 0),(.i .u64 0),(.i .u64 0),(.i .u64 0),(.i .u64 0),(.i .u64 0),(.i .u64 0),(.i .u64 0),(.i .u64 0),(.i .u64 0),(.i .u64 0),(.i .u64 0),(.i .u64 0),(.i .u64 0),(.i .u64 0),(.i .u64 0),(.i .u64 0),(.i .u64 0),(.i .u64 0),(.i .u64 0),(.i .u64 0),(.i .u64 0),(.i .u64 0),(.i .u64 0),(.i .u64 0),(.i .u64 0),(.i .u64 0),(.i .u64 0),(.i .u64 0),(.i .u64 0),(.i .u64 0),(.i .u64 0),(.i .u64 0),(.i .u64 0),(.i .u64 0),(.i .u64 0),(.i .u64 0),(.i .u64 0),(.i .u64 0),(.i .u64 0),(.i .u64 0),(.i .u64 0),(.i .u64 0),(.i .u64 0),(.i .u64 0),(.i .u64 0),(.i .u64 0),(.i .u64 0),(.i .u64 0),(.i .u64 0),(.i .u64 0),(.i .u64 0),(.i .u64 0),(.i .u64 0),(.i .u64 0),(.i .u64 0),(.i .u64 0),(.i .u64 0),(.i .u64 0),(.i .u64 0),(.i .u64 0),(.i .u64 0),(.i .u64 0),(.i .u64 0),(.i .u64 0),(.i .u64 0),(.i .u64 0),(.i .u64 0),(.i .u64 0),(.i .u64 0),(.i .u64 0),(.i .u64 0),(.i .u64 0),(.i .u64 0),(.i .u64 0),(.i .u64 0),(.i .u64 0),(.i .u64 0),(.i .u64 0),(.i .u64 0),(.i .u64 0),(.i .u64 0),(.i .u64 0),(.i .u64 0),(.i .u64 0),(.i .u64 0),(.i .u64 0),(.i .u64 0),(.i .u64 0),(.i .u64 0),(.i .u64 0),(.i .u64 0),(.i .u64 0),(.i .u64 0),(.i .u64 0),(.i .u64 0),(.i .u64 0),(.i .u64 0),(.i .u64 0),(.i .u64 0),(.i .u64 0),(.i .u8 0),(.i .u8 0),(.i .u8 0),(.i .u8 0),(.i .u8 0),(.i .u8 0),(.i .u8 0),(.i .u8 0),(.i .u8 0),(.i .u8 0),(.i .u8 0),(.i .u8 0),(.i .u8 0),(.i .u8 0),(.i .u8 0),(.i .u8 0),(.i .u8 0),(.i .u8 0),(.i .u8 0),(.i .u8 0),(.i .u8 0),(.i .u8 0),(.i .u8 0),(.i .u8 0),(.i .u8 0),(.i .u8 0),(.i .u8 0),(.i .u8 0),(.i .u8 0),(.i .u8 0),(.i .u8 0),(.i .u8 0),(.i .u8 0),(.i .u8 0),(.i .u8 0),(.i .u8 0),(.i .u8 0),(.i .u8 0),.nils]) []] (rS [oF 11 2 1, oL 12 11, oO 13 (.call 67 [3,12,(kI 1)]) [12,13]] (rS [oF 14 0 1, oL 15 14, oO 16 (.call 67 [3,15,(kI 1)]) [15,16]] (rS [oF 17 1 1, oL 18 17, oO 19 (.call 67 [3,18,(kI 8)]) [18,19]] (rS [oF 20 3 1, oL 21 20, oO 22 (.call 168 [3,21]) [21,22]] (rS [oF 23 4 1, oL 24 23, oO 25 (.call 67 [3,24,(kI 8)]) [24,25]] (rS [oF 26 5 1, oE 27 0 26, oL 28 27, oO 29 (.lenL 28) [28], oO 30 (.call 67 [3,29,(kI 1)]) [29,30]] (.seq (rS [oF 31 5 1, oE 32 0 31, oL 33 32, oO 34 (.lenL 33) [], oM 35 (kI 0) []] (.blk 0 (.loop (rS [oO 36 (.bin .lss 35 34) []] (.seq (.cond 36 .skip
 (.exit 0))
(.seq (.blk 1 (rS [oO 37 (.iasl 3 33 35) [], oO 38 (.load (some 3) 37) [37], oO 5 (.alloc false [vS,(vI 0),(.b false)]) [], oN (.store 3 5 38) [38]] (rS [oF 39 0 5, oL 40 39, oO 41 (.call 168 [3,40]) [40,41]] (rS [oF 42 1 5, oL 43 42, oO 44 (.call 67 [3,43,(kI 8)]) [43,44]] (rR [oE 45 2 5, oL 46 45, oO 47 (.call 84 [3,46]) [46,47]])))))
(rR [oO 48 (.bin .add 35 (kI 1)) [35], oQ 35 48])))))))
(rS [oF 49 5 1, oE 50 1 49, oL 51 50, oO 52 (.lenL 51) [51], oO 53 (.call 67 [3,52,(kI 1)]) [52,53]] (.seq (rS [oE 54 5 1, oE 55 1 54, oL 56 55, oO 57 (.lenL 56) [], oM 58 (kI 0) []] (.blk 2 (.loop (rS [oO 59 (.bin .lss 58 57) []] (.seq (.cond 59 .skip
 (.exit 2))
(.seq (.blk 3 (rS [oO 60 (.iasl 3 56 58) [], oO 61 (.load (some 3) 60) [60], oO 7 (.alloc false [vS,.nils,(.b false)]) [], oN (.store 3 7 61) [61]] (rS [oF 62 0 7, oL 63 62, oO 64 (.call 168 [3,63]) [63,64]] (rS [oF 65 1 7, oL 66 65, oO 67 (.b2s 66) [66], oO 68 (.call 168 [3,67]) [67,68]] (rR [oE 69 2 7, oL 70 69, oO 71 (.call 84 [3,70]) [70,71]])))))
(rR [oO 72 (.bin .add 58 (kI 1)) [58], oQ 58 72])))))))
(rS [oO 73 (.call 68 [3]) [3], oB 2 73] .ret))))))))))))), [.t 2]⟩
/-- interrex/reply.Of -/
def f122 : AFn := ⟨2, (rS [oO 3 (.box false 1) [1], oO 4 (.alloc false [(vI 0),(vI 0),(vI 0),(vI 0),(vI 0),.nils,.nils]) []] (rS [oF 8 0 3, oL 9 8, oF 10 1 3, oL 11 10, oF 12 2 3, oL 13 12, oO 14 (.bld [(vI 0),(vI 0),(vI 0),(vI 0),(vI 0),.nils,.nils] [(0, 1, 9),(1, 1, 11),(2, 1, 13)]) [9,11,13], oO 5 (.alloc false [(vI 0),(vI 0),(vI 0),(vI 0),(vI 0),.nils,.nils]) [], oN (.store 7 5 14) [14]] (.seq (rS [oO 15 (.load (some 7) 3) [], oO 16 (.call 167 [15]) [15], oO 17 (.un .not 16) [16]] (.cond 17 (rS [oF 18 3 5, oN (.store 1 18 (kI 1)) [18]] (rS [oO 19 (.load (some 7) 5) [5], oN (.store 7 4 19) [19]] .ret))
 .skip))
(.seq (rS [oF 20 2 3, oL 21 20] (.blk 0 (rS [oO 23 (.bin .eql 21 (kI 1)) [], oB 22 23] (.cond 22 (rS [oP 25 0, oE 26 3 3, oL 27 26, oO 28 (.call 12 [25,27]) [25,27], oQ 24 28, oO 29 (.ext 24 0) [], oO 30 (.ext 24 1) [24], oO 6 (.alloc false [vS,(vI 0),.nils]) [], oN (.store 3 6 29) [29], oB 7 30] (rS [oQ 31 7] (.cond 31 (rR [oO 32 (.load (some 3) 6) [6], oO 33 (.bsl (.im false) 3 1 [vS,(vI 0),.nils] [(0, 32)]) [32], oF 34 5 5, oN (.store 1 34 33) [34,33]])
 (rR [oF 35 3 5, oN (.store 1 35 (kI 3)) [35]]))))
 (rS [oO 37 (.bin .eql 21 (kI 2)) [], oB 36 37] (.cond 36 (rR [oP 38 0, oO 39 (.call 169 [38]) [38], oF 40 5 5, oN (.store 1 40 39) [40,39]])
 (rS [oO 42 (.bin .eql 21 (kI 3)) [], oB 41 42] (.cond 41 (rR [oP 44 0, oE 45 4 3, oL 46 45, oO 47 (.call 170 [44,46]) [44,46], oQ 43 47, oO 48 (.ext 43 0) [], oO 49 (.ext 43 1) [43], oF 50 6 5, oN (.store 1 50 48) [50,48], oF 51 3 5, oN (.store 1 51 49) [51,49]])
 (rS [oO 53 (.bin .eql 21 (kI 4)) [21], oB 52 53] (.cond 52 (rR [oP 55 0, oE 56 5 3, oO 57 (.load (some 2) 56) [56], oO 58 (.call 16 [55,57]) [55,57], oQ 54 58, oO 59 (.ext 54 0) [59], oO 60 (.ext 54 1) [54], oF 61 3 5, oN (.store 1 61 60) [61,60]])
 .skip))))))))))
(rS [oQ 62 0, oO 63 (.call 171 [62]) [62], oF 64 4 5, oN (.store 1 64 63) [64,63]] (rS [oO 65 (.load (some 7) 5) [5], oN (.store 7 4 65) [65]] .ret)))))), [.cell 4 (some 7)]⟩
/-- interrex/reply.Get -/
def f123 : AFn := ⟨1, (rS [oO 2 (.alloc false [(vI 0),(vI 0),(vI 0),(vI 0),(vI 0),.nils,.nils]) [], oA 3 kF [3]] (rS [oP 6 0, oO 7 (.call 48 [6]) [6], oB 4 7] (rS [oP 8 4, oO 9 (.call 49 [8,(kI 1)]) [8], oP 10 4, oO 11 (.call 49 [10,(kI 1)]) [10], oP 12 4, oO 13 (.call 49 [12,(kI 1)]) [12], oP 14 4, oO 15 (.call 49 [14,(kI 8)]) [14], oP 16 4, oO 17 (.call 49 [16,(kI 8)]) [16], oO 18 (.bld [(vI 0),(vI 0),(vI 0),(vI 0),(vI 0),.nils,.nils] [(2, 1, 9),(0, 1, 11),(3, 1, 13),(1, 1, 15),(4, 1, 17)]) [9,11,13,15,17], oO 5 (.alloc false [(vI 0),(vI 0),(vI 0),(vI 0),(vI 0),.nils,.nils]) [], oN (.store 7 5 18) [18]] (.seq (rS [oP 19 4, oO 20 (.call 100 [19,(kI 1)]) [19], oM 21 (kI 0) []] (.blk 0 (.loop (rS [oO 22 (.bin .lss 21 20) []] (.seq (.cond 22 .skip
 (.exit 0))
(.seq (.blk 1 (.dreg [dq 0 (oF 23 5 5),
 dq 1 (oK 24 23),
 dq 2 (oP 25 4),
 dq 4 (oP 27 4),
 dq 6 (oP 29 4),
 ⟨3, (oO 26 (.call 166 [25]) []), true, [1]⟩,
 ⟨5, (oO 28 (.call 49 [27,(kI 8)]) []), true, [1]⟩,
 ⟨7, (oO 30 (.call 166 [29]) []), true, [1]⟩,
 dq 8 (oO 31 (.s2b .fz 30) []),
 dq 9 (oO 32 (.bld [vS,(vI 0),.nils] [(0, 1, 26),(1, 1, 28),(2, 1, 31)]) []),
 ⟨10, (oO 33 (.bsl (.im false) 3 1 [vS,(vI 0),.nils] [(0, 32)]) []), true, [1]⟩,
 ⟨11, (oO 34 (.append (.im false) 3 48 24 33) []), true, []⟩,
 dq 12 (oF 35 5 5),
 ⟨13, (oN (.store 1 35 34) []), true, []⟩] [23,24,25,26,27,28,29,30,31,32,33,34,35]))
(rR [oO 36 (.bin .add 21 (kI 1)) [21], oQ 21 36])))))))
(.seq (rS [oP 37 4, oO 38 (.call 100 [37,(kI 1)]) [37], oM 39 (kI 0) []] (.blk 2 (.loop (rS [oO 40 (.bin .lss 39 38) []] (.seq (.cond 40 .skip
 (.exit 2))
(.seq (.blk 3 (.dreg [dq 0 (oF 41 6 5),
 dq 1 (oK 42 41),
 dq 2 (oP 43 4),
 dq 4 (oP 45 4),
 dq 6 (oP 47 4),
 dq 9 (oP 50 4),
 ⟨3, (oO 44 (.call 49 [43,(kI 8)]) []), true, [1]⟩,
 ⟨5, (oO 46 (.call 166 [45]) []), true, [1]⟩,
 ⟨7, (oO 48 (.call 166 [47]) []), true, [1]⟩,
 dq 8 (oO 49 (.s2b .fz 48) []),
 ⟨10, (oO 51 (.call 104 [50]) []), true, [1]⟩,
 dq 11 (oO 52 (.bld [(vI 0),vS,.nils,(.b false)] [(0, 1, 44),(1, 1, 46),(2, 1, 49),(3, 1, 51)]) []),
 ⟨12, (oO 53 (.bsl (.im false) 4 1 [(vI 0),vS,.nils,(.b false)] [(0, 52)]) []), true, [1]⟩,
 ⟨13, (oO 54 (.append (.im false) 4 56 42 53) []), true, []⟩,
 dq 14 (oF 55 6 5),
 ⟨15, (oN (.store 1 55 54) []), true, []⟩] [41,42,43,44,45,46,47,48,49,50,51,52,53,54,55]))
(rR [oO 56 (.bin .add 39 (kI 1)) [39], oQ 39 56])))))))
(.seq (rS [oQ 57 4, oO 58 (.call 50 [57]) [57], oO 59 (.un .not 58) [58], oQ 60 59, oH 61 (.mv 0) 60 [], oH 62 (.lenL 61) 60 [61], oH 63 (.bin .eql 62 (kI 0)) 60 [62], oO 64 (.pick 60 kT 63) [60,63], oQ 65 64, oH 66 (.load (some 7) 5) 65 [], oH 67 (.call 124 [66]) 65 [66], oH 68 (.mv 0) 65 [0], oH 69 (.call 51 [67,68]) 65 [67,68], oH 70 (.un .not 69) 65 [69], oO 71 (.pick 65 kT 70) [65,70]] (.cond 71 (rS [oO 72 (.bld [(vI 0),(vI 0),(vI 0),(vI 0),(vI 0),.nils,.nils] []) [], oN (.store 7 2 72) [72], oA 3 kF []] .ret)
 .skip))
(rS [oO 73 (.load (some 7) 5) [5], oN (.store 7 2 73) [73], oA 3 kT []] .ret))))))), [.cell 2 (some 7),.t 3]⟩
/-- interrex/reply.Put -/
def f124 : AFn := ⟨1, (rS [oO 1 (.box false 0) [0], oA 2 (.c .nils) [2]] (.seq (rS [oO 10 (.load (some 7) 1) [], oO 11 (.call 172 [10]) [10], oO 12 (.un .not 11) [11]] (.cond 12 (rS [oA 2 (.c .nils) []] .ret)
 .skip))
(rS [oO 3 (.alloc true [(.i .u32 0),(.i .i32 0),(.i .u32 0),(.i .u64 0),(.i .u64 0),(.i .u64 0),(.i .u64 0),(.i .u64 0),(.i .u64 0),(.i .u64 0),(.i .u64 0),(.i .u64 0),(.i .u64 0),(.i .u64 0),(.i .u64 0),(.i .u64 0),(.i .u64 0),(.i .u64 0),(.i .u64 0),(.i .u64 0),(.i .u64 0),(.i .u64 0),(.i .u64 0),(.i .u64 0),(.i .u64 0),(.i .u64 0),(.i .u64 0),(.i .u64 0),(.i .u64 0),(.i .u64 0),(.i .u64 0),(.i .u64 0),(.i .u64 0),(.i .u64 0),(.i .u64 0),(.i .u64 0),(.i .u64 0),(.i .u64 0),(.i .u64 0),(.i .u64 0),(.i .u64 0),(.i .u64 0),(.i .u64 0),(.i .u64 0),(.i .u64 0),(.i .u64 0),(.i .u64 0),(.i .u64 0),(.i .u64 0),(.i .u64 0),(.i .u64 0),(.i .u64 0),(.i .u64 0),(.i .u64 0),(.i .u64 0),(.i .u64 0),(.i .u64 0),(.i .u64 0),(.i .u64 0),(.i .u64 0),(.i .u64 0),(.i .u64 0),(.i .u64 0),(.i .u64 0),(.i .u64 0),(.i .u64 0),(.i .u64 0),(.i .u64 0),(.i .u64 0),(.i .u64 0),(.i .u64 0),(.i .u64 0),(.i .u64 0),(.i .u64 0),(.i .u64 0),(.i .u64 0),(.i .u64 0),(.i .u64 0),(.i .u64 0),(.i .u64 0),(.i .u64 0),(.i .u64 0),(.i .u64 0),(.i .u64 0),(.i .u64 0),(.i .u64 0),(.i .u64 0),(.i .u64 0),(.i .u64 0),(.i .u64 0),(.i .u64 0),(.i .u64 0),(.i .u64 0),(.i .u64 0),(.i .u64 0),(.i .u64 0),(.i .u64 0),(.i .u64 0),(.i .u64 0),(.i .u64 0),(.i .u64 0),(.i .u64 0),(.i .u64 0),(.i .u64 0),(.i .u64 0),(.i .u64 0),(.i .u64 0),(.i .u64 0),(.i .u64 0),(.i .u64 0),(.i .u64 0),(.i .u64 0),(.i .u64 0),(.i .u64 0),(.i .u64 0),(.i .u64 0),(.i .u64 0),(.i .u64 0),(.i .u64 0),(.i .u64 0),(.i .u64 0),(.i .u64 0),(.i .u64 0),(.i .u64 0),(.i .u64 0),(.i .u64 0),(.i .u64 0),(.i .u64 0),(.i .u64 0),(.i .u64 0),(.i .u64 0),(.i .u64 0),(.i .u64 0),(.i .u64 0),(.i .u64 0),(.i .u64 0),(.i .u64 0),(.i .u64 0),(.i .u64 0),(.i .u64 0),(.i .u64 0),(.i .u64 0),(.i .u64 0),(.i .u64 0),(.i .u64 0),(.i .u64 0),(.i .u64 0),(.i .u64 0),(.i .u64 0),(.i .u64 0),(.i .u64 0),(.i .u64 0),(.i .u64 0),(.i .u64 0),(.i .u64 0),(.i .u64 0),(.i .u64 0),(.i .u64 0),(.i .u64 0),(.i .u64 0),(.i .u64 0),(.i .u64 0),(.i .u64 0),(.i .u64 0),(.i .u64 0),(.i .u64 0),(.i .u64 0),(.i .u64 0),(.i .u64 0),(.i .u64 0),(.i .u64 0),(.i .u64 0),(.i .u64 0),(.i .u64 0),(.i .u64 0),(.i .u64 0),(.i .u64 0),(.i .u64 0),(.i .u64 0),(.i .u64 0),(.i .u64 0),(.i .u64 0),(.i .u64 0),(.i .u64 0),(.i .u64 0),(.i .u64 0),(.i .u64 0),(.i .u64 0),(.i .u64 0),(.i .u64 0),(.i .u64 0),(.i .u64 0),(.i .u64 0),(.i .u64 0),(.i .u64 0),(.i .u64 0),(.i .u64 0),(.i .u64 0),(.i .u64 0),(.i .u64 0),(.i .u64 0),(.i .u64 0),(.i .u64 0),(.i .u64 0),(.i .u64 0),(.i .u64 0),(.i .u64 0),(.i .u64 0),(.i .u64 0),(.i .u64 0),(.i .u64 0),(.i .u64 0),(.i .u64 0),(.i .u64 0),(.i .u64 0),(.i .u64 0),(.i .u64 0),(.i .u64 0),(.i .u64 0),(.i .u64 0),(.i .u64 0),(.i .u64 0),(.i .u64 0),(.i .u64 0),(.i .u64 0),(.i .u64 0),(.i .u64 0),(.i .u64 0),(.i .u64 0),(.i .u64 0),(.i .u64 0),(.i .u64 0),(.i .u64 0),(.i .u64 0),(.i .u64 0),(.i .u64 0),(.i .u64 0),(.i .u64 0),(.i .u64 0),(.i .u64 0),(.i .u64 0),(.i .u64 0),(.i .u64 0),(.i .u64 0),(.i .u64 0),(.i .u64 0),(.i .u64 0),(.i .u64 0),(.i .u64 0),(.i .u64 0),(.i .u64 0),(.i .u64 0),(.i .u64 0),(.i .u64 0),(.i .u64 0),(.i .u64 0),(.i .u64 0),(.i .u64 0),(.i .u64 0),(.i .u8 0),(.i .u8 0),(.i .u8 0),(.i .u8 0),(.i .u8 0),(.i .u8 0),(.i .u8 0),(.i .u8 0),(.i .u8 0),(.i .u8 0),(.i .u8 0),(.i .u8 0),(.i .u8 0),(.i .u8 0),(.i .u8 0),(.i .u8 0),(.i .u8 0),(.i .u8 0),(.i .u8 0),(.i .u8 0),(.i .u8 0),(.i .u8 0),(.i .u8 0),(.i .u8 0),(.i .u8 0),(.i .u8 0),(.i .u8 0),(.i .u8 0),(.i .u8 0),(.i .u8 0),(.i .u8 0),(.i .u8 0),(.i .u8 0),(.i .u8 0),(.i .u8 0),(.i .u8 0),(.i .u8 0),(.i .u8 0),.nils]) []] (.seq (rS [oF 13 2 1, oL 14 13, oF 15 0 1, oL 16 15, oF 17 3 1, oL 18 17, oO 19 (.bsl (.im false) 1 3 [(vI 0)] [(0, 14),(1, 16),(2, 18)]) [14,16,18], oO 20 (.lenL 19) [], oM 21 (kI 0) []] (.blk 0 (.loop (rS [oO 22 (.bin .lss 21 20) []] (.seq (.cond 22 .skip
 (.exit 0))
(.seq (.blk 1 (rS [oO 23 (.iasl 1 19 21) [], oL 24 23, oB 5 24] (rR [oQ 25 5, oO 26 (.call 67 [3,25,(kI 1)]) [25,26]])))
(rR [oO 27 (.bin .add 21 (kI 1)) [21], oQ 21 27])))))))
(rS [oF 28 1 1, oL 29 28, oO 30 (.call 67 [3,29,(kI 8)]) [29,30]] (rS [oF 31 4 1, oL 32 31, oO 33 (.call 67 [3,32,(kI 8)]) [32,33]] (rS [oF 34 5 1, oL 35 34, oO 36 (.lenL 35) [35], oO 37 (.call 67 [3,36,(kI 1)]) [36,37]] (.seq (rS [oF 38 5 1, oL 39 38, oO 40 (.lenL 39) [], oM 41 (kI 0) []] (.blk 2 (.loop (rS [oO 42 (.bin .lss 41 40) []] (.seq (.cond 42 .skip
 (.exit 2))
(.seq (.blk 3 (rS [oO 43 (.iasl 3 39 41) [], oO 44 (.load (some 3) 43) [43], oO 7 (.alloc false [vS,(vI 0),.nils]) [], oN (.store 3 7 44) [44]] (rS [oF 45 0 7, oL 46 45, oO 47 (.call 168 [3,46]) [46,47]] (rS [oF 48 1 7, oL 49 48, oO 50 (.call 67 [3,49,(kI 8)]) [49,50]] (rR [oE 51 2 7, oL 52 51, oO 53 (.b2s 52) [52], oO 54 (.call 168 [3,53]) [53,54]])))))
(rR [oO 55 (.bin .add 41 (kI 1)) [41], oQ 41 55])))))))
(rS [oF 56 6 1, oL 57 56, oO 58 (.lenL 57) [57], oO 59 (.call 67 [3,58,(kI 1)]) [58,59]] (.seq (rS [oE 60 6 1, oL 61 60, oO 62 (.lenL 61) [], oM 63 (kI 0) []] (.blk 4 (.loop (rS [oO 64 (.bin .lss 63 62) []] (.seq (.cond 64 .skip
 (.exit 4))
(.seq (.blk 5 (rS [oO 65 (.iasl 4 61 63) [], oO 66 (.load (some 4) 65) [65], oO 9 (.alloc false [(vI 0),vS,.nils,(.b false)]) [], oN (.store 4 9 66) [66]] (rS [oF 67 0 9, oL 68 67, oO 69 (.call 67 [3,68,(kI 8)]) [68,69]] (rS [oF 70 1 9, oL 71 70, oO 72 (.call 168 [3,71]) [71,72]] (rS [oF 73 2 9, oL 74 73, oO 75 (.b2s 74) [74], oO 76 (.call 168 [3,75]) [75,76]] (rR [oE 77 3 9, oL 78 77, oO 79 (.call 84 [3,78]) [78,79]]))))))
(rR [oO 80 (.bin .add 63 (kI 1)) [63], oQ 63 80])))))))
(rS [oO 81 (.call 68 [3]) [3], oB 2 81] .ret))))))))))), [.t 2]⟩
/-- interrex/interrexlaw1.Begun -/
def f125 : AFn := ⟨0, (rS [oA 0 kF [0]] (rS [oO 1 (.call 173 []) [], oB 0 1] .ret)), [.t 0]⟩
/-- interrex/call.Eq -/
def f126 : AFn := ⟨2, (rS [oO 2 (.box false 0) [0], oO 3 (.box false 1) [1], oA 4 kF [4]] (.seq (rS [oF 5 0 2, oL 6 5, oF 7 0 3, oL 8 7, oO 9 (.bin .neq 6 8) [6,8], oQ 10 9, oH 11 (.faddr 1 2) 10 [], oH 12 (.load none 11) 10 [11], oH 13 (.faddr 1 3) 10 [], oH 14 (.load none 13) 10 [13], oH 15 (.bin .neq 12 14) 10 [12,14], oO 16 (.pick 10 kT 15) [10,15], oQ 17 16, oH 18 (.faddr 2 2) 17 [], oH 19 (.load none 18) 17 [18], oH 20 (.faddr 2 3) 17 [], oH 21 (.load none 20) 17 [20], oH 22 (.bin .neq 19 21) 17 [19,21], oO 23 (.pick 17 kT 22) [17,22], oQ 24 23, oH 25 (.faddr 3 2) 24 [], oH 26 (.load none 25) 24 [25], oH 27 (.faddr 3 3) 24 [], oH 28 (.load none 27) 24 [27], oH 29 (.bin .neq 26 28) 24 [26,28], oO 30 (.pick 24 kT 29) [24,29], oQ 31 30, oH 32 (.faddr 4 2) 31 [], oH 33 (.load none 32) 31 [32], oH 34 (.faddr 4 3) 31 [], oH 35 (.load none 34) 31 [34], oH 36 (.bin .neq 33 35) 31 [33,35], oO 37 (.pick 31 kT 36) [31,36], oQ 38 37, oH 39 (.faddr 5 2) 38 [], oH 40 (.faddr 0 39) 38 [39], oH 41 (.load none 40) 38 [40], oH 42 (.faddr 5 3) 38 [], oH 43 (.faddr 0 42) 38 [42], oH 44 (.load none 43) 38 [43], oH 45 (.call 174 [41,44]) 38 [41,44], oH 46 (.un .not 45) 38 [45], oO 47 (.pick 38 kT 46) [38,46]] (.cond 47 (rS [oA 4 kF []] .ret)
 .skip))
(rS [oE 48 5 2, oE 49 1 48, oL 50 49, oE 51 5 3, oE 52 1 51, oL 53 52, oO 54 (.call 175 [50,53,(.c (.fn 176 [] []))]) [50,53], oB 4 54] .ret))), [.t 4]⟩
/-- interrex/reply.Eq -/
def f127 : AFn := ⟨2, (rS [oO 2 (.box false 0) [0], oO 3 (.box false 1) [1], oA 4 kF [4]] (.seq (rS [oF 6 0 2, oL 7 6, oF 8 0 3, oL 9 8, oO 10 (.bin .neq 7 9) [7,9], oQ 11 10, oH 12 (.faddr 1 2) 11 [], oH 13 (.load none 12) 11 [12], oH 14 (.faddr 1 3) 11 [], oH 15 (.load none 14) 11 [14], oH 16 (.bin .neq 13 15) 11 [13,15], oO 17 (.pick 11 kT 16) [11,16], oQ 18 17, oH 19 (.faddr 2 2) 18 [], oH 20 (.load none 19) 18 [19], oH 21 (.faddr 2 3) 18 [], oH 22 (.load none 21) 18 [21], oH 23 (.bin .neq 20 22) 18 [20,22], oO 24 (.pick 18 kT 23) [18,23], oQ 25 24, oH 26 (.faddr 3 2) 25 [], oH 27 (.load none 26) 25 [26], oH 28 (.faddr 3 3) 25 [], oH 29 (.load none 28) 25 [28], oH 30 (.bin .neq 27 29) 25 [27,29], oO 31 (.pick 25 kT 30) [25,30], oQ 32 31, oH 33 (.faddr 4 2) 32 [], oH 34 (.load none 33) 32 [33], oH 35 (.faddr 4 3) 32 [], oH 36 (.load none 35) 32 [35], oH 37 (.bin .neq 34 36) 32 [34,36], oO 38 (.pick 32 kT 37) [32,37]] (.cond 38 (rS [oA 4 kF []] .ret)
 .skip))
(rS [oF 39 5 2, oL 40 39, oF 41 5 3, oL 42 41, oO 43 (.call 177 [40,42,(.c (.fn 178 [] []))]) [40,42], oB 5 43] (rS [oQ 44 5, oQ 45 44, oG 46 (.faddr 6 2) 45 [2], oG 47 (.load none 46) 45 [46], oG 48 (.faddr 6 3) 45 [3], oG 49 (.load none 48) 45 [48], oG 50 (.call 179 [47,49,(.c (.fn 180 [] []))]) 45 [47,49], oO 51 (.pick 45 50 kF) [45,50], oB 4 51] .ret)))), [.t 4]⟩
/-- slices.IndexFunc   interrex/assume.one interrex/assume.one  -/
def f128 : AFn := ⟨2, (rS [oA 4 (kI 0) [4]] (.seq (rS [oP 6 0, oO 7 (.lenL 6) [6], oM 8 (kI 0) []] (.blk 0 (.loop (rS [oO 9 (.bin .lss 8 7) []] (.seq (.cond 9 .skip
 (.exit 0))
(.seq (.blk 1 (rS [oP 10 8, oB 5 10] (rS [oP 11 1, oP 12 0, oP 13 5, oO 14 (.iasl 6 12 13) [12,13], oO 15 (.load (some 6) 14) [14], oO 16 (.callv 11 [15]) [11,15]] (.cond 16 (rS [oQ 17 5, oB 4 17] .ret)
 .skip))))
(rR [oO 18 (.bin .add 8 (kI 1)) [8], oQ 8 18])))))))
(rS [oA 4 (kI (-1)) []] .ret))), [.t 4]⟩
/-- interrex/label.letter -/
def f129 : AFn := ⟨1, (rS [oA 2 kF [2]] (rS [oP 3 0, oO 4 (.bin .geq 3 (.c (.i .u8 97))) [3], oQ 5 4, oG 6 (.mv 0) 5 [], oG 7 (.bin .leq 6 (.c (.i .u8 122))) 5 [6], oO 8 (.pick 5 7 kF) [5,7], oQ 9 8, oH 10 (.mv 0) 9 [], oH 11 (.bin .geq 10 (.c (.i .u8 48))) 9 [10], oH 12 (.mv 11) 9 [11], oG 13 (.mv 0) 12 [], oG 14 (.bin .leq 13 (.c (.i .u8 57))) 12 [13], oH 15 (.pick 12 14 kF) 9 [12,14], oO 16 (.pick 9 kT 15) [9,15], oQ 17 16, oH 18 (.mv 0) 17 [0], oH 19 (.bin .eql 18 (.c (.i .u8 45))) 17 [18], oO 20 (.pick 17 kT 19) [17,19], oB 2 20] .ret)), [.t 2]⟩
/-- interrex/store.key -/
def f130 : AFn := ⟨1, (rS [oA 2 kF [2]] (rS [oP 3 0, oO 4 (.lenS 3) [3], oO 5 (.bin .geq 4 (kI 1)) [4], oQ 6 5, oG 7 (.mv 0) 6 [0], oG 8 (.lenS 7) 6 [7], oG 9 (.bin .leq 8 (kI 20)) 6 [8], oO 10 (.pick 6 9 kF) [6,9], oB 2 10] .ret)), [.t 2]⟩
/-- slices.DeleteFunc   interrex/api.Event interrex/api.Event  -/
def f132 : AFn := ⟨2, (rS [oA 4 (.c .nils) [4]] (rS [oP 8 0, oP 9 1, oO 10 (.call 182 [8,9]) [8,9], oB 5 10] (.seq (rS [oP 11 5, oO 12 (.bin .eql 11 (kI (-1))) [11]] (.cond 12 (rS [oQ 13 0, oB 4 13] .ret)
 .skip))
(.seq (rS [oP 14 5, oO 15 (.bin .add 14 (kI 1)) [14], oB 6 15] (.blk 0 (.loop (.seq (rS [oP 16 6, oP 17 0, oO 18 (.lenL 17) [17], oO 19 (.bin .lss 16 18) [16,18]] (.cond 19 .skip
 (.exit 0)))
(.seq (.blk 1 (rS [oP 22 0, oP 23 6, oO 24 (.iasl 4 22 23) [22,23], oO 25 (.load (some 4) 24) [24], oO 7 (.alloc false [(vI 0),vS,.nils,(.b false)]) [], oN (.store 4 7 25) [25]] (rS [oP 26 1, oO 27 (.load (some 4) 7) [], oO 28 (.callv 26 [27]) [26,27], oO 29 (.un .not 28) [28]] (.cond 29 (rS [oP 30 0, oP 31 5, oO 32 (.load (some 4) 7) [7], oO 33 (.iasl 4 30 31) [30,31], oN (.store 4 33 32) [33,32]] (rR [oQ 34 5, oO 35 (.bin .add 34 (kI 1)) [34], oB 5 35]))
 .skip))))
(rR [oQ 20 6, oO 21 (.bin .add 20 (kI 1)) [20], oB 6 21]))))))
(rS [oP 36 0, oP 37 5, oO 38 (.slsl 4 36 (some 37) none none) [36,37], oN (.clear 4 [(vI 0),vS,.nils,(.b false)] 38) [38]] (rS [oQ 39 0, oQ 40 5, oO 41 (.slsl 4 39 none (some 40) none) [39,40], oB 4 41] .ret)))))), [.t 4]⟩
/-- ( interrex/log.Log).Cut 1 -/
def f133 : AFn := ⟨2, (rS [oO 2 (.box false 0) [0], oA 3 kF [3]] (rS [oE 4 0 2, oL 5 4, oL 6 1, oO 7 (.bin .leq 5 6) [5,6], oB 3 7] .ret)), [.t 3]⟩
/-- slices.Reverse   byte byte  -/
def f134 : AFn := ⟨1, (rS [oP 4 0, oO 5 (.lenL 4) [4], oO 6 (.bin .sub 5 (kI 1)) [5], oA 2 (kI 0) [], oB 3 6] (.blk 0 (.loop (.seq (rS [oP 7 2, oP 8 3, oO 9 (.bin .lss 7 8) [7,8]] (.cond 9 .skip
 (.exit 0)))
(.seq (.blk 1 (.dreg [dq 0 (oP 14 0),
 dq 1 (oP 15 2),
 dq 2 (oP 16 0),
 dq 3 (oP 17 3),
 dq 4 (oP 18 0),
 dq 5 (oP 19 3),
 dq 6 (oO 20 (.iasl 1 18 19) []),
 dq 7 (oK 21 20),
 dq 8 (oP 22 0),
 dq 9 (oP 23 2),
 dq 10 (oO 24 (.iasl 1 22 23) []),
 dq 11 (oK 25 24),
 dq 12 (oO 26 (.iasl 1 14 15) []),
 ⟨13, (oN (.store 1 26 21) []), true, []⟩,
 dq 14 (oO 27 (.iasl 1 16 17) []),
 ⟨15, (oN (.store 1 27 25) []), true, []⟩] [14,15,16,17,18,19,20,21,22,23,24,25,26,27]))
(rR [oQ 10 2, oO 11 (.bin .add 10 (kI 1)) [10], oQ 12 3, oO 13 (.bin .sub 12 (kI 1)) [12], oB 2 11, oB 3 13])))))), []⟩
/-- slices.insertionSortCmpFunc interrex/api.Pod  -/
def f138 : AFn := ⟨4, (rS [oP 10 1, oO 11 (.bin .add 10 (kI 1)) [10], oB 8 11] (.blk 0 (.loop (.seq (rS [oP 12 8, oP 13 2, oO 14 (.bin .lss 12 13) [12,13]] (.cond 14 .skip
 (.exit 0)))
(.seq (.blk 1 (rS [oP 17 8, oB 9 17] (.blk 2 (.loop (.seq (.seq (.dreg [dq 0 (oP 18 9),
 dq 1 (oP 19 1),
 dq 2 (oO 20 (.bin .gtr 18 19) []),
 dq 3 (oP 21 20),
 dq 4 (oG 22 (.mv 3) 21 []),
 dq 5 (oG 23 (.mv 0) 21 []),
 dq 6 (oG 24 (.mv 9) 21 []),
 dq 7 (oG 25 (.iasl 16 23 24) 21 []),
 dq 8 (oG 26 (.load (some 16) 25) 21 []),
 dq 9 (oG 27 (.mv 0) 21 []),
 dq 10 (oG 28 (.mv 9) 21 []),
 dq 11 (oG 29 (.bin .sub 28 (kI 1)) 21 []),
 dq 12 (oG 30 (.iasl 16 27 29) 21 []),
 dq 13 (oG 31 (.load (some 16) 30) 21 []),
 ⟨14, (oG 32 (.callv 22 [26,31]) 21 []), true, []⟩,
 dq 15 (oG 33 (.bin .lss 32 (kI 0)) 21 []),
 dq 16 (oO 34 (.pick 21 33 kF) [])] [18,19,20,21,22,23,24,25,26,27,28,29,30,31,32,33])
(.cond 34 .skip
 (.exit 2)))
(.seq (.blk 3 (.dreg [dq 0 (oP 37 0),
 dq 1 (oP 38 9),
 dq 2 (oP 39 0),
 dq 3 (oP 40 9),
 dq 4 (oO 41 (.bin .sub 40 (kI 1)) []),
 dq 5 (oP 42 0),
 dq 6 (oP 43 9),
 dq 7 (oO 44 (.bin .sub 43 (kI 1)) []),
 dq 8 (oO 45 (.iasl 16 42 44) []),
 dq 9 (oO 46 (.load (some 16) 45) []),
 dq 10 (oP 47 0),
 dq 11 (oP 48 9),
 dq 12 (oO 49 (.iasl 16 47 48) []),
 dq 13 (oO 50 (.load (some 16) 49) []),
 dq 14 (oO 51 (.iasl 16 37 38) []),
 ⟨15, (oN (.store 16 51 46) []), true, []⟩,
 dq 16 (oO 52 (.iasl 16 39 41) []),
 ⟨17, (oN (.store 16 52 50) []), true, []⟩] [37,38,39,40,41,42,43,44,45,46,47,48,49,50,51,52]))
(rR [oQ 35 9, oO 36 (.bin .sub 35 (kI 1)) [35], oB 9 36])))))))
(rR [oQ 15 8, oO 16 (.bin .add 15 (kI 1)) [15], oB 8 16])))))), []⟩
/-- math/bits.Len64 -/
def f147 : AFn := ⟨1, (rS [oA 2 (kI 0) []] (.seq (rS [oP 3 0, oO 4 (.bin .geq 3 (.c (.i .u64 4294967296))) [3]] (.cond 4 (rS [oQ 5 0, oO 6 (.bin .shr 5 (.c (.i .u64 32))) [5], oB 0 6] (rR [oA 2 (kI 32) []]))
 .skip))
(.seq (rS [oP 7 0, oO 8 (.bin .geq 7 (.c (.i .u64 65536))) [7]] (.cond 8 (rS [oQ 9 0, oO 10 (.bin .shr 9 (.c (.i .u64 16))) [9], oB 0 10] (rR [oQ 11 2, oO 12 (.bin .add 11 (kI 16)) [11], oB 2 12]))
 .skip))
(.seq (rS [oP 13 0, oO 14 (.bin .geq 13 (.c (.i .u64 256))) [13]] (.cond 14 (rS [oQ 15 0, oO 16 (.bin .shr 15 (.c (.i .u64 8))) [15], oB 0 16] (rR [oQ 17 2, oO 18 (.bin .add 17 (kI 8)) [17], oB 2 18]))
 .skip))
(rS [oQ 19 2, oQ 20 0, oO 21 (.cvi .u8 20) [20], oO 22 (.ixs (.c (.s [0,1,2,2,3,3,3,3,4,4,4,4,4,4,4,4,5,5,5,5,5,5,5,5,5,5,5,5,5,5,5,5,6,6,6,6,6,6,6,6,6,6,6,6,6,6,6,6,6,6,6,6,6,6,6,6,6,6,6,6,6,6,6,6,7,7,7,7,7,7,7,7,7,7,7,7,7,7,7,7,7,7,7,7,7,7,7,7,7,7,7,7,7,7,7,7,7,7,7,7,7,7,7,7,7,7,7,7,7,7,7,7,7,7,7,7,7,7,7,7,7,7,7,7,7,7,7,7,8,8,8,8,8,8,8,8,8,8,8,8,8,8,8,8,8,8,8,8,8,8,8,8,8,8,8,8,8,8,8,8,8,8,8,8,8,8,8,8,8,8,8,8,8,8,8,8,8,8,8,8,8,8,8,8,8,8,8,8,8,8,8,8,8,8,8,8,8,8,8,8,8,8,8,8,8,8,8,8,8,8,8,8,8,8,8,8,8,8,8,8,8,8,8,8,8,8,8,8,8,8,8,8,8,8,8,8,8,8,8,8,8,8,8,8,8,8,8,8,8,8,8,8,8,8,8,8])) 21) [21], oO 23 (.cvi .i64 22) [22], oO 24 (.bin .add 19 23) [19,23], oB 2 24] .ret))))), [.t 2]⟩
/-- slices.insertionSortCmpFunc interrex/api.Node  -/
def f149 : AFn := ⟨4, (rS [oP 10 1, oO 11 (.bin .add 10 (kI 1)) [10], oB 8 11] (.blk 0 (.loop (.seq (rS [oP 12 8, oP 13 2, oO 14 (.bin .lss 12 13) [12,13]] (.cond 14 .skip
 (.exit 0)))
(.seq (.blk 1 (rS [oP 17 8, oB 9 17] (.blk 2 (.loop (.seq (.seq (.dreg [dq 0 (oP 18 9),
 dq 1 (oP 19 1),
 dq 2 (oO 20 (.bin .gtr 18 19) []),
 dq 3 (oP 21 20),
 dq 4 (oG 22 (.mv 3) 21 []),
 dq 5 (oG 23 (.mv 0) 21 []),
 dq 6 (oG 24 (.mv 9) 21 []),
 dq 7 (oG 25 (.iasl 6 23 24) 21 []),
 dq 8 (oG 26 (.load (some 6) 25) 21 []),
 dq 9 (oG 27 (.mv 0) 21 []),
 dq 10 (oG 28 (.mv 9) 21 []),
 dq 11 (oG 29 (.bin .sub 28 (kI 1)) 21 []),
 dq 12 (oG 30 (.iasl 6 27 29) 21 []),
 dq 13 (oG 31 (.load (some 6) 30) 21 []),
 ⟨14, (oG 32 (.callv 22 [26,31]) 21 []), true, []⟩,
 dq 15 (oG 33 (.bin .lss 32 (kI 0)) 21 []),
 dq 16 (oO 34 (.pick 21 33 kF) [])] [18,19,20,21,22,23,24,25,26,27,28,29,30,31,32,33])
(.cond 34 .skip
 (.exit 2)))
(.seq (.blk 3 (.dreg [dq 0 (oP 37 0),
 dq 1 (oP 38 9),
 dq 2 (oP 39 0),
 dq 3 (oP 40 9),
 dq 4 (oO 41 (.bin .sub 40 (kI 1)) []),
 dq 5 (oP 42 0),
 dq 6 (oP 43 9),
 dq 7 (oO 44 (.bin .sub 43 (kI 1)) []),
 dq 8 (oO 45 (.iasl 6 42 44) []),
 dq 9 (oO 46 (.load (some 6) 45) []),
 dq 10 (oP 47 0),
 dq 11 (oP 48 9),
 dq 12 (oO 49 (.iasl 6 47 48) []),
 dq 13 (oO 50 (.load (some 6) 49) []),
 dq 14 (oO 51 (.iasl 6 37 38) []),
 ⟨15, (oN (.store 6 51 46) []), true, []⟩,
 dq 16 (oO 52 (.iasl 6 39 41) []),
 ⟨17, (oN (.store 6 52 50) []), true, []⟩] [37,38,39,40,41,42,43,44,45,46,47,48,49,50,51,52]))
(rR [oQ 35 9, oO 36 (.bin .sub 35 (kI 1)) [35], oB 9 36])))))))
(rR [oQ 15 8, oO 16 (.bin .add 15 (kI 1)) [15], oB 8 16])))))), []⟩
/-- slices.ContainsFunc   interrex/api.Term interrex/api.Term  -/
def f157 : AFn := ⟨2, (rS [oA 4 kF [4]] (rS [oQ 5 0, oQ 6 1, oO 7 (.call 192 [5,6]) [5,6], oO 8 (.bin .geq 7 (kI 0)) [7], oB 4 8] .ret)), [.t 4]⟩
/-- interrex/label.MayTerms 1 -/
def f158 : AFn := ⟨1, (rS [oO 1 (.box false 0) [0], oA 2 kF [2]] (rS [oO 3 (.load (some 3) 1) [1], oO 4 (.call 159 [3]) [3], oO 5 (.un .not 4) [4], oB 2 5] .ret)), [.t 2]⟩
/-- interrex/label.mayTerm -/
def f159 : AFn := ⟨1, (rS [oO 1 (.box false 0) [0], oA 2 kF [2]] (rS [oA 3 (kI 0) [], oA 4 (kI 0) []] (.seq (rS [oF 5 1 1, oL 6 5] (.blk 0 (.seq (rS [oO 8 (.bin .eql 6 (kI 1)) [], oB 7 8] (.cond 7 .skip
 (rR [oO 9 (.bin .eql 6 (kI 2)) [], oB 7 9])))
(.cond 7 (rR [oA 3 (kI 1) [], oA 4 (kI 6) []])
 (.seq (rS [oO 11 (.bin .eql 6 (kI 3)) [], oB 10 11] (.cond 10 .skip
 (rR [oO 12 (.bin .eql 6 (kI 4)) [6], oB 10 12])))
(.cond 10 .skip
 (rS [oA 2 kF []] .ret)))))))
(rS [oF 13 0 1, oL 14 13, oO 15 (.call 91 [14]) [14], oQ 16 15, oG 17 (.faddr 2 1) 16 [], oG 18 (.load none 17) 16 [17], oG 19 (.lenL 18) 16 [18], oG 20 (.mv 3) 16 [3], oG 21 (.bin .geq 19 20) 16 [19,20], oO 22 (.pick 16 21 kF) [16,21], oQ 23 22, oG 24 (.faddr 2 1) 23 [], oG 25 (.load none 24) 23 [24], oG 26 (.lenL 25) 23 [25], oG 27 (.mv 4) 23 [4], oG 28 (.bin .leq 26 27) 23 [26,27], oO 29 (.pick 23 28 kF) [23,28], oQ 30 29, oG 31 (.faddr 2 1) 30 [1], oG 32 (.load none 31) 30 [31], oG 33 (.call 193 [32,(.c (.fn 194 [] []))]) 30 [32], oG 34 (.un .not 33) 30 [33], oO 35 (.pick 30 34 kF) [30,34], oB 2 35] .ret)))), [.t 2]⟩
/-- slices.ContainsFunc   interrex/api.Toler interrex/api.Toler  -/
def f160 : AFn := ⟨2, (rS [oA 4 kF [4]] (rS [oQ 5 0, oQ 6 1, oO 7 (.call 195 [5,6]) [5,6], oO 8 (.bin .geq 7 (kI 0)) [7], oB 4 8] .ret)), [.t 4]⟩
/-- interrex/taint.MayTols 1 -/
def f161 : AFn := ⟨1, (rS [oO 1 (.box false 0) [0], oA 2 kF [2]] (rS [oO 3 (.load (some 3) 1) [1], oO 4 (.call 162 [3]) [3], oO 5 (.un .not 4) [4], oB 2 5] .ret)), [.t 2]⟩
/-- interrex/taint.mayTol -/
def f162 : AFn := ⟨1, (rS [oO 1 (.box false 0) [0], oA 2 kF [2]] (.seq (rS [oF 3 0 1, oL 4 3, oO 5 (.bin .neq 4 (.c vS)) [4], oQ 6 5, oG 7 (.faddr 0 1) 6 [], oG 8 (.load none 7) 6 [7], oG 9 (.call 91 [8]) 6 [8], oG 10 (.un .not 9) 6 [9], oO 11 (.pick 6 10 kF) [6,10]] (.cond 11 (rS [oA 2 kF []] .ret)
 .skip))
(.seq (rS [oF 12 2 1, oL 13 12] (.cond 13 (rS [oE 14 1 1, oL 15 14, oO 16 (.bin .eql 15 (.c vS)) [15], oB 2 16] .ret)
 .skip))
(rS [oE 17 1 1, oL 18 17, oO 19 (.call 91 [18]) [18], oB 2 19] .ret)))), [.t 2]⟩
/-- ( interrex/wire.table).make 1 -/
def f164 : AFn := ⟨1, (rS [oO 1 (.alloc true [(.i .u64 0)]) [], oN (.store 1 1 (.c (.i .u64 0))) []] (rS [oO 5 (.mkfn 165 [1,0]) [1,0], oB 2 5] (.seq (rS [oM 6 (.c (.i .u8 0)) []] (.blk 0 (.loop (rS [oO 7 (.bin .lss 6 (.c (.i .u8 26))) []] (.seq (.cond 7 .skip
 (.exit 0))
(.seq (.blk 1 (rS [oP 8 6, oB 3 8] (rR [oP 9 2, oQ 10 3, oO 11 (.bin .add (.c (.i .u8 97)) 10) [10], oO 12 (.callv 9 [11]) [9,11,12]])))
(rR [oO 13 (.bin .add 6 (.c (.i .u8 1))) [6], oQ 6 13])))))))
(.seq (rS [oM 14 (.c (.i .u8 0)) []] (.blk 2 (.loop (rS [oO 15 (.bin .lss 14 (.c (.i .u8 10))) []] (.seq (.cond 15 .skip
 (.exit 2))
(.seq (.blk 3 (rS [oP 16 14, oB 4 16] (rR [oP 17 2, oQ 18 4, oO 19 (.bin .add (.c (.i .u8 48)) 18) [18], oO 20 (.callv 17 [19]) [17,19,20]])))
(rR [oO 21 (.bin .add 14 (.c (.i .u8 1))) [14], oQ 14 21])))))))
(rR [oQ 22 2, oO 23 (.callv 22 [(.c (.i .u8 45))]) [22,23]]))))), []⟩
/-- ( interrex/wire.table).make 1 1 -/
def f165 : AFn := ⟨3, (rS [oK 4 1, oO 5 (.bin .add 4 (.c (.i .u64 1))) [4], oN (.store 1 1 5) [5]] (.dreg [dq 0 (oK 6 2),
 dq 1 (oP 7 0),
 dq 2 (oK 8 2),
 dq 3 (oK 9 1),
 dq 4 (oK 10 1),
 dq 5 (oP 11 0),
 dq 6 (oO 12 (.nilc 6) []),
 dq 7 (oF 13 3 12),
 dq 8 (oO 14 (.iaar 256 1 13 7) []),
 dq 10 (oO 15 (.nilc 8) []),
 dq 11 (oF 16 259 15),
 ⟨9, (oN (.store 1 14 10) []), true, [3,2]⟩,
 dq 12 (oO 17 (.iaar 38 1 16 9) []),
 ⟨13, (oN (.store 1 17 11) []), true, []⟩] [2,6,0,7,8,1,9,10,11,12,13,14,15,16,17])), []⟩
/-- ( interrex/wire.Reader).Text -/
def f166 : AFn := ⟨1, (rS [oA 2 (.c vS) [2]] (rS [oP 5 0, oO 6 (.call 49 [5,(kI 2)]) [5], oB 3 6] (.seq (rS [oP 7 3, oP 8 0, oO 9 (.nilc 8) [8], oE 10 297 9, oL 11 10, oO 12 (.lenL 11) [11], oO 13 (.bin .gtr 7 12) [7,12]] (.cond 13 (rS [oP 14 0, oQ 15 0, oO 16 (.nilc 14) [14], oE 17 298 16, oN (.store 1 17 kT) [17], oO 18 (.nilc 15) [15], oE 19 297 18, oN (.store 1 19 (.c .nils)) [19]] (rS [oA 2 (.c vS) []] .ret))
 .skip))
(rS [oP 20 0, oO 21 (.nilc 20) [20], oE 22 297 21, oL 23 22, oP 24 3, oO 25 (.slsl 1 23 none (some 24) none) [23,24], oO 26 (.b2s 25) [25], oB 4 26] (rS [oP 27 0, oQ 28 0, oO 29 (.nilc 28) [28], oE 30 297 29, oL 31 30, oQ 32 3, oO 33 (.slsl 1 31 (some 32) none none) [31,32], oO 34 (.nilc 27) [27], oE 35 297 34, oN (.store 1 35 33) [35,33]] (rS [oQ 36 4, oB 2 36] .ret)))))), [.t 2]⟩
/-- interrex/call.May -/
def f167 : AFn := ⟨1, (rS [oO 1 (.box false 0) [0], oA 2 kF [2]] (.seq (.seq (.dreg [dq 0 (oF 3 0 1),
 dq 1 (oK 4 3),
 dq 2 (oO 5 (.bin .lss 4 (kI 0)) []),
 dq 3 (oP 6 5),
 dq 4 (oH 7 (.faddr 0 1) 6 []),
 dq 5 (oH 8 (.load none 7) 6 []),
 dq 6 (oH 9 (.bin .gtr 8 (kI 7)) 6 []),
 dq 7 (oO 10 (.pick 6 kT 9) []),
 dq 8 (oP 11 10),
 dq 9 (oH 12 (.faddr 1 1) 11 []),
 dq 10 (oH 13 (.load none 12) 11 []),
 dq 11 (oH 14 (.bin .lss 13 (kI 1)) 11 []),
 dq 12 (oO 15 (.pick 11 kT 14) []),
 dq 13 (oP 16 15),
 dq 14 (oH 17 (.faddr 1 1) 16 []),
 dq 15 (oH 18 (.load none 17) 16 []),
 dq 16 (oH 19 (.bin .gtr 18 (kI 1099511627776)) 16 []),
 dq 17 (oO 20 (.pick 16 kT 19) []),
 dq 18 (oP 21 20),
 dq 19 (oH 22 (.load (some 7) 1) 21 []),
 dq 20 (oH 23 (.load (some 7) 1) 21 []),
 ⟨21, (oH 24 (.call 198 [23]) 21 []), true, [19]⟩,
 ⟨22, (oH 25 (.call 126 [22,24]) 21 []), true, []⟩,
 dq 23 (oH 26 (.un .not 25) 21 []),
 dq 24 (oO 27 (.pick 21 kT 26) [])] [3,4,5,6,7,8,9,10,11,12,13,14,15,16,17,18,19,20,21,22,23,24,25,26])
(.cond 27 (rS [oA 2 kF []] .ret)
 .skip))
(.seq (rS [oF 28 2 1, oL 29 28] (.blk 0 (rS [oO 31 (.bin .eql 29 (kI 1)) [], oB 30 31] (.cond 30 (rS [oE 32 3 1, oL 33 32, oO 34 (.call 199 [33]) [33], oB 2 34] .ret)
 (rS [oO 36 (.bin .eql 29 (kI 2)) [], oB 35 36] (.cond 35 (rS [oA 2 kT []] .ret)
 (rS [oO 38 (.bin .eql 29 (kI 3)) [], oB 37 38] (.cond 37 (rS [oE 39 4 1, oL 40 39, oO 41 (.call 200 [40]) [40], oB 2 41] .ret)
 (rS [oO 43 (.bin .eql 29 (kI 4)) [29], oB 42 43] (.cond 42 (rS [oE 44 5 1, oO 45 (.load (some 2) 44) [44], oO 46 (.call 201 [45]) [45], oB 2 46] .ret)
 .skip))))))))))
(rS [oA 2 kF []] .ret)))), [.t 2]⟩
/-- ( interrex/wire.Writer).Text -/
def f168 : AFn := ⟨2, (rS [oP 4 0, oP 5 1, oO 6 (.lenS 5) [5], oO 7 (.call 67 [4,6,(kI 2)]) [4,6,7]] (rR [oP 8 0, oQ 9 0, oO 10 (.nilc 9) [9], oE 11 297 10, oL 12 11, oQ 13 1, oO 14 (.append (.im true) 1 1 12 13) [12,13], oO 15 (.nilc 8) [8], oE 16 297 15, oN (.store 1 16 14) [16,14]])), []⟩
/-- ( interrex/store.Store).List -/
def f169 : AFn := ⟨1, (rS [oA 2 (.c .nils) [2]] (.seq (rS [oP 6 0, oO 7 (.eqn false 6 (.c .nilp)) [6]] (.cond 7 (rS [oA 2 (.c .nils) []] .ret)
 .skip))
(rS [oP 8 0, oO 9 (.nilc 8) [8], oE 10 4 9, oO 11 (.call 46 [10,(kI 1)]) [10,11]] (rS [oA 3 (.c .nils) []] (.seq (rS [oP 12 0, oO 13 (.nilc 12) [12], oE 14 1 13, oL 15 14, oO 16 (.call 203 [15]) [15], oO 17 (.call 202 [16]) [16], oO 18 (.lenL 17) [], oM 19 (kI 0) []] (.blk 0 (.loop (rS [oO 20 (.bin .lss 19 18) []] (.seq (.cond 20 .skip
 (.exit 0))
(.seq (.blk 1 (rS [oO 21 (.iasl 1 17 19) [], oL 22 21, oB 5 22] (rR [oQ 23 3, oP 24 0, oO 25 (.nilc 24) [24], oE 26 1 25, oL 27 26, oQ 28 5, oO 29 (.lkp none (.agg [vS,(vI 0),.nils]) 27 28 false) [27,28], oO 30 (.call 47 [29]) [29], oO 31 (.bsl (.im false) 3 1 [vS,(vI 0),.nils] [(0, 30)]) [30], oO 32 (.append (.im false) 3 48 23 31) [23,31], oB 3 32])))
(rR [oO 33 (.bin .add 19 (kI 1)) [19], oQ 19 33])))))))
(rS [oQ 34 3, oB 2 34] .ret)))))), [.t 2]⟩
/-- ( interrex/store.Store).Watch -/
def f170 : AFn := ⟨2, (rS [oA 4 (.c .nils) [4], oA 5 (kI 0) [5]] (.seq (rS [oP 6 0, oO 7 (.eqn false 6 (.c .nilp)) [6]] (.cond 7 (rS [oA 4 (.c .nils) [], oA 5 (kI 9) []] .ret)
 .skip))
(rS [oP 8 0, oO 9 (.nilc 8) [8], oE 10 4 9, oO 11 (.call 46 [10,(kI 1)]) [10,11]] (rS [oQ 12 0, oO 13 (.nilc 12) [12], oE 14 3 13, oL 15 14, oQ 16 1, oO 17 (.call 119 [15,16]) [15,16], oO 18 (.ext 17 0) [], oO 19 (.ext 17 1) [17], oB 4 18, oB 5 19] .ret)))), [.t 4,.t 5]⟩
/-- ( interrex/store.Store).Rev -/
def f171 : AFn := ⟨1, (rS [oA 2 (kI 0) [2]] (.seq (rS [oP 3 0, oO 4 (.eqn false 3 (.c .nilp)) [3]] (.cond 4 (rS [oA 2 (kI 0) []] .ret)
 .skip))
(rS [oQ 5 0, oO 6 (.nilc 5) [5], oE 7 0 6, oL 8 7, oB 2 8] .ret))), [.t 2]⟩
/-- interrex/reply.May -/
def f172 : AFn := ⟨1, (rS [oO 1 (.box false 0) [0], oA 2 kF [2]] (.seq (rS [oF 4 0 1, oL 5 4, oO 6 (.bin .lss 5 (kI 0)) [5], oQ 7 6, oH 8 (.faddr 0 1) 7 [], oH 9 (.load none 8) 7 [8], oH 10 (.bin .gtr 9 (kI 7)) 7 [9], oO 11 (.pick 7 kT 10) [7,10], oQ 12 11, oH 13 (.faddr 1 1) 12 [], oH 14 (.load none 13) 12 [13], oH 15 (.bin .lss 14 (kI 1)) 12 [14], oO 16 (.pick 12 kT 15) [12,15], oQ 17 16, oH 18 (.faddr 1 1) 17 [], oH 19 (.load none 18) 17 [18], oH 20 (.bin .gtr 19 (kI 1099511627776)) 17 [19], oO 21 (.pick 17 kT 20) [17,20], oQ 22 21, oH 23 (.faddr 2 1) 22 [], oH 24 (.load none 23) 22 [23], oH 25 (.bin .lss 24 (kI 1)) 22 [24], oO 26 (.pick 22 kT 25) [22,25], oQ 27 26, oH 28 (.faddr 2 1) 27 [], oH 29 (.load none 28) 27 [28], oH 30 (.bin .gtr 29 (kI 4)) 27 [29], oO 31 (.pick 27 kT 30) [27,30], oQ 32 31, oH 33 (.faddr 3 1) 32 [], oH 34 (.load none 33) 32 [33], oH 35 (.bin .lss 34 (kI 0)) 32 [34], oO 36 (.pick 32 kT 35) [32,35], oQ 37 36, oH 38 (.faddr 3 1) 37 [], oH 39 (.load none 38) 37 [38], oH 40 (.bin .gtr 39 (kI 9)) 37 [39], oO 41 (.pick 37 kT 40) [37,40], oQ 42 41, oH 43 (.faddr 4 1) 42 [], oH 44 (.load none 43) 42 [43], oH 45 (.bin .lss 44 (kI 0)) 42 [44], oO 46 (.pick 42 kT 45) [42,45], oQ 47 46, oH 48 (.faddr 4 1) 47 [], oH 49 (.load none 48) 47 [48], oH 50 (.bin .gtr 49 (kI 1099511627776)) 47 [49], oO 51 (.pick 47 kT 50) [47,50]] (.cond 51 (rS [oA 2 kF []] .ret)
 .skip))
(rS [oF 52 5 1, oL 53 52, oO 54 (.call 204 [53,(.c (.fn 205 [] []))]) [53], oB 3 54] (rS [oQ 55 3, oQ 56 55, oH 57 (.faddr 6 1) 56 [], oH 58 (.load none 57) 56 [57], oH 59 (.call 207 [58,(.c (.fn 208 [] []))]) 56 [58], oO 60 (.pick 56 kT 59) [56,59], oB 3 60] (rS [oQ 61 3, oO 62 (.un .not 61) [61], oQ 63 62, oG 64 (.faddr 5 1) 63 [], oG 65 (.load none 64) 63 [64], oG 66 (.lenL 65) 63 [65], oG 67 (.bin .leq 66 (kI 100)) 63 [66], oO 68 (.pick 63 67 kF) [63,67], oQ 69 68, oG 70 (.faddr 6 1) 69 [1], oG 71 (.load none 70) 69 [70], oG 72 (.lenL 71) 69 [71], oG 73 (.bin .leq 72 (kI 100)) 69 [72], oO 74 (.pick 69 73 kF) [69,73], oB 2 74] .ret))))), [.t 2]⟩
/-- interrex/interrexlaw1.begun -/
def f173 : AFn := ⟨0, (rS [oA 0 kF [0]] (rS [oO 10 (.bld [(vI 0),(vI 0),(vI 0)] [(0, 1, (kI 1)),(1, 1, (kI 2)),(2, 1, (kI 3))]) [], oO 11 (.bld [(vI 0),(vI 0),(vI 0)] [(0, 1, (kI 4)),(1, 1, (kI 5)),(2, 1, (kI 6))]) [], oO 12 (.bsl (.im false) 3 2 [(vI 0),(vI 0),(vI 0)] [(0, 10),(1, 11)]) [10,11], oO 13 (.call 209 [12]) [12], oQ 9 13, oO 14 (.ext 9 0) [], oO 15 (.ext 9 1) [9], oO 1 (.alloc false [(vI 0),(vI 0),(vI 0)]) [], oN (.store 3 1 14) [14], oB 2 15] (rS [oO 16 (.call 38 []) [], oO 3 (.alloc false zP) [], oN (.store 16 3 16) [16]] (rS [oO 17 (.load (some 16) 3) [], oO 18 (.call 37 [17]) [17], oB 4 18] (rS [oP 20 4, oO 21 (.call 71 [20]) [20], oQ 19 21, oO 22 (.ext 19 0) [], oO 23 (.ext 19 1) [19], oO 5 (.alloc false zP) [], oN (.store 16 5 22) [22], oB 6 23] (rS [oO 25 (.bld [(vI 0),(vI 0)] [(0, 1, (kI 3)),(1, 1, (kI 1000))]) [], oO 26 (.call 34 [25]) [25], oO 27 (.call 13 [26]) [26], oQ 24 27, oO 28 (.ext 24 0) [], oO 29 (.ext 24 1) [24], oO 7 (.alloc false [(vI 0),(vI 0)]) [], oN (.store 2 7 28) [28], oB 8 29] (rS [oQ 30 2, oQ 31 30, oG 32 (.load (some 3) 1) 31 [1], oG 33 (.bld [(vI 0),(vI 0),(vI 0)] [(0, 1, (kI 5)),(1, 1, (kI 7)),(2, 1, (kI 9))]) 31 [], oG 34 (.eqc true [.i,.i,.i] false 32 33) 31 [32,33], oO 35 (.pick 31 34 kF) [31,34], oQ 36 35, oG 37 (.call 210 [(kI 1),(kI 3)]) 36 [], oG 38 (.bin .eql 37 (kI 33)) 36 [37], oO 39 (.pick 36 38 kF) [36,38], oQ 40 39, oG 41 (.faddr 8 3) 40 [], oG 42 (.load none 41) 40 [41], oG 43 (.bld [vS,vS] [(0, 1, (.c (.s [122,111,110,101]))),(1, 1, (.c (.s [98])))]) 40 [], oG 44 (.bsl (.im false) 2 1 [vS,vS] [(0, 43)]) 40 [43], oG 45 (.call 211 [42,44]) 40 [42,44], oO 46 (.pick 40 45 kF) [40,45], oQ 47 46, oG 48 (.faddr 9 3) 47 [], oG 49 (.load none 48) 47 [48], oG 50 (.bld [vS,vS] [(0, 1, (.c (.s [120]))),(1, 1, (.c (.s [121])))]) 47 [], oG 51 (.bsl (.im false) 2 1 [vS,vS] [(0, 50)]) 47 [50], oG 52 (.call 212 [49,51]) 47 [49,51], oO 53 (.pick 47 52 kF) [47,52], oQ 54 53, oG 55 (.load (some 16) 3) 54 [], oG 56 (.call 78 [55]) 54 [55], oO 57 (.pick 54 56 kF) [54,56], oQ 58 57, oG 59 (.mv 6) 58 [6], oO 60 (.pick 58 59 kF) [58,59], oQ 61 60, oG 62 (.load (some 16) 3) 61 [3], oG 63 (.load (some 16) 5) 61 [5], oG 64 (.call 213 [62,63]) 61 [62,63], oO 65 (.pick 61 64 kF) [61,64], oQ 66 65, oG 67 (.mv 4) 66 [4], oG 68 (.lenL 67) 66 [67], oG 69 (.bin .gtr 68 (kI 0)) 66 [68], oO 70 (.pick 66 69 kF) [66,69], oQ 71 70, oG 72 (.mv 8) 71 [8], oO 73 (.pick 71 72 kF) [71,72], oQ 74 73, oG 75 (.faddr 0 7) 74 [7], oG 76 (.load none 75) 74 [75], oG 77 (.bin .eql 76 (kI 3)) 74 [76], oO 78 (.pick 74 77 kF) [74,77], oQ 79 78, oG 80 (.call 55 [(kI 1),(.c (.s [97]))]) 79 [], oG 81 (.bin .eql 80 (.c (.s [112,47,97]))) 79 [80], oO 82 (.pick 79 81 kF) [79,81], oQ 83 82, oG 84 (.call 70 [(.c (.s [110,47,98]))]) 83 [], oG 85 (.bin .eql 84 (kI 2)) 83 [84], oO 86 (.pick 83 85 kF) [83,85], oB 0 86] .ret))))))), [.t 0]⟩
/-- slices.Equal   interrex/api.Guard interrex/api.Guard  -/
def f174 : AFn := ⟨2, (rS [oA 4 kF [4]] (.seq (rS [oP 6 0, oO 7 (.lenL 6) [6], oP 8 1, oO 9 (.lenL 8) [8], oO 10 (.bin .neq 7 9) [7,9]] (.cond 10 (rS [oA 4 kF []] .ret)
 .skip))
(.seq (rS [oP 11 0, oO 12 (.lenL 11) [11], oM 13 (kI 0) []] (.blk 0 (.loop (rS [oO 14 (.bin .lss 13 12) []] (.seq (.cond 14 .skip
 (.exit 0))
(.seq (.blk 1 (rS [oP 15 13, oB 5 15] (.seq (.dreg [dq 0 (oP 16 0),
 dq 1 (oP 17 5),
 dq 2 (oO 18 (.iasl 3 16 17) []),
 dq 3 (oO 19 (.load (some 3) 18) []),
 dq 4 (oP 20 1),
 dq 5 (oP 21 5),
 dq 6 (oO 22 (.iasl 3 20 21) []),
 dq 7 (oO 23 (.load (some 3) 22) []),
 dq 8 (oO 24 (.eqc true [.s,.i,.b] true 19 23) [])] [16,5,17,18,19,20,21,22,23])
(.cond 24 (rS [oA 4 kF []] .ret)
 .skip))))
(rR [oO 25 (.bin .add 13 (kI 1)) [13], oQ 13 25])))))))
(rS [oA 4 kT []] .ret)))), [.t 4]⟩
/-- slices.EqualFunc   interrex/api.Write   interrex/api.Write interrex/api.Write interrex/api.Write  -/
def f175 : AFn := ⟨3, (rS [oA 6 kF [6]] (.seq (rS [oP 10 0, oO 11 (.lenL 10) [10], oP 12 1, oO 13 (.lenL 12) [12], oO 14 (.bin .neq 11 13) [11,13]] (.cond 14 (rS [oA 6 kF []] .ret)
 .skip))
(.seq (rS [oQ 15 0, oO 16 (.lenL 15) [], oM 17 (kI 0) []] (.blk 0 (.loop (rS [oO 18 (.bin .lss 17 16) []] (.seq (.cond 18 .skip
 (.exit 0))
(.seq (.blk 1 (rS [oP 19 17, oO 20 (.iasl 3 15 17) [], oO 21 (.load (some 3) 20) [20], oO 8 (.alloc false [vS,.nils,(.b false)]) [], oB 7 19, oN (.store 3 8 21) [21]] (rS [oP 22 1, oQ 23 7, oO 24 (.iasl 3 22 23) [22,23], oO 25 (.load (some 3) 24) [24], oO 9 (.alloc false [vS,.nils,(.b false)]) [], oN (.store 3 9 25) [25]] (rS [oP 26 2, oO 27 (.load (some 3) 8) [8], oO 28 (.load (some 3) 9) [9], oO 29 (.callv 26 [27,28]) [26,27,28], oO 30 (.un .not 29) [29]] (.cond 30 (rS [oA 6 kF []] .ret)
 .skip)))))
(rR [oO 31 (.bin .add 17 (kI 1)) [17], oQ 17 31])))))))
(rS [oA 6 kT []] .ret)))), [.t 6]⟩
/-- slices.EqualFunc   interrex/api.Entry   interrex/api.Entry interrex/api.Entry interrex/api.Entry  -/
def f177 : AFn := ⟨3, (rS [oA 6 kF [6]] (.seq (rS [oP 10 0, oO 11 (.lenL 10) [10], oP 12 1, oO 13 (.lenL 12) [12], oO 14 (.bin .neq 11 13) [11,13]] (.cond 14 (rS [oA 6 kF []] .ret)
 .skip))
(.seq (rS [oQ 15 0, oO 16 (.lenL 15) [], oM 17 (kI 0) []] (.blk 0 (.loop (rS [oO 18 (.bin .lss 17 16) []] (.seq (.cond 18 .skip
 (.exit 0))
(.seq (.blk 1 (rS [oP 19 17, oO 20 (.iasl 3 15 17) [], oO 21 (.load (some 3) 20) [20], oO 8 (.alloc false [vS,(vI 0),.nils]) [], oB 7 19, oN (.store 3 8 21) [21]] (rS [oP 22 1, oQ 23 7, oO 24 (.iasl 3 22 23) [22,23], oO 25 (.load (some 3) 24) [24], oO 9 (.alloc false [vS,(vI 0),.nils]) [], oN (.store 3 9 25) [25]] (rS [oP 26 2, oO 27 (.load (some 3) 8) [8], oO 28 (.load (some 3) 9) [9], oO 29 (.callv 26 [27,28]) [26,27,28], oO 30 (.un .not 29) [29]] (.cond 30 (rS [oA 6 kF []] .ret)
 .skip)))))
(rR [oO 31 (.bin .add 17 (kI 1)) [17], oQ 17 31])))))))
(rS [oA 6 kT []] .ret)))), [.t 6]⟩
/-- interrex/reply.Eq 1 -/
def f178 : AFn := ⟨2, (rS [oO 2 (.box false 0) [0], oO 3 (.box false 1) [1], oA 4 kF [4]] (rS [oF 5 0 2, oL 6 5, oF 7 0 3, oL 8 7, oO 9 (.bin .eql 6 8) [6,8], oQ 10 9, oG 11 (.faddr 1 2) 10 [], oG 12 (.load none 11) 10 [11], oG 13 (.faddr 1 3) 10 [], oG 14 (.load none 13) 10 [13], oG 15 (.bin .eql 12 14) 10 [12,14], oO 16 (.pick 10 15 kF) [10,15], oQ 17 16, oG 18 (.faddr 2 2) 17 [2], oG 19 (.load none 18) 17 [18], oG 20 (.faddr 2 3) 17 [3], oG 21 (.load none 20) 17 [20], oG 22 (.call 51 [19,21]) 17 [19,21], oO 23 (.pick 17 22 kF) [17,22], oB 4 23] .ret)), [.t 4]⟩
/-- slices.EqualFunc   interrex/api.Event   interrex/api.Event interrex/api.Event interrex/api.Event  -/
def f179 : AFn := ⟨3, (rS [oA 6 kF [6]] (.seq (rS [oP 10 0, oO 11 (.lenL 10) [10], oP 12 1, oO 13 (.lenL 12) [12], oO 14 (.bin .neq 11 13) [11,13]] (.cond 14 (rS [oA 6 kF []] .ret)
 .skip))
(.seq (rS [oQ 15 0, oO 16 (.lenL 15) [], oM 17 (kI 0) []] (.blk 0 (.loop (rS [oO 18 (.bin .lss 17 16) []] (.seq (.cond 18 .skip
 (.exit 0))
(.seq (.blk 1 (rS [oP 19 17, oO 20 (.iasl 4 15 17) [], oO 21 (.load (some 4) 20) [20], oO 8 (.alloc false [(vI 0),vS,.nils,(.b false)]) [], oB 7 19, oN (.store 4 8 21) [21]] (rS [oP 22 1, oQ 23 7, oO 24 (.iasl 4 22 23) [22,23], oO 25 (.load (some 4) 24) [24], oO 9 (.alloc false [(vI 0),vS,.nils,(.b false)]) [], oN (.store 4 9 25) [25]] (rS [oP 26 2, oO 27 (.load (some 4) 8) [8], oO 28 (.load (some 4) 9) [9], oO 29 (.callv 26 [27,28]) [26,27,28], oO 30 (.un .not 29) [29]] (.cond 30 (rS [oA 6 kF []] .ret)
 .skip)))))
(rR [oO 31 (.bin .add 17 (kI 1)) [17], oQ 17 31])))))))
(rS [oA 6 kT []] .ret)))), [.t 6]⟩
/-- slices.IndexFunc   interrex/api.Event interrex/api.Event  -/
def f182 : AFn := ⟨2, (rS [oA 4 (kI 0) [4]] (.seq (rS [oP 6 0, oO 7 (.lenL 6) [6], oM 8 (kI 0) []] (.blk 0 (.loop (rS [oO 9 (.bin .lss 8 7) []] (.seq (.cond 9 .skip
 (.exit 0))
(.seq (.blk 1 (rS [oP 10 8, oB 5 10] (rS [oP 11 1, oP 12 0, oP 13 5, oO 14 (.iasl 4 12 13) [12,13], oO 15 (.load (some 4) 14) [14], oO 16 (.callv 11 [15]) [11,15]] (.cond 16 (rS [oQ 17 5, oB 4 17] .ret)
 .skip))))
(rR [oO 18 (.bin .add 8 (kI 1)) [8], oQ 8 18])))))))
(rS [oA 4 (kI (-1)) []] .ret))), [.t 4]⟩
/-- slices.IndexFunc   interrex/api.Term interrex/api.Term  -/
def f192 : AFn := ⟨2, (rS [oA 4 (kI 0) [4]] (.seq (rS [oP 6 0, oO 7 (.lenL 6) [6], oM 8 (kI 0) []] (.blk 0 (.loop (rS [oO 9 (.bin .lss 8 7) []] (.seq (.cond 9 .skip
 (.exit 0))
(.seq (.blk 1 (rS [oP 10 8, oB 5 10] (rS [oP 11 1, oP 12 0, oP 13 5, oO 14 (.iasl 3 12 13) [12,13], oO 15 (.load (some 3) 14) [14], oO 16 (.callv 11 [15]) [11,15]] (.cond 16 (rS [oQ 17 5, oB 4 17] .ret)
 .skip))))
(rR [oO 18 (.bin .add 8 (kI 1)) [8], oQ 8 18])))))))
(rS [oA 4 (kI (-1)) []] .ret))), [.t 4]⟩
/-- slices.ContainsFunc   string string  -/
def f193 : AFn := ⟨2, (rS [oA 4 kF [4]] (rS [oQ 5 0, oQ 6 1, oO 7 (.call 216 [5,6]) [5,6], oO 8 (.bin .geq 7 (kI 0)) [7], oB 4 8] .ret)), [.t 4]⟩
/-- interrex/label.mayTerm 1 -/
def f194 : AFn := ⟨1, (rS [oA 2 kF [2]] (rS [oQ 3 0, oO 4 (.call 91 [3]) [3], oO 5 (.un .not 4) [4], oB 2 5] .ret)), [.t 2]⟩
/-- slices.IndexFunc   interrex/api.Toler interrex/api.Toler  -/
def f195 : AFn := ⟨2, (rS [oA 4 (kI 0) [4]] (.seq (rS [oP 6 0, oO 7 (.lenL 6) [6], oM 8 (kI 0) []] (.blk 0 (.loop (rS [oO 9 (.bin .lss 8 7) []] (.seq (.cond 9 .skip
 (.exit 0))
(.seq (.blk 1 (rS [oP 10 8, oB 5 10] (rS [oP 11 1, oP 12 0, oP 13 5, oO 14 (.iasl 3 12 13) [12,13], oO 15 (.load (some 3) 14) [14], oO 16 (.callv 11 [15]) [11,15]] (.cond 16 (rS [oQ 17 5, oB 4 17] .ret)
 .skip))))
(rR [oO 18 (.bin .add 8 (kI 1)) [8], oQ 8 18])))))))
(rS [oA 4 (kI (-1)) []] .ret))), [.t 4]⟩
/-- interrex/call.bare -/
def f198 : AFn := ⟨1, (rS [oO 1 (.box false 0) [0], oO 2 (.alloc false [(vI 0),(vI 0),(vI 0),vS,(vI 0),.nils,.nils]) []] (rS [oF 4 0 1, oL 5 4, oF 6 1 1, oL 7 6, oF 8 2 1, oL 9 8, oO 10 (.bld [(vI 0),(vI 0),(vI 0),vS,(vI 0),.nils,.nils] [(0, 1, 5),(1, 1, 7),(2, 1, 9)]) [5,7,9], oO 3 (.alloc false [(vI 0),(vI 0),(vI 0),vS,(vI 0),.nils,.nils]) [], oN (.store 7 3 10) [10]] (.seq (rS [oF 11 2 1, oL 12 11] (.blk 0 (rS [oO 14 (.bin .eql 12 (kI 1)) [], oB 13 14] (.cond 13 (rR [oE 15 3 1, oL 16 15, oF 17 3 3, oN (.store 1 17 16) [17,16]])
 (rS [oO 19 (.bin .eql 12 (kI 3)) [], oB 18 19] (.cond 18 (rR [oE 20 4 1, oL 21 20, oF 22 4 3, oN (.store 1 22 21) [22,21]])
 (rS [oO 24 (.bin .eql 12 (kI 4)) [12], oB 23 24] (.cond 23 (rR [oE 25 5 1, oO 26 (.load (some 2) 25) [25], oF 27 5 3, oN (.store 2 27 26) [27,26]])
 .skip))))))))
(rS [oO 28 (.load (some 7) 3) [3], oN (.store 7 2 28) [28]] .ret)))), [.cell 2 (some 7)]⟩
/-- maps.Keys map string interrex/api.Entry string interrex/api.Entry  -/
def f203 : AFn := ⟨1, (rS [oO 1 (.box true 0) [0], oA 2 (.c .nilf) [2]] (rS [oO 3 (.mkfn 223 [1]) [1], oB 2 3] .ret)), [.t 2]⟩
/-- slices.ContainsFunc   interrex/api.Entry interrex/api.Entry  -/
def f204 : AFn := ⟨2, (rS [oA 4 kF [4]] (rS [oQ 5 0, oQ 6 1, oO 7 (.call 224 [5,6]) [5,6], oO 8 (.bin .geq 7 (kI 0)) [7], oB 4 8] .ret)), [.t 4]⟩
/-- interrex/reply.May 1 -/
def f205 : AFn := ⟨1, (rS [oO 1 (.box false 0) [0], oA 2 kF [2]] (rS [oF 3 0 1, oL 4 3, oF 5 1 1, oL 6 5, oE 7 2 1, oL 8 7, oO 9 (.call 206 [4,6,8]) [4,6,8], oO 10 (.un .not 9) [9], oB 2 10] .ret)), [.t 2]⟩
/-- interrex/reply.row -/
def f206 : AFn := ⟨3, (rS [oA 6 kF [6]] (rS [oP 7 0, oO 8 (.lenS 7) [7], oO 9 (.bin .geq 8 (kI 1)) [8], oQ 10 9, oG 11 (.mv 0) 10 [0], oG 12 (.lenS 11) 10 [11], oG 13 (.bin .leq 12 (kI 20)) 10 [12], oO 14 (.pick 10 13 kF) [10,13], oQ 15 14, oG 16 (.mv 1) 15 [], oG 17 (.bin .geq 16 (kI 1)) 15 [16], oO 18 (.pick 15 17 kF) [15,17], oQ 19 18, oG 20 (.mv 1) 19 [1], oG 21 (.bin .leq 20 (kI 1099511627776)) 19 [20], oO 22 (.pick 19 21 kF) [19,21], oQ 23 22, oG 24 (.mv 2) 23 [2], oG 25 (.lenL 24) 23 [24], oG 26 (.bin .leq 25 (kI 4000)) 23 [25], oO 27 (.pick 23 26 kF) [23,26], oB 6 27] .ret)), [.t 6]⟩
/-- slices.ContainsFunc   interrex/api.Event interrex/api.Event  -/
def f207 : AFn := ⟨2, (rS [oA 4 kF [4]] (rS [oQ 5 0, oQ 6 1, oO 7 (.call 182 [5,6]) [5,6], oO 8 (.bin .geq 7 (kI 0)) [7], oB 4 8] .ret)), [.t 4]⟩
/-- interrex/qty.Sum -/
def f209 : AFn := ⟨1, (rS [oO 2 (.alloc false [(vI 0),(vI 0),(vI 0)]) [], oA 3 kF [3]] (rS [oO 4 (.alloc false [(vI 0),(vI 0),(vI 0)]) []] (.seq (rS [oQ 9 0, oO 10 (.lenL 9) [], oM 11 (kI 0) []] (.blk 0 (.loop (rS [oO 12 (.bin .lss 11 10) []] (.seq (.cond 12 .skip
 (.exit 0))
(.seq (.blk 1 (rS [oO 13 (.iasl 3 9 11) [], oO 14 (.load (some 3) 13) [13], oO 6 (.alloc false [(vI 0),(vI 0),(vI 0)]) [], oN (.store 3 6 14) [14]] (rS [oO 16 (.load (some 3) 4) [], oO 17 (.load (some 3) 6) [6], oO 18 (.call 225 [16,17]) [16,17], oQ 15 18, oO 19 (.ext 15 0) [], oO 20 (.ext 15 1) [15], oO 7 (.alloc false [(vI 0),(vI 0),(vI 0)]) [], oN (.store 3 7 19) [19], oB 8 20] (.seq (rS [oQ 21 8, oO 22 (.un .not 21) [21]] (.cond 22 (rS [oO 23 (.bld [(vI 0),(vI 0),(vI 0)] []) [], oN (.store 3 2 23) [23], oA 3 kF []] .ret)
 .skip))
(rR [oO 24 (.load (some 3) 7) [7], oN (.store 3 4 24) [24]])))))
(rR [oO 25 (.bin .add 11 (kI 1)) [11], oQ 11 25])))))))
(rS [oO 26 (.load (some 3) 4) [4], oN (.store 3 2 26) [26], oA 3 kT []] .ret)))), [.cell 2 (some 3),.t 3]⟩
/-- interrex/qty.Share -/
def f210 : AFn := ⟨2, (rS [oA 4 (kI 0) [4]] (.seq (rS [oP 5 1, oO 6 (.bin .lss 5 (kI 1)) [5], oQ 7 6, oH 8 (.mv 1) 7 [], oH 9 (.bin .gtr 8 (kI 1000000000)) 7 [8], oO 10 (.pick 7 kT 9) [7,9]] (.cond 10 (rS [oA 4 (kI 0) []] .ret)
 .skip))
(rS [oQ 11 0, oO 12 (.mnmx true [11,(kI 0)]) [11], oP 13 1, oO 14 (.mnmx false [12,13]) [12,13], oO 15 (.bin .mul (kI 100) 14) [14], oQ 16 1, oO 17 (.bin .quo 15 16) [15,16], oB 4 17] .ret))), [.t 4]⟩
/-- interrex/label.Match -/
def f211 : AFn := ⟨2, (rS [oO 3 (.box true 1) [1], oA 4 kF [4]] (rS [oQ 5 0, oO 6 (.mkfn 226 [3]) [3], oO 7 (.call 157 [5,6]) [5,6], oO 8 (.un .not 7) [7], oB 4 8] .ret)), [.t 4]⟩
/-- interrex/taint.All -/
def f212 : AFn := ⟨2, (rS [oA 4 kF [4]] (.seq (rS [oQ 7 1, oO 8 (.lenL 7) [], oM 9 (kI 0) []] (.blk 0 (.loop (rS [oO 10 (.bin .lss 9 8) []] (.seq (.cond 10 .skip
 (.exit 0))
(.seq (.blk 1 (rS [oO 11 (.iasl 2 7 9) [], oO 12 (.load (some 2) 11) [11], oO 6 (.alloc true [vS,vS]) [], oN (.store 2 6 12) [12]] (rS [oP 13 0, oO 14 (.mkfn 228 [6]) [6], oO 15 (.call 160 [13,14]) [13,14], oO 16 (.un .not 15) [15]] (.cond 16 (rS [oA 4 kF []] .ret)
 .skip))))
(rR [oO 17 (.bin .add 9 (kI 1)) [9], oQ 9 17])))))))
(rS [oA 4 kT []] .ret))), [.t 4]⟩
/-- interrex/obj.EqPod -/
def f213 : AFn := ⟨2, (rS [oO 2 (.box false 0) [0], oO 3 (.box false 1) [1], oA 4 kF [4]] (.seq (rS [oF 6 0 2, oL 7 6, oF 8 0 3, oL 9 8, oO 10 (.bin .neq 7 9) [7,9], oQ 11 10, oH 12 (.faddr 1 2) 11 [], oH 13 (.load none 12) 11 [12], oH 14 (.faddr 1 3) 11 [], oH 15 (.load none 14) 11 [14], oH 16 (.bin .neq 13 15) 11 [13,15], oO 17 (.pick 11 kT 16) [11,16], oQ 18 17, oH 19 (.faddr 2 2) 18 [], oH 20 (.load none 19) 18 [19], oH 21 (.faddr 2 3) 18 [], oH 22 (.load none 21) 18 [21], oH 23 (.bin .neq 20 22) 18 [20,22], oO 24 (.pick 18 kT 23) [18,23], oQ 25 24, oH 26 (.faddr 3 2) 25 [], oH 27 (.load (some 3) 26) 25 [26], oH 28 (.faddr 3 3) 25 [], oH 29 (.load (some 3) 28) 25 [28], oH 30 (.eqc true [.i,.i,.i] true 27 29) 25 [27,29], oO 31 (.pick 25 kT 30) [25,30], oQ 32 31, oH 33 (.faddr 10 2) 32 [], oH 34 (.load none 33) 32 [33], oH 35 (.faddr 10 3) 32 [], oH 36 (.load none 35) 32 [35], oH 37 (.bin .neq 34 36) 32 [34,36], oO 38 (.pick 32 kT 37) [32,37], oQ 39 38, oH 40 (.faddr 12 2) 39 [], oH 41 (.load none 40) 39 [40], oH 42 (.faddr 12 3) 39 [], oH 43 (.load none 42) 39 [42], oH 44 (.bin .neq 41 43) 39 [41,43], oO 45 (.pick 39 kT 44) [39,44], oQ 46 45, oH 47 (.faddr 14 2) 46 [], oH 48 (.load none 47) 46 [47], oH 49 (.faddr 14 3) 46 [], oH 50 (.load none 49) 46 [49], oH 51 (.bin .neq 48 50) 46 [48,50], oO 52 (.pick 46 kT 51) [46,51], oQ 53 52, oH 54 (.faddr 15 2) 53 [], oH 55 (.load none 54) 53 [54], oH 56 (.faddr 15 3) 53 [], oH 57 (.load none 56) 53 [56], oH 58 (.bin .neq 55 57) 53 [55,57], oO 59 (.pick 53 kT 58) [53,58]] (.cond 59 (rS [oA 4 kF []] .ret)
 .skip))
(rS [oF 60 6 2, oL 61 60, oF 62 6 3, oL 63 62, oO 64 (.call 230 [61,63]) [61,63], oQ 65 64, oG 66 (.faddr 7 2) 65 [], oG 67 (.load none 66) 65 [66], oG 68 (.faddr 7 3) 65 [], oG 69 (.load none 68) 65 [68], oG 70 (.call 231 [67,69]) 65 [67,69], oO 71 (.pick 65 70 kF) [65,70], oQ 72 71, oG 73 (.faddr 9 2) 72 [], oG 74 (.load none 73) 72 [73], oG 75 (.faddr 9 3) 72 [], oG 76 (.load none 75) 72 [75], oG 77 (.call 232 [74,76]) 72 [74,76], oO 78 (.pick 72 77 kF) [72,77], oB 5 78] (rS [oQ 79 5, oQ 80 79, oG 81 (.faddr 8 2) 80 [], oG 82 (.load none 81) 80 [81], oG 83 (.faddr 8 3) 80 [], oG 84 (.load none 83) 80 [83], oG 85 (.call 233 [82,84]) 80 [82,84], oO 86 (.pick 80 85 kF) [80,85], oQ 87 86, oG 88 (.faddr 11 2) 87 [], oG 89 (.load none 88) 87 [88], oG 90 (.faddr 11 3) 87 [], oG 91 (.load none 90) 87 [90], oG 92 (.call 233 [89,91]) 87 [89,91], oO 93 (.pick 87 92 kF) [87,92], oQ 94 93, oG 95 (.faddr 13 2) 94 [2], oG 96 (.load none 95) 94 [95], oG 97 (.faddr 13 3) 94 [3], oG 98 (.load none 97) 94 [97], oG 99 (.call 233 [96,98]) 94 [96,98], oO 100 (.pick 94 99 kF) [94,99], oB 4 100] .ret)))), [.t 4]⟩
/-- slices.IndexFunc   string string  -/
def f216 : AFn := ⟨2, (rS [oA 4 (kI 0) [4]] (.seq (rS [oP 6 0, oO 7 (.lenL 6) [6], oM 8 (kI 0) []] (.blk 0 (.loop (rS [oO 9 (.bin .lss 8 7) []] (.seq (.cond 9 .skip
 (.exit 0))
(.seq (.blk 1 (rS [oP 10 8, oB 5 10] (rS [oP 11 1, oP 12 0, oP 13 5, oO 14 (.iasl 1 12 13) [12,13], oL 15 14, oO 16 (.callv 11 [15]) [11,15]] (.cond 16 (rS [oQ 17 5, oB 4 17] .ret)
 .skip))))
(rR [oO 18 (.bin .add 8 (kI 1)) [8], oQ 8 18])))))))
(rS [oA 4 (kI (-1)) []] .ret))), [.t 4]⟩
/-- slices.IndexFunc   interrex/api.Entry interrex/api.Entry  -/
def f224 : AFn := ⟨2, (rS [oA 4 (kI 0) [4]] (.seq (rS [oP 6 0, oO 7 (.lenL 6) [6], oM 8 (kI 0) []] (.blk 0 (.loop (rS [oO 9 (.bin .lss 8 7) []] (.seq (.cond 9 .skip
 (.exit 0))
(.seq (.blk 1 (rS [oP 10 8, oB 5 10] (rS [oP 11 1, oP 12 0, oP 13 5, oO 14 (.iasl 3 12 13) [12,13], oO 15 (.load (some 3) 14) [14], oO 16 (.callv 11 [15]) [11,15]] (.cond 16 (rS [oQ 17 5, oB 4 17] .ret)
 .skip))))
(rR [oO 18 (.bin .add 8 (kI 1)) [8], oQ 8 18])))))))
(rS [oA 4 (kI (-1)) []] .ret))), [.t 4]⟩
/-- interrex/qty.Add -/
def f225 : AFn := ⟨2, (rS [oO 2 (.box false 0) [0], oO 3 (.box false 1) [1], oO 4 (.alloc false [(vI 0),(vI 0),(vI 0)]) [], oA 5 kF [5]] (rS [oO 6 (.alloc false [(vI 0),(vI 0),(vI 0)]) []] (.seq (rS [oM 8 (kI 0) []] (.blk 0 (.loop (rS [oO 9 (.bin .lss 8 (kI 3)) []] (.seq (.cond 9 .skip
 (.exit 0))
(.seq (.blk 1 (rS [oP 10 8, oB 7 10] (.seq (.seq (.dreg [dq 0 (oP 11 7),
 dq 1 (oO 12 (.iaar 3 1 2 11) []),
 dq 2 (oK 13 12),
 ⟨3, (oO 14 (.call 240 [13]) []), true, []⟩,
 dq 4 (oO 15 (.un .not 14) []),
 dq 5 (oP 16 15),
 dq 6 (oH 17 (.mv 7) 16 []),
 dq 7 (oH 18 (.iaar 3 1 3 17) 16 []),
 dq 8 (oH 19 (.load none 18) 16 []),
 ⟨9, (oH 20 (.call 240 [19]) 16 []), true, []⟩,
 dq 10 (oH 21 (.un .not 20) 16 []),
 dq 11 (oO 22 (.pick 16 kT 21) []),
 dq 12 (oP 23 22),
 dq 13 (oH 24 (.mv 7) 23 []),
 dq 14 (oH 25 (.iaar 3 1 2 24) 23 []),
 dq 15 (oH 26 (.load none 25) 23 []),
 dq 16 (oH 27 (.mv 7) 23 []),
 dq 17 (oH 28 (.iaar 3 1 3 27) 23 []),
 dq 18 (oH 29 (.load none 28) 23 []),
 dq 19 (oH 30 (.bin .sub (kI 4611686018427387904) 29) 23 []),
 dq 20 (oH 31 (.bin .gtr 26 30) 23 []),
 dq 21 (oO 32 (.pick 23 kT 31) [])] [11,12,13,14,15,16,17,18,19,20,21,22,23,24,25,26,27,28,29,30,31])
(.cond 32 (rS [oO 33 (.bld [(vI 0),(vI 0),(vI 0)] []) [], oN (.store 3 4 33) [33], oA 5 kF []] .ret)
 .skip))
(.dreg [dq 0 (oP 34 7),
 dq 1 (oP 35 7),
 dq 2 (oO 36 (.iaar 3 1 2 35) []),
 dq 3 (oK 37 36),
 dq 4 (oP 38 7),
 dq 5 (oO 39 (.iaar 3 1 3 38) []),
 dq 6 (oK 40 39),
 dq 7 (oO 41 (.bin .add 37 40) []),
 dq 8 (oO 42 (.iaar 3 1 6 34) []),
 ⟨9, (oN (.store 1 42 41) []), true, []⟩] [7,34,35,36,37,38,39,40,41,42]))))
(rR [oO 43 (.bin .add 8 (kI 1)) [8], oQ 8 43])))))))
(rS [oO 44 (.load (some 3) 6) [6], oN (.store 3 4 44) [44], oA 5 kT []] .ret)))), [.cell 4 (some 3),.t 5]⟩
/-- interrex/label.Match 1 -/
def f226 : AFn := ⟨2, (rS [oO 2 (.box false 0) [0], oA 3 kF [3]] (rS [oO 4 (.load (some 3) 2) [2], oL 5 1, oO 6 (.call 227 [4,5]) [4,5], oO 7 (.un .not 6) [6], oB 3 7] .ret)), [.t 3]⟩
/-- interrex/label.holds -/
def f227 : AFn := ⟨2, (rS [oO 2 (.box false 0) [0], oA 4 kF [4]] (rS [oQ 9 1, oF 10 0 2, oL 11 10, oO 12 (.call 241 [9,11]) [9,11], oQ 8 12, oO 13 (.ext 8 0) [], oO 14 (.ext 8 1) [8], oB 5 13, oB 6 14] (rS [oP 15 6, oQ 16 15, oG 17 (.faddr 2 2) 16 [], oG 18 (.load none 17) 16 [17], oG 19 (.mv 5) 16 [5], oG 20 (.call 242 [18,19]) 16 [18,19], oO 21 (.pick 16 20 kF) [16,20], oB 7 21] (.seq (rS [oE 22 1 2, oL 23 22] (.blk 0 (rS [oO 25 (.bin .eql 23 (kI 1)) [], oB 24 25] (.cond 24 (rS [oQ 26 7, oB 4 26] .ret)
 (rS [oO 28 (.bin .eql 23 (kI 2)) [], oB 27 28] (.cond 27 (rS [oQ 29 7, oO 30 (.un .not 29) [29], oB 4 30] .ret)
 (rS [oO 32 (.bin .eql 23 (kI 3)) [], oB 31 32] (.cond 31 (rS [oQ 33 6, oB 4 33] .ret)
 (rS [oO 35 (.bin .eql 23 (kI 4)) [23], oB 34 35] (.cond 34 (rS [oQ 36 6, oO 37 (.un .not 36) [36], oB 4 37] .ret)
 .skip))))))))))
(rS [oA 4 kF []] .ret))))), [.t 4]⟩
/-- interrex/taint.All 1 -/
def f228 : AFn := ⟨2, (rS [oO 2 (.box false 0) [0], oA 3 kF [3]] (rS [oO 4 (.load (some 3) 2) [2], oO 5 (.load (some 2) 1) [1], oO 6 (.call 229 [4,5]) [4,5], oB 3 6] .ret)), [.t 3]⟩
/-- interrex/taint.Bears -/
def f229 : AFn := ⟨2, (rS [oO 2 (.box false 0) [0], oO 3 (.box false 1) [1], oA 4 kF [4]] (rS [oF 5 0 2, oL 6 5, oO 7 (.bin .eql 6 (.c vS)) [6], oQ 8 7, oH 9 (.faddr 0 2) 8 [], oH 10 (.load none 9) 8 [9], oH 11 (.faddr 0 3) 8 [], oH 12 (.load none 11) 8 [11], oH 13 (.bin .eql 10 12) 8 [10,12], oO 14 (.pick 8 kT 13) [8,13], oQ 15 14, oG 16 (.faddr 2 2) 15 [], oG 17 (.load none 16) 15 [16], oG 18 (.mv 17) 15 [17], oH 19 (.faddr 1 2) 18 [2], oH 20 (.load none 19) 18 [19], oH 21 (.faddr 1 3) 18 [3], oH 22 (.load none 21) 18 [21], oH 23 (.bin .eql 20 22) 18 [20,22], oG 24 (.pick 18 kT 23) 15 [18,23], oO 25 (.pick 15 24 kF) [15,24], oB 4 25] .ret)), [.t 4]⟩
/-- slices.Equal   int int  -/
def f230 : AFn := ⟨2, (rS [oA 4 kF [4]] (.seq (rS [oP 6 0, oO 7 (.lenL 6) [6], oP 8 1, oO 9 (.lenL 8) [8], oO 10 (.bin .neq 7 9) [7,9]] (.cond 10 (rS [oA 4 kF []] .ret)
 .skip))
(.seq (rS [oP 11 0, oO 12 (.lenL 11) [11], oM 13 (kI 0) []] (.blk 0 (.loop (rS [oO 14 (.bin .lss 13 12) []] (.seq (.cond 14 .skip
 (.exit 0))
(.seq (.blk 1 (rS [oP 15 13, oB 5 15] (.seq (.dreg [dq 0 (oP 16 0),
 dq 1 (oP 17 5),
 dq 2 (oO 18 (.iasl 1 16 17) []),
 dq 3 (oK 19 18),
 dq 4 (oP 20 1),
 dq 5 (oP 21 5),
 dq 6 (oO 22 (.iasl 1 20 21) []),
 dq 7 (oK 23 22),
 dq 8 (oO 24 (.bin .neq 19 23) [])] [16,5,17,18,19,20,21,22,23])
(.cond 24 (rS [oA 4 kF []] .ret)
 .skip))))
(rR [oO 25 (.bin .add 13 (kI 1)) [13], oQ 13 25])))))))
(rS [oA 4 kT []] .ret)))), [.t 4]⟩
/-- slices.Equal   interrex/api.Pair interrex/api.Pair  -/
def f231 : AFn := ⟨2, (rS [oA 4 kF [4]] (.seq (rS [oP 6 0, oO 7 (.lenL 6) [6], oP 8 1, oO 9 (.lenL 8) [8], oO 10 (.bin .neq 7 9) [7,9]] (.cond 10 (rS [oA 4 kF []] .ret)
 .skip))
(.seq (rS [oP 11 0, oO 12 (.lenL 11) [11], oM 13 (kI 0) []] (.blk 0 (.loop (rS [oO 14 (.bin .lss 13 12) []] (.seq (.cond 14 .skip
 (.exit 0))
(.seq (.blk 1 (rS [oP 15 13, oB 5 15] (.seq (.dreg [dq 0 (oP 16 0),
 dq 1 (oP 17 5),
 dq 2 (oO 18 (.iasl 2 16 17) []),
 dq 3 (oO 19 (.load (some 2) 18) []),
 dq 4 (oP 20 1),
 dq 5 (oP 21 5),
 dq 6 (oO 22 (.iasl 2 20 21) []),
 dq 7 (oO 23 (.load (some 2) 22) []),
 dq 8 (oO 24 (.eqc true [.s,.s] true 19 23) [])] [16,5,17,18,19,20,21,22,23])
(.cond 24 (rS [oA 4 kF []] .ret)
 .skip))))
(rR [oO 25 (.bin .add 13 (kI 1)) [13], oQ 13 25])))))))
(rS [oA 4 kT []] .ret)))), [.t 4]⟩
/-- slices.Equal   interrex/api.Toler interrex/api.Toler  -/
def f232 : AFn := ⟨2, (rS [oA 4 kF [4]] (.seq (rS [oP 6 0, oO 7 (.lenL 6) [6], oP 8 1, oO 9 (.lenL 8) [8], oO 10 (.bin .neq 7 9) [7,9]] (.cond 10 (rS [oA 4 kF []] .ret)
 .skip))
(.seq (rS [oP 11 0, oO 12 (.lenL 11) [11], oM 13 (kI 0) []] (.blk 0 (.loop (rS [oO 14 (.bin .lss 13 12) []] (.seq (.cond 14 .skip
 (.exit 0))
(.seq (.blk 1 (rS [oP 15 13, oB 5 15] (.seq (.dreg [dq 0 (oP 16 0),
 dq 1 (oP 17 5),
 dq 2 (oO 18 (.iasl 3 16 17) []),
 dq 3 (oO 19 (.load (some 3) 18) []),
 dq 4 (oP 20 1),
 dq 5 (oP 21 5),
 dq 6 (oO 22 (.iasl 3 20 21) []),
 dq 7 (oO 23 (.load (some 3) 22) []),
 dq 8 (oO 24 (.eqc true [.s,.s,.b] true 19 23) [])] [16,5,17,18,19,20,21,22,23])
(.cond 24 (rS [oA 4 kF []] .ret)
 .skip))))
(rR [oO 25 (.bin .add 13 (kI 1)) [13], oQ 13 25])))))))
(rS [oA 4 kT []] .ret)))), [.t 4]⟩
/-- interrex/obj.eqTerms -/
def f233 : AFn := ⟨2, (rS [oA 4 kF [4]] (rS [oQ 5 0, oQ 6 1, oO 7 (.call 243 [5,6,(.c (.fn 244 [] []))]) [5,6], oB 4 7] .ret)), [.t 4]⟩
/-- interrex/qty.in -/
def f240 : AFn := ⟨1, (rS [oA 2 kF [2]] (rS [oP 3 0, oO 4 (.bin .geq 3 (kI 0)) [3], oQ 5 4, oG 6 (.mv 0) 5 [0], oG 7 (.bin .leq 6 (kI 4611686018427387904)) 5 [6], oO 8 (.pick 5 7 kF) [5,7], oB 2 8] .ret)), [.t 2]⟩
/-- interrex/label.Get -/
def f241 : AFn := ⟨2, (rS [oA 4 (.c vS) [4], oA 5 kF [5]] (.seq (rS [oQ 8 0, oO 9 (.lenL 8) [], oM 10 (kI 0) []] (.blk 0 (.loop (rS [oO 11 (.bin .lss 10 9) []] (.seq (.cond 11 .skip
 (.exit 0))
(.seq (.blk 1 (rS [oO 12 (.iasl 2 8 10) [], oO 13 (.load (some 2) 12) [12], oO 7 (.alloc false [vS,vS]) [], oN (.store 2 7 13) [13]] (rS [oF 14 0 7, oL 15 14, oP 16 1, oO 17 (.bin .eql 15 16) [15,16]] (.cond 17 (rS [oE 18 1 7, oL 19 18, oB 4 19, oA 5 kT []] .ret)
 .skip))))
(rR [oO 20 (.bin .add 10 (kI 1)) [10], oQ 10 20])))))))
(rS [oA 4 (.c vS) [], oA 5 kF []] .ret))), [.t 4,.t 5]⟩
/-- slices.Contains   string string  -/
def f242 : AFn := ⟨2, (rS [oA 4 kF [4]] (rS [oQ 5 0, oQ 6 1, oO 7 (.call 263 [5,6]) [5,6], oO 8 (.bin .geq 7 (kI 0)) [7], oB 4 8] .ret)), [.t 4]⟩
/-- slices.EqualFunc   interrex/api.Term   interrex/api.Term interrex/api.Term interrex/api.Term  -/
def f243 : AFn := ⟨3, (rS [oA 6 kF [6]] (.seq (rS [oP 10 0, oO 11 (.lenL 10) [10], oP 12 1, oO 13 (.lenL 12) [12], oO 14 (.bin .neq 11 13) [11,13]] (.cond 14 (rS [oA 6 kF []] .ret)
 .skip))
(.seq (rS [oQ 15 0, oO 16 (.lenL 15) [], oM 17 (kI 0) []] (.blk 0 (.loop (rS [oO 18 (.bin .lss 17 16) []] (.seq (.cond 18 .skip
 (.exit 0))
(.seq (.blk 1 (rS [oP 19 17, oO 20 (.iasl 3 15 17) [], oO 21 (.load (some 3) 20) [20], oO 8 (.alloc false [vS,(vI 0),.nils]) [], oB 7 19, oN (.store 3 8 21) [21]] (rS [oP 22 1, oQ 23 7, oO 24 (.iasl 3 22 23) [22,23], oO 25 (.load (some 3) 24) [24], oO 9 (.alloc false [vS,(vI 0),.nils]) [], oN (.store 3 9 25) [25]] (rS [oP 26 2, oO 27 (.load (some 3) 8) [8], oO 28 (.load (some 3) 9) [9], oO 29 (.callv 26 [27,28]) [26,27,28], oO 30 (.un .not 29) [29]] (.cond 30 (rS [oA 6 kF []] .ret)
 .skip)))))
(rR [oO 31 (.bin .add 17 (kI 1)) [17], oQ 17 31])))))))
(rS [oA 6 kT []] .ret)))), [.t 6]⟩
/-- interrex/obj.eqTerms 1 -/
def f244 : AFn := ⟨2, (rS [oO 2 (.box false 0) [0], oO 3 (.box false 1) [1], oA 4 kF [4]] (rS [oF 5 0 2, oL 6 5, oF 7 0 3, oL 8 7, oO 9 (.bin .eql 6 8) [6,8], oQ 10 9, oG 11 (.faddr 1 2) 10 [], oG 12 (.load none 11) 10 [11], oG 13 (.faddr 1 3) 10 [], oG 14 (.load none 13) 10 [13], oG 15 (.bin .eql 12 14) 10 [12,14], oO 16 (.pick 10 15 kF) [10,15], oQ 17 16, oG 18 (.faddr 2 2) 17 [2], oG 19 (.load none 18) 17 [18], oG 20 (.faddr 2 3) 17 [3], oG 21 (.load none 20) 17 [20], oG 22 (.call 245 [19,21]) 17 [19,21], oO 23 (.pick 17 22 kF) [17,22], oB 4 23] .ret)), [.t 4]⟩
/-- slices.Equal   string string  -/
def f245 : AFn := ⟨2, (rS [oA 4 kF [4]] (.seq (rS [oP 6 0, oO 7 (.lenL 6) [6], oP 8 1, oO 9 (.lenL 8) [8], oO 10 (.bin .neq 7 9) [7,9]] (.cond 10 (rS [oA 4 kF []] .ret)
 .skip))
(.seq (rS [oP 11 0, oO 12 (.lenL 11) [11], oM 13 (kI 0) []] (.blk 0 (.loop (rS [oO 14 (.bin .lss 13 12) []] (.seq (.cond 14 .skip
 (.exit 0))
(.seq (.blk 1 (rS [oP 15 13, oB 5 15] (.seq (.dreg [dq 0 (oP 16 0),
 dq 1 (oP 17 5),
 dq 2 (oO 18 (.iasl 1 16 17) []),
 dq 3 (oK 19 18),
 dq 4 (oP 20 1),
 dq 5 (oP 21 5),
 dq 6 (oO 22 (.iasl 1 20 21) []),
 dq 7 (oK 23 22),
 dq 8 (oO 24 (.bin .neq 19 23) [])] [16,5,17,18,19,20,21,22,23])
(.cond 24 (rS [oA 4 kF []] .ret)
 .skip))))
(rR [oO 25 (.bin .add 13 (kI 1)) [13], oQ 13 25])))))))
(rS [oA 4 kT []] .ret)))), [.t 4]⟩
/-- slices.Index   string string  -/
def f263 : AFn := ⟨2, (rS [oA 4 (kI 0) [4]] (.seq (rS [oP 6 0, oO 7 (.lenL 6) [6], oM 8 (kI 0) []] (.blk 0 (.loop (rS [oO 9 (.bin .lss 8 7) []] (.seq (.cond 9 .skip
 (.exit 0))
(.seq (.blk 1 (rS [oP 10 8, oB 5 10] (rS [oP 11 1, oP 12 0, oP 13 5, oO 14 (.iasl 1 12 13) [12,13], oL 15 14, oO 16 (.bin .eql 11 15) [11,15]] (.cond 16 (rS [oQ 17 5, oB 4 17] .ret)
 .skip))))
(rR [oO 18 (.bin .add 8 (kI 1)) [8], oQ 8 18])))))))
(rS [oA 4 (kI (-1)) []] .ret))), [.t 4]⟩
end Go.Eng.AF
