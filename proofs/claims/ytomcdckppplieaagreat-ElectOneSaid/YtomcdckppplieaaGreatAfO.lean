/-
One more function's abstract text.
-/
import Derived.Test.YtomcdckppplieaaGreatEngC
set_option maxRecDepth 100000
namespace Go.Eng.AF
open Go Go.Eng
/-- interrex/interrexlaw10.ElectOne -/
def eo : AFn := ⟨2, (rS [oA 4 kF [4]] (rS [oO 32 (.call 7 []) [], oA 5 32 [32]] (.seq (rS [oM 33 5 [5], oO 34 (.un .not 33) [33]] (.cond 34 (rS [oA 4 kF []] .ret)
 .skip))
(rS [oM 35 0 [0], oO 36 (.bin .rem 35 (kI 7)) [35], oO 37 (.bin .add 36 (kI 7)) [36], oO 38 (.bin .rem 37 (kI 7)) [37], oO 39 (.bin .add (kI 2) 38) [38], oA 0 39 [39]] (rS [oO 40 (.call 8 []) [], oM 41 0 [], oO 42 (.call 9 [41]) [41], oA 6 40 [40], oA 7 42 [42]] (rS [oA 8 (.c .nils) []] (.seq (rS [oA 9 (kI 0) []] (.blk 0 (.loop (.seq (rS [oM 43 9 [], oM 44 0 [], oO 45 (.bin .lss 43 44) [43,44]] (.cond 45 .skip
 (.exit 0)))
(.seq (.blk 1 (rR [oM 48 8 [8], oM 49 9 [], oO 50 (.call 10 [49]) [49], oO 51 (.bsl (.mu false) 1 1 [.nilp] [(0, 50)]) [50], oO 52 (.append (.mu false) 1 8 48 51) [48,51], oA 8 52 [52]]))
(rR [oM 46 9 [9], oO 47 (.bin .add 46 (kI 1)) [46], oA 9 47 [47]]))))))
(rS [oA 10 (.c .nils) []] (rS [oA 11 (kI 0) []] (.seq (rS [oA 12 (kI 0) []] (.blk 2 (.loop (.seq (rS [oM 53 12 [], oM 54 1 [], oO 55 (.lenL 54) [54], oO 56 (.bin .lss 53 55) [53,55], oM 57 56 [56], oG 58 (.mv 12) 57 [], oG 59 (.bin .lss 58 (kI 150)) 57 [58], oO 60 (.pick 57 59 kF) [57,59]] (.cond 60 .skip
 (.exit 2)))
(.seq (.blk 3 (rS [oM 63 1 [], oM 64 12 [], oO 65 (.iasl 3 63 64) [63,64], oO 66 (.load (some 3) 65) [65], oO 13 (.alloc false [(vI 0),(vI 0),(vI 0)]) [], oN (.store 3 13 66) [66]] (rS [oO 67 (.faddr 1 13) [], oO 68 (.load none 67) [67], oM 69 0 [], oO 70 (.bin .rem 68 69) [68,69], oM 71 0 [], oO 72 (.bin .add 70 71) [70,71], oM 73 0 [], oO 74 (.bin .rem 72 73) [72,73], oA 14 74 [74]] (.seq (.dreg [⟨0, (oM 75 8 []), false, []⟩,
 ⟨1, (oM 76 14 []), false, []⟩,
 ⟨2, (oO 77 (.iasl 1 75 76) []), false, []⟩,
 ⟨3, (oO 78 (.load none 77) []), false, []⟩,
 ⟨4, (oM 79 7 []), false, []⟩,
 ⟨5, (oM 80 14 []), false, []⟩,
 ⟨6, (oO 81 (.call 11 [79,80]) []), true, [3]⟩,
 ⟨7, (oA 15 78 []), false, []⟩,
 ⟨8, (oA 16 81 []), false, []⟩] [75,76,77,78,79,80,81])
(.seq (rS [oO 82 (.faddr 0 13) [], oO 83 (.load none 82) [82]] (.blk 4 (.seq (rS [oO 121 (.bin .eql 83 (kI 0)) [], oA 120 121 [121]] (.cond 120 .skip
 (rR [oO 122 (.bin .eql 83 (kI 1)) [], oA 120 122 [122]])))
(.cond 120 (rS [oM 124 6 [], oO 125 (.call 12 [124,(.c (.s [108]))]) [124], oM 123 125 [125], oO 126 (.ext 123 0) [], oO 127 (.ext 123 1) [123], oO 17 (.alloc false [vS,(vI 0),.nils]) [], oN (.store 3 17 126) [126], oA 18 127 [127]] (rS [oO 129 (.faddr 2 17) [], oO 130 (.load none 129) [129], oO 131 (.call 13 [130]) [130], oM 128 131 [131], oO 132 (.ext 128 0) [], oO 133 (.ext 128 1) [128], oO 19 (.alloc false [(vI 0),(vI 0)]) [], oN (.store 2 19 132) [132], oA 20 133 [133,20]] (rR [oM 134 15 [15], oM 135 16 [16], oO 136 (.faddr 1 17) [17], oO 137 (.load none 136) [136], oO 138 (.load (some 2) 19) [19], oM 139 18 [18], oO 140 (.call 14 [134,135,137,138,139]) [134,135,137,138,139,140]])))
 (.seq (rS [oO 142 (.bin .eql 83 (kI 2)) [], oA 141 142 [142]] (.cond 141 .skip
 (rR [oO 143 (.bin .eql 83 (kI 3)) [], oA 141 143 [143]])))
(.cond 141 (rS [oM 145 15 [], oM 146 16 [], oO 147 (.call 15 [145,146]) [145,146], oM 144 147 [147], oO 148 (.ext 144 0) [], oO 149 (.ext 144 1) [144], oO 21 (.alloc false [.nils,.nils]) [], oN (.store 2 21 148) [148], oA 22 149 [149]] (rS [oM 150 22 [22]] (.cond 150 (rS [oO 151 (.faddr 0 13) [13], oO 152 (.load none 151) [151], oO 153 (.bin .eql 152 (kI 2)) [152]] (.cond 153 (rS [oM 155 6 [], oO 156 (.load (some 2) 21) [21], oO 157 (.call 16 [155,156]) [155,156], oM 154 157 [157], oO 158 (.ext 154 0) [], oO 159 (.ext 154 1) [154], oA 23 158 [158], oA 24 159 [159]] (rR [oM 160 15 [15], oM 161 16 [16], oM 162 23 [23], oM 163 24 [24], oO 164 (.call 17 [160,161,162,163]) [160,161,162,163,164]]))
 (rR [oM 165 10 [10], oM 166 14 [14], oO 167 (.load (some 2) 21) [21], oO 168 (.bld [(vI 0),.nils,.nils] [(0, 1, 166),(1, 2, 167)]) [166,167], oO 169 (.bsl (.im false) 3 1 [(vI 0),.nils,.nils] [(0, 168)]) [168], oO 170 (.append (.im false) 3 56 165 169) [165,169], oA 10 170 [170]])))
 .skip)))
 (rS [oO 172 (.bin .eql 83 (kI 4)) [83], oA 171 172 [172]] (.cond 171 (rS [oM 173 10 [], oO 174 (.lenL 173) [173], oO 175 (.bin .gtr 174 (kI 0)) [174]] (.cond 175 (rS [oO 176 (.faddr 1 13) [13], oO 177 (.load none 176) [176], oM 178 10 [], oO 179 (.lenL 178) [178], oO 180 (.bin .rem 177 179) [177,179], oM 181 10 [], oO 182 (.lenL 181) [181], oO 183 (.bin .add 180 182) [180,182], oM 184 10 [], oO 185 (.lenL 184) [184], oO 186 (.bin .rem 183 185) [183,185], oA 25 186 [186]] (rS [oM 187 6 [], oM 188 10 [], oM 189 25 [], oO 190 (.iasl 3 188 189) [188,189], oO 191 (.faddr 1 190) [190], oO 192 (.load (some 2) 191) [191], oO 193 (.call 16 [187,192]) [187,192,193]] (.dreg [⟨0, (oM 194 10 []), false, []⟩,
 ⟨1, (oM 195 25 []), false, []⟩,
 ⟨2, (oO 196 (.slsl 3 194 none (some 195) none) []), false, []⟩,
 ⟨4, (oM 198 10 []), false, []⟩,
 ⟨5, (oM 199 25 []), false, []⟩,
 ⟨6, (oO 200 (.bin .add 199 (kI 1)) []), false, []⟩,
 ⟨7, (oO 201 (.slsl 3 198 (some 200) none none) []), false, []⟩,
 ⟨3, (oO 197 (.append (.im false) 3 56 (.c .nils) 196) []), true, [7]⟩,
 ⟨8, (oO 202 (.append (.im false) 3 56 197 201) []), true, []⟩,
 ⟨9, (oA 10 202 []), true, []⟩] [194,25,195,196,197,198,199,200,201,202])))
 .skip))
 (rS [oO 84 (.faddr 2 13) [13], oO 85 (.load none 84) [84], oO 86 (.mnmx false [85,(kI 700)]) [85], oO 87 (.mnmx true [(kI 0),86]) [86], oA 26 87 [87]] (rS [oM 88 0 [], oO 89 (.mksl (.mu true) 1 8 [(vI 0)] 88 88) [88], oA 27 89 [89]] (.seq (rS [oM 90 27 [], oO 91 (.lenL 90) [90], oM 92 (kI 0) []] (.blk 5 (.loop (rS [oO 93 (.bin .lss 92 91) []] (.seq (.cond 93 .skip
 (.exit 5))
(.seq (.blk 6 (rS [oM 94 92 [], oA 28 94 [94]] (rR [oM 95 27 [], oM 96 28 [28], oM 97 26 [], oO 98 (.iasl 1 95 96) [95,96], oN (.store 1 98 97) [98,97]])))
(rR [oO 99 (.bin .add 92 (kI 1)) [92], oM 92 99 [99]])))))))
(.seq (rS [oM 100 26 [26], oO 101 (.bin .rem 100 (kI 7)) [100], oA 29 101 [101]] (rS [oM 102 11 [], oM 103 29 [], oO 104 (.bin .add 102 103) [102,103], oO 105 (.bin .leq 104 (kI 100)) [104]] (.cond 105 (rS [oM 106 27 [], oM 107 14 [14], oO 108 (.iasl 1 106 107) [], oO 109 (.load none 108) [108], oM 110 29 [], oO 111 (.bin .add 109 110) [109,110], oO 112 (.iasl 1 106 107) [106,107], oN (.store 1 112 111) [112,111]] (rR [oM 113 11 [11], oM 114 29 [29], oO 115 (.bin .add 113 114) [113,114], oA 11 115 [115]]))
 .skip)))
(rS [oM 116 7 [], oM 117 27 [27], oO 118 (.call 18 [116,117]) [116,117], oO 119 (.un .not 118) [118]] (.cond 119 (rS [oA 4 kF []] .ret)
 .skip))))))))))))))
(.seq (rS [oM 203 7 [], oO 204 (.call 19 [203]) [203], oO 205 (.bin .gtr 204 (kI 100)) [204]] (.cond 205 (rS [oA 4 kT []] .ret)
 .skip))
(rS [oA 30 (kI 0) []] (.seq (rS [oM 206 8 [], oO 207 (.lenL 206) [206], oM 208 (kI 0) []] (.blk 7 (.loop (rS [oO 209 (.bin .lss 208 207) []] (.seq (.cond 209 .skip
 (.exit 7))
(.seq (.blk 8 (rS [oM 210 208 [], oA 31 210 [210]] (.seq (.dreg [⟨0, (oM 211 8 []), false, []⟩,
 ⟨1, (oM 212 31 []), false, []⟩,
 ⟨2, (oO 213 (.iasl 1 211 212) []), false, []⟩,
 ⟨3, (oO 214 (.load none 213) []), false, []⟩,
 ⟨4, (oM 215 7 []), false, []⟩,
 ⟨5, (oM 216 31 []), false, []⟩,
 ⟨6, (oO 217 (.call 11 [215,216]) []), true, [3]⟩,
 ⟨7, (oO 218 (.call 20 [214,217]) []), true, []⟩] [211,31,212,213,214,215,216,217])
(.cond 218 (rR [oM 219 30 [30], oO 220 (.bin .add 219 (kI 1)) [219], oA 30 220 [220]])
 .skip))))
(rR [oO 221 (.bin .add 208 (kI 1)) [208], oM 208 221 [221]])))))))
(rS [oM 222 30 [30], oO 223 (.bin .gtr 222 (kI 1)) [222]] (.cond 223 (rS [oA 4 kF []] .ret)
 .skip))))))))))
(rR [oM 61 12 [12], oO 62 (.bin .add 61 (kI 1)) [61], oA 12 62 [62]]))))))
(rS [oA 4 kT []] .ret))))))))))), [.t 4]⟩
end Go.Eng.AF
