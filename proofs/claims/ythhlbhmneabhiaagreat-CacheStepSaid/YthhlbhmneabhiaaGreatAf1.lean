/-
Functions' abstract texts.
-/
import Derived.Test.YthhlbhmneabhiaaGreatEngC
set_option maxRecDepth 100000
namespace Go.Eng.AF
open Go Go.Eng
/-- interrex/interrexlaw10.CacheStep -/
def f3 : AFn := ⟨2, (rS [oA 4 kF [4]] (rS [oO 11 (.call 10 []) [], oA 5 11 [11]] (.seq (rS [oM 12 5 [5], oO 13 (.un .not 12) [12]] (.cond 13 (rS [oA 4 kF []] .ret)
 .skip))
(rS [oO 14 (.call 11 []) [], oO 15 (.call 11 []) [], oA 6 14 [14], oA 7 15 [15]] (.seq (.dreg [⟨0, (oM 16 0 []), false, []⟩,
 ⟨1, (oM 17 0 []), false, []⟩,
 ⟨2, (oO 18 (.lenL 17) []), false, []⟩,
 ⟨3, (oO 19 (.mnmx false [18,(kI 8)]) []), false, []⟩,
 ⟨4, (oO 20 (.slsl 3 16 none (some 19) none) []), false, []⟩,
 ⟨5, (oM 21 1 []), false, []⟩,
 ⟨6, (oM 22 1 []), false, []⟩,
 ⟨7, (oO 23 (.lenL 22) []), false, []⟩,
 ⟨8, (oO 24 (.mnmx false [23,(kI 10)]) []), false, []⟩,
 ⟨9, (oO 25 (.slsl 4 21 none (some 24) none) []), false, []⟩,
 ⟨10, (oA 0 20 []), true, [9]⟩,
 ⟨11, (oA 1 25 []), true, []⟩] [16,17,18,19,20,21,22,23,24,25])
(.seq (rS [oM 26 6 [], oM 27 0 [], oO 28 (.call 12 [26,(kI 100),27]) [26,27], oO 29 (.un .not 28) [28]] (.cond 29 (rS [oM 30 7 [7], oM 31 0 [0], oO 32 (.call 12 [30,(kI 100),31]) [30,31], oO 33 (.un .not 32) [32], oA 4 33 [33]] .ret)
 .skip))
(rS [oM 34 7 [], oM 35 0 [0], oO 36 (.call 12 [34,(kI 100),35]) [34,35,36]] (rS [oA 8 (.c .nils) []] (.seq (rS [oM 37 1 [], oO 38 (.lenL 37) [37], oM 39 (kI 0) []] (.blk 0 (.loop (rS [oO 40 (.bin .lss 39 38) []] (.seq (.cond 40 .skip
 (.exit 0))
(.seq (.blk 1 (rS [oM 41 39 [], oA 9 41 [41]] (rS [oM 42 1 [], oM 43 9 [], oO 44 (.iasl 4 42 43) [42,43], oO 45 (.load (some 4) 44) [44], oO 10 (.alloc false [(vI 0),vS,.nils,(.b false)]) [], oN (.store 4 10 45) [45]] (rS [oM 46 9 [9], oO 47 (.bin .add (kI 101) 46) [46], oO 48 (.faddr 0 10) [], oN (.store 1 48 47) [48,47]] (rS [oM 49 8 [8], oO 50 (.load (some 4) 10) [], oO 51 (.bsl (.im false) 4 1 [(vI 0),vS,.nils,(.b false)] [(0, 50)]) [50], oO 52 (.append (.im false) 4 56 49 51) [49,51], oA 8 52 [52]] (.seq .no
(.cond 61 (rS [oA 4 kF []] .ret)
 .skip)))))))
(rR [oO 62 (.bin .add 39 (kI 1)) [39], oM 39 62 [62]])))))))
(rS [oM 63 6 [], oM 64 8 [], oO 65 (.lenL 64) [64], oO 66 (.bin .add (kI 100) 65) [65], oM 67 8 [8], oO 68 (.call 13 [63,(kI 100),66,67]) [63,66,67], oM 69 68 [68], oG 70 (.mv 6) 69 [], oG 71 (.call 14 [70]) 69 [70], oG 72 (.mv 7) 69 [], oG 73 (.call 14 [72]) 69 [72], oG 74 (.bin .eql 71 73) 69 [71,73], oO 75 (.pick 69 74 kF) [69,74], oM 76 75 [75], oG 77 (.mv 6) 76 [6], oG 78 (.call 16 [77]) 76 [77], oG 79 (.mv 7) 76 [7], oG 80 (.call 16 [79]) 76 [79], oG 81 (.call 15 [78,80]) 76 [78,80], oO 82 (.pick 76 81 kF) [76,81], oA 4 82 [82]] .ret)))))))))), [.t 4]⟩
/-- interrex/interrexlaw10.RelistTrue -/
def f4 : AFn := ⟨1, (rS [oA 2 kF [2]] (rS [oO 20 (.call 10 []) [], oA 3 20 [20]] (.seq (rS [oM 21 3 [3], oO 22 (.un .not 21) [21]] (.cond 22 (rS [oA 2 kF []] .ret)
 .skip))
(rS [oO 23 (.call 17 []) [], oO 24 (.call 18 [(kI 3)]) [], oA 4 23 [23], oA 5 24 [24]] (rS [oO 25 (.mkmap true (some .i64)) [], oN (.no) [], oM 26 25 [25], oA 6 26 [26]] (rS [oA 7 (.c .nils) []] (rS [oA 8 (kI 0) []] (.seq (rS [oA 9 (kI 0) []] (.blk 0 (.loop (.seq (rS [oM 27 9 [], oM 28 0 [], oO 29 (.lenL 28) [28], oO 30 (.bin .lss 27 29) [27,29], oM 31 30 [30], oG 32 (.mv 9) 31 [], oG 33 (.bin .lss 32 (kI 60)) 31 [32], oO 34 (.pick 31 33 kF) [31,33]] (.cond 34 .skip
 (.exit 0)))
(.seq (.blk 1 (rS [oM 37 0 [], oM 38 9 [], oO 39 (.iasl 7 37 38) [37,38], oO 40 (.load (some 7) 39) [39], oO 10 (.alloc false [(vI 0),.nils,.nils,(vI 0),(vI 0),(.b false),(.b false)]) [], oN (.store 7 10 40) [40]] (rS [oM 41 8 [8], oO 42 (.faddr 4 10) [], oO 43 (.load none 42) [42], oO 44 (.mnmx false [43,(kI 300)]) [43], oO 45 (.mnmx true [(kI 0),44]) [44], oO 46 (.bin .add 41 45) [41,45], oA 8 46 [46]] (.seq (rS [oO 47 (.faddr 0 10) [], oO 48 (.load none 47) [47]] (.blk 2 (rS [oO 120 (.bin .eql 48 (kI 0)) [], oA 119 120 [120]] (.cond 119 (rS [oO 121 (.faddr 1 10) [], oO 122 (.faddr 1 121) [121], oO 123 (.load none 122) [122], oO 124 (.faddr 1 10) [10], oO 125 (.faddr 1 124) [124], oO 126 (.load none 125) [125], oO 127 (.lenL 126) [126], oO 128 (.mnmx false [127,(kI 5)]) [127], oO 129 (.slsl 3 123 none (some 128) none) [123,128], oO 130 (.bld [.nils,.nils] [(1, 1, 129)]) [129], oO 11 (.alloc false [.nils,.nils]) [], oN (.store 2 11 130) [130]] (rS [oM 132 4 [], oO 133 (.load (some 2) 11) [11], oO 134 (.call 19 [132,133]) [132,133], oM 131 134 [134], oO 135 (.ext 131 0) [], oO 136 (.ext 131 1) [131], oA 12 135 [135,12], oA 13 136 [136]] (rS [oM 137 13 [13], oO 138 (.bin .eql 137 (kI 0)) [137]] (.cond 138 (rR [oM 139 6 [], oM 140 4 [], oO 141 (.call 21 [140]) [140], oM 142 4 [], oO 143 (.call 20 [142]) [142], oN (.mupd (some .i64) 139 141 143) [139,141,143]])
 .skip))))
 (rS [oO 145 (.bin .eql 48 (kI 1)) [48], oA 144 145 [145]] (.cond 144 (rR [oM 146 4 [], oO 147 (.faddr 3 10) [10], oO 148 (.load none 147) [147], oO 149 (.call 22 [146,148]) [146,148,149]])
 (rS [oM 50 5 [], oM 51 8 [], oO 52 (.call 23 [50,51]) [50,51], oM 49 52 [52], oO 53 (.ext 49 0) [], oO 54 (.ext 49 1) [49], oO 14 (.alloc false [(vI 0),(vI 0),(vI 0),vS,(vI 0),.nils,.nils]) [], oN (.store 7 14 53) [53], oA 15 54 [54]] (.seq (rS [oM 55 15 [15], oO 56 (.un .not 55) [55]] (.cond 56 (.exit 2)
 .skip))
(.seq (.seq (.dreg [⟨0, (oO 57 (.faddr 0 14) []), false, []⟩,
 ⟨1, (oO 58 (.load none 57) []), false, []⟩,
 ⟨2, (oO 59 (.bin .neq 58 (kI 3)) []), false, []⟩,
 ⟨3, (oM 60 59 []), false, []⟩,
 ⟨4, (oH 61 (.faddr 1 14) 60 []), false, []⟩,
 ⟨5, (oH 62 (.load none 61) 60 []), false, []⟩,
 ⟨6, (oH 63 (.bin .lss 62 (kI 1)) 60 []), false, []⟩,
 ⟨7, (oO 64 (.pick 60 kT 63) []), false, []⟩,
 ⟨8, (oM 65 64 []), false, []⟩,
 ⟨9, (oH 66 (.faddr 2 14) 65 []), false, []⟩,
 ⟨10, (oH 67 (.load none 66) 65 []), false, []⟩,
 ⟨11, (oH 68 (.bin .eql 67 (kI 2)) 65 []), false, []⟩,
 ⟨12, (oH 69 (.mv 5) 65 []), false, []⟩,
 ⟨13, (oH 70 (.call 24 [69]) 65 []), true, [10]⟩,
 ⟨14, (oH 71 (.call 14 [70]) 65 []), true, [10]⟩,
 ⟨15, (oH 72 (.bin .lss 71 (kI 0)) 65 []), false, []⟩,
 ⟨16, (oH 73 (.eqc false [.b] true 68 72) 65 []), false, []⟩,
 ⟨17, (oO 74 (.pick 65 kT 73) []), false, []⟩,
 ⟨18, (oM 75 74 []), false, []⟩,
 ⟨19, (oH 76 (.faddr 2 14) 75 []), false, []⟩,
 ⟨20, (oH 77 (.load none 76) 75 []), false, []⟩,
 ⟨21, (oH 78 (.bin .eql 77 (kI 3)) 75 []), false, []⟩,
 ⟨22, (oH 79 (.mv 78) 75 []), false, []⟩,
 ⟨23, (oG 80 (.faddr 4 14) 79 []), false, []⟩,
 ⟨24, (oG 81 (.load none 80) 79 []), false, []⟩,
 ⟨25, (oG 82 (.mv 5) 79 []), false, []⟩,
 ⟨26, (oG 83 (.call 24 [82]) 79 []), true, [24]⟩,
 ⟨27, (oG 84 (.call 14 [83]) 79 []), true, [24]⟩,
 ⟨28, (oG 85 (.bin .neq 81 84) 79 []), false, []⟩,
 ⟨29, (oH 86 (.pick 79 85 kF) 75 []), false, []⟩,
 ⟨30, (oO 87 (.pick 75 kT 86) []), false, []⟩] [57,58,59,60,61,62,63,64,65,66,67,68,69,70,71,72,73,74,75,76,77,78,79,80,81,82,83,84,85,86])
(.cond 87 (rS [oA 2 kF []] .ret)
 .skip))
(rS [oM 88 4 [], oO 89 (.load (some 7) 14) [14], oO 90 (.call 25 [88,89]) [88,89], oO 16 (.alloc false [(vI 0),(vI 0),(vI 0),(vI 0),(vI 0),.nils,.nils]) [], oN (.store 7 16 90) [90]] (rS [oM 91 7 [7], oO 92 (.load (some 7) 16) [], oO 93 (.bsl (.im false) 7 1 [(vI 0),(vI 0),(vI 0),(vI 0),(vI 0),.nils,.nils] [(0, 92)]) [92], oO 94 (.append (.im false) 7 88 91 93) [91,93], oA 7 94 [94]] (.seq (rS [oO 95 (.faddr 6 10) [], oO 96 (.load none 95) [95], oM 97 96 [96], oG 98 (.mv 7) 97 [], oG 99 (.lenL 98) 97 [98], oG 100 (.bin .gtr 99 (kI 1)) 97 [99], oO 101 (.pick 97 100 kF) [97,100]] (.cond 101 (rR [oM 102 5 [], oM 103 7 [], oM 104 9 [], oO 105 (.bin .mul 104 (kI 7)) [104], oM 106 7 [], oO 107 (.lenL 106) [106], oO 108 (.bin .sub 107 (kI 1)) [107], oO 109 (.bin .rem 105 108) [105,108], oO 110 (.iasl 7 103 109) [103,109], oO 111 (.load (some 7) 110) [110], oO 112 (.call 26 [102,111]) [102,111,112]])
 .skip))
(rS [oO 113 (.faddr 5 10) [10], oO 114 (.load none 113) [113], oO 115 (.un .not 114) [114]] (.cond 115 (rR [oM 116 5 [], oO 117 (.load (some 7) 16) [16], oO 118 (.call 26 [116,117]) [116,117,118]])
 .skip))))))))))))))
(rS [oM 150 5 [], oO 151 (.call 24 [150]) [150], oA 17 151 [151]] (rS [oM 153 6 [], oM 154 17 [], oO 155 (.call 14 [154]) [154], oO 156 (.lkp (some .i64) .nils 153 155 true) [153,155], oM 152 156 [156], oO 157 (.ext 152 0) [], oO 158 (.ext 152 1) [152], oA 18 157 [157], oA 19 158 [158]] (rS [oM 159 17 [], oO 160 (.call 14 [159]) [159], oO 161 (.bin .geq 160 (kI 0)) [160], oM 162 161 [161], oG 163 (.mv 19) 162 [19], oG 164 (.un .not 163) 162 [163], oG 165 (.mv 164) 162 [164], oH 166 (.mv 17) 165 [], oH 167 (.call 16 [166]) 165 [166], oH 168 (.mv 18) 165 [18], oH 169 (.call 15 [167,168]) 165 [167,168], oH 170 (.un .not 169) 165 [169], oG 171 (.pick 165 kT 170) 162 [165,170], oO 172 (.pick 162 171 kF) [162,171], oM 173 172 [172], oH 174 (.mv 17) 173 [], oH 175 (.call 14 [174]) 173 [174], oH 176 (.bin .lss 175 (kI 0)) 173 [175], oH 177 (.mv 176) 173 [176], oG 178 (.mv 17) 177 [17], oG 179 (.call 16 [178]) 177 [178], oG 180 (.lenL 179) 177 [179], oG 181 (.bin .neq 180 (kI 0)) 177 [180], oH 182 (.pick 177 181 kF) 173 [177,181], oO 183 (.pick 173 kT 182) [173,182]] (.cond 183 (rS [oA 2 kF []] .ret)
 .skip))))))))
(rR [oM 35 9 [9], oO 36 (.bin .add 35 (kI 1)) [35], oA 9 36 [36]]))))))
(rS [oA 2 kT []] .ret))))))))), [.t 2]⟩
/-- interrex/interrexlaw10.RelistEnds -/
def f5 : AFn := ⟨1, (rS [oA 2 kF [2]] (rS [oO 13 (.call 10 []) [], oA 3 13 [13]] (.seq (rS [oM 14 3 [3], oO 15 (.un .not 14) [14]] (.cond 15 (rS [oA 2 kF []] .ret)
 .skip))
(rS [oO 16 (.call 17 []) [], oO 17 (.call 18 [(kI 2)]) [], oA 4 16 [16], oA 5 17 [17]] (rS [oA 6 (kI 0) []] (.seq (rS [oA 7 (kI 0) []] (.blk 0 (.loop (.seq (rS [oM 18 7 [], oM 19 0 [], oO 20 (.lenL 19) [19], oO 21 (.bin .lss 18 20) [18,20], oM 22 21 [21], oG 23 (.mv 7) 22 [], oG 24 (.bin .lss 23 (kI 30)) 22 [23], oO 25 (.pick 22 24 kF) [22,24]] (.cond 25 .skip
 (.exit 0)))
(.seq (.blk 1 (rS [oM 28 6 [6], oO 29 (.bin .add 28 (kI 100)) [28], oA 6 29 [29]] (rS [oM 30 0 [], oM 31 7 [], oO 32 (.iasl 7 30 31) [30,31], oO 33 (.faddr 0 32) [32], oO 34 (.load none 33) [33]] (.blk 2 (rS [oO 56 (.bin .eql 34 (kI 0)) [], oA 55 56 [56]] (.cond 55 (.dreg [⟨0, (oM 57 4 []), false, []⟩,
 ⟨1, (oM 58 0 []), false, []⟩,
 ⟨2, (oM 59 7 []), false, []⟩,
 ⟨3, (oO 60 (.iasl 7 58 59) []), false, []⟩,
 ⟨4, (oO 61 (.faddr 1 60) []), false, []⟩,
 ⟨5, (oO 62 (.faddr 1 61) []), false, []⟩,
 ⟨6, (oO 63 (.load none 62) []), false, []⟩,
 ⟨7, (oM 64 0 []), false, []⟩,
 ⟨8, (oM 65 7 []), false, []⟩,
 ⟨9, (oO 66 (.iasl 7 64 65) []), false, []⟩,
 ⟨10, (oO 67 (.faddr 1 66) []), false, []⟩,
 ⟨11, (oO 68 (.faddr 1 67) []), false, []⟩,
 ⟨12, (oO 69 (.load none 68) []), false, []⟩,
 ⟨13, (oO 70 (.lenL 69) []), false, []⟩,
 ⟨14, (oO 71 (.mnmx false [70,(kI 5)]) []), false, []⟩,
 ⟨15, (oO 72 (.slsl 3 63 none (some 71) none) []), false, []⟩,
 ⟨16, (oO 73 (.bld [.nils,.nils] [(1, 1, 72)]) []), false, []⟩,
 ⟨17, (oO 74 (.call 19 [57,73]) []), true, []⟩] [57,58,59,60,61,62,63,64,65,66,67,68,69,70,71,72,73,74])
 (rS [oO 76 (.bin .eql 34 (kI 1)) [34], oA 75 76 [76]] (.cond 75 (rR [oM 77 4 [], oM 78 4 [], oO 79 (.call 21 [78]) [78], oO 80 (.call 22 [77,79]) [77,79,80]])
 (rS [oM 36 5 [], oM 37 6 [], oO 38 (.call 23 [36,37]) [36,37], oM 35 38 [38], oO 39 (.ext 35 0) [], oO 40 (.ext 35 1) [35], oO 8 (.alloc false [(vI 0),(vI 0),(vI 0),vS,(vI 0),.nils,.nils]) [], oN (.store 7 8 39) [39], oA 9 40 [40]] (rS [oM 41 9 [9], oM 42 41 [41], oG 43 (.mv 0) 42 [], oG 44 (.mv 7) 42 [], oG 45 (.iasl 7 43 44) 42 [43,44], oG 46 (.faddr 5 45) 42 [45], oG 47 (.load none 46) 42 [46], oG 48 (.un .not 47) 42 [47], oO 49 (.pick 42 48 kF) [42,48]] (.cond 49 (rR [oM 50 5 [], oM 51 4 [], oO 52 (.load (some 7) 8) [8], oO 53 (.call 25 [51,52]) [51,52], oO 54 (.call 26 [50,53]) [50,53,54]])
 .skip)))))))))))
(rR [oM 26 7 [7], oO 27 (.bin .add 26 (kI 1)) [26], oA 7 27 [27]]))))))
(rS [oM 81 6 [6], oO 82 (.bin .add 81 (kI 300)) [81], oA 6 82 [82]] (.seq (rS [oA 10 (kI 0) []] (.blk 3 (.loop (.seq (rS [oM 83 10 [], oO 84 (.bin .lss 83 (kI 2)) [83]] (.cond 84 .skip
 (.exit 3)))
(.seq (.blk 4 (rS [oM 88 5 [], oM 89 6 [], oO 90 (.call 23 [88,89]) [88,89], oM 87 90 [90], oO 91 (.ext 87 0) [], oO 92 (.ext 87 1) [87], oO 11 (.alloc false [(vI 0),(vI 0),(vI 0),vS,(vI 0),.nils,.nils]) [], oN (.store 7 11 91) [91], oA 12 92 [92]] (.seq (rS [oM 93 12 [12], oO 94 (.un .not 93) [93]] (.cond 94 (rS [oA 2 kF []] .ret)
 .skip))
(rS [oM 95 5 [], oM 96 4 [], oO 97 (.load (some 7) 11) [11], oO 98 (.call 25 [96,97]) [96,97], oO 99 (.call 26 [95,98]) [95,98,99]] (rS [oM 100 5 [], oO 101 (.call 24 [100]) [100], oO 102 (.call 14 [101]) [101], oM 103 4 [], oO 104 (.call 21 [103]) [103], oO 105 (.bin .eql 102 104) [102,104]] (.cond 105 (.exit 3)
 .skip))))))
(rR [oM 85 10 [10], oO 86 (.bin .add 85 (kI 1)) [85], oA 10 86 [86]]))))))
(rS [oM 106 5 [], oO 107 (.call 24 [106]) [106], oO 108 (.call 14 [107]) [107], oM 109 4 [], oO 110 (.call 21 [109]) [109], oO 111 (.bin .eql 108 110) [108,110], oM 112 111 [111], oG 113 (.mv 5) 112 [5], oG 114 (.call 24 [113]) 112 [113], oG 115 (.call 16 [114]) 112 [114], oG 116 (.mv 4) 112 [4], oG 117 (.call 20 [116]) 112 [116], oG 118 (.call 15 [115,117]) 112 [115,117], oO 119 (.pick 112 118 kF) [112,118], oA 2 119 [119]] .ret))))))))), [.t 2]⟩
/-- interrex/interrexlaw10.CacheAll -/
def f6 : AFn := ⟨2, (rS [oA 4 kF [4]] (rS [oO 15 (.call 10 []) [], oA 5 15 [15]] (.seq (rS [oM 16 5 [5], oO 17 (.un .not 16) [16]] (.cond 17 (rS [oA 4 kF []] .ret)
 .skip))
(rS [oO 18 (.call 11 []) [], oO 19 (.bld [(vI 0),.nils] [(0, 1, (kI (-1)))]) [], oO 20 (.box true 19) [19], oA 6 18 [18], oA 7 20 [20]] (.seq (rS [oA 8 (kI 0) []] (.blk 0 (.loop (.seq (rS [oM 21 8 [], oM 22 0 [], oO 23 (.lenL 22) [22], oO 24 (.bin .lss 21 23) [21,23], oM 25 24 [24], oG 26 (.mv 8) 25 [], oG 27 (.bin .lss 26 (kI 40)) 25 [26], oO 28 (.pick 25 27 kF) [25,27]] (.cond 28 .skip
 (.exit 0)))
(.seq (.blk 1 (rS [oM 31 0 [], oM 32 8 [], oO 33 (.iasl 5 31 32) [31,32], oO 34 (.load (some 5) 33) [33], oO 9 (.alloc false [(vI 0),(vI 0),(vI 0),.nils,.nils]) [], oN (.store 5 9 34) [34]] (.seq (.dreg [⟨0, (oO 35 (.faddr 3 9) []), false, []⟩,
 ⟨1, (oO 36 (.load none 35) []), false, []⟩,
 ⟨2, (oO 37 (.faddr 3 9) []), false, []⟩,
 ⟨3, (oO 38 (.load none 37) []), false, []⟩,
 ⟨4, (oO 39 (.lenL 38) []), false, []⟩,
 ⟨5, (oO 40 (.mnmx false [39,(kI 8)]) []), false, []⟩,
 ⟨6, (oO 41 (.slsl 3 36 none (some 40) none) []), false, []⟩,
 ⟨7, (oO 42 (.faddr 4 9) []), false, []⟩,
 ⟨8, (oO 43 (.load none 42) []), false, []⟩,
 ⟨9, (oO 44 (.faddr 4 9) []), false, []⟩,
 ⟨10, (oO 45 (.load none 44) []), false, []⟩,
 ⟨11, (oO 46 (.lenL 45) []), false, []⟩,
 ⟨12, (oO 47 (.mnmx false [46,(kI 8)]) []), false, []⟩,
 ⟨13, (oO 48 (.slsl 4 43 none (some 47) none) []), false, []⟩,
 ⟨14, (oO 49 (.faddr 3 9) []), false, []⟩,
 ⟨15, (oN (.store 1 49 41) []), true, [13]⟩,
 ⟨16, (oO 50 (.faddr 4 9) []), false, []⟩,
 ⟨17, (oN (.store 1 50 48) []), true, []⟩] [35,36,37,38,39,40,41,42,43,44,45,46,47,48,49,50])
(.seq (rS [oO 51 (.faddr 0 9) [], oO 52 (.load none 51) [51]] (.blk 2 (rS [oO 58 (.bin .eql 52 (kI 0)) [], oA 57 58 [58]] (.cond 57 (.seq (.dreg [⟨0, (oM 59 6 []), false, []⟩,
 ⟨1, (oO 60 (.faddr 2 9) []), false, []⟩,
 ⟨2, (oO 61 (.load none 60) []), false, []⟩,
 ⟨3, (oO 62 (.faddr 3 9) []), false, []⟩,
 ⟨4, (oO 63 (.load none 62) []), false, []⟩,
 ⟨6, (oM 65 7 []), false, []⟩,
 ⟨7, (oO 66 (.faddr 2 9) []), false, []⟩,
 ⟨8, (oO 67 (.load none 66) []), false, []⟩,
 ⟨9, (oO 68 (.faddr 3 9) []), false, []⟩,
 ⟨10, (oO 69 (.load none 68) []), false, []⟩,
 ⟨5, (oO 64 (.call 12 [59,61,63]) []), true, [10,8]⟩,
 ⟨11, (oO 70 (.call 27 [65,67,69]) []), true, []⟩,
 ⟨12, (oO 71 (.eqc false [.b] true 64 70) []), false, []⟩] [59,9,60,61,62,63,64,65,66,67,68,69,70])
(.cond 71 (rS [oA 4 kF []] .ret)
 .skip))
 (rS [oO 73 (.bin .eql 52 (kI 1)) [52], oA 72 73 [73]] (.cond 72 (rS [oO 74 (.faddr 1 9) [], oO 75 (.load none 74) [74], oA 10 75 [75]] (.seq (rS [oM 76 8 [], oO 77 (.bin .rem 76 (kI 2)) [76], oO 78 (.bin .eql 77 (kI 0)) [77]] (.cond 78 (rR [oM 79 7 [], oO 80 (.nilc 79) [79], oO 81 (.faddr 0 80) [80], oO 82 (.load none 81) [81], oA 10 82 [82]])
 .skip))
(.seq (.dreg [⟨0, (oM 83 6 []), false, []⟩,
 ⟨1, (oM 84 10 []), false, []⟩,
 ⟨2, (oO 85 (.faddr 2 9) []), false, []⟩,
 ⟨3, (oO 86 (.load none 85) []), false, []⟩,
 ⟨4, (oO 87 (.faddr 4 9) []), false, []⟩,
 ⟨5, (oO 88 (.load none 87) []), false, []⟩,
 ⟨7, (oM 90 7 []), false, []⟩,
 ⟨8, (oM 91 10 []), false, []⟩,
 ⟨9, (oO 92 (.faddr 2 9) []), false, []⟩,
 ⟨10, (oO 93 (.load none 92) []), false, []⟩,
 ⟨11, (oO 94 (.faddr 4 9) []), false, []⟩,
 ⟨12, (oO 95 (.load none 94) []), false, []⟩,
 ⟨6, (oO 89 (.call 13 [83,84,86,88]) []), true, [12,10]⟩,
 ⟨13, (oO 96 (.call 28 [90,91,93,95]) []), true, []⟩,
 ⟨14, (oO 97 (.eqc false [.b] true 89 96) []), false, []⟩] [83,10,84,9,85,86,87,88,89,90,91,92,93,94,95,96])
(.cond 97 (rS [oA 4 kF []] .ret)
 .skip))))
 (rS [oM 53 6 [], oO 54 (.call 29 [53]) [53,54]] (rR [oO 55 (.bld [(vI 0),.nils] [(0, 1, (kI (-1)))]) [], oO 56 (.box true 55) [55], oA 7 56 [56]]))))))))
(rS [oM 99 6 [], oM 100 1 [], oO 101 (.call 30 [99,100]) [99,100], oM 98 101 [101], oO 102 (.ext 98 0) [], oO 103 (.ext 98 1) [98], oO 11 (.alloc false [vS,(vI 0),.nils]) [], oN (.store 3 11 102) [102], oA 12 103 [103]] (rS [oM 105 7 [], oM 106 1 [], oO 107 (.call 31 [105,106]) [105,106], oM 104 107 [107], oO 108 (.ext 104 0) [], oO 109 (.ext 104 1) [104], oO 13 (.alloc false [vS,(vI 0),.nils]) [], oN (.store 3 13 108) [108], oA 14 109 [109]] (.seq (.dreg [⟨0, (oM 110 6 []), false, []⟩,
 ⟨2, (oM 112 7 []), false, []⟩,
 ⟨3, (oO 113 (.nilc 112) []), false, []⟩,
 ⟨4, (oO 114 (.faddr 0 113) []), false, []⟩,
 ⟨5, (oO 115 (.load none 114) []), false, []⟩,
 ⟨1, (oO 111 (.call 14 [110]) []), true, [5]⟩,
 ⟨6, (oO 116 (.bin .neq 111 115) []), false, []⟩,
 ⟨7, (oM 117 116 []), false, []⟩,
 ⟨8, (oH 118 (.mv 12) 117 []), false, []⟩,
 ⟨9, (oH 119 (.mv 14) 117 []), false, []⟩,
 ⟨10, (oH 120 (.eqc false [.b] true 118 119) 117 []), false, []⟩,
 ⟨11, (oO 121 (.pick 117 kT 120) []), false, []⟩,
 ⟨12, (oM 122 121 []), false, []⟩,
 ⟨13, (oH 123 (.load (some 3) 11) 122 []), false, []⟩,
 ⟨14, (oH 124 (.load (some 3) 13) 122 []), false, []⟩,
 ⟨15, (oH 125 (.call 32 [123,124]) 122 []), true, []⟩,
 ⟨16, (oH 126 (.un .not 125) 122 []), false, []⟩,
 ⟨17, (oO 127 (.pick 122 kT 126) []), false, []⟩,
 ⟨18, (oM 128 127 []), false, []⟩,
 ⟨19, (oH 129 (.mv 6) 128 []), false, []⟩,
 ⟨21, (oH 131 (.mv 7) 128 []), false, []⟩,
 ⟨22, (oH 132 (.nilc 131) 128 []), false, []⟩,
 ⟨23, (oH 133 (.faddr 1 132) 128 []), false, []⟩,
 ⟨24, (oH 134 (.load none 133) 128 []), false, []⟩,
 ⟨20, (oH 130 (.call 16 [129]) 128 []), true, [24]⟩,
 ⟨25, (oH 135 (.call 15 [130,134]) 128 []), true, []⟩,
 ⟨26, (oH 136 (.un .not 135) 128 []), false, []⟩,
 ⟨27, (oO 137 (.pick 128 kT 136) []), false, []⟩] [110,111,112,113,114,115,116,117,12,118,14,119,120,121,122,11,123,13,124,125,126,127,128,129,130,131,132,133,134,135,136])
(.cond 137 (rS [oA 4 kF []] .ret)
 .skip))))))))
(rR [oM 29 8 [8], oO 30 (.bin .add 29 (kI 1)) [29], oA 8 30 [30]]))))))
(rS [oA 4 kT []] .ret)))))), [.t 4]⟩
/-- interrex/interrexlaw10.AssumeKnown -/
def f7 : AFn := ⟨2, (rS [oO 2 (.box false 0) [0], oA 4 kF [4]] (rS [oO 11 (.call 10 []) [], oA 5 11 [11]] (.seq (rS [oM 12 5 [5], oO 13 (.un .not 12) [12]] (.cond 13 (rS [oA 4 kF []] .ret)
 .skip))
(rS [oO 14 (.faddr 14 2) [], oN (.store 1 14 (.c vS)) [14], oO 15 (.faddr 15 2) [], oN (.store 1 15 (kI 0)) [15]] (.seq (rS [oO 16 (.load (some 16) 2) [], oO 17 (.call 33 [16]) [16], oO 18 (.lenL 17) [17], oO 19 (.bin .eql 18 (kI 0)) [18]] (.cond 19 (rS [oA 4 kT []] .ret)
 .skip))
(rS [oO 20 (.call 34 []) [], oO 21 (.call 11 []) [], oA 6 20 [20], oA 7 21 [21]] (.seq (rS [oM 22 6 [], oO 23 (.faddr 0 2) [], oO 24 (.load none 23) [23], oO 25 (.bld [vS,vS,.nils] [(0, 1, 24),(1, 1, (.c (.s [110])))]) [24], oO 26 (.faddr 1 2) [], oO 27 (.load none 26) [26], oO 28 (.call 35 [22,25,27,(kI 3),(kI 1000)]) [22,25,27], oO 29 (.un .not 28) [28]] (.cond 29 (rS [oA 4 kF []] .ret)
 .skip))
(rS [oO 30 (.load (some 16) 2) [], oO 8 (.alloc false [vS,(vI 0),(vI 0),(vI 0),(vI 0),(vI 0),.nils,.nils,.nils,.nils,vS,.nils,(vI 0),.nils,vS,(vI 0)]) [], oN (.store 16 8 30) [30]] (rS [oA 9 (kI 1) []] (rS [oA 10 (.c .nils) []] (.seq (rS [oM 31 1 [], oO 32 (.bin .rem 31 (kI 4)) [31], oO 33 (.bin .add 32 (kI 4)) [32], oO 34 (.bin .rem 33 (kI 4)) [33]] (.blk 0 (rS [oO 36 (.bin .eql 34 (kI 0)) [], oA 35 36 [36]] (.cond 35 (rR [oO 37 (.faddr 14 8) [], oN (.store 1 37 (.c (.s [110]))) [37], oO 38 (.faddr 15 8) [], oN (.store 1 38 (kI 3)) [38]])
 (rS [oO 40 (.bin .eql 34 (kI 1)) [], oA 39 40 [40]] (.cond 39 (rR [oO 41 (.faddr 1 8) [], oO 42 (.load none 41) [41], oO 43 (.bin .rem 42 (kI 1000)) [42], oO 44 (.bin .add (kI 1) 43) [43], oO 45 (.faddr 1 8) [], oN (.store 1 45 44) [45,44]])
 (rS [oO 47 (.bin .eql 34 (kI 2)) [34], oA 46 47 [47]] (.cond 46 (rR [oA 9 (kI 0) []])
 .skip))))))))
(.seq (rS [oM 48 1 [], oO 49 (.bin .rem 48 (kI 4)) [48], oO 50 (.bin .add 49 (kI 4)) [49], oO 51 (.bin .rem 50 (kI 4)) [50], oO 52 (.bin .eql 51 (kI 1)) [51], oM 53 52 [52], oG 54 (.faddr 1 8) 53 [], oG 55 (.load none 54) 53 [54], oG 56 (.faddr 1 2) 53 [], oG 57 (.load none 56) 53 [56], oG 58 (.bin .eql 55 57) 53 [55,57], oO 59 (.pick 53 58 kF) [53,58]] (.cond 59 (rR [oA 9 (kI 0) []])
 .skip))
(.seq (rS [oM 60 1 [1], oO 61 (.bin .rem 60 (kI 4)) [60], oO 62 (.bin .add 61 (kI 4)) [61], oO 63 (.bin .rem 62 (kI 4)) [62], oO 64 (.bin .neq 63 (kI 3)) [63]] (.cond 64 (.dreg [⟨0, (oM 65 10 []), false, []⟩,
 ⟨1, (oO 66 (.faddr 0 2) []), false, []⟩,
 ⟨2, (oO 67 (.load none 66) []), false, []⟩,
 ⟨3, (oO 68 (.bin .add (.c (.s [112,47])) 67) []), false, []⟩,
 ⟨4, (oO 69 (.load (some 16) 8) []), false, []⟩,
 ⟨5, (oO 70 (.call 33 [69]) []), true, [2]⟩,
 ⟨6, (oO 71 (.bld [vS,(vI 0),.nils] [(0, 1, 68),(1, 1, (kI 1)),(2, 1, 70)]) []), false, []⟩,
 ⟨7, (oO 72 (.bsl (.im false) 3 1 [vS,(vI 0),.nils] [(0, 71)]) []), true, []⟩,
 ⟨8, (oO 73 (.append (.im false) 3 48 65 72) []), true, []⟩,
 ⟨9, (oA 10 73 []), true, []⟩] [65,66,67,68,8,69,70,71,72,73])
 .skip))
(rS [oM 74 7 [], oM 75 10 [10], oO 76 (.call 12 [74,(kI 5),75]) [74,75], oM 77 76 [76], oG 78 (.mv 6) 77 [], oG 79 (.mv 7) 77 [7], oG 80 (.call 36 [78,79,(kI 5),(kI 3)]) 77 [78,79], oG 81 (.mv 9) 77 [], oG 82 (.bin .eql 80 81) 77 [80,81], oO 83 (.pick 77 82 kF) [77,82], oM 84 83 [83], oG 85 (.mv 6) 84 [6], oG 86 (.faddr 0 2) 84 [2], oG 87 (.load none 86) 84 [86], oG 88 (.call 37 [85,87]) 84 [85,87], oG 89 (.mv 9) 84 [9], oG 90 (.bin .eql 89 (kI 0)) 84 [89], oG 91 (.eqc false [.b] false 88 90) 84 [88,90], oO 92 (.pick 84 91 kF) [84,91], oA 4 92 [92]] .ret)))))))))))))), [.t 4]⟩
/-- interrex/interrexlaw10.AssumeOnce -/
def f8 : AFn := ⟨5, (rS [oO 5 (.box false 0) [0], oA 10 kF [10]] (rS [oO 15 (.call 10 []) [], oA 11 15 [15]] (.seq (rS [oM 16 11 [11], oO 17 (.un .not 16) [16]] (.cond 17 (rS [oA 10 kF []] .ret)
 .skip))
(rS [oO 18 (.faddr 14 5) [], oN (.store 1 18 (.c vS)) [18], oO 19 (.faddr 15 5) [], oN (.store 1 19 (kI 0)) [19]] (rS [oO 20 (.load (some 16) 5) [], oO 21 (.call 33 [20]) [20], oA 12 21 [21]] (.seq (rS [oM 22 12 [], oO 23 (.lenL 22) [22], oO 24 (.bin .eql 23 (kI 0)) [23]] (.cond 24 (rS [oA 10 kT []] .ret)
 .skip))
(rS [oM 25 1 [1], oO 26 (.call 38 [25,(kI 5)]) [25], oO 27 (.bin .add (.c (.s [110])) 26) [26], oA 1 27 [27]] (rS [oM 28 3 [3], oO 29 (.mnmx false [28,(kI 1099511627776)]) [28], oO 30 (.mnmx true [(kI 1),29]) [29], oA 3 30 [30]] (rS [oO 31 (.call 34 []) [], oO 32 (.call 11 []) [], oA 13 31 [31], oA 14 32 [32]] (.seq (rS [oM 33 14 [], oO 34 (.faddr 0 5) [], oO 35 (.load none 34) [34], oO 36 (.bin .add (.c (.s [112,47])) 35) [35], oM 37 12 [12], oO 38 (.bld [vS,(vI 0),.nils] [(0, 1, 36),(1, 1, (kI 4)),(2, 1, 37)]) [36,37], oO 39 (.bsl (.im false) 3 1 [vS,(vI 0),.nils] [(0, 38)]) [38], oO 40 (.call 12 [33,(kI 5),39]) [33,39], oO 41 (.un .not 40) [40], oM 42 41 [41], oH 43 (.mv 13) 42 [], oH 44 (.faddr 0 5) 42 [], oH 45 (.load none 44) 42 [44], oH 46 (.mv 1) 42 [1], oH 47 (.bld [vS,vS,.nils] [(0, 1, 45),(1, 1, 46)]) 42 [45,46], oH 48 (.faddr 1 5) 42 [], oH 49 (.load none 48) 42 [48], oH 50 (.mv 2) 42 [], oH 51 (.mv 3) 42 [], oH 52 (.call 35 [43,47,49,50,51]) 42 [43,47,49,50,51], oH 53 (.un .not 52) 42 [52], oO 54 (.pick 42 kT 53) [42,53], oM 55 54 [54], oH 56 (.mv 13) 55 [], oH 57 (.faddr 0 5) 55 [], oH 58 (.load none 57) 55 [57], oH 59 (.bld [vS,vS,.nils] [(0, 1, 58),(1, 1, (.c (.s [111,116,104,101,114])))]) 55 [58], oH 60 (.faddr 1 5) 55 [], oH 61 (.load none 60) 55 [60], oH 62 (.mv 2) 55 [], oH 63 (.mv 3) 55 [], oH 64 (.bin .add 63 (kI 5)) 55 [63], oH 65 (.call 35 [56,59,61,62,64]) 55 [56,59,61,62,64], oO 66 (.pick 55 kT 65) [55,65]] (.cond 66 (rS [oA 10 kF []] .ret)
 .skip))
(.seq (rS [oM 67 13 [], oM 68 14 [], oM 69 3 [], oO 70 (.bin .sub 69 (kI 1)) [69], oM 71 2 [], oO 72 (.call 36 [67,68,70,71]) [67,68,70,71], oO 73 (.bin .neq 72 (kI 0)) [72], oM 74 73 [73], oH 75 (.mv 13) 74 [], oH 76 (.faddr 0 5) 74 [], oH 77 (.load none 76) 74 [76], oH 78 (.call 37 [75,77]) 74 [75,77], oH 79 (.un .not 78) 74 [78], oO 80 (.pick 74 kT 79) [74,79]] (.cond 80 (rS [oA 10 kF []] .ret)
 .skip))
(.seq (rS [oM 81 4 [4], oO 82 (.bin .rem 81 (kI 2)) [81], oO 83 (.bin .eql 82 (kI 0)) [82]] (.cond 83 (rS [oM 84 13 [], oM 85 14 [14], oM 86 3 [3], oM 87 2 [2], oO 88 (.call 36 [84,85,86,87]) [84,85,86,87], oO 89 (.bin .eql 88 (kI 1)) [88], oM 90 89 [89], oG 91 (.mv 13) 90 [13], oG 92 (.faddr 0 5) 90 [5], oG 93 (.load none 92) 90 [92], oG 94 (.call 37 [91,93]) 90 [91,93], oG 95 (.un .not 94) 90 [94], oO 96 (.pick 90 95 kF) [90,95], oA 10 96 [96]] .ret)
 .skip))
(rS [oM 97 13 [], oM 98 14 [14], oM 99 2 [2], oO 100 (.bin .add 99 (kI 1)) [99], oO 101 (.call 36 [97,98,(kI 0),100]) [97,98,100], oO 102 (.bin .eql 101 (kI 1)) [101], oM 103 102 [102], oG 104 (.mv 13) 103 [], oG 105 (.faddr 0 5) 103 [5], oG 106 (.load none 105) 103 [105], oG 107 (.call 37 [104,106]) 103 [104,106], oG 108 (.un .not 107) 103 [107], oO 109 (.pick 103 108 kF) [103,108], oM 110 109 [109], oG 111 (.mv 13) 110 [13], oG 112 (.call 39 [111]) 110 [111], oG 113 (.lenL 112) 110 [112], oG 114 (.bin .eql 113 (kI 0)) 110 [113], oO 115 (.pick 110 114 kF) [110,114], oA 10 115 [115]] .ret))))))))))))), [.t 10]⟩
/-- interrex/interrexlaw10.AssumeAll -/
def f9 : AFn := ⟨1, (rS [oA 2 kF [2]] (rS [oO 28 (.call 10 []) [], oA 3 28 [28]] (.seq (rS [oM 29 3 [3], oO 30 (.un .not 29) [29]] (.cond 30 (rS [oA 2 kF []] .ret)
 .skip))
(rS [oO 31 (.call 34 []) [], oA 4 31 [31]] (rS [oA 5 (.c .nils) []] (.seq (rS [oA 6 (kI 0) []] (.blk 0 (.loop (.seq (rS [oM 32 6 [], oM 33 0 [], oO 34 (.lenL 33) [33], oO 35 (.bin .lss 32 34) [32,34], oM 36 35 [35], oG 37 (.mv 6) 36 [], oG 38 (.bin .lss 37 (kI 50)) 36 [37], oO 39 (.pick 36 38 kF) [36,38]] (.cond 39 .skip
 (.exit 0)))
(.seq (.blk 1 (rS [oM 42 0 [], oM 43 6 [], oO 44 (.iasl 8 42 43) [42,43], oO 45 (.load (some 8) 44) [44], oO 7 (.alloc false [(vI 0),vS,vS,.nils,(vI 0),(vI 0),(vI 0),.nils]) [], oN (.store 8 7 45) [45]] (rS [oO 46 (.faddr 1 7) [], oO 47 (.faddr 2 46) [46], oO 48 (.load none 47) [47], oO 49 (.faddr 1 7) [], oO 50 (.faddr 2 49) [49], oO 51 (.load none 50) [50], oO 52 (.lenL 51) [51], oO 53 (.mnmx false [52,(kI 4)]) [52], oO 54 (.slsl 1 48 none (some 53) none) [48,53], oO 55 (.faddr 1 7) [], oO 56 (.faddr 2 55) [55], oN (.store 1 56 54) [56,54]] (.seq (rS [oO 57 (.faddr 0 7) [], oO 58 (.load none 57) [57]] (.blk 2 (rS [oO 62 (.bin .eql 58 (kI 0)) [], oA 61 62 [62]] (.cond 61 (rS [oA 8 kF []] (.seq (rS [oM 63 5 [], oO 64 (.lenL 63) [], oM 65 (kI 0) []] (.blk 3 (.loop (rS [oO 66 (.bin .lss 65 64) []] (.seq (.cond 66 .skip
 (.exit 3))
(.seq (.blk 4 (rS [oO 67 (.iasl 8 63 65) [], oO 68 (.load (some 8) 67) [67], oO 10 (.alloc false [(vI 0),vS,vS,.nils,(vI 0),(vI 0),(vI 0),.nils]) [], oN (.store 8 10 68) [68]] (rR [oM 69 8 [8], oM 70 69 [69], oH 71 (.faddr 1 10) 70 [10], oH 72 (.faddr 0 71) 70 [71], oH 73 (.load none 72) 70 [72], oH 74 (.faddr 1 7) 70 [], oH 75 (.faddr 0 74) 70 [74], oH 76 (.load none 75) 70 [75], oH 77 (.bin .eql 73 76) 70 [73,76], oO 78 (.pick 70 kT 77) [70,77], oA 8 78 [78]])))
(rR [oO 79 (.bin .add 65 (kI 1)) [65], oM 65 79 [79]])))))))
(rS [oM 80 8 [8], oO 81 (.un .not 80) [80], oM 82 81 [81], oG 83 (.mv 5) 82 [], oG 84 (.lenL 83) 82 [83], oG 85 (.bin .lss 84 (kI 40)) 82 [84], oO 86 (.pick 82 85 kF) [82,85], oM 87 86 [86], oG 88 (.faddr 1 7) 87 [], oG 89 (.faddr 1 88) 87 [88], oG 90 (.load none 89) 87 [89], oG 91 (.bin .neq 90 (.c vS)) 87 [90], oO 92 (.pick 87 91 kF) [87,91], oA 11 92 [92]] (.seq (rS [oM 93 4 [], oO 94 (.faddr 1 7) [], oO 95 (.load (some 3) 94) [94], oO 96 (.faddr 4 7) [], oO 97 (.load none 96) [96], oO 98 (.faddr 5 7) [], oO 99 (.load none 98) [98], oO 100 (.faddr 6 7) [], oO 101 (.load none 100) [100], oO 102 (.call 35 [93,95,97,99,101]) [93,95,97,99,101], oM 103 11 [], oO 104 (.eqc false [.b] true 102 103) [102,103]] (.cond 104 (rS [oA 2 kF []] .ret)
 .skip))
(rS [oM 105 11 [11]] (.cond 105 (rR [oM 106 5 [5], oO 107 (.load (some 8) 7) [7], oO 108 (.bsl (.im false) 8 1 [(vI 0),vS,vS,.nils,(vI 0),(vI 0),(vI 0),.nils] [(0, 107)]) [107], oO 109 (.append (.im false) 8 112 106 108) [106,108], oA 5 109 [109]])
 .skip))))))
 (rS [oO 111 (.bin .eql 58 (kI 1)) [58], oA 110 111 [111]] (.cond 110 (rS [oO 112 (.call 11 []) [], oA 12 112 [112]] (rS [oA 13 (.c .nils) []] (rS [oO 113 (.mkmap true none) [], oA 14 113 [113]] (.seq (rS [oA 15 (kI 0) []] (.blk 5 (.loop (.seq (rS [oM 114 15 [], oO 115 (.faddr 7 7) [], oO 116 (.load none 115) [115], oO 117 (.lenL 116) [116], oO 118 (.bin .lss 114 117) [114,117], oM 119 118 [118], oG 120 (.mv 15) 119 [], oG 121 (.bin .lss 120 (kI 8)) 119 [120], oO 122 (.pick 119 121 kF) [119,121]] (.cond 122 .skip
 (.exit 5)))
(.seq (.blk 6 (rS [oO 125 (.faddr 7 7) [], oO 126 (.load none 125) [125], oM 127 15 [], oO 128 (.iasl 16 126 127) [126,127], oO 129 (.load (some 16) 128) [128], oO 16 (.alloc false [vS,(vI 0),(vI 0),(vI 0),(vI 0),(vI 0),.nils,.nils,.nils,.nils,vS,.nils,(vI 0),.nils,vS,(vI 0)]) [], oN (.store 16 16 129) [129]] (rS [oO 130 (.load (some 16) 16) [], oO 131 (.call 33 [130]) [130], oA 17 131 [131]] (rS [oM 132 17 [], oO 133 (.lenL 132) [132], oO 134 (.bin .gtr 133 (kI 0)) [133], oM 135 134 [134], oG 136 (.mv 14) 135 [], oG 137 (.faddr 0 16) 135 [], oG 138 (.load none 137) 135 [137], oG 139 (.lkp none (.agg [vS,(vI 0),(vI 0),(vI 0),(vI 0),(vI 0),.nils,.nils,.nils,.nils,vS,.nils,(vI 0),.nils,vS,(vI 0)]) 136 138 false) 135 [136,138], oG 140 (.fld 1 none 139) 135 [139], oG 141 (.bin .eql 140 (kI 0)) 135 [140], oO 142 (.pick 135 141 kF) [135,141]] (.cond 142 (rS [oM 143 14 [], oO 144 (.faddr 0 16) [], oO 145 (.load none 144) [144], oO 146 (.load (some 16) 16) [], oN (.mupd none 143 145 146) [143,145,146]] (rR [oM 147 13 [13], oO 148 (.faddr 0 16) [16], oO 149 (.load none 148) [148], oO 150 (.bin .add (.c (.s [112,47])) 149) [149], oM 151 17 [17], oO 152 (.bld [vS,(vI 0),.nils] [(0, 1, 150),(1, 1, (kI 1)),(2, 1, 151)]) [150,151], oO 153 (.bsl (.im false) 3 1 [vS,(vI 0),.nils] [(0, 152)]) [152], oO 154 (.append (.im false) 3 48 147 153) [147,153], oA 13 154 [154]]))
 .skip)))))
(rR [oM 123 15 [15], oO 124 (.bin .add 123 (kI 1)) [123], oA 15 124 [124]]))))))
(.seq (rS [oM 155 12 [], oM 156 13 [13], oO 157 (.call 12 [155,(kI 9),156]) [155,156], oO 158 (.un .not 157) [157]] (.cond 158 (rS [oA 2 kF []] .ret)
 .skip))
(rS [oA 18 (.c .nils) []] (.seq (rS [oM 159 5 [], oO 160 (.lenL 159) [], oM 161 (kI 0) []] (.blk 7 (.loop (rS [oO 162 (.bin .lss 161 160) []] (.seq (.cond 162 .skip
 (.exit 7))
(.seq (.blk 8 (rS [oO 163 (.iasl 8 159 161) [], oO 164 (.load (some 8) 163) [163], oO 20 (.alloc false [(vI 0),vS,vS,.nils,(vI 0),(vI 0),(vI 0),.nils]) [], oN (.store 8 20 164) [164]] (rS [oM 166 14 [], oO 167 (.faddr 1 20) [], oO 168 (.faddr 0 167) [167], oO 169 (.load none 168) [168], oO 170 (.lkp none (.agg [vS,(vI 0),(vI 0),(vI 0),(vI 0),(vI 0),.nils,.nils,.nils,.nils,vS,.nils,(vI 0),.nils,vS,(vI 0)]) 166 169 true) [166,169], oM 165 170 [170], oO 171 (.ext 165 0) [], oO 172 (.ext 165 1) [165], oO 21 (.alloc false [vS,(vI 0),(vI 0),(vI 0),(vI 0),(vI 0),.nils,.nils,.nils,.nils,vS,.nils,(vI 0),.nils,vS,(vI 0)]) [], oN (.store 16 21 171) [171], oA 22 172 [172]] (rS [oO 173 (.faddr 5 20) [], oO 174 (.load none 173) [173], oO 175 (.faddr 5 7) [], oO 176 (.load none 175) [175], oO 177 (.bin .eql 174 176) [174,176], oM 178 177 [177], oG 179 (.faddr 6 7) 178 [], oG 180 (.load none 179) 178 [179], oG 181 (.faddr 6 20) 178 [], oG 182 (.load none 181) 178 [181], oG 183 (.bin .lss 180 182) 178 [180,182], oO 184 (.pick 178 183 kF) [178,183], oM 185 184 [184], oG 186 (.mv 22) 185 [22], oO 187 (.pick 185 186 kF) [185,186], oM 188 187 [187], oG 189 (.faddr 1 21) 188 [], oG 190 (.load none 189) 188 [189], oG 191 (.faddr 4 20) 188 [], oG 192 (.load none 191) 188 [191], oG 193 (.bin .eql 190 192) 188 [190,192], oO 194 (.pick 188 193 kF) [188,193], oM 195 194 [194], oG 196 (.faddr 14 21) 195 [21], oG 197 (.load none 196) 195 [196], oG 198 (.bin .eql 197 (.c vS)) 195 [197], oO 199 (.pick 195 198 kF) [195,198]] (.cond 199 (rR [oM 200 18 [18], oO 201 (.load (some 8) 20) [20], oO 202 (.bsl (.im false) 8 1 [(vI 0),vS,vS,.nils,(vI 0),(vI 0),(vI 0),.nils] [(0, 201)]) [201], oO 203 (.append (.im false) 8 112 200 202) [200,202], oA 18 203 [203]])
 .skip)))))
(rR [oO 204 (.bin .add 161 (kI 1)) [161], oM 161 204 [204]])))))))
(.seq (rS [oM 205 4 [], oM 206 12 [12], oO 207 (.faddr 6 7) [], oO 208 (.load none 207) [207], oO 209 (.faddr 5 7) [7], oO 210 (.load none 209) [209], oO 211 (.call 36 [205,206,208,210]) [205,206,208,210], oM 212 5 [5], oO 213 (.lenL 212) [212], oM 214 18 [], oO 215 (.lenL 214) [214], oO 216 (.bin .sub 213 215) [213,215], oO 217 (.bin .neq 211 216) [211,216]] (.cond 217 (rS [oA 2 kF []] .ret)
 .skip))
(rR [oM 218 18 [18], oA 5 218 [218]])))))))))
 (rS [oM 59 4 [], oO 60 (.call 40 [59]) [59,60]] (rR [oA 5 (.c .nils) []]))))))))
(rS [oM 219 4 [], oO 220 (.call 39 [219]) [219], oA 23 220 [220]] (.seq (rS [oM 221 23 [], oO 222 (.lenL 221) [221], oM 223 5 [], oO 224 (.lenL 223) [223], oO 225 (.bin .neq 222 224) [222,224]] (.cond 225 (rS [oA 2 kF []] .ret)
 .skip))
(rS [oM 226 23 [], oO 227 (.lenL 226) [226], oM 228 (kI 0) []] (.blk 9 (.loop (rS [oO 229 (.bin .lss 228 227) []] (.seq (.cond 229 .skip
 (.exit 9))
(.seq (.blk 10 (rS [oM 230 228 [], oA 24 230 [230]] (.seq (.dreg [⟨0, (oM 231 23 []), false, []⟩,
 ⟨1, (oM 232 24 []), false, []⟩,
 ⟨2, (oO 233 (.iasl 3 231 232) []), false, []⟩,
 ⟨3, (oO 234 (.load (some 3) 233) []), false, []⟩,
 ⟨4, (oM 235 5 []), false, []⟩,
 ⟨5, (oM 236 24 []), false, []⟩,
 ⟨6, (oO 237 (.iasl 8 235 236) []), false, []⟩,
 ⟨7, (oO 238 (.faddr 1 237) []), false, []⟩,
 ⟨8, (oO 239 (.load (some 3) 238) []), false, []⟩,
 ⟨9, (oO 240 (.call 41 [234,239]) []), true, []⟩,
 ⟨10, (oO 241 (.un .not 240) []), false, []⟩,
 ⟨11, (oM 242 241 []), false, []⟩,
 ⟨12, (oH 243 (.mv 4) 242 []), false, []⟩,
 ⟨13, (oH 244 (.mv 5) 242 []), false, []⟩,
 ⟨14, (oH 245 (.mv 24) 242 []), false, []⟩,
 ⟨15, (oH 246 (.iasl 8 244 245) 242 []), false, []⟩,
 ⟨16, (oH 247 (.faddr 1 246) 242 []), false, []⟩,
 ⟨17, (oH 248 (.faddr 0 247) 242 []), false, []⟩,
 ⟨18, (oH 249 (.load none 248) 242 []), false, []⟩,
 ⟨19, (oH 250 (.call 37 [243,249]) 242 []), true, []⟩,
 ⟨20, (oH 251 (.un .not 250) 242 []), false, []⟩,
 ⟨21, (oO 252 (.pick 242 kT 251) []), false, []⟩] [231,24,232,233,234,235,236,237,238,239,240,241,242,243,244,245,246,247,248,249,250,251])
(.cond 252 (rS [oA 2 kF []] .ret)
 .skip))))
(rR [oO 253 (.bin .add 228 (kI 1)) [228], oM 228 253 [253]])))))))))))))
(rR [oM 40 6 [6], oO 41 (.bin .add 40 (kI 1)) [40], oA 6 41 [41]]))))))
(rS [oA 25 kF []] (.seq (rS [oM 254 5 [5], oO 255 (.lenL 254) [], oM 256 (kI 0) []] (.blk 11 (.loop (rS [oO 257 (.bin .lss 256 255) []] (.seq (.cond 257 .skip
 (.exit 11))
(.seq (.blk 12 (rS [oO 258 (.iasl 8 254 256) [], oO 259 (.load (some 8) 258) [258], oO 27 (.alloc false [(vI 0),vS,vS,.nils,(vI 0),(vI 0),(vI 0),.nils]) [], oN (.store 8 27 259) [259]] (rR [oM 260 25 [25], oM 261 260 [260], oH 262 (.faddr 1 27) 261 [27], oH 263 (.faddr 0 262) 261 [262], oH 264 (.load none 263) 261 [263], oH 265 (.bin .eql 264 (.c (.s [110,111,98,111,100,121,45,97,116,45,97,108,108]))) 261 [264], oO 266 (.pick 261 kT 265) [261,265], oA 25 266 [266]])))
(rR [oO 267 (.bin .add 256 (kI 1)) [256], oM 256 267 [267]])))))))
(rS [oM 268 4 [4], oO 269 (.call 37 [268,(.c (.s [110,111,98,111,100,121,45,97,116,45,97,108,108]))]) [268], oM 270 25 [25], oO 271 (.eqc false [.b] false 269 270) [269,270], oA 2 271 [271]] .ret))))))))), [.t 2]⟩
/-- interrex/interrexlaw10.begun -/
def f10 : AFn := ⟨0, (rS [oA 0 kF [0]] (rS [oO 17 (.call 42 [(kI 2)]) [], oO 18 (.call 43 [(kI 3)]) [], oO 19 (.call 11 []) [], oO 20 (.call 18 [(kI 1)]) [], oO 21 (.call 34 []) [], oO 22 (.call 44 [(kI 1)]) [], oA 1 17 [17], oA 2 18 [18], oA 3 19 [19], oA 4 20 [20], oA 5 21 [21], oA 6 22 [22]] (.seq (rS [oM 23 1 [], oO 24 (.eqn false 23 (.c .nilp)) [23], oM 25 24 [24], oH 26 (.mv 2) 25 [], oH 27 (.eqn false 26 (.c .nilp)) 25 [26], oO 28 (.pick 25 kT 27) [25,27], oM 29 28 [28], oH 30 (.mv 3) 29 [], oH 31 (.eqn false 30 (.c .nilp)) 29 [30], oO 32 (.pick 29 kT 31) [29,31], oM 33 32 [32], oH 34 (.mv 4) 33 [], oH 35 (.eqn false 34 (.c .nilp)) 33 [34], oO 36 (.pick 33 kT 35) [33,35], oM 37 36 [36], oH 38 (.mv 5) 37 [], oH 39 (.eqn false 38 (.c .nilp)) 37 [38], oO 40 (.pick 37 kT 39) [37,39], oM 41 40 [40], oH 42 (.mv 6) 41 [], oH 43 (.eqn false 42 (.c .nilp)) 41 [42], oO 44 (.pick 41 kT 43) [41,43]] (.cond 44 (rS [oA 0 kF []] .ret)
 .skip))
(rS [oM 45 1 [], oO 46 (.bsl (.im false) 1 2 [(vI 0)] [(0, (kI 5)),(1, (kI 9))]) [], oO 47 (.call 45 [45,46]) [45,46], oA 7 47 [47]] (rS [oM 48 2 [], oO 49 (.bsl (.im false) 1 1 [(.i .u8 0)] [(0, (.c (.i .u8 120)))]) [], oO 50 (.mkb 49) [49], oO 51 (.bld [(.b false),(vI 0),.nils] [(1, 1, (kI 1)),(2, 1, 50)]) [50], oO 52 (.call 46 [48,51]) [48,51], oA 8 52 [52]] (rS [oM 54 4 [], oO 55 (.call 23 [54,(kI 0)]) [54], oM 53 55 [55], oO 56 (.ext 53 0) [], oO 57 (.ext 53 1) [53], oO 9 (.alloc false [(vI 0),(vI 0),(vI 0),vS,(vI 0),.nils,.nils]) [], oN (.store 7 9 56) [56], oA 10 57 [57]] (.seq (.dreg [⟨0, (oM 58 4 []), false, []⟩,
 ⟨1, (oO 59 (.faddr 1 9) []), false, []⟩,
 ⟨2, (oO 60 (.load none 59) []), false, []⟩,
 ⟨3, (oO 61 (.bld [(vI 0),(vI 0)] [(0, 1, (kI 1)),(1, 1, (kI 1000))]) []), false, []⟩,
 ⟨4, (oO 62 (.call 47 [61]) []), true, [2]⟩,
 ⟨5, (oO 63 (.bld [vS,(vI 0),.nils] [(0, 1, (.c (.s [108]))),(1, 1, (kI 2)),(2, 1, 62)]) []), false, []⟩,
 ⟨6, (oO 64 (.bsl (.im false) 3 1 [vS,(vI 0),.nils] [(0, 63)]) []), true, [2]⟩,
 ⟨7, (oO 65 (.bld [(vI 0),(vI 0),(vI 0),(vI 0),(vI 0),.nils,.nils] [(0, 1, (kI 1)),(1, 1, 60),(2, 1, (kI 2)),(4, 1, (kI 4)),(5, 1, 64)]) []), false, []⟩,
 ⟨8, (oO 66 (.call 26 [58,65]) []), true, []⟩,
 ⟨9, (oA 11 66 []), false, []⟩] [58,59,60,61,62,63,64,65,66])
(rS [oM 67 5 [], oO 68 (.bld [vS,vS,.nils] [(0, 1, (.c (.s [97]))),(1, 1, (.c (.s [110])))]) [], oO 69 (.call 35 [67,68,(kI 7),(kI 3),(kI 100)]) [67,68], oA 12 69 [69]] (rS [oM 70 6 [], oO 71 (.bld [(vI 0),(vI 0)] []) [], oO 72 (.call 48 [70,(kI 0),(kI 0),71,kF]) [70,71,72]] (rS [oM 74 6 [], oO 75 (.call 49 [74,(kI 10)]) [74], oM 73 75 [75], oO 76 (.ext 73 0) [], oO 77 (.ext 73 1) [73], oO 13 (.alloc false [.nils,.nils]) [], oN (.store 2 13 76) [76], oA 14 77 [77]] (rS [oM 78 6 [], oO 79 (.call 50 [78,(kI 20),(kI 6),(kI 0)]) [78,79]] (rS [oO 81 (.call 52 []) [], oO 82 (.call 33 [81]) [81], oO 83 (.bld [vS,(vI 0),.nils] [(0, 1, (.c (.s [112,47,97]))),(1, 1, (kI 1)),(2, 1, 82)]) [82], oO 84 (.bsl (.im false) 3 1 [vS,(vI 0),.nils] [(0, 83)]) [83], oO 85 (.call 51 [84]) [84], oM 80 85 [85], oO 86 (.ext 80 0) [], oO 87 (.ext 80 1) [80], oO 15 (.alloc false [.nils,.nils]) [], oN (.store 2 15 86) [86], oA 16 87 [87]] (rS [oO 88 (.call 53 []) [], oM 89 88 [88], oG 90 (.mv 7) 89 [7], oO 91 (.pick 89 90 kF) [89,90], oM 92 91 [91], oG 93 (.mv 1) 92 [], oG 94 (.call 54 [93,(kI 1)]) 92 [93], oG 95 (.bin .eql 94 (kI 9)) 92 [94], oO 96 (.pick 92 95 kF) [92,95], oM 97 96 [96], oG 98 (.mv 1) 97 [1], oG 99 (.call 55 [98]) 97 [98], oG 100 (.bin .eql 99 (kI 4)) 97 [99], oO 101 (.pick 97 100 kF) [97,100], oM 102 101 [101], oG 103 (.mv 8) 102 [8], oO 104 (.pick 102 103 kF) [102,103], oM 105 104 [104], oG 106 (.mv 2) 105 [2], oG 107 (.call 56 [106]) 105 [106], oG 108 (.bin .eql 107 (kI 1)) 105 [107], oO 109 (.pick 105 108 kF) [105,108], oM 110 109 [109], oG 111 (.mv 10) 110 [10], oO 112 (.pick 110 111 kF) [110,111], oM 113 112 [112], oG 114 (.faddr 2 9) 113 [9], oG 115 (.load none 114) 113 [114], oG 116 (.bin .eql 115 (kI 2)) 113 [115], oO 117 (.pick 113 116 kF) [113,116], oM 118 117 [117], oG 119 (.mv 11) 118 [11], oO 120 (.pick 118 119 kF) [118,119], oM 121 120 [120], oG 122 (.mv 4) 121 [], oG 123 (.call 24 [122]) 121 [122], oG 124 (.call 14 [123]) 121 [123], oG 125 (.bin .eql 124 (kI 4)) 121 [124], oO 126 (.pick 121 125 kF) [121,125], oM 127 126 [126], oG 128 (.mv 4) 127 [4], oG 129 (.call 57 [128]) 127 [128], oG 130 (.bin .eql 129 (kI 1)) 127 [129], oO 131 (.pick 127 130 kF) [127,130], oM 132 131 [131], oG 133 (.mv 12) 132 [12], oO 134 (.pick 132 133 kF) [132,133], oM 135 134 [134], oG 136 (.mv 5) 135 [5], oG 137 (.call 37 [136,(.c (.s [97]))]) 135 [136], oO 138 (.pick 135 137 kF) [135,137], oM 139 138 [138], oG 140 (.mv 14) 139 [14], oO 141 (.pick 139 140 kF) [139,140], oM 142 141 [141], oG 143 (.faddr 1 13) 142 [13], oG 144 (.load none 143) 142 [143], oG 145 (.lenL 144) 142 [144], oG 146 (.bin .eql 145 (kI 1)) 142 [145], oO 147 (.pick 142 146 kF) [142,146], oM 148 147 [147], oG 149 (.mv 6) 148 [], oG 150 (.call 58 [149,(kI 20)]) 148 [149], oO 151 (.pick 148 150 kF) [148,150], oM 152 151 [151], oG 153 (.mv 6) 152 [6], oG 154 (.call 59 [153]) 152 [153], oG 155 (.bin .eql 154 (kI 6)) 152 [154], oO 156 (.pick 152 155 kF) [152,155], oM 157 156 [156], oG 158 (.call 60 [(kI 0)]) 157 [], oG 159 (.bin .eql 158 (kI 900)) 157 [158], oO 160 (.pick 157 159 kF) [157,159], oM 161 160 [160], oG 162 (.mv 16) 161 [16], oO 163 (.pick 161 162 kF) [161,162], oM 164 163 [163], oG 165 (.faddr 1 15) 164 [15], oG 166 (.load none 165) 164 [165], oG 167 (.lenL 166) 164 [166], oG 168 (.bin .eql 167 (kI 1)) 164 [167], oO 169 (.pick 164 168 kF) [164,168], oM 170 169 [169], oG 171 (.mv 3) 170 [3], oG 172 (.call 14 [171]) 170 [171], oG 173 (.bin .eql 172 (kI (-1))) 170 [172], oO 174 (.pick 170 173 kF) [170,173], oA 0 174 [174]] .ret))))))))))))), [.t 0]⟩
/-- interrex/cache.New -/
def f11 : AFn := ⟨0, (rS [oA 0 (.c .nilp) [0]] (rS [oO 1 (.bld [.nilm,(vI 0)] [(1, 1, (kI (-1)))]) [], oO 2 (.box true 1) [1], oA 0 2 [2]] .ret)), [.t 0]⟩
/-- ( interrex/cache.Cache).List -/
def f12 : AFn := ⟨3, (rS [oA 6 kF [6]] (.seq (rS [oM 12 0 [], oO 13 (.eqn false 12 (.c .nilp)) [12], oM 14 13 [13], oH 15 (.mv 1) 14 [], oH 16 (.bin .lss 15 (kI 0)) 14 [15], oO 17 (.pick 14 kT 16) [14,16]] (.cond 17 (rS [oA 6 kF []] .ret)
 .skip))
(rS [oO 18 (.mkmap true none) [], oA 7 18 [18]] (.seq (rS [oM 19 2 [2], oO 20 (.lenL 19) [], oM 21 (kI 0) []] (.blk 0 (.loop (rS [oO 22 (.bin .lss 21 20) []] (.seq (.cond 22 .skip
 (.exit 0))
(.seq (.blk 1 (rS [oO 23 (.iasl 3 19 21) [], oO 24 (.load (some 3) 23) [23], oO 9 (.alloc false [vS,(vI 0),.nils]) [], oN (.store 3 9 24) [24]] (.seq (rS [oM 26 7 [], oO 27 (.faddr 0 9) [], oO 28 (.load none 27) [27], oO 29 (.lkp none (.agg [vS,(vI 0),.nils]) 26 28 true) [26,28], oM 25 29 [29], oO 30 (.ext 25 0) [], oO 31 (.ext 25 1) [25], oO 10 (.alloc false [vS,(vI 0),.nils]) [], oN (.store 3 10 30) [10,30], oA 11 31 [31]] (rS [oM 32 11 [11], oM 33 32 [32], oH 34 (.faddr 0 9) 33 [], oH 35 (.load none 34) 33 [34], oH 36 (.bin .eql 35 (.c vS)) 33 [35], oO 37 (.pick 33 kT 36) [33,36], oM 38 37 [37], oH 39 (.faddr 1 9) 38 [], oH 40 (.load none 39) 38 [39], oH 41 (.bin .lss 40 (kI 1)) 38 [40], oO 42 (.pick 38 kT 41) [38,41], oM 43 42 [42], oH 44 (.faddr 1 9) 43 [], oH 45 (.load none 44) 43 [44], oH 46 (.mv 1) 43 [], oH 47 (.bin .gtr 45 46) 43 [45,46], oO 48 (.pick 43 kT 47) [43,47]] (.cond 48 (rS [oA 6 kF []] .ret)
 .skip)))
(.dreg [⟨0, (oM 49 7 []), false, []⟩,
 ⟨1, (oO 50 (.faddr 0 9) []), false, []⟩,
 ⟨2, (oO 51 (.load none 50) []), false, []⟩,
 ⟨3, (oO 52 (.load (some 3) 9) []), false, []⟩,
 ⟨4, (oO 53 (.call 61 [52]) []), true, [2]⟩,
 ⟨5, (oN (.mupd none 49 51 53) []), true, []⟩] [49,9,50,51,52,53]))))
(rR [oO 54 (.bin .add 21 (kI 1)) [21], oM 21 54 [54]])))))))
(rS [oM 55 0 [], oM 56 0 [0], oM 57 7 [7], oM 58 1 [1], oO 59 (.nilc 55) [55], oO 60 (.faddr 0 59) [59], oN (.store 1 60 57) [60,57], oO 61 (.nilc 56) [56], oO 62 (.faddr 1 61) [61], oN (.store 1 62 58) [62,58]] (rS [oA 6 kT []] .ret)))))), [.t 6]⟩
/-- ( interrex/cache.Cache).Apply -/
def f13 : AFn := ⟨4, (rS [oA 8 kF [8]] (.seq (rS [oM 14 0 [], oO 15 (.eqn false 14 (.c .nilp)) [14], oM 16 15 [15], oH 17 (.mv 0) 16 [], oH 18 (.nilc 17) 16 [17], oH 19 (.faddr 1 18) 16 [18], oH 20 (.load none 19) 16 [19], oH 21 (.bin .lss 20 (kI 0)) 16 [20], oO 22 (.pick 16 kT 21) [16,21], oM 23 22 [22], oH 24 (.mv 0) 23 [], oH 25 (.nilc 24) 23 [24], oH 26 (.faddr 1 25) 23 [25], oH 27 (.load none 26) 23 [26], oH 28 (.mv 1) 23 [], oH 29 (.bin .neq 27 28) 23 [27,28], oO 30 (.pick 23 kT 29) [23,29], oM 31 30 [30], oH 32 (.mv 2) 31 [], oH 33 (.mv 1) 31 [], oH 34 (.bin .lss 32 33) 31 [32,33], oO 35 (.pick 31 kT 34) [31,34]] (.cond 35 (rS [oA 8 kF []] .ret)
 .skip))
(rS [oM 36 1 [], oA 9 36 [36]] (.seq (rS [oM 37 3 [], oO 38 (.lenL 37) [], oM 39 (kI 0) []] (.blk 0 (.loop (rS [oO 40 (.bin .lss 39 38) []] (.seq (.cond 40 .skip
 (.exit 0))
(.seq (.blk 1 (rS [oO 41 (.iasl 4 37 39) [], oO 42 (.load (some 4) 41) [41], oO 11 (.alloc false [(vI 0),vS,.nils,(.b false)]) [], oN (.store 4 11 42) [42]] (.seq (rS [oO 43 (.faddr 0 11) [], oO 44 (.load none 43) [43], oM 45 9 [9], oO 46 (.bin .lss 44 45) [44,45], oM 47 46 [46], oH 48 (.faddr 0 11) 47 [], oH 49 (.load none 48) 47 [48], oH 50 (.mv 1) 47 [], oH 51 (.bin .leq 49 50) 47 [49,50], oO 52 (.pick 47 kT 51) [47,51], oM 53 52 [52], oH 54 (.faddr 0 11) 53 [], oH 55 (.load none 54) 53 [54], oH 56 (.mv 2) 53 [], oH 57 (.bin .gtr 55 56) 53 [55,56], oO 58 (.pick 53 kT 57) [53,57]] (.cond 58 (rS [oA 8 kF []] .ret)
 .skip))
(rR [oO 59 (.faddr 0 11) [11], oO 60 (.load none 59) [59], oA 9 60 [60]]))))
(rR [oO 61 (.bin .add 39 (kI 1)) [39], oM 39 61 [61]])))))))
(.seq (rS [oM 62 3 [3], oO 63 (.lenL 62) [], oM 64 (kI 0) []] (.blk 2 (.loop (rS [oO 65 (.bin .lss 64 63) []] (.seq (.cond 65 .skip
 (.exit 2))
(.seq (.blk 3 (rS [oO 66 (.iasl 4 62 64) [], oO 67 (.load (some 4) 66) [66], oO 13 (.alloc false [(vI 0),vS,.nils,(.b false)]) [], oN (.store 4 13 67) [67]] (rS [oO 68 (.faddr 3 13) [], oO 69 (.load none 68) [68]] (.cond 69 (.dreg [⟨0, (oM 70 0 []), false, []⟩,
 ⟨1, (oO 71 (.nilc 70) []), false, []⟩,
 ⟨2, (oO 72 (.faddr 0 71) []), false, []⟩,
 ⟨3, (oO 73 (.load none 72) []), false, []⟩,
 ⟨4, (oO 74 (.faddr 1 13) []), false, []⟩,
 ⟨5, (oO 75 (.load none 74) []), false, []⟩,
 ⟨6, (oN (.delete none 73 75) []), true, []⟩] [70,71,72,73,13,74,75])
 (.dreg [⟨0, (oM 76 0 []), false, []⟩,
 ⟨1, (oO 77 (.nilc 76) []), false, []⟩,
 ⟨2, (oO 78 (.faddr 0 77) []), false, []⟩,
 ⟨3, (oO 79 (.load none 78) []), false, []⟩,
 ⟨4, (oO 80 (.faddr 1 13) []), false, []⟩,
 ⟨5, (oO 81 (.load none 80) []), false, []⟩,
 ⟨6, (oO 82 (.faddr 1 13) []), false, []⟩,
 ⟨7, (oO 83 (.load none 82) []), false, []⟩,
 ⟨8, (oO 84 (.faddr 0 13) []), false, []⟩,
 ⟨9, (oO 85 (.load none 84) []), false, []⟩,
 ⟨10, (oO 86 (.faddr 2 13) []), false, []⟩,
 ⟨11, (oO 87 (.load none 86) []), false, []⟩,
 ⟨12, (oO 88 (.bld [vS,(vI 0),.nils] [(0, 1, 83),(1, 1, 85),(2, 1, 87)]) []), false, []⟩,
 ⟨13, (oO 89 (.call 61 [88]) []), true, [5,3]⟩,
 ⟨14, (oN (.mupd none 79 81 89) []), true, []⟩] [76,77,78,79,13,80,81,82,83,84,85,86,87,88,89])))))
(rR [oO 90 (.bin .add 64 (kI 1)) [64], oM 64 90 [90]])))))))
(rS [oM 91 0 [0], oM 92 2 [2], oO 93 (.nilc 91) [91], oO 94 (.faddr 1 93) [93], oN (.store 1 94 92) [94,92]] (rS [oA 8 kT []] .ret))))))), [.t 8]⟩
/-- ( interrex/cache.Cache).Rev -/
def f14 : AFn := ⟨1, (rS [oA 2 (kI 0) [2]] (.seq (rS [oM 3 0 [], oO 4 (.eqn false 3 (.c .nilp)) [3]] (.cond 4 (rS [oA 2 (kI (-1)) []] .ret)
 .skip))
(rS [oM 5 0 [0], oO 6 (.nilc 5) [5], oO 7 (.faddr 1 6) [6], oO 8 (.load none 7) [7], oA 2 8 [8]] .ret))), [.t 2]⟩
/-- interrex/interrexref1.EqEntries -/
def f15 : AFn := ⟨2, (rS [oA 4 kF [4]] (.seq (rS [oM 6 0 [], oO 7 (.lenL 6) [6], oM 8 1 [], oO 9 (.lenL 8) [8], oO 10 (.bin .neq 7 9) [7,9]] (.cond 10 (rS [oA 4 kF []] .ret)
 .skip))
(.seq (rS [oM 11 0 [], oO 12 (.lenL 11) [11], oM 13 (kI 0) []] (.blk 0 (.loop (rS [oO 14 (.bin .lss 13 12) []] (.seq (.cond 14 .skip
 (.exit 0))
(.seq (.blk 1 (rS [oM 15 13 [], oA 5 15 [15]] (.seq (.dreg [⟨0, (oM 16 0 []), false, []⟩,
 ⟨1, (oM 17 5 []), false, []⟩,
 ⟨2, (oO 18 (.iasl 3 16 17) []), false, []⟩,
 ⟨3, (oO 19 (.load (some 3) 18) []), false, []⟩,
 ⟨4, (oM 20 1 []), false, []⟩,
 ⟨5, (oM 21 5 []), false, []⟩,
 ⟨6, (oO 22 (.iasl 3 20 21) []), false, []⟩,
 ⟨7, (oO 23 (.load (some 3) 22) []), false, []⟩,
 ⟨8, (oO 24 (.call 32 [19,23]) []), true, []⟩,
 ⟨9, (oO 25 (.un .not 24) []), false, []⟩] [16,5,17,18,19,20,21,22,23,24])
(.cond 25 (rS [oA 4 kF []] .ret)
 .skip))))
(rR [oO 26 (.bin .add 13 (kI 1)) [13], oM 13 26 [26]])))))))
(rS [oA 4 kT []] .ret)))), [.t 4]⟩
/-- ( interrex/cache.Cache).All -/
def f16 : AFn := ⟨1, (rS [oA 2 (.c .nils) [2]] (.seq (rS [oM 6 0 [], oO 7 (.eqn false 6 (.c .nilp)) [6]] (.cond 7 (rS [oA 2 (.c .nils) []] .ret)
 .skip))
(rS [oA 3 (.c .nils) []] (.seq (rS [oM 8 0 [], oO 9 (.nilc 8) [8], oO 10 (.faddr 0 9) [9], oO 11 (.load none 10) [10], oO 12 (.call 63 [11]) [11], oO 13 (.call 62 [12]) [12], oO 14 (.lenL 13) [], oM 15 (kI 0) []] (.blk 0 (.loop (rS [oO 16 (.bin .lss 15 14) []] (.seq (.cond 16 .skip
 (.exit 0))
(.seq (.blk 1 (rS [oO 17 (.iasl 1 13 15) [], oO 18 (.load none 17) [17], oA 5 18 [18]] (rR [oM 19 3 [3], oM 20 0 [], oO 21 (.nilc 20) [20], oO 22 (.faddr 0 21) [21], oO 23 (.load none 22) [22], oM 24 5 [5], oO 25 (.lkp none (.agg [vS,(vI 0),.nils]) 23 24 false) [23,24], oO 26 (.call 61 [25]) [25], oO 27 (.bsl (.im false) 3 1 [vS,(vI 0),.nils] [(0, 26)]) [26], oO 28 (.append (.im false) 3 48 19 27) [19,27], oA 3 28 [28]])))
(rR [oO 29 (.bin .add 15 (kI 1)) [15], oM 15 29 [29]])))))))
(rS [oM 30 3 [3], oA 2 30 [30]] .ret))))), [.t 2]⟩
/-- interrex/store.New -/
def f17 : AFn := ⟨0, (rS [oA 0 (.c .nilp) [0]] (rS [oO 1 (.mkmap true none) [], oO 2 (.mkmap true none) [], oO 3 (.call 64 [(kI 64)]) [], oO 4 (.bld [(vI 0),.nilm,.nilm,.nilp,(vI 0),(vI 0)] [(1, 1, 1),(2, 1, 2),(3, 1, 3)]) [1,2,3], oO 5 (.box true 4) [4], oA 0 5 [5]] .ret)), [.t 0]⟩
/-- interrex/relist.New -/
def f18 : AFn := ⟨1, (rS [oA 2 (.c .nilp) [2]] (.seq (rS [oM 3 0 [], oO 4 (.bin .lss 3 (kI 0)) [3], oM 5 4 [4], oH 6 (.mv 0) 5 [], oH 7 (.bin .gtr 6 (kI 7)) 5 [6], oO 8 (.pick 5 kT 7) [5,7]] (.cond 8 (rS [oA 2 (.c .nilp) []] .ret)
 .skip))
(rS [oM 9 0 [0], oO 10 (.call 11 []) [], oO 11 (.bld [(vI 0),(vI 0),.nilp,(.b false),(vI 0),(vI 0),(vI 0),vS,(vI 0),.nils,.nils,(vI 0),(vI 0)] [(0, 1, 9),(2, 1, 10)]) [9,10], oO 12 (.box true 11) [11], oA 2 12 [12]] .ret))), [.t 2]⟩
/-- ( interrex/store.Store).Txn -/
def f19 : AFn := ⟨2, (rS [oO 3 (.box false 1) [1], oA 4 (kI 0) [4], oA 5 (kI 0) [5]] (.seq (rS [oM 10 0 [], oO 11 (.eqn false 10 (.c .nilp)) [10]] (.cond 11 (rS [oA 4 (kI 0) [], oA 5 (kI 9) []] .ret)
 .skip))
(rS [oM 12 0 [], oO 13 (.nilc 12) [12], oO 14 (.faddr 5 13) [13], oO 15 (.call 65 [14,(kI 1)]) [14,15]] (.seq (rS [oM 16 0 [], oO 17 (.load (some 2) 3) [], oO 18 (.call 66 [16,17]) [16,17], oA 6 18 [18]] (rS [oM 19 6 [], oO 20 (.bin .neq 19 (kI 0)) [19]] (.cond 20 (rS [oM 21 6 [6], oA 4 (kI 0) [], oA 5 21 [21]] .ret)
 .skip)))
(rS [oM 22 0 [], oO 23 (.nilc 22) [], oO 24 (.faddr 0 23) [23], oO 25 (.load none 24) [24], oO 26 (.bin .add 25 (kI 1)) [25], oO 27 (.nilc 22) [22], oO 28 (.faddr 0 27) [27], oN (.store 1 28 26) [28,26]] (rS [oA 7 (.c .nils) []] (.seq (rS [oO 29 (.faddr 1 3) [3], oO 30 (.load none 29) [29], oO 31 (.lenL 30) [], oM 32 (kI 0) []] (.blk 0 (.loop (rS [oO 33 (.bin .lss 32 31) []] (.seq (.cond 33 .skip
 (.exit 0))
(.seq (.blk 1 (rS [oO 34 (.iasl 3 30 32) [], oO 35 (.load (some 3) 34) [34], oO 9 (.alloc false [vS,.nils,(.b false)]) [], oN (.store 3 9 35) [35]] (.seq (.dreg [⟨0, (oM 36 0 []), false, []⟩,
 ⟨1, (oO 37 (.nilc 36) []), false, []⟩,
 ⟨2, (oO 38 (.faddr 2 37) []), false, []⟩,
 ⟨3, (oO 39 (.load none 38) []), false, []⟩,
 ⟨4, (oO 40 (.faddr 0 9) []), false, []⟩,
 ⟨5, (oO 41 (.load none 40) []), false, []⟩,
 ⟨6, (oM 42 0 []), false, []⟩,
 ⟨7, (oO 43 (.nilc 42) []), false, []⟩,
 ⟨8, (oO 44 (.faddr 0 43) []), false, []⟩,
 ⟨9, (oO 45 (.load none 44) []), false, []⟩,
 ⟨10, (oN (.mupd none 39 41 45) []), true, []⟩] [36,37,38,39,40,41,42,43,44,45])
(.seq (rS [oO 46 (.faddr 2 9) [], oO 47 (.load none 46) [46]] (.cond 47 (.dreg [⟨0, (oM 48 0 []), false, []⟩,
 ⟨1, (oO 49 (.nilc 48) []), false, []⟩,
 ⟨2, (oO 50 (.faddr 1 49) []), false, []⟩,
 ⟨3, (oO 51 (.load none 50) []), false, []⟩,
 ⟨4, (oO 52 (.faddr 0 9) []), false, []⟩,
 ⟨5, (oO 53 (.load none 52) []), false, []⟩,
 ⟨6, (oN (.delete none 51 53) []), true, []⟩] [48,49,50,51,52,53])
 (.dreg [⟨0, (oM 54 0 []), false, []⟩,
 ⟨1, (oO 55 (.nilc 54) []), false, []⟩,
 ⟨2, (oO 56 (.faddr 1 55) []), false, []⟩,
 ⟨3, (oO 57 (.load none 56) []), false, []⟩,
 ⟨4, (oO 58 (.faddr 0 9) []), false, []⟩,
 ⟨5, (oO 59 (.load none 58) []), false, []⟩,
 ⟨6, (oO 60 (.faddr 0 9) []), false, []⟩,
 ⟨7, (oO 61 (.load none 60) []), false, []⟩,
 ⟨8, (oM 62 0 []), false, []⟩,
 ⟨9, (oO 63 (.nilc 62) []), false, []⟩,
 ⟨10, (oO 64 (.faddr 0 63) []), false, []⟩,
 ⟨11, (oO 65 (.load none 64) []), false, []⟩,
 ⟨12, (oO 66 (.faddr 1 9) []), false, []⟩,
 ⟨13, (oO 67 (.load none 66) []), false, []⟩,
 ⟨14, (oO 68 (.bld [vS,(vI 0),.nils] [(0, 1, 61),(1, 1, 65),(2, 1, 67)]) []), false, []⟩,
 ⟨15, (oO 69 (.call 67 [68]) []), true, [5,3]⟩,
 ⟨16, (oN (.mupd none 57 59 69) []), true, []⟩] [54,55,56,57,58,59,60,61,62,63,64,65,66,67,68,69])))
(.dreg [⟨0, (oM 70 7 []), false, []⟩,
 ⟨1, (oM 71 0 []), false, []⟩,
 ⟨2, (oO 72 (.nilc 71) []), false, []⟩,
 ⟨3, (oO 73 (.faddr 0 72) []), false, []⟩,
 ⟨4, (oO 74 (.load none 73) []), false, []⟩,
 ⟨5, (oO 75 (.faddr 0 9) []), false, []⟩,
 ⟨6, (oO 76 (.load none 75) []), false, []⟩,
 ⟨7, (oO 77 (.faddr 1 9) []), false, []⟩,
 ⟨8, (oO 78 (.load none 77) []), false, []⟩,
 ⟨9, (oO 79 (.faddr 2 9) []), false, []⟩,
 ⟨10, (oO 80 (.load none 79) []), false, []⟩,
 ⟨11, (oO 81 (.bld [(vI 0),vS,.nils,(.b false)] [(0, 1, 74),(1, 1, 76),(2, 1, 78),(3, 1, 80)]) []), false, []⟩,
 ⟨12, (oO 82 (.bsl (.im false) 4 1 [(vI 0),vS,.nils,(.b false)] [(0, 81)]) []), true, []⟩,
 ⟨13, (oO 83 (.append (.im false) 4 56 70 82) []), true, []⟩,
 ⟨14, (oA 7 83 []), true, []⟩] [70,71,72,73,74,9,75,76,77,78,79,80,81,82,83])))))
(rR [oO 84 (.bin .add 32 (kI 1)) [32], oM 32 84 [84]])))))))
(rS [oM 85 0 [], oO 86 (.nilc 85) [85], oO 87 (.faddr 3 86) [86], oO 88 (.load none 87) [87], oM 89 7 [7], oO 90 (.call 68 [88,89]) [88,89,90]] (rS [oM 91 0 [0], oO 92 (.nilc 91) [91], oO 93 (.faddr 0 92) [92], oO 94 (.load none 93) [93], oA 4 94 [94], oA 5 (kI 0) []] .ret))))))))), [.t 4,.t 5]⟩
/-- ( interrex/store.Store).List -/
def f20 : AFn := ⟨1, (rS [oA 2 (.c .nils) [2]] (.seq (rS [oM 6 0 [], oO 7 (.eqn false 6 (.c .nilp)) [6]] (.cond 7 (rS [oA 2 (.c .nils) []] .ret)
 .skip))
(rS [oM 8 0 [], oO 9 (.nilc 8) [8], oO 10 (.faddr 4 9) [9], oO 11 (.call 65 [10,(kI 1)]) [10,11]] (rS [oA 3 (.c .nils) []] (.seq (rS [oM 12 0 [], oO 13 (.nilc 12) [12], oO 14 (.faddr 1 13) [13], oO 15 (.load none 14) [14], oO 16 (.call 63 [15]) [15], oO 17 (.call 62 [16]) [16], oO 18 (.lenL 17) [], oM 19 (kI 0) []] (.blk 0 (.loop (rS [oO 20 (.bin .lss 19 18) []] (.seq (.cond 20 .skip
 (.exit 0))
(.seq (.blk 1 (rS [oO 21 (.iasl 1 17 19) [], oO 22 (.load none 21) [21], oA 5 22 [22]] (rR [oM 23 3 [3], oM 24 0 [], oO 25 (.nilc 24) [24], oO 26 (.faddr 1 25) [25], oO 27 (.load none 26) [26], oM 28 5 [5], oO 29 (.lkp none (.agg [vS,(vI 0),.nils]) 27 28 false) [27,28], oO 30 (.call 67 [29]) [29], oO 31 (.bsl (.im false) 3 1 [vS,(vI 0),.nils] [(0, 30)]) [30], oO 32 (.append (.im false) 3 48 23 31) [23,31], oA 3 32 [32]])))
(rR [oO 33 (.bin .add 19 (kI 1)) [19], oM 19 33 [33]])))))))
(rS [oM 34 3 [3], oA 2 34 [34]] .ret)))))), [.t 2]⟩
/-- ( interrex/store.Store).Rev -/
def f21 : AFn := ⟨1, (rS [oA 2 (kI 0) [2]] (.seq (rS [oM 3 0 [], oO 4 (.eqn false 3 (.c .nilp)) [3]] (.cond 4 (rS [oA 2 (kI 0) []] .ret)
 .skip))
(rS [oM 5 0 [0], oO 6 (.nilc 5) [5], oO 7 (.faddr 0 6) [6], oO 8 (.load none 7) [7], oA 2 8 [8]] .ret))), [.t 2]⟩
/-- ( interrex/relist.Relist).Want -/
def f23 : AFn := ⟨2, (rS [oO 4 (.alloc false [(vI 0),(vI 0),(vI 0),vS,(vI 0),.nils,.nils]) [], oA 5 kF [5]] (.seq (rS [oM 7 0 [], oO 8 (.eqn false 7 (.c .nilp)) [7], oM 9 8 [8], oH 10 (.mv 0) 9 [], oH 11 (.nilc 10) 9 [10], oH 12 (.faddr 3 11) 9 [11], oH 13 (.load none 12) 9 [12], oH 14 (.mv 13) 9 [13], oG 15 (.mv 1) 14 [], oG 16 (.mv 0) 14 [], oG 17 (.nilc 16) 14 [16], oG 18 (.faddr 11 17) 14 [17], oG 19 (.load none 18) 14 [18], oG 20 (.call 70 [15,19]) 14 [15,19], oG 21 (.un .not 20) 14 [20], oH 22 (.pick 14 21 kF) 9 [14,21], oO 23 (.pick 9 kT 22) [9,22]] (.cond 23 (rS [oO 24 (.bld [(vI 0),(vI 0),(vI 0),vS,(vI 0),.nils,.nils] []) [], oN (.store 7 4 24) [24], oA 5 kF []] .ret)
 .skip))
(rS [oM 25 0 [], oO 26 (.nilc 25) [], oO 27 (.faddr 1 26) [26], oO 28 (.load none 27) [27], oO 29 (.bin .add 28 (kI 1)) [28], oO 30 (.nilc 25) [25], oO 31 (.faddr 1 30) [30], oN (.store 1 31 29) [31,29]] (.seq (.dreg [⟨0, (oM 32 0 []), false, []⟩,
 ⟨1, (oM 33 0 []), false, []⟩,
 ⟨2, (oO 34 (.nilc 33) []), false, []⟩,
 ⟨3, (oO 35 (.faddr 0 34) []), false, []⟩,
 ⟨4, (oO 36 (.load none 35) []), false, []⟩,
 ⟨5, (oM 37 0 []), false, []⟩,
 ⟨6, (oO 38 (.nilc 37) []), false, []⟩,
 ⟨7, (oO 39 (.faddr 1 38) []), false, []⟩,
 ⟨8, (oO 40 (.load none 39) []), false, []⟩,
 ⟨9, (oO 41 (.bld [(vI 0),(vI 0),(vI 0),vS,(vI 0),.nils,.nils] [(0, 1, 36),(1, 1, 40),(2, 1, (kI 2))]) []), false, []⟩,
 ⟨10, (oO 42 (.nilc 32) []), false, []⟩,
 ⟨11, (oO 43 (.faddr 4 42) []), false, []⟩,
 ⟨12, (oN (.store 7 43 41) []), true, []⟩] [32,33,34,35,36,37,38,39,40,41,42,43])
(.seq (rS [oM 44 0 [], oO 45 (.nilc 44) [44], oO 46 (.faddr 2 45) [45], oO 47 (.load none 46) [46], oO 48 (.call 14 [47]) [47], oA 6 48 [48]] (rS [oM 49 6 [], oO 50 (.bin .geq 49 (kI 0)) [49]] (.cond 50 (rR [oM 51 0 [], oM 52 0 [], oM 53 6 [6], oO 54 (.nilc 51) [51], oO 55 (.faddr 4 54) [54], oO 56 (.faddr 2 55) [55], oN (.store 1 56 (kI 3)) [56], oO 57 (.nilc 52) [52], oO 58 (.faddr 4 57) [57], oO 59 (.faddr 4 58) [58], oN (.store 1 59 53) [59,53]])
 .skip)))
(rS [oM 60 0 [], oM 61 0 [], oM 62 1 [1], oO 63 (.nilc 60) [60], oO 64 (.faddr 3 63) [63], oN (.store 1 64 kT) [64], oO 65 (.nilc 61) [61], oO 66 (.faddr 11 65) [65], oN (.store 1 66 62) [66,62]] (rS [oM 67 0 [0], oO 68 (.nilc 67) [67], oO 69 (.faddr 4 68) [68], oO 70 (.load (some 7) 69) [69], oN (.store 7 4 70) [70], oA 5 kT []] .ret))))))), [.cell 4 (some 7),.t 5]⟩
/-- ( interrex/relist.Relist).Cache -/
def f24 : AFn := ⟨1, (rS [oA 2 (.c .nilp) [2]] (.seq (rS [oM 3 0 [], oO 4 (.eqn false 3 (.c .nilp)) [3]] (.cond 4 (rS [oA 2 (.c .nilp) []] .ret)
 .skip))
(rS [oM 5 0 [0], oO 6 (.nilc 5) [5], oO 7 (.faddr 2 6) [6], oO 8 (.load none 7) [7], oA 2 8 [8]] .ret))), [.t 2]⟩
/-- interrex/interrexlaw10.of -/
def f25 : AFn := ⟨2, (rS [oO 3 (.box false 1) [1], oO 4 (.alloc false [(vI 0),(vI 0),(vI 0),(vI 0),(vI 0),.nils,.nils]) []] (rS [oO 6 (.faddr 0 3) [], oO 7 (.load none 6) [6], oO 8 (.faddr 1 3) [], oO 9 (.load none 8) [8], oO 10 (.faddr 2 3) [], oO 11 (.load none 10) [10], oO 12 (.bld [(vI 0),(vI 0),(vI 0),(vI 0),(vI 0),.nils,.nils] [(0, 1, 7),(1, 1, 9),(2, 1, 11)]) [7,9,11], oO 5 (.alloc false [(vI 0),(vI 0),(vI 0),(vI 0),(vI 0),.nils,.nils]) [], oN (.store 7 5 12) [12]] (.seq (rS [oO 13 (.faddr 2 3) [], oO 14 (.load none 13) [13], oO 15 (.bin .eql 14 (kI 2)) [14]] (.cond 15 (rR [oM 16 0 [], oO 17 (.call 20 [16]) [16], oO 18 (.faddr 5 5) [], oN (.store 1 18 17) [18,17]])
 (rR [oM 20 0 [], oO 21 (.faddr 4 3) [3], oO 22 (.load none 21) [21], oO 23 (.call 71 [20,22]) [20,22], oM 19 23 [23], oO 24 (.ext 19 0) [], oO 25 (.ext 19 1) [19], oO 26 (.faddr 6 5) [], oN (.store 1 26 24) [26,24], oO 27 (.faddr 3 5) [], oN (.store 1 27 25) [27,25]])))
(rS [oM 28 0 [0], oO 29 (.call 21 [28]) [28], oO 30 (.faddr 4 5) [], oN (.store 1 30 29) [30,29]] (rS [oO 31 (.load (some 7) 5) [5], oN (.store 7 4 31) [31]] .ret))))), [.cell 4 (some 7)]⟩
/-- ( interrex/relist.Relist).Take -/
def f26 : AFn := ⟨2, (rS [oO 3 (.box false 1) [1], oA 4 kF [4]] (.seq (.seq (.dreg [⟨0, (oM 6 0 []), false, []⟩,
 ⟨1, (oO 7 (.eqn false 6 (.c .nilp)) []), true, []⟩,
 ⟨2, (oM 8 7 []), false, []⟩,
 ⟨3, (oH 9 (.mv 0) 8 []), false, []⟩,
 ⟨4, (oH 10 (.nilc 9) 8 []), false, []⟩,
 ⟨5, (oH 11 (.faddr 3 10) 8 []), false, []⟩,
 ⟨6, (oH 12 (.load none 11) 8 []), false, []⟩,
 ⟨7, (oH 13 (.un .not 12) 8 []), false, []⟩,
 ⟨8, (oO 14 (.pick 8 kT 13) []), false, []⟩,
 ⟨9, (oM 15 14 []), false, []⟩,
 ⟨10, (oH 16 (.faddr 0 3) 15 []), false, []⟩,
 ⟨11, (oH 17 (.load none 16) 15 []), false, []⟩,
 ⟨12, (oH 18 (.mv 0) 15 []), false, []⟩,
 ⟨13, (oH 19 (.nilc 18) 15 []), false, []⟩,
 ⟨14, (oH 20 (.faddr 0 19) 15 []), false, []⟩,
 ⟨15, (oH 21 (.load none 20) 15 []), false, []⟩,
 ⟨16, (oH 22 (.bin .neq 17 21) 15 []), false, []⟩,
 ⟨17, (oO 23 (.pick 15 kT 22) []), false, []⟩,
 ⟨18, (oM 24 23 []), false, []⟩,
 ⟨19, (oH 25 (.faddr 1 3) 24 []), false, []⟩,
 ⟨20, (oH 26 (.load none 25) 24 []), false, []⟩,
 ⟨21, (oH 27 (.mv 0) 24 []), false, []⟩,
 ⟨22, (oH 28 (.nilc 27) 24 []), false, []⟩,
 ⟨23, (oH 29 (.faddr 4 28) 24 []), false, []⟩,
 ⟨24, (oH 30 (.faddr 1 29) 24 []), false, []⟩,
 ⟨25, (oH 31 (.load none 30) 24 []), false, []⟩,
 ⟨26, (oH 32 (.bin .neq 26 31) 24 []), false, []⟩,
 ⟨27, (oO 33 (.pick 24 kT 32) []), false, []⟩,
 ⟨28, (oM 34 33 []), false, []⟩,
 ⟨29, (oH 35 (.faddr 2 3) 34 []), false, []⟩,
 ⟨30, (oH 36 (.load none 35) 34 []), false, []⟩,
 ⟨31, (oH 37 (.mv 0) 34 []), false, []⟩,
 ⟨32, (oH 38 (.nilc 37) 34 []), false, []⟩,
 ⟨33, (oH 39 (.faddr 4 38) 34 []), false, []⟩,
 ⟨34, (oH 40 (.faddr 2 39) 34 []), false, []⟩,
 ⟨35, (oH 41 (.load none 40) 34 []), false, []⟩,
 ⟨36, (oH 42 (.bin .neq 36 41) 34 []), false, []⟩,
 ⟨37, (oO 43 (.pick 34 kT 42) []), false, []⟩] [6,7,8,9,10,11,12,13,14,15,16,17,18,19,20,21,22,23,24,25,26,27,28,29,30,31,32,33,34,35,36,37,38,39,40,41,42])
(.cond 43 (rS [oA 4 kF []] .ret)
 .skip))
(rS [oM 44 0 [], oO 45 (.nilc 44) [44], oO 46 (.faddr 3 45) [45], oN (.store 1 46 kF) [46]] (.seq (.blk 0 (rS [oO 48 (.faddr 2 3) [], oO 49 (.load none 48) [48], oO 50 (.bin .eql 49 (kI 2)) [49], oM 51 50 [50], oG 52 (.faddr 3 3) 51 [], oG 53 (.load none 52) 51 [52], oG 54 (.bin .eql 53 (kI 0)) 51 [53], oO 55 (.pick 51 54 kF) [51,54], oA 47 55 [55]] (.cond 47 (.seq (.dreg [⟨0, (oM 56 0 []), false, []⟩,
 ⟨1, (oO 57 (.nilc 56) []), false, []⟩,
 ⟨2, (oO 58 (.faddr 2 57) []), false, []⟩,
 ⟨3, (oO 59 (.load none 58) []), false, []⟩,
 ⟨4, (oO 60 (.faddr 4 3) []), false, []⟩,
 ⟨5, (oO 61 (.load none 60) []), false, []⟩,
 ⟨6, (oO 62 (.faddr 5 3) []), false, []⟩,
 ⟨7, (oO 63 (.load none 62) []), false, []⟩,
 ⟨8, (oO 64 (.call 12 [59,61,63]) []), true, []⟩,
 ⟨9, (oA 5 64 []), false, []⟩] [56,57,58,59,3,60,61,62,63,64])
(.seq (rS [oM 65 5 []] (.cond 65 (rR [oM 66 0 [0], oO 67 (.nilc 66) [], oO 68 (.faddr 12 67) [67], oO 69 (.load none 68) [68], oO 70 (.bin .add 69 (kI 1)) [69], oO 71 (.nilc 66) [66], oO 72 (.faddr 12 71) [71], oN (.store 1 72 70) [72,70]])
 .skip))
(rS [oM 73 5 [5], oA 4 73 [73]] .ret)))
 (rS [oO 75 (.faddr 2 3) [], oO 76 (.load none 75) [75], oO 77 (.bin .eql 76 (kI 3)) [76], oM 78 77 [77], oG 79 (.faddr 3 3) 78 [], oG 80 (.load none 79) 78 [79], oG 81 (.bin .eql 80 (kI 0)) 78 [80], oG 82 (.mv 81) 78 [81], oH 83 (.faddr 3 3) 82 [], oH 84 (.load none 83) 82 [83], oH 85 (.bin .eql 84 (kI 7)) 82 [84], oG 86 (.pick 82 kT 85) 78 [82,85], oG 87 (.mv 86) 78 [86], oH 88 (.faddr 3 3) 87 [], oH 89 (.load none 88) 87 [88], oH 90 (.bin .eql 89 (kI 2)) 87 [89], oG 91 (.pick 87 kT 90) 78 [87,90], oO 92 (.pick 78 91 kF) [78,91], oA 74 92 [92]] (.cond 74 (.seq (.seq (.dreg [⟨0, (oO 93 (.faddr 3 3) []), false, []⟩,
 ⟨1, (oO 94 (.load none 93) []), false, []⟩,
 ⟨2, (oO 95 (.bin .eql 94 (kI 0)) []), false, []⟩,
 ⟨3, (oM 96 95 []), false, []⟩,
 ⟨4, (oG 97 (.mv 0) 96 []), false, []⟩,
 ⟨5, (oG 98 (.nilc 97) 96 []), false, []⟩,
 ⟨6, (oG 99 (.faddr 2 98) 96 []), false, []⟩,
 ⟨7, (oG 100 (.load none 99) 96 []), false, []⟩,
 ⟨8, (oG 101 (.mv 0) 96 []), false, []⟩,
 ⟨9, (oG 102 (.nilc 101) 96 []), false, []⟩,
 ⟨10, (oG 103 (.faddr 4 102) 96 []), false, []⟩,
 ⟨11, (oG 104 (.faddr 4 103) 96 []), false, []⟩,
 ⟨12, (oG 105 (.load none 104) 96 []), false, []⟩,
 ⟨13, (oG 106 (.faddr 4 3) 96 []), false, []⟩,
 ⟨14, (oG 107 (.load none 106) 96 []), false, []⟩,
 ⟨15, (oG 108 (.faddr 6 3) 96 []), false, []⟩,
 ⟨16, (oG 109 (.load none 108) 96 []), false, []⟩,
 ⟨17, (oG 110 (.call 13 [100,105,107,109]) 96 []), true, []⟩,
 ⟨18, (oO 111 (.pick 96 110 kF) []), false, []⟩] [3,93,94,95,96,97,98,99,100,101,102,103,104,105,106,107,108,109,110])
(.cond 111 (rS [oA 4 kT []] .ret)
 .skip))
(rR [oM 112 0 [0], oO 113 (.nilc 112) [112], oO 114 (.faddr 2 113) [113], oO 115 (.load none 114) [114], oO 116 (.call 29 [115]) [115,116]]))
 .skip)))))
(rS [oA 4 kF []] .ret))))), [.t 4]⟩
/-- ( interrex/interrexref1.Cache).List -/
def f27 : AFn := ⟨3, (rS [oA 6 kF [6]] (rS [oA 7 (.c .nils) []] (.seq (rS [oM 10 2 [], oO 11 (.lenL 10) [10], oM 12 (kI 0) []] (.blk 0 (.loop (rS [oO 13 (.bin .lss 12 11) []] (.seq (.cond 13 .skip
 (.exit 0))
(.seq (.blk 1 (rS [oM 14 12 [], oA 8 14 [14]] (.seq (rS [oM 15 2 [], oM 16 8 [], oO 17 (.iasl 3 15 16) [15,16], oO 18 (.faddr 0 17) [17], oO 19 (.load none 18) [18], oO 20 (.bin .eql 19 (.c vS)) [19], oM 21 20 [20], oH 22 (.mv 2) 21 [], oH 23 (.mv 8) 21 [], oH 24 (.iasl 3 22 23) 21 [22,23], oH 25 (.faddr 1 24) 21 [24], oH 26 (.load none 25) 21 [25], oH 27 (.bin .lss 26 (kI 1)) 21 [26], oO 28 (.pick 21 kT 27) [21,27], oM 29 28 [28], oH 30 (.mv 2) 29 [], oH 31 (.mv 8) 29 [], oH 32 (.iasl 3 30 31) 29 [30,31], oH 33 (.faddr 1 32) 29 [32], oH 34 (.load none 33) 29 [33], oH 35 (.mv 1) 29 [], oH 36 (.bin .gtr 34 35) 29 [34,35], oO 37 (.pick 29 kT 36) [29,36]] (.cond 37 (rS [oA 6 kF []] .ret)
 .skip))
(.seq (rS [oA 9 (kI 0) []] (.blk 2 (.loop (.seq (rS [oM 38 9 [], oM 39 8 [], oO 40 (.bin .lss 38 39) [38,39]] (.cond 40 .skip
 (.exit 2)))
(.seq (.blk 3 (.seq (.dreg [⟨0, (oM 43 2 []), false, []⟩,
 ⟨1, (oM 44 9 []), false, []⟩,
 ⟨2, (oO 45 (.iasl 3 43 44) []), false, []⟩,
 ⟨3, (oO 46 (.faddr 0 45) []), false, []⟩,
 ⟨4, (oO 47 (.load none 46) []), false, []⟩,
 ⟨5, (oM 48 2 []), false, []⟩,
 ⟨6, (oM 49 8 []), false, []⟩,
 ⟨7, (oO 50 (.iasl 3 48 49) []), false, []⟩,
 ⟨8, (oO 51 (.faddr 0 50) []), false, []⟩,
 ⟨9, (oO 52 (.load none 51) []), false, []⟩,
 ⟨10, (oO 53 (.bin .eql 47 52) []), false, []⟩] [43,44,45,46,47,48,49,50,51,52])
(.cond 53 (rS [oA 6 kF []] .ret)
 .skip)))
(rR [oM 41 9 [9], oO 42 (.bin .add 41 (kI 1)) [41], oA 9 42 [42]]))))))
(rR [oM 54 7 [7], oM 55 2 [], oM 56 8 [8], oO 57 (.iasl 3 55 56) [55,56], oO 58 (.load (some 3) 57) [57], oO 59 (.call 72 [54,58,kF]) [54,58], oA 7 59 [59]])))))
(rR [oO 60 (.bin .add 12 (kI 1)) [12], oM 12 60 [60]])))))))
(.seq (rS [oM 61 1 [], oO 62 (.bin .lss 61 (kI 0)) [61]] (.cond 62 (rS [oA 6 kF []] .ret)
 .skip))
(rS [oM 63 0 [], oM 64 0 [0], oM 65 1 [1], oM 66 7 [7], oO 67 (.nilc 63) [63], oO 68 (.faddr 0 67) [67], oN (.store 1 68 65) [68,65], oO 69 (.nilc 64) [64], oO 70 (.faddr 1 69) [69], oN (.store 1 70 66) [70,66]] (rS [oA 6 kT []] .ret)))))), [.t 6]⟩
/-- ( interrex/interrexref1.Cache).Apply -/
def f28 : AFn := ⟨4, (rS [oA 8 kF [8]] (.seq (rS [oM 11 0 [], oO 12 (.nilc 11) [11], oO 13 (.faddr 0 12) [12], oO 14 (.load none 13) [13], oO 15 (.bin .lss 14 (kI 0)) [14], oM 16 15 [15], oH 17 (.mv 0) 16 [], oH 18 (.nilc 17) 16 [17], oH 19 (.faddr 0 18) 16 [18], oH 20 (.load none 19) 16 [19], oH 21 (.mv 1) 16 [], oH 22 (.bin .neq 20 21) 16 [20,21], oO 23 (.pick 16 kT 22) [16,22], oM 24 23 [23], oH 25 (.mv 2) 24 [], oH 26 (.mv 1) 24 [], oH 27 (.bin .lss 25 26) 24 [25,26], oO 28 (.pick 24 kT 27) [24,27]] (.cond 28 (rS [oA 8 kF []] .ret)
 .skip))
(.seq (rS [oM 29 3 [], oO 30 (.lenL 29) [29], oM 31 (kI 0) []] (.blk 0 (.loop (rS [oO 32 (.bin .lss 31 30) []] (.seq (.cond 32 .skip
 (.exit 0))
(.seq (.blk 1 (rS [oM 33 31 [], oA 9 33 [33]] (.seq (.dreg [⟨0, (oM 34 3 []), false, []⟩,
 ⟨1, (oM 35 9 []), false, []⟩,
 ⟨2, (oO 36 (.iasl 4 34 35) []), false, []⟩,
 ⟨3, (oO 37 (.faddr 0 36) []), false, []⟩,
 ⟨4, (oO 38 (.load none 37) []), false, []⟩,
 ⟨5, (oM 39 1 []), false, []⟩,
 ⟨6, (oO 40 (.bin .leq 38 39) []), false, []⟩,
 ⟨7, (oM 41 40 []), false, []⟩,
 ⟨8, (oH 42 (.mv 3) 41 []), false, []⟩,
 ⟨9, (oH 43 (.mv 9) 41 []), false, []⟩,
 ⟨10, (oH 44 (.iasl 4 42 43) 41 []), false, []⟩,
 ⟨11, (oH 45 (.faddr 0 44) 41 []), false, []⟩,
 ⟨12, (oH 46 (.load none 45) 41 []), false, []⟩,
 ⟨13, (oH 47 (.mv 2) 41 []), false, []⟩,
 ⟨14, (oH 48 (.bin .gtr 46 47) 41 []), false, []⟩,
 ⟨15, (oO 49 (.pick 41 kT 48) []), false, []⟩,
 ⟨16, (oM 50 49 []), false, []⟩,
 ⟨17, (oH 51 (.mv 9) 50 []), false, []⟩,
 ⟨18, (oH 52 (.bin .gtr 51 (kI 0)) 50 []), false, []⟩,
 ⟨19, (oH 53 (.mv 52) 50 []), false, []⟩,
 ⟨20, (oG 54 (.mv 3) 53 []), false, []⟩,
 ⟨21, (oG 55 (.mv 9) 53 []), false, []⟩,
 ⟨22, (oG 56 (.iasl 4 54 55) 53 []), false, []⟩,
 ⟨23, (oG 57 (.faddr 0 56) 53 []), false, []⟩,
 ⟨24, (oG 58 (.load none 57) 53 []), false, []⟩,
 ⟨25, (oG 59 (.mv 3) 53 []), false, []⟩,
 ⟨26, (oG 60 (.mv 9) 53 []), false, []⟩,
 ⟨27, (oG 61 (.bin .sub 60 (kI 1)) 53 []), false, []⟩,
 ⟨28, (oG 62 (.iasl 4 59 61) 53 []), false, []⟩,
 ⟨29, (oG 63 (.faddr 0 62) 53 []), false, []⟩,
 ⟨30, (oG 64 (.load none 63) 53 []), false, []⟩,
 ⟨31, (oG 65 (.bin .lss 58 64) 53 []), false, []⟩,
 ⟨32, (oH 66 (.pick 53 65 kF) 50 []), false, []⟩,
 ⟨33, (oO 67 (.pick 50 kT 66) []), false, []⟩] [34,9,35,36,37,38,39,40,41,42,43,44,45,46,47,48,49,50,51,52,53,54,55,56,57,58,59,60,61,62,63,64,65,66])
(.cond 67 (rS [oA 8 kF []] .ret)
 .skip))))
(rR [oO 68 (.bin .add 31 (kI 1)) [31], oM 31 68 [68]])))))))
(.seq (rS [oM 69 3 [], oO 70 (.lenL 69) [69], oM 71 (kI 0) []] (.blk 2 (.loop (rS [oO 72 (.bin .lss 71 70) []] (.seq (.cond 72 .skip
 (.exit 2))
(.seq (.blk 3 (rS [oM 73 71 [], oA 10 73 [73]] (.dreg [⟨0, (oM 74 0 []), false, []⟩,
 ⟨1, (oM 75 0 []), false, []⟩,
 ⟨2, (oO 76 (.nilc 75) []), false, []⟩,
 ⟨3, (oO 77 (.faddr 1 76) []), false, []⟩,
 ⟨4, (oO 78 (.load none 77) []), false, []⟩,
 ⟨5, (oM 79 3 []), false, []⟩,
 ⟨6, (oM 80 10 []), false, []⟩,
 ⟨7, (oO 81 (.iasl 4 79 80) []), false, []⟩,
 ⟨8, (oO 82 (.faddr 1 81) []), false, []⟩,
 ⟨9, (oO 83 (.load none 82) []), false, []⟩,
 ⟨10, (oM 84 3 []), false, []⟩,
 ⟨11, (oM 85 10 []), false, []⟩,
 ⟨12, (oO 86 (.iasl 4 84 85) []), false, []⟩,
 ⟨13, (oO 87 (.faddr 0 86) []), false, []⟩,
 ⟨14, (oO 88 (.load none 87) []), false, []⟩,
 ⟨15, (oM 89 3 []), false, []⟩,
 ⟨16, (oM 90 10 []), false, []⟩,
 ⟨17, (oO 91 (.iasl 4 89 90) []), false, []⟩,
 ⟨18, (oO 92 (.faddr 2 91) []), false, []⟩,
 ⟨19, (oO 93 (.load none 92) []), false, []⟩,
 ⟨20, (oO 94 (.bld [vS,(vI 0),.nils] [(0, 1, 83),(1, 1, 88),(2, 1, 93)]) []), false, []⟩,
 ⟨21, (oM 95 3 []), false, []⟩,
 ⟨22, (oM 96 10 []), false, []⟩,
 ⟨23, (oO 97 (.iasl 4 95 96) []), false, []⟩,
 ⟨24, (oO 98 (.faddr 3 97) []), false, []⟩,
 ⟨25, (oO 99 (.load none 98) []), false, []⟩,
 ⟨26, (oO 100 (.call 72 [78,94,99]) []), true, []⟩,
 ⟨27, (oO 101 (.nilc 74) []), false, []⟩,
 ⟨28, (oO 102 (.faddr 1 101) []), false, []⟩,
 ⟨29, (oN (.store 1 102 100) []), true, []⟩] [74,75,76,77,78,79,10,80,81,82,83,84,85,86,87,88,89,90,91,92,93,94,95,96,97,98,99,100,101,102])))
(rR [oO 103 (.bin .add 71 (kI 1)) [71], oM 71 103 [103]])))))))
(rS [oM 104 0 [0], oM 105 2 [2], oO 106 (.nilc 104) [104], oO 107 (.faddr 0 106) [106], oN (.store 1 107 105) [107,105]] (rS [oA 8 kT []] .ret)))))), [.t 8]⟩
/-- ( interrex/cache.Cache).Drop -/
def f29 : AFn := ⟨1, (rS [oM 2 0 [], oO 3 (.eqn true 2 (.c .nilp)) [2]] (.cond 3 (rR [oM 4 0 [], oM 5 0 [0], oO 6 (.nilc 4) [4], oO 7 (.faddr 0 6) [6], oN (.store 1 7 (.c .nilm)) [7], oO 8 (.nilc 5) [5], oO 9 (.faddr 1 8) [8], oN (.store 1 9 (kI (-1))) [9]])
 .skip)), []⟩
/-- ( interrex/cache.Cache).Get -/
def f30 : AFn := ⟨2, (rS [oO 4 (.alloc false [vS,(vI 0),.nils]) [], oA 5 kF [5]] (.seq (rS [oM 8 0 [], oO 9 (.eqn false 8 (.c .nilp)) [8]] (.cond 9 (rS [oO 10 (.bld [vS,(vI 0),.nils] []) [], oN (.store 3 4 10) [10], oA 5 kF []] .ret)
 .skip))
(rS [oM 12 0 [0], oO 13 (.nilc 12) [12], oO 14 (.faddr 0 13) [13], oO 15 (.load none 14) [14], oM 16 1 [1], oO 17 (.lkp none (.agg [vS,(vI 0),.nils]) 15 16 true) [15,16], oM 11 17 [17], oO 18 (.ext 11 0) [], oO 19 (.ext 11 1) [11], oO 6 (.alloc false [vS,(vI 0),.nils]) [], oN (.store 3 6 18) [18], oA 7 19 [19]] (rS [oO 20 (.load (some 3) 6) [6], oO 21 (.call 61 [20]) [20], oM 22 7 [7], oN (.store 3 4 21) [21], oA 5 22 [22]] .ret)))), [.cell 4 (some 3),.t 5]⟩
/-- ( interrex/interrexref1.Cache).Get -/
def f31 : AFn := ⟨2, (rS [oO 4 (.alloc false [vS,(vI 0),.nils]) [], oA 5 kF [5]] (.seq (rS [oM 7 0 [], oO 8 (.nilc 7) [7], oO 9 (.faddr 1 8) [8], oO 10 (.load none 9) [9], oO 11 (.lenL 10) [10], oM 12 (kI 0) []] (.blk 0 (.loop (rS [oO 13 (.bin .lss 12 11) []] (.seq (.cond 13 .skip
 (.exit 0))
(.seq (.blk 1 (rS [oM 14 12 [], oA 6 14 [14]] (rS [oM 15 0 [], oO 16 (.nilc 15) [15], oO 17 (.faddr 1 16) [16], oO 18 (.load none 17) [17], oM 19 6 [], oO 20 (.iasl 3 18 19) [18,19], oO 21 (.faddr 0 20) [20], oO 22 (.load none 21) [21], oM 23 1 [], oO 24 (.bin .eql 22 23) [22,23]] (.cond 24 (rS [oM 25 0 [0], oO 26 (.nilc 25) [25], oO 27 (.faddr 1 26) [26], oO 28 (.load none 27) [27], oM 29 6 [6], oO 30 (.iasl 3 28 29) [28,29], oO 31 (.load (some 3) 30) [30], oN (.store 3 4 31) [31], oA 5 kT []] .ret)
 .skip))))
(rR [oO 32 (.bin .add 12 (kI 1)) [12], oM 12 32 [32]])))))))
(rS [oO 33 (.bld [vS,(vI 0),.nils] []) [], oN (.store 3 4 33) [33], oA 5 kF []] .ret))), [.cell 4 (some 3),.t 5]⟩
/-- interrex/interrexref1.EqEntry -/
def f32 : AFn := ⟨2, (rS [oO 2 (.box false 0) [0], oO 3 (.box false 1) [1], oA 4 kF [4]] (rS [oO 5 (.faddr 0 2) [], oO 6 (.load none 5) [5], oO 7 (.faddr 0 3) [], oO 8 (.load none 7) [7], oO 9 (.bin .eql 6 8) [6,8], oM 10 9 [9], oG 11 (.faddr 1 2) 10 [], oG 12 (.load none 11) 10 [11], oG 13 (.faddr 1 3) 10 [], oG 14 (.load none 13) 10 [13], oG 15 (.bin .eql 12 14) 10 [12,14], oO 16 (.pick 10 15 kF) [10,15], oM 17 16 [16], oG 18 (.faddr 2 2) 17 [2], oG 19 (.load none 18) 17 [18], oG 20 (.faddr 2 3) 17 [3], oG 21 (.load none 20) 17 [20], oG 22 (.call 73 [19,21]) 17 [19,21], oO 23 (.pick 17 22 kF) [17,22], oA 4 23 [23]] .ret)), [.t 4]⟩
/-- interrex/code.PutPod -/
def f33 : AFn := ⟨1, (rS [oO 1 (.box false 0) [0], oA 2 (.c .nils) [2]] (.seq (rS [oO 8 (.load (some 16) 1) [], oO 9 (.call 74 [8]) [8], oO 10 (.un .not 9) [9]] (.cond 10 (rS [oA 2 (.c .nils) []] .ret)
 .skip))
(rS [oO 3 (.alloc true [(.i .u32 0),(.i .i32 0),(.i .u32 0),(.i .u64 0),(.i .u64 0),(.i .u64 0),(.i .u64 0),(.i .u64 0),(.i .u64 0),(.i .u64 0),(.i .u64 0),(.i .u64 0),(.i .u64 0),(.i .u64 0),(.i .u64 0),(.i .u64 0),(.i .u64 0),(.i .u64 0),(.i .u64 0),(.i .u64 0),(.i .u64 0),(.i .u64 0),(.i .u64 0),(.i .u64 0),(.i .u64 0),(.i .u64 0),(.i .u64 0),(.i .u64 0),(.i .u64 0),(.i .u64 0),(.i .u64 0),(.i .u64 0),(.i .u64 0),(.i .u64 0),(.i .u64 0),(.i .u64 0),(.i .u64 0),(.i .u64 0),(.i .u64 0),(.i .u64 0),(.i .u64 0),(.i .u64 0),(.i .u64 0),(.i .u64 0),(.i .u64 0),(.i .u64 0),(.i .u64 0),(.i .u64 0),(.i .u64 0),(.i .u64 0),(.i .u64 0),(.i .u64 0),(.i .u64 0),(.i .u64 0),(.i .u64 0),(.i .u64 0),(.i .u64 0),(.i .u64 0),(.i .u64 0),(.i .u64 0),(.i .u64 0),(.i .u64 0),(.i .u64 0),(.i .u64 0),(.i .u64 0),(.i .u64 0),(.i .u64 0),(.i .u64 0),(.i .u64 0),(.i .u64 0),(.i .u64 0),(.i .u64 0),(.i .u64 0),(.i .u64 0),(.i .u64 0),(.i .u64 0),(.i .u64 0),(.i .u64 0),(.i .u64 0),(.i .u64 0),(.i .u64 0),(.i .u64 0),(.i .u64 0),(.i .u64 0),(.i .u64 0),(.i .u64 0),(.i .u64 0),(.i .u64 0),(.i .u64 0),(.i .u64 0),(.i .u64 0),(.i .u64 0),(.i .u64 0),(.i .u64 0),(.i .u64 0),(.i .u64 0),(.i .u64 0),(.i .u64 0),(.i .u64 0),(.i .u64 0),(.i .u64 0),(.i .u64 0),(.i .u64 0),(.i .u64 0),(.i .u64 0),(.i .u64 0),(.i .u64 0),(.i .u64 0),(.i .u64 0),(.i .u64 0),(.i .u64 0),(.i .u64 0),(.i .u64 0),(.i .u64 0),(.i .u64 0),(.i .u64 0),(.i .u64 0),(.i .u64 0),(.i .u64 0),(.i .u64 0),(.i .u64 0),(.i .u64 0),(.i .u64 0),(.i .u64 0),(.i .u64 0),(.i .u64 0),(.i .u64 0),(.i .u64 0),(.i .u64 0),(.i .u64 0),(.i .u64 0),(.i .u64 0),(.i .u64 0),(.i .u64 0),(.i .u64 0),(.i .u64 0),(.i .u64 0),(.i .u64 0),(.i .u64 0),(.i .u64 0),(.i .u64 0),(.i .u64 0),(.i .u64 0),(.i .u64 0),(.i .u64 0),(.i .u64 0),(.i .u64 0),(.i .u64 0),(.i .u64 0),(.i .u64 0),(.i .u64 0),(.i .u64 0),(.i .u64 0),(.i .u64 0),(.i .u64 0),(.i .u64 0),(.i .u64 0),(.i .u64 0),(.i .u64 0),(.i .u64 0),(.i .u64 0),(.i .u64 0),(.i .u64 0),(.i .u64 0),(.i .u64 0),(.i .u64 0),(.i .u64 0),(.i .u64 0),(.i .u64 0),(.i .u64 0),(.i .u64 0),(.i .u64 0),(.i .u64 0),(.i .u64 0),(.i .u64 0),(.i .u64 0),(.i .u64 0),(.i .u64 0),(.i .u64 0),(.i .u64 0),(.i .u64 0),(.i .u64 0),(.i .u64 0),(.i .u64 0),(.i .u64 0),(.i .u64 0),(.i .u64 0),(.i .u64 0),(.i .u64 0),(.i .u64 0),(.i .u64 0),(.i .u64 0),(.i .u64 0),(.i .u64 0),(.i .u64 0),(.i .u64 0),(.i .u64 0),(.i .u64 0),(.i .u64 0),(.i .u64 0),(.i .u64 0),(.i .u64 0),(.i .u64 0),(.i .u64 0),(.i .u64 0),(.i .u64 0),(.i .u64 0),(.i .u64 0),(.i .u64 0),(.i .u64 0),(.i .u64 0),(.i .u64 0),(.i .u64 0),(.i .u64 0),(.i .u64 0),(.i .u64 0),(.i .u64 0),(.i .u64 0),(.i .u64 0),(.i .u64 0),(.i .u64 0),(.i .u64 0),(.i .u64 0),(.i .u64 0),(.i .u64 0),(.i .u64 0),(.i .u64 0),(.i .u64 0),(.i .u64 0),(.i .u64 0),(.i .u64 0),(.i .u64 0),(.i .u64 0),(.i .u64 0),(.i .u64 0),(.i .u64 0),(.i .u64 0),(.i .u64 0),(.i .u64 0),(.i .u64 0),(.i .u64 0),(.i .u64 0),(.i .u64 0),(.i .u64 0),(.i .u64 0),(.i .u64 0),(.i .u64 0),(.i .u64 0),(.i .u64 0),(.i .u64 0),(.i .u64 0),(.i .u64 0),(.i .u64 0),(.i .u64 0),(.i .u64 0),(.i .u64 0),(.i .u64 0),(.i .u64 0),(.i .u64 0),(.i .u8 0),(.i .u8 0),(.i .u8 0),(.i .u8 0),(.i .u8 0),(.i .u8 0),(.i .u8 0),(.i .u8 0),(.i .u8 0),(.i .u8 0),(.i .u8 0),(.i .u8 0),(.i .u8 0),(.i .u8 0),(.i .u8 0),(.i .u8 0),(.i .u8 0),(.i .u8 0),(.i .u8 0),(.i .u8 0),(.i .u8 0),(.i .u8 0),(.i .u8 0),(.i .u8 0),(.i .u8 0),(.i .u8 0),(.i .u8 0),(.i .u8 0),(.i .u8 0),(.i .u8 0),(.i .u8 0),(.i .u8 0),(.i .u8 0),(.i .u8 0),(.i .u8 0),(.i .u8 0),(.i .u8 0),(.i .u8 0),.nils]) []] (rS [oO 11 (.call 75 [3,(kI 1),(kI 1)]) [11]] (rS [oO 12 (.faddr 0 1) [], oO 13 (.load none 12) [12], oO 14 (.call 76 [3,13]) [13,14]] (rS [oO 15 (.faddr 1 1) [], oO 16 (.load none 15) [15], oO 17 (.call 75 [3,16,(kI 8)]) [16,17]] (rS [oO 18 (.faddr 2 1) [], oO 19 (.load none 18) [18], oO 20 (.call 75 [3,19,(kI 2)]) [19,20]] (rS [oO 21 (.faddr 3 1) [], oO 22 (.load (some 3) 21) [21], oO 23 (.call 77 [3,22]) [22,23]] (rS [oO 24 (.faddr 6 1) [], oO 25 (.load none 24) [24], oO 26 (.lenL 25) [25], oO 27 (.call 75 [3,26,(kI 1)]) [26,27]] (.seq (rS [oO 28 (.faddr 6 1) [], oO 29 (.load none 28) [28], oO 30 (.lenL 29) [], oM 31 (kI 0) []] (.blk 0 (.loop (rS [oO 32 (.bin .lss 31 30) []] (.seq (.cond 32 .skip
 (.exit 0))
(.seq (.blk 1 (rS [oO 33 (.iasl 1 29 31) [], oO 34 (.load none 33) [33], oA 5 34 [34]] (rR [oM 35 5 [5], oO 36 (.call 75 [3,35,(kI 2)]) [35,36]])))
(rR [oO 37 (.bin .add 31 (kI 1)) [31], oM 31 37 [37]])))))))
(rS [oO 38 (.faddr 7 1) [], oO 39 (.load none 38) [38], oO 40 (.call 78 [3,39,(.c (.fn 79 [] []))]) [39,40]] (rS [oO 41 (.faddr 8 1) [], oO 42 (.load none 41) [41], oO 43 (.call 80 [3,42]) [42,43]] (rS [oO 44 (.faddr 9 1) [], oO 45 (.load none 44) [44], oO 46 (.lenL 45) [45], oO 47 (.call 75 [3,46,(kI 1)]) [46,47]] (.seq (rS [oO 48 (.faddr 9 1) [], oO 49 (.load none 48) [48], oO 50 (.lenL 49) [], oM 51 (kI 0) []] (.blk 2 (.loop (rS [oO 52 (.bin .lss 51 50) []] (.seq (.cond 52 .skip
 (.exit 2))
(.seq (.blk 3 (rS [oO 53 (.iasl 3 49 51) [], oO 54 (.load (some 3) 53) [53], oO 7 (.alloc false [vS,vS,(.b false)]) [], oN (.store 3 7 54) [54]] (rS [oO 55 (.faddr 0 7) [], oO 56 (.load none 55) [55], oO 57 (.call 76 [3,56]) [56,57]] (rS [oO 58 (.faddr 1 7) [], oO 59 (.load none 58) [58], oO 60 (.call 76 [3,59]) [59,60]] (rR [oO 61 (.faddr 2 7) [7], oO 62 (.load none 61) [61], oO 63 (.call 81 [3,62]) [62,63]])))))
(rR [oO 64 (.bin .add 51 (kI 1)) [51], oM 51 64 [64]])))))))
(rS [oO 65 (.faddr 10 1) [], oO 66 (.load none 65) [65], oO 67 (.call 76 [3,66]) [66,67]] (rS [oO 68 (.faddr 11 1) [], oO 69 (.load none 68) [68], oO 70 (.call 80 [3,69]) [69,70]] (rS [oO 71 (.faddr 12 1) [], oO 72 (.load none 71) [71], oO 73 (.call 75 [3,72,(kI 1)]) [72,73]] (rS [oO 74 (.faddr 13 1) [], oO 75 (.load none 74) [74], oO 76 (.call 80 [3,75]) [75,76]] (rS [oO 77 (.faddr 14 1) [], oO 78 (.load none 77) [77], oO 79 (.call 76 [3,78]) [78,79]] (rS [oO 80 (.faddr 15 1) [1], oO 81 (.load none 80) [80], oO 82 (.call 75 [3,81,(kI 8)]) [81,82]] (rS [oO 83 (.call 82 [3]) [3], oA 2 83 [83]] .ret))))))))))))))))))))), [.t 2]⟩
/-- interrex/assume.New -/
def f34 : AFn := ⟨0, (rS [oA 0 (.c .nilp) [0]] (rS [oO 1 (.bld [.nils] []) [], oO 2 (.box true 1) [1], oA 0 2 [2]] .ret)), [.t 0]⟩
/-- ( interrex/assume.Assume).Put -/
def f35 : AFn := ⟨5, (rS [oO 6 (.box false 1) [1], oA 10 kF [10]] (.seq (rS [oM 11 0 [], oO 12 (.eqn false 11 (.c .nilp)) [11], oM 13 12 [12], oH 14 (.mv 0) 13 [], oH 15 (.nilc 14) 13 [14], oH 16 (.faddr 0 15) 13 [15], oH 17 (.load none 16) 13 [16], oH 18 (.lenL 17) 13 [17], oH 19 (.bin .geq 18 (kI 40)) 13 [18], oO 20 (.pick 13 kT 19) [13,19], oM 21 20 [20], oH 22 (.faddr 1 6) 21 [], oH 23 (.load none 22) 21 [22], oH 24 (.bin .eql 23 (.c vS)) 21 [23], oO 25 (.pick 21 kT 24) [21,24], oM 26 25 [25], oH 27 (.mv 0) 26 [], oH 28 (.faddr 0 6) 26 [], oH 29 (.load none 28) 26 [28], oH 30 (.call 37 [27,29]) 26 [27,29], oO 31 (.pick 26 kT 30) [26,30]] (.cond 31 (rS [oA 10 kF []] .ret)
 .skip))
(.seq (.dreg [⟨0, (oM 32 0 []), false, []⟩,
 ⟨1, (oM 33 0 []), false, []⟩,
 ⟨2, (oO 34 (.nilc 33) []), false, []⟩,
 ⟨3, (oO 35 (.faddr 0 34) []), false, []⟩,
 ⟨4, (oO 36 (.load none 35) []), false, []⟩,
 ⟨5, (oO 37 (.load (some 3) 6) []), false, []⟩,
 ⟨7, (oM 39 2 []), false, []⟩,
 ⟨8, (oM 40 3 []), false, []⟩,
 ⟨9, (oM 41 4 []), false, []⟩,
 ⟨6, (oO 38 (.call 83 [37]) []), true, [4]⟩,
 ⟨10, (oO 42 (.bld [vS,vS,.nils,(vI 0),(vI 0),(vI 0)] [(0, 3, 38),(3, 1, 39),(4, 1, 40),(5, 1, 41)]) []), false, []⟩,
 ⟨11, (oO 43 (.bsl (.mu true) 6 1 [vS,vS,.nils,(vI 0),(vI 0),(vI 0)] [(0, 42)]) []), true, [4]⟩,
 ⟨12, (oO 44 (.append (.mu true) 6 80 36 43) []), true, []⟩,
 ⟨13, (oO 45 (.nilc 32) []), false, []⟩,
 ⟨14, (oO 46 (.faddr 0 45) []), false, []⟩,
 ⟨15, (oN (.store 1 46 44) []), true, []⟩] [0,32,33,34,35,36,6,37,38,2,39,3,40,4,41,42,43,44,45,46])
(rS [oA 10 kT []] .ret)))), [.t 10]⟩
/-- ( interrex/assume.Assume).Settle -/
def f36 : AFn := ⟨4, (rS [oO 5 (.box true 1) [1], oO 6 (.box true 2) [2], oO 7 (.box true 3) [3], oA 8 (kI 0) [8]] (.seq (rS [oM 10 0 [], oO 11 (.eqn false 10 (.c .nilp)) [10]] (.cond 11 (rS [oA 8 (kI 0) []] .ret)
 .skip))
(rS [oM 12 0 [], oO 13 (.nilc 12) [12], oO 14 (.faddr 0 13) [13], oO 15 (.load none 14) [14], oO 16 (.lenL 15) [15], oA 9 16 [16]] (rS [oM 17 0 [], oM 18 0 [], oO 19 (.nilc 18) [18], oO 20 (.faddr 0 19) [19], oO 21 (.load none 20) [20], oO 22 (.mkfn 85 [7,6,5]) [7,6,5], oO 23 (.call 84 [21,22]) [21,22], oO 24 (.nilc 17) [17], oO 25 (.faddr 0 24) [24], oN (.store 1 25 23) [25,23]] (rS [oM 26 9 [9], oM 27 0 [0], oO 28 (.nilc 27) [27], oO 29 (.faddr 0 28) [28], oO 30 (.load none 29) [29], oO 31 (.lenL 30) [30], oO 32 (.bin .sub 26 31) [26,31], oA 8 32 [32]] .ret))))), [.t 8]⟩
/-- ( interrex/assume.Assume).Has -/
def f37 : AFn := ⟨2, (rS [oO 3 (.box true 1) [1], oA 4 kF [4]] (rS [oM 5 0 [], oO 6 (.eqn true 5 (.c .nilp)) [5], oM 7 6 [6], oG 8 (.mv 0) 7 [0], oG 9 (.nilc 8) 7 [8], oG 10 (.faddr 0 9) 7 [9], oG 11 (.load none 10) 7 [10], oG 12 (.mkfn 88 [3]) 7 [3], oG 13 (.call 87 [11,12]) 7 [11,12], oO 14 (.pick 7 13 kF) [7,13], oA 4 14 [14]] .ret)), [.t 4]⟩
/-- interrex/interrexlaw1.Text -/
def f38 : AFn := ⟨2, (rS [oA 4 (.c vS) [4]] (rS [oM 5 0 [], oM 6 0 [0], oO 7 (.lenS 6) [6], oM 8 1 [1], oO 9 (.mnmx false [7,8]) [7,8], oO 10 (.slstr 5 none (some 9)) [5,9], oA 4 10 [10]] .ret)), [.t 4]⟩
/-- ( interrex/assume.Assume).All -/
def f39 : AFn := ⟨1, (rS [oA 2 (.c .nils) [2]] (.seq (rS [oM 6 0 [], oO 7 (.eqn false 6 (.c .nilp)) [6]] (.cond 7 (rS [oA 2 (.c .nils) []] .ret)
 .skip))
(rS [oA 3 (.c .nils) []] (.seq (rS [oM 8 0 [0], oO 9 (.nilc 8) [8], oO 10 (.faddr 0 9) [9], oO 11 (.load none 10) [10], oO 12 (.lenL 11) [], oM 13 (kI 0) []] (.blk 0 (.loop (rS [oO 14 (.bin .lss 13 12) []] (.seq (.cond 14 .skip
 (.exit 0))
(.seq (.blk 1 (rS [oO 15 (.iasl 6 11 13) [], oO 16 (.load (some 6) 15) [15], oO 5 (.alloc false [vS,vS,.nils,(vI 0),(vI 0),(vI 0)]) [], oN (.store 6 5 16) [16]] (rR [oM 17 3 [3], oO 18 (.faddr 0 5) [5], oO 19 (.load (some 3) 18) [18], oO 20 (.call 83 [19]) [19], oO 21 (.bsl (.im false) 3 1 [vS,vS,.nils] [(0, 20)]) [20], oO 22 (.append (.im false) 3 56 17 21) [17,21], oA 3 22 [22]])))
(rR [oO 23 (.bin .add 13 (kI 1)) [13], oM 13 23 [23]])))))))
(rS [oM 24 3 [3], oA 2 24 [24]] .ret))))), [.t 2]⟩
/-- ( interrex/assume.Assume).Clear -/
def f40 : AFn := ⟨1, (rS [oM 2 0 [], oO 3 (.eqn true 2 (.c .nilp)) [2]] (.cond 3 (rR [oM 4 0 [0], oO 5 (.nilc 4) [4], oO 6 (.faddr 0 5) [5], oN (.store 1 6 (.c .nils)) [6]])
 .skip)), []⟩
/-- interrex/interrexref15.EqDo -/
def f41 : AFn := ⟨2, (rS [oO 2 (.box false 0) [0], oO 3 (.box false 1) [1], oA 4 kF [4]] (.seq (rS [oO 6 (.faddr 0 2) [], oO 7 (.load none 6) [6], oO 8 (.faddr 0 3) [], oO 9 (.load none 8) [8], oO 10 (.bin .neq 7 9) [7,9], oM 11 10 [10], oH 12 (.faddr 1 2) 11 [], oH 13 (.load none 12) 11 [12], oH 14 (.faddr 1 3) 11 [], oH 15 (.load none 14) 11 [14], oH 16 (.bin .neq 13 15) 11 [13,15], oO 17 (.pick 11 kT 16) [11,16], oM 18 17 [17], oH 19 (.faddr 2 2) 18 [], oH 20 (.load none 19) 18 [19], oH 21 (.lenL 20) 18 [20], oH 22 (.faddr 2 3) 18 [], oH 23 (.load none 22) 18 [22], oH 24 (.lenL 23) 18 [23], oH 25 (.bin .neq 21 24) 18 [21,24], oO 26 (.pick 18 kT 25) [18,25]] (.cond 26 (rS [oA 4 kF []] .ret)
 .skip))
(.seq (rS [oO 27 (.faddr 2 2) [], oO 28 (.load none 27) [27], oO 29 (.lenL 28) [28], oM 30 (kI 0) []] (.blk 0 (.loop (rS [oO 31 (.bin .lss 30 29) []] (.seq (.cond 31 .skip
 (.exit 0))
(.seq (.blk 1 (rS [oM 32 30 [], oA 5 32 [32]] (.seq (.dreg [⟨0, (oO 33 (.faddr 2 2) []), false, []⟩,
 ⟨1, (oO 34 (.load none 33) []), false, []⟩,
 ⟨2, (oM 35 5 []), false, []⟩,
 ⟨3, (oO 36 (.iasl 1 34 35) []), false, []⟩,
 ⟨4, (oO 37 (.load none 36) []), false, []⟩,
 ⟨5, (oO 38 (.faddr 2 3) []), false, []⟩,
 ⟨6, (oO 39 (.load none 38) []), false, []⟩,
 ⟨7, (oM 40 5 []), false, []⟩,
 ⟨8, (oO 41 (.iasl 1 39 40) []), false, []⟩,
 ⟨9, (oO 42 (.load none 41) []), false, []⟩,
 ⟨10, (oO 43 (.bin .neq 37 42) []), false, []⟩] [33,34,5,35,36,37,38,39,40,41,42])
(.cond 43 (rS [oA 4 kF []] .ret)
 .skip))))
(rR [oO 44 (.bin .add 30 (kI 1)) [30], oM 30 44 [44]])))))))
(rS [oA 4 kT []] .ret)))), [.t 4]⟩
/-- interrex/clock.New -/
def f42 : AFn := ⟨1, (rS [oA 2 (.c .nilp) [2]] (rS [oM 3 0 [0], oO 4 (.mnmx true [3,(kI 1)]) [3], oO 5 (.mnmx false [4,(kI 8)]) [4], oO 6 (.mksl (.mu true) 1 8 [(vI 0)] 5 5) [5], oO 7 (.bld [.nils,(vI 0),(vI 0),(vI 0),(vI 0),(vI 0),(vI 0),(vI 0),(vI 0),(vI 0),(vI 0),(vI 0),(vI 0),(vI 0),(vI 0),(vI 0),(vI 0),(vI 0),(vI 0),(vI 0),(vI 0),(vI 0),(vI 0),(vI 0),(vI 0),(vI 0),(vI 0),(vI 0),(vI 0),(vI 0),(vI 0),(vI 0),(vI 0),(vI 0),(vI 0),(vI 0),(vI 0),(vI 0),(vI 0),(vI 0),(vI 0),(vI 0),(vI 0),(vI 0),(vI 0),(vI 0),(vI 0),(vI 0),(vI 0),(vI 0),(vI 0),(vI 0),(vI 0),(vI 0),(vI 0),(vI 0),(vI 0),(vI 0),(vI 0),(vI 0),(vI 0),(vI 0),(vI 0),(vI 0),(vI 0),(vI 0),(vI 0),(vI 0),(vI 0),(vI 0),(vI 0),(vI 0),(vI 0),(vI 0),(vI 0),(vI 0),(vI 0),(vI 0),(vI 0),(vI 0),(vI 0),(vI 0),(vI 0),(vI 0),(vI 0),(vI 0),(vI 0),(vI 0),(vI 0),(vI 0),(vI 0),(vI 0),(vI 0),(vI 0),(vI 0),(vI 0),(vI 0),(vI 0),(vI 0),(vI 0),(vI 0),(vI 0),(vI 0),(vI 0),(vI 0),(vI 0),(vI 0),(vI 0),(vI 0),(vI 0),(vI 0),(vI 0),(vI 0),(vI 0),(vI 0),(vI 0),(vI 0),(vI 0),(vI 0),(vI 0),(vI 0),(vI 0),(vI 0),(vI 0),(vI 0),(vI 0),(vI 0),(vI 0),(vI 0)] [(0, 1, 6)]) [6], oO 8 (.box true 7) [7], oA 2 8 [8]] .ret)), [.t 2]⟩
/-- interrex/net.New -/
def f43 : AFn := ⟨1, (rS [oA 2 (.c .nilp) [2]] (rS [oM 3 0 [0], oO 4 (.mnmx true [3,(kI 1)]) [3], oO 5 (.mnmx false [4,(kI 1000)]) [4], oO 6 (.bld [.nils,(vI 0)] [(1, 1, 5)]) [5], oO 7 (.box true 6) [6], oA 2 7 [7]] .ret)), [.t 2]⟩
/-- interrex/elect.New -/
def f44 : AFn := ⟨1, (rS [oA 2 (.c .nilp) [2]] (.seq (rS [oM 3 0 [], oO 4 (.bin .lss 3 (kI 0)) [3], oM 5 4 [4], oH 6 (.mv 0) 5 [], oH 7 (.bin .gtr 6 (kI 7)) 5 [6], oO 8 (.pick 5 kT 7) [5,7]] (.cond 8 (rS [oA 2 (.c .nilp) []] .ret)
 .skip))
(rS [oM 9 0 [0], oO 10 (.bld [(vI 0),(.b false),(.b false),(vI 0),(vI 0),(vI 0),(vI 0),(.b false),(vI 0),(vI 0),(vI 0)] [(0, 1, 9)]) [9], oO 11 (.box true 10) [10], oA 2 11 [11]] .ret))), [.t 2]⟩
/-- ( interrex/clock.Clocks).Tick -/
def f45 : AFn := ⟨2, (rS [oA 4 kF [4]] (.seq (rS [oM 13 0 [], oO 14 (.eqn false 13 (.c .nilp)) [13]] (.cond 14 (rS [oA 4 kF []] .ret)
 .skip))
(rS [oM 15 1 [], oM 16 1 [1], oO 17 (.lenL 16) [16], oM 18 0 [], oO 19 (.nilc 18) [18], oO 20 (.faddr 0 19) [19], oO 21 (.load none 20) [20], oO 22 (.lenL 21) [21], oO 23 (.mnmx false [17,22]) [17,22], oO 24 (.slsl 1 15 none (some 23) none) [15,23], oA 1 24 [24]] (.seq (rS [oM 25 1 [], oO 26 (.lenL 25) [], oM 27 (kI 0) []] (.blk 0 (.loop (rS [oO 28 (.bin .lss 27 26) []] (.seq (.cond 28 .skip
 (.exit 0))
(.seq (.blk 1 (rS [oM 29 27 [], oO 30 (.iasl 1 25 27) [], oO 31 (.load none 30) [30], oA 5 29 [29], oA 6 31 [31]] (rS [oM 32 6 [], oO 33 (.bin .lss 32 (kI 0)) [32], oM 34 33 [33], oH 35 (.mv 6) 34 [], oH 36 (.bin .gtr 35 (kI 1000000)) 34 [35], oO 37 (.pick 34 kT 36) [34,36], oM 38 37 [37], oH 39 (.mv 0) 38 [], oH 40 (.nilc 39) 38 [39], oH 41 (.faddr 0 40) 38 [40], oH 42 (.load none 41) 38 [41], oH 43 (.mv 5) 38 [5], oH 44 (.iasl 1 42 43) 38 [42,43], oH 45 (.load none 44) 38 [44], oH 46 (.mv 6) 38 [6], oH 47 (.bin .add 45 46) 38 [45,46], oH 48 (.bin .gtr 47 (kI 1125899906842624)) 38 [47], oO 49 (.pick 38 kT 48) [38,48]] (.cond 49 (rS [oA 4 kF []] .ret)
 .skip))))
(rR [oO 50 (.bin .add 27 (kI 1)) [27], oM 27 50 [50]])))))))
(.seq (rS [oM 51 1 [1], oO 52 (.lenL 51) [], oM 53 (kI 0) []] (.blk 2 (.loop (rS [oO 54 (.bin .lss 53 52) []] (.seq (.cond 54 .skip
 (.exit 2))
(.seq (.blk 3 (rS [oM 55 53 [], oO 56 (.iasl 1 51 53) [], oO 57 (.load none 56) [56], oA 7 55 [55], oA 8 57 [57]] (rR [oM 58 0 [], oO 59 (.nilc 58) [58], oO 60 (.faddr 0 59) [59], oO 61 (.load none 60) [60], oM 62 7 [7], oO 63 (.iasl 1 61 62) [], oO 64 (.load none 63) [63], oM 65 8 [8], oO 66 (.bin .add 64 65) [64,65], oO 67 (.iasl 1 61 62) [61,62], oN (.store 1 67 66) [67,66]])))
(rR [oO 68 (.bin .add 53 (kI 1)) [53], oM 53 68 [68]])))))))
(.seq (rS [oM 69 0 [], oO 70 (.nilc 69) [69], oO 71 (.faddr 0 70) [70], oO 72 (.load none 71) [71], oO 73 (.lenL 72) [], oM 74 (kI 0) []] (.blk 4 (.loop (rS [oO 75 (.bin .lss 74 73) []] (.seq (.cond 75 .skip
 (.exit 4))
(.seq (.blk 5 (rS [oM 76 74 [], oO 77 (.iasl 1 72 74) [], oO 78 (.load none 77) [77], oA 9 76 [76], oA 10 78 [78]] (rS [oM 79 0 [], oO 80 (.nilc 79) [79], oO 81 (.faddr 0 80) [80], oO 82 (.load none 81) [81], oO 83 (.lenL 82) [], oM 84 (kI 0) []] (.blk 6 (.loop (rS [oO 85 (.bin .lss 84 83) []] (.seq (.cond 85 .skip
 (.exit 6))
(.seq (.blk 7 (rS [oM 86 84 [], oO 87 (.iasl 1 82 84) [], oO 88 (.load none 87) [87], oA 11 86 [86], oA 12 88 [88]] (.dreg [⟨0, (oM 89 0 []), false, []⟩,
 ⟨1, (oM 90 9 []), false, []⟩,
 ⟨2, (oM 91 11 []), false, []⟩,
 ⟨3, (oM 92 0 []), false, []⟩,
 ⟨4, (oM 93 9 []), false, []⟩,
 ⟨5, (oM 94 11 []), false, []⟩,
 ⟨6, (oM 95 0 []), false, []⟩,
 ⟨7, (oM 96 9 []), false, []⟩,
 ⟨8, (oM 97 11 []), false, []⟩,
 ⟨9, (oO 98 (.nilc 95) []), false, []⟩,
 ⟨10, (oO 99 (.faddr 1 98) []), false, []⟩,
 ⟨11, (oO 100 (.iaar 8 8 99 96) []), false, []⟩,
 ⟨12, (oO 101 (.iaar 8 1 100 97) []), false, []⟩,
 ⟨13, (oO 102 (.load none 101) []), false, []⟩,
 ⟨14, (oM 103 10 []), false, []⟩,
 ⟨15, (oM 104 12 []), false, []⟩,
 ⟨16, (oO 105 (.bin .sub 103 104) []), false, []⟩,
 ⟨17, (oO 106 (.mnmx false [102,105]) []), false, []⟩,
 ⟨18, (oM 107 0 []), false, []⟩,
 ⟨19, (oM 108 9 []), false, []⟩,
 ⟨20, (oM 109 11 []), false, []⟩,
 ⟨21, (oO 110 (.nilc 107) []), false, []⟩,
 ⟨22, (oO 111 (.faddr 65 110) []), false, []⟩,
 ⟨23, (oO 112 (.iaar 8 8 111 108) []), false, []⟩,
 ⟨24, (oO 113 (.iaar 8 1 112 109) []), false, []⟩,
 ⟨25, (oO 114 (.load none 113) []), false, []⟩,
 ⟨26, (oM 115 10 []), false, []⟩,
 ⟨27, (oM 116 12 []), false, []⟩,
 ⟨28, (oO 117 (.bin .sub 115 116) []), false, []⟩,
 ⟨29, (oO 118 (.mnmx true [114,117]) []), false, []⟩,
 ⟨30, (oO 119 (.nilc 89) []), false, []⟩,
 ⟨31, (oO 120 (.faddr 1 119) []), false, []⟩,
 ⟨32, (oO 121 (.iaar 8 8 120 90) []), false, []⟩,
 ⟨33, (oO 122 (.iaar 8 1 121 91) []), false, []⟩,
 ⟨35, (oO 123 (.nilc 92) []), false, []⟩,
 ⟨36, (oO 124 (.faddr 65 123) []), false, []⟩,
 ⟨37, (oO 125 (.iaar 8 8 124 93) []), false, []⟩,
 ⟨34, (oN (.store 1 122 106) []), true, []⟩,
 ⟨38, (oO 126 (.iaar 8 1 125 94) []), false, []⟩,
 ⟨39, (oN (.store 1 126 118) []), true, []⟩] [89,90,11,91,92,93,94,95,96,97,98,99,100,101,102,103,12,104,105,106,107,108,109,110,111,112,113,114,115,116,117,118,119,120,121,122,123,124,125,126])))
(rR [oO 127 (.bin .add 84 (kI 1)) [84], oM 84 127 [127]])))))))))
(rR [oO 128 (.bin .add 74 (kI 1)) [74], oM 74 128 [128]])))))))
(rS [oA 4 kT []] .ret))))))), [.t 4]⟩
/-- ( interrex/net.Net).Send -/
def f46 : AFn := ⟨2, (rS [oO 3 (.box false 1) [1], oA 4 kF [4]] (.seq (.seq (.dreg [⟨0, (oM 5 0 []), false, []⟩,
 ⟨1, (oO 6 (.eqn false 5 (.c .nilp)) []), true, []⟩,
 ⟨2, (oM 7 6 []), false, []⟩,
 ⟨3, (oH 8 (.mv 0) 7 []), false, []⟩,
 ⟨4, (oH 9 (.nilc 8) 7 []), false, []⟩,
 ⟨5, (oH 10 (.faddr 0 9) 7 []), false, []⟩,
 ⟨6, (oH 11 (.load none 10) 7 []), false, []⟩,
 ⟨7, (oH 12 (.lenL 11) 7 []), false, []⟩,
 ⟨8, (oH 13 (.mv 0) 7 []), false, []⟩,
 ⟨9, (oH 14 (.nilc 13) 7 []), false, []⟩,
 ⟨10, (oH 15 (.faddr 1 14) 7 []), false, []⟩,
 ⟨11, (oH 16 (.load none 15) 7 []), false, []⟩,
 ⟨12, (oH 17 (.bin .geq 12 16) 7 []), false, []⟩,
 ⟨13, (oO 18 (.pick 7 kT 17) []), false, []⟩] [5,6,7,8,9,10,11,12,13,14,15,16,17])
(.cond 18 (rS [oA 4 kF []] .ret)
 .skip))
(.seq (.dreg [⟨0, (oM 19 0 []), false, []⟩,
 ⟨1, (oM 20 0 []), false, []⟩,
 ⟨2, (oO 21 (.nilc 20) []), false, []⟩,
 ⟨3, (oO 22 (.faddr 0 21) []), false, []⟩,
 ⟨4, (oO 23 (.load none 22) []), false, []⟩,
 ⟨5, (oO 24 (.load (some 3) 3) []), false, []⟩,
 ⟨6, (oO 25 (.call 89 [24]) []), true, [4]⟩,
 ⟨7, (oO 26 (.bsl (.mu true) 3 1 [(.b false),(vI 0),.nils] [(0, 25)]) []), true, [4]⟩,
 ⟨8, (oO 27 (.append (.mu true) 3 40 23 26) []), true, []⟩,
 ⟨9, (oO 28 (.nilc 19) []), false, []⟩,
 ⟨10, (oO 29 (.faddr 0 28) []), false, []⟩,
 ⟨11, (oN (.store 1 29 27) []), true, []⟩] [0,19,20,21,22,23,3,24,25,26,27,28,29])
(rS [oA 4 kT []] .ret)))), [.t 4]⟩
/-- interrex/code.PutLease -/
def f47 : AFn := ⟨1, (rS [oO 1 (.box false 0) [0], oA 2 (.c .nils) [2]] (.seq (rS [oO 4 (.faddr 0 1) [], oO 5 (.load none 4) [4], oO 6 (.bin .lss 5 (kI 0)) [5], oM 7 6 [6], oH 8 (.faddr 0 1) 7 [], oH 9 (.load none 8) 7 [8], oH 10 (.bin .gtr 9 (kI 7)) 7 [9], oO 11 (.pick 7 kT 10) [7,10], oM 12 11 [11], oH 13 (.faddr 1 1) 12 [], oH 14 (.load none 13) 12 [13], oH 15 (.bin .lss 14 (kI 1)) 12 [14], oO 16 (.pick 12 kT 15) [12,15], oM 17 16 [16], oH 18 (.faddr 1 1) 17 [], oH 19 (.load none 18) 17 [18], oH 20 (.bin .gtr 19 (kI 1099511627776)) 17 [19], oO 21 (.pick 17 kT 20) [17,20]] (.cond 21 (rS [oA 2 (.c .nils) []] .ret)
 .skip))
(rS [oO 3 (.alloc true [(.i .u32 0),(.i .i32 0),(.i .u32 0),(.i .u64 0),(.i .u64 0),(.i .u64 0),(.i .u64 0),(.i .u64 0),(.i .u64 0),(.i .u64 0),(.i .u64 0),(.i .u64 0),(.i .u64 0),(.i .u64 0),(.i .u64 0),(.i .u64 0),(.i .u64 0),(.i .u64 0),(.i .u64 0),(.i .u64 0),(.i .u64 0),(.i .u64 0),(.i .u64 0),(.i .u64 0),(.i .u64 0),(.i .u64 0),(.i .u64 0),(.i .u64 0),(.i .u64 0),(.i .u64 0),(.i .u64 0),(.i .u64 0),(.i .u64 0),(.i .u64 0),(.i .u64 0),(.i .u64 0),(.i .u64 0),(.i .u64 0),(.i .u64 0),(.i .u64 0),(.i .u64 0),(.i .u64 0),(.i .u64 0),(.i .u64 0),(.i .u64 0),(.i .u64 0),(.i .u64 0),(.i .u64 0),(.i .u64 0),(.i .u64 0),(.i .u64 0),(.i .u64 0),(.i .u64 0),(.i .u64 0),(.i .u64 0),(.i .u64 0),(.i .u64 0),(.i .u64 0),(.i .u64 0),(.i .u64 0),(.i .u64 0),(.i .u64 0),(.i .u64 0),(.i .u64 0),(.i .u64 0),(.i .u64 0),(.i .u64 0),(.i .u64 0),(.i .u64 0),(.i .u64 0),(.i .u64 0),(.i .u64 0),(.i .u64 0),(.i .u64 0),(.i .u64 0),(.i .u64 0),(.i .u64 0),(.i .u64 0),(.i .u64 0),(.i .u64 0),(.i .u64 0),(.i .u64 0),(.i .u64 0),(.i .u64 0),(.i .u64 0),(.i .u64 0),(.i .u64 0),(.i .u64 0),(.i .u64 0),(.i .u64 0),(.i .u64 0),(.i .u64 0),(.i .u64 0),(.i .u64 0),(.i .u64 0),(.i .u64 0),(.i .u64 0),(.i .u64 0),(.i .u64 0),(.i .u64 0),(.i .u64 0),(.i .u64 0),(.i .u64 0),(.i .u64 0),(.i .u64 0),(.i .u64 0),(.i .u64 0),(.i .u64 0),(.i .u64 0),(.i .u64 0),(.i .u64 0),(.i .u64 0),(.i .u64 0),(.i .u64 0),(.i .u64 0),(.i .u64 0),(.i .u64 0),(.i .u64 0),(.i .u64 0),(.i .u64 0),(.i .u64 0),(.i .u64 0),(.i .u64 0),(.i .u64 0),(.i .u64 0),(.i .u64 0),(.i .u64 0),(.i .u64 0),(.i .u64 0),(.i .u64 0),(.i .u64 0),(.i .u64 0),(.i .u64 0),(.i .u64 0),(.i .u64 0),(.i .u64 0),(.i .u64 0),(.i .u64 0),(.i .u64 0),(.i .u64 0),(.i .u64 0),(.i .u64 0),(.i .u64 0),(.i .u64 0),(.i .u64 0),(.i .u64 0),(.i .u64 0),(.i .u64 0),(.i .u64 0),(.i .u64 0),(.i .u64 0),(.i .u64 0),(.i .u64 0),(.i .u64 0),(.i .u64 0),(.i .u64 0),(.i .u64 0),(.i .u64 0),(.i .u64 0),(.i .u64 0),(.i .u64 0),(.i .u64 0),(.i .u64 0),(.i .u64 0),(.i .u64 0),(.i .u64 0),(.i .u64 0),(.i .u64 0),(.i .u64 0),(.i .u64 0),(.i .u64 0),(.i .u64 0),(.i .u64 0),(.i .u64 0),(.i .u64 0),(.i .u64 0),(.i .u64 0),(.i .u64 0),(.i .u64 0),(.i .u64 0),(.i .u64 0),(.i .u64 0),(.i .u64 0),(.i .u64 0),(.i .u64 0),(.i .u64 0),(.i .u64 0),(.i .u64 0),(.i .u64 0),(.i .u64 0),(.i .u64 0),(.i .u64 0),(.i .u64 0),(.i .u64 0),(.i .u64 0),(.i .u64 0),(.i .u64 0),(.i .u64 0),(.i .u64 0),(.i .u64 0),(.i .u64 0),(.i .u64 0),(.i .u64 0),(.i .u64 0),(.i .u64 0),(.i .u64 0),(.i .u64 0),(.i .u64 0),(.i .u64 0),(.i .u64 0),(.i .u64 0),(.i .u64 0),(.i .u64 0),(.i .u64 0),(.i .u64 0),(.i .u64 0),(.i .u64 0),(.i .u64 0),(.i .u64 0),(.i .u64 0),(.i .u64 0),(.i .u64 0),(.i .u64 0),(.i .u64 0),(.i .u64 0),(.i .u64 0),(.i .u64 0),(.i .u64 0),(.i .u64 0),(.i .u64 0),(.i .u64 0),(.i .u64 0),(.i .u64 0),(.i .u64 0),(.i .u64 0),(.i .u64 0),(.i .u64 0),(.i .u64 0),(.i .u64 0),(.i .u64 0),(.i .u64 0),(.i .u64 0),(.i .u64 0),(.i .u64 0),(.i .u64 0),(.i .u64 0),(.i .u64 0),(.i .u64 0),(.i .u64 0),(.i .u64 0),(.i .u64 0),(.i .u64 0),(.i .u64 0),(.i .u64 0),(.i .u64 0),(.i .u64 0),(.i .u64 0),(.i .u64 0),(.i .u64 0),(.i .u8 0),(.i .u8 0),(.i .u8 0),(.i .u8 0),(.i .u8 0),(.i .u8 0),(.i .u8 0),(.i .u8 0),(.i .u8 0),(.i .u8 0),(.i .u8 0),(.i .u8 0),(.i .u8 0),(.i .u8 0),(.i .u8 0),(.i .u8 0),(.i .u8 0),(.i .u8 0),(.i .u8 0),(.i .u8 0),(.i .u8 0),(.i .u8 0),(.i .u8 0),(.i .u8 0),(.i .u8 0),(.i .u8 0),(.i .u8 0),(.i .u8 0),(.i .u8 0),(.i .u8 0),(.i .u8 0),(.i .u8 0),(.i .u8 0),(.i .u8 0),(.i .u8 0),(.i .u8 0),(.i .u8 0),(.i .u8 0),.nils]) []] (rS [oO 22 (.call 75 [3,(kI 3),(kI 1)]) [22]] (rS [oO 23 (.faddr 0 1) [], oO 24 (.load none 23) [23], oO 25 (.call 75 [3,24,(kI 1)]) [24,25]] (rS [oO 26 (.faddr 1 1) [1], oO 27 (.load none 26) [26], oO 28 (.call 75 [3,27,(kI 8)]) [27,28]] (rS [oO 29 (.call 82 [3]) [3], oA 2 29 [29]] .ret))))))), [.t 2]⟩
/-- ( interrex/elect.Elect).See -/
def f48 : AFn := ⟨5, (rS [oO 8 (.box false 3) [3]] (.seq (rS [oM 10 0 [], oO 11 (.eqn false 10 (.c .nilp)) [10]] (.cond 11 .ret
 .skip))
(.seq (rS [oM 12 4 [], oO 13 (.un .not 12) [12]] (.cond 13 (rR [oO 14 (.bld [(vI 0),(vI 0)] []) [], oA 2 (kI 0) [], oN (.store 2 8 14) [14]])
 .skip))
(.seq (rS [oM 15 0 [], oO 16 (.nilc 15) [15], oO 17 (.faddr 1 16) [16], oO 18 (.load none 17) [17], oM 19 18 [18], oG 20 (.mv 2) 19 [], oG 21 (.mv 0) 19 [], oG 22 (.nilc 21) 19 [21], oG 23 (.faddr 3 22) 19 [22], oG 24 (.load none 23) 19 [23], oG 25 (.bin .lss 20 24) 19 [20,24], oO 26 (.pick 19 25 kF) [19,25]] (.cond 26 .ret
 .skip))
(.seq (rS [oM 27 0 [], oO 28 (.nilc 27) [27], oO 29 (.faddr 1 28) [28], oO 30 (.load none 29) [29], oO 31 (.un .not 30) [30], oM 32 31 [31], oH 33 (.mv 2) 32 [], oH 34 (.mv 0) 32 [], oH 35 (.nilc 34) 32 [34], oH 36 (.faddr 3 35) 32 [35], oH 37 (.load none 36) 32 [36], oH 38 (.bin .neq 33 37) 32 [33,37], oO 39 (.pick 32 kT 38) [32,38]] (.cond 39 (rR [oM 40 0 [], oM 41 1 [1], oO 42 (.nilc 40) [40], oO 43 (.faddr 6 42) [42], oN (.store 1 43 41) [43,41]])
 .skip))
(.seq (.dreg [⟨0, (oM 44 0 []), false, []⟩,
 ⟨1, (oM 45 0 []), false, []⟩,
 ⟨2, (oM 46 0 []), false, []⟩,
 ⟨3, (oM 47 0 []), false, []⟩,
 ⟨4, (oM 48 4 []), false, []⟩,
 ⟨5, (oM 49 2 []), false, []⟩,
 ⟨6, (oO 50 (.load (some 2) 8) []), false, []⟩,
 ⟨7, (oO 51 (.nilc 44) []), false, []⟩,
 ⟨8, (oO 52 (.faddr 1 51) []), false, []⟩,
 ⟨9, (oN (.store 1 52 kT) []), true, [6]⟩,
 ⟨10, (oO 53 (.nilc 45) []), false, []⟩,
 ⟨11, (oO 54 (.faddr 2 53) []), false, []⟩,
 ⟨12, (oN (.store 1 54 48) []), true, [6]⟩,
 ⟨13, (oO 55 (.nilc 46) []), false, []⟩,
 ⟨14, (oO 56 (.faddr 3 55) []), false, []⟩,
 ⟨15, (oN (.store 1 56 49) []), true, [6]⟩,
 ⟨16, (oO 57 (.nilc 47) []), false, []⟩,
 ⟨17, (oO 58 (.faddr 4 57) []), false, []⟩,
 ⟨18, (oN (.store 2 58 50) []), true, []⟩] [44,45,46,47,48,49,50,51,52,53,54,55,56,57,58])
(.seq (.dreg [⟨0, (oM 59 0 []), false, []⟩,
 ⟨1, (oO 60 (.nilc 59) []), false, []⟩,
 ⟨2, (oO 61 (.faddr 9 60) []), false, []⟩,
 ⟨3, (oO 62 (.load none 61) []), false, []⟩,
 ⟨4, (oO 63 (.bin .gtr 62 (kI 0)) []), false, []⟩,
 ⟨5, (oM 64 63 []), false, []⟩,
 ⟨6, (oG 65 (.mv 0) 64 []), false, []⟩,
 ⟨7, (oG 66 (.nilc 65) 64 []), false, []⟩,
 ⟨8, (oG 67 (.faddr 9 66) 64 []), false, []⟩,
 ⟨9, (oG 68 (.load none 67) 64 []), false, []⟩,
 ⟨10, (oG 69 (.mv 2) 64 []), false, []⟩,
 ⟨11, (oG 70 (.bin .lss 68 69) 64 []), false, []⟩,
 ⟨12, (oO 71 (.pick 64 70 kF) []), false, []⟩,
 ⟨13, (oM 72 71 []), false, []⟩,
 ⟨14, (oG 73 (.mv 4) 72 []), false, []⟩,
 ⟨15, (oG 74 (.un .not 73) 72 []), false, []⟩,
 ⟨16, (oG 75 (.mv 74) 72 []), false, []⟩,
 ⟨17, (oH 76 (.faddr 0 8) 75 []), false, []⟩,
 ⟨18, (oH 77 (.load none 76) 75 []), false, []⟩,
 ⟨19, (oH 78 (.mv 0) 75 []), false, []⟩,
 ⟨20, (oH 79 (.nilc 78) 75 []), false, []⟩,
 ⟨21, (oH 80 (.faddr 0 79) 75 []), false, []⟩,
 ⟨22, (oH 81 (.load none 80) 75 []), false, []⟩,
 ⟨23, (oH 82 (.bin .neq 77 81) 75 []), false, []⟩,
 ⟨24, (oG 83 (.pick 75 kT 82) 72 []), false, []⟩,
 ⟨25, (oO 84 (.pick 72 83 kF) []), false, []⟩] [59,60,61,62,63,64,65,66,67,68,2,69,70,71,72,4,73,74,75,8,76,77,78,79,80,81,82,83])
(.cond 84 (rR [oM 85 0 [0], oO 86 (.call 90 [85]) [85,86]])
 .skip)))))))), []⟩
/-- ( interrex/elect.Elect).Want -/
def f49 : AFn := ⟨2, (rS [oO 4 (.alloc false [.nils,.nils]) [], oA 5 kF [5]] (.seq (rS [oM 8 0 [], oO 9 (.eqn false 8 (.c .nilp)) [8], oM 10 9 [9], oH 11 (.mv 0) 10 [], oH 12 (.nilc 11) 10 [11], oH 13 (.faddr 7 12) 10 [12], oH 14 (.load none 13) 10 [13], oH 15 (.mv 14) 10 [14], oG 16 (.mv 1) 15 [], oG 17 (.mv 0) 15 [], oG 18 (.nilc 17) 15 [17], oG 19 (.faddr 8 18) 15 [18], oG 20 (.load none 19) 15 [19], oG 21 (.call 91 [16,20]) 15 [16,20], oG 22 (.un .not 21) 15 [21], oH 23 (.pick 15 22 kF) 10 [15,22], oO 24 (.pick 10 kT 23) [10,23]] (.cond 24 (rS [oO 25 (.bld [.nils,.nils] []) [], oN (.store 2 4 25) [25], oA 5 kF []] .ret)
 .skip))
(rS [oM 26 0 [], oO 27 (.nilc 26) [26], oO 28 (.faddr 7 27) [27], oN (.store 1 28 kF) [28]] (.seq (rS [oM 29 0 [], oM 30 1 [], oO 31 (.call 92 [29,30]) [29,30], oO 32 (.un .not 31) [31]] (.cond 32 (rS [oO 33 (.bld [.nils,.nils] []) [], oN (.store 2 4 33) [33], oA 5 kF []] .ret)
 .skip))
(rS [oM 34 0 [], oM 35 0 [], oM 36 1 [1], oO 37 (.nilc 34) [34], oO 38 (.faddr 7 37) [37], oN (.store 1 38 kT) [38], oO 39 (.nilc 35) [35], oO 40 (.faddr 8 39) [39], oN (.store 1 40 36) [40,36]] (rS [oO 41 (.call 93 [(kI 3),(.c vS)]) [], oA 6 41 [41]] (rS [oM 42 0 [], oO 43 (.nilc 42) [42], oO 44 (.faddr 0 43) [43], oO 45 (.load none 44) [44], oO 46 (.bld [(vI 0),(vI 0)] [(0, 1, 45),(1, 1, (kI 1000))]) [45], oO 47 (.call 47 [46]) [46], oA 7 47 [47]] (rS [oM 48 6 [], oM 49 0 [0], oO 50 (.nilc 49) [49], oO 51 (.faddr 3 50) [50], oO 52 (.load none 51) [51], oO 53 (.bld [vS,(vI 0),(.b false)] [(0, 1, 48),(1, 1, 52)]) [48,52], oO 54 (.bsl (.im false) 3 1 [vS,(vI 0),(.b false)] [(0, 53)]) [53], oM 55 6 [6], oM 56 7 [7], oO 57 (.bld [vS,.nils,(.b false)] [(0, 1, 55),(1, 1, 56)]) [55,56], oO 58 (.bsl (.im false) 3 1 [vS,.nils,(.b false)] [(0, 57)]) [57], oO 59 (.bld [.nils,.nils] [(0, 1, 54),(1, 1, 58)]) [54,58], oN (.store 2 4 59) [59], oA 5 kT []] .ret)))))))), [.cell 4 (some 2),.t 5]⟩
/-- ( interrex/elect.Elect).Told -/
def f50 : AFn := ⟨4, (.seq (rS [oM 8 0 [], oO 9 (.eqn false 8 (.c .nilp)) [8], oM 10 9 [9], oH 11 (.mv 0) 10 [], oH 12 (.nilc 11) 10 [11], oH 13 (.faddr 7 12) 10 [12], oH 14 (.load none 13) 10 [13], oH 15 (.un .not 14) 10 [14], oO 16 (.pick 10 kT 15) [10,15]] (.cond 16 .ret
 .skip))
(rS [oM 17 0 [], oO 18 (.nilc 17) [17], oO 19 (.faddr 7 18) [18], oN (.store 1 19 kF) [19]] (rS [oM 20 3 [3]] (.blk 0 (rS [oO 22 (.bin .eql 20 (kI 0)) [], oA 21 22 [22]] (.cond 21 (rS [oM 23 0 [], oM 24 0 [], oM 25 2 [], oM 26 0 [], oO 27 (.nilc 26) [26], oO 28 (.faddr 8 27) [27], oO 29 (.load none 28) [28], oO 30 (.nilc 23) [23], oO 31 (.faddr 9 30) [30], oN (.store 1 31 25) [31,25], oO 32 (.nilc 24) [24], oO 33 (.faddr 10 32) [32], oN (.store 1 33 29) [33,29]] (rS [oM 34 0 [], oM 35 0 [], oM 36 0 [], oM 37 0 [], oM 38 2 [2], oM 39 1 [1], oO 40 (.nilc 34) [34], oO 41 (.faddr 1 40) [40], oN (.store 1 41 kT) [41], oO 42 (.nilc 35) [35], oO 43 (.faddr 2 42) [42], oN (.store 1 43 kT) [43], oO 44 (.nilc 36) [36], oO 45 (.faddr 3 44) [44], oN (.store 1 45 38) [45,38], oO 46 (.nilc 37) [37], oO 47 (.faddr 6 46) [46], oN (.store 1 47 39) [47,39]] (rR [oM 48 0 [], oM 49 0 [0], oO 50 (.nilc 49) [49], oO 51 (.faddr 0 50) [50], oO 52 (.load none 51) [51], oO 53 (.bld [(vI 0),(vI 0)] [(0, 1, 52),(1, 1, (kI 1000))]) [52], oO 54 (.nilc 48) [48], oO 55 (.faddr 4 54) [54], oN (.store 2 55 53) [55,53]])))
 (rS [oO 57 (.bin .eql 20 (kI 6)) [20], oA 56 57 [57]] (.cond 56 (rR [oM 58 0 [0], oO 59 (.call 90 [58]) [58,59]])
 .skip)))))))), []⟩
/-- interrex/state.Of -/
def f51 : AFn := ⟨1, (rS [oO 2 (.alloc false [.nils,.nils]) [], oA 3 kF [3]] (rS [oO 4 (.alloc false [.nils,.nils]) []] (.seq (rS [oM 12 0 [0], oO 13 (.lenL 12) [], oM 14 (kI 0) []] (.blk 0 (.loop (rS [oO 15 (.bin .lss 14 13) []] (.seq (.cond 15 .skip
 (.exit 0))
(.seq (.blk 1 (rS [oO 16 (.iasl 3 12 14) [], oO 17 (.load (some 3) 16) [16], oO 6 (.alloc false [vS,(vI 0),.nils]) [], oN (.store 3 6 17) [17]] (rS [oA 7 kT []] (.seq (rS [oO 18 (.faddr 0 6) [], oO 19 (.load none 18) [18], oO 20 (.call 94 [19]) [19]] (.blk 2 (rS [oO 22 (.bin .eql 20 (kI 1)) [], oA 21 22 [22]] (.cond 21 (rS [oO 8 (.alloc false [vS,(vI 0),(vI 0),(vI 0),(vI 0),(vI 0),.nils,.nils,.nils,.nils,vS,.nils,(vI 0),.nils,vS,(vI 0)]) []] (rS [oO 24 (.faddr 2 6) [], oO 25 (.load none 24) [24], oO 26 (.call 95 [25]) [25], oM 23 26 [26], oO 27 (.ext 23 0) [], oO 28 (.ext 23 1) [23], oN (.store 16 8 27) [27], oA 7 28 [28]] (.seq (.dreg [⟨0, (oM 29 7 []), false, []⟩,
 ⟨1, (oM 30 29 []), false, []⟩,
 ⟨2, (oG 31 (.faddr 0 8) 30 []), false, []⟩,
 ⟨3, (oG 32 (.load none 31) 30 []), false, []⟩,
 ⟨5, (oG 34 (.faddr 0 6) 30 []), false, []⟩,
 ⟨6, (oG 35 (.load none 34) 30 []), false, []⟩,
 ⟨4, (oG 33 (.call 93 [(kI 1),32]) 30 []), true, [6]⟩,
 ⟨7, (oG 36 (.bin .eql 33 35) 30 []), false, []⟩,
 ⟨8, (oO 37 (.pick 30 36 kF) []), false, []⟩,
 ⟨9, (oA 7 37 []), true, []⟩] [29,30,31,32,33,6,34,35,36,37])
(rR [oO 38 (.faddr 1 4) [], oO 39 (.load none 38) [38], oO 40 (.load (some 16) 8) [8], oO 41 (.bsl (.mu true) 16 1 [vS,(vI 0),(vI 0),(vI 0),(vI 0),(vI 0),.nils,.nils,.nils,.nils,vS,.nils,(vI 0),.nils,vS,(vI 0)] [(0, 40)]) [40], oO 42 (.append (.mu true) 16 248 39 41) [39,41], oO 43 (.faddr 1 4) [], oN (.store 1 43 42) [43,42]]))))
 (rS [oO 45 (.bin .eql 20 (kI 2)) [20], oA 44 45 [45]] (.cond 44 (rS [oO 9 (.alloc false [vS,(vI 0),(vI 0),(vI 0),.nils,.nils]) []] (rS [oO 47 (.faddr 2 6) [], oO 48 (.load none 47) [47], oO 49 (.call 96 [48]) [48], oM 46 49 [49], oO 50 (.ext 46 0) [], oO 51 (.ext 46 1) [46], oN (.store 6 9 50) [50], oA 7 51 [51]] (.seq (.dreg [⟨0, (oM 52 7 []), false, []⟩,
 ⟨1, (oM 53 52 []), false, []⟩,
 ⟨2, (oG 54 (.faddr 0 9) 53 []), false, []⟩,
 ⟨3, (oG 55 (.load none 54) 53 []), false, []⟩,
 ⟨5, (oG 57 (.faddr 0 6) 53 []), false, []⟩,
 ⟨6, (oG 58 (.load none 57) 53 []), false, []⟩,
 ⟨4, (oG 56 (.call 93 [(kI 2),55]) 53 []), true, [6]⟩,
 ⟨7, (oG 59 (.bin .eql 56 58) 53 []), false, []⟩,
 ⟨8, (oO 60 (.pick 53 59 kF) []), false, []⟩,
 ⟨9, (oA 7 60 []), true, []⟩] [52,53,54,55,56,6,57,58,59,60])
(rR [oO 61 (.faddr 0 4) [], oO 62 (.load none 61) [61], oO 63 (.load (some 6) 9) [9], oO 64 (.bsl (.mu true) 6 1 [vS,(vI 0),(vI 0),(vI 0),.nils,.nils] [(0, 63)]) [63], oO 65 (.append (.mu true) 6 88 62 64) [62,64], oO 66 (.faddr 0 4) [], oN (.store 1 66 65) [66,65]]))))
 .skip))))))
(rS [oM 67 7 [7], oO 68 (.un .not 67) [67]] (.cond 68 (rS [oO 69 (.bld [.nils,.nils] []) [], oN (.store 2 2 69) [69], oA 3 kF []] .ret)
 .skip))))))
(rR [oO 70 (.bin .add 14 (kI 1)) [14], oM 14 70 [70]])))))))
(rS [oO 71 (.faddr 1 4) [], oO 72 (.load none 71) [71], oO 73 (.call 97 [72,(.c (.fn 98 [] []))]) [72,73]] (rS [oO 74 (.faddr 0 4) [], oO 75 (.load none 74) [74], oO 76 (.call 100 [75,(.c (.fn 101 [] []))]) [75,76]] (.seq (rS [oA 10 (kI 1) []] (.blk 3 (.loop (.seq (rS [oM 77 10 [], oO 78 (.faddr 1 4) [], oO 79 (.load none 78) [78], oO 80 (.lenL 79) [79], oO 81 (.bin .lss 77 80) [77,80]] (.cond 81 .skip
 (.exit 3)))
(.seq (.blk 4 (.seq (.dreg [⟨0, (oO 84 (.faddr 1 4) []), false, []⟩,
 ⟨1, (oO 85 (.load none 84) []), false, []⟩,
 ⟨2, (oM 86 10 []), false, []⟩,
 ⟨3, (oO 87 (.iasl 16 85 86) []), false, []⟩,
 ⟨4, (oO 88 (.faddr 0 87) []), false, []⟩,
 ⟨5, (oO 89 (.load none 88) []), false, []⟩,
 ⟨6, (oO 90 (.faddr 1 4) []), false, []⟩,
 ⟨7, (oO 91 (.load none 90) []), false, []⟩,
 ⟨8, (oM 92 10 []), false, []⟩,
 ⟨9, (oO 93 (.bin .sub 92 (kI 1)) []), false, []⟩,
 ⟨10, (oO 94 (.iasl 16 91 93) []), false, []⟩,
 ⟨11, (oO 95 (.faddr 0 94) []), false, []⟩,
 ⟨12, (oO 96 (.load none 95) []), false, []⟩,
 ⟨13, (oO 97 (.bin .eql 89 96) []), false, []⟩] [84,85,86,87,88,89,90,91,92,93,94,95,96])
(.cond 97 (rS [oO 98 (.bld [.nils,.nils] []) [], oN (.store 2 2 98) [98], oA 3 kF []] .ret)
 .skip)))
(rR [oM 82 10 [10], oO 83 (.bin .add 82 (kI 1)) [82], oA 10 83 [83]]))))))
(.seq (rS [oA 11 (kI 1) []] (.blk 5 (.loop (.seq (rS [oM 99 11 [], oO 100 (.faddr 0 4) [], oO 101 (.load none 100) [100], oO 102 (.lenL 101) [101], oO 103 (.bin .lss 99 102) [99,102]] (.cond 103 .skip
 (.exit 5)))
(.seq (.blk 6 (.seq (.dreg [⟨0, (oO 106 (.faddr 0 4) []), false, []⟩,
 ⟨1, (oO 107 (.load none 106) []), false, []⟩,
 ⟨2, (oM 108 11 []), false, []⟩,
 ⟨3, (oO 109 (.iasl 6 107 108) []), false, []⟩,
 ⟨4, (oO 110 (.faddr 0 109) []), false, []⟩,
 ⟨5, (oO 111 (.load none 110) []), false, []⟩,
 ⟨6, (oO 112 (.faddr 0 4) []), false, []⟩,
 ⟨7, (oO 113 (.load none 112) []), false, []⟩,
 ⟨8, (oM 114 11 []), false, []⟩,
 ⟨9, (oO 115 (.bin .sub 114 (kI 1)) []), false, []⟩,
 ⟨10, (oO 116 (.iasl 6 113 115) []), false, []⟩,
 ⟨11, (oO 117 (.faddr 0 116) []), false, []⟩,
 ⟨12, (oO 118 (.load none 117) []), false, []⟩,
 ⟨13, (oO 119 (.bin .eql 111 118) []), false, []⟩] [106,107,108,109,110,111,112,113,114,115,116,117,118])
(.cond 119 (rS [oO 120 (.bld [.nils,.nils] []) [], oN (.store 2 2 120) [120], oA 3 kF []] .ret)
 .skip)))
(rR [oM 104 11 [11], oO 105 (.bin .add 104 (kI 1)) [104], oA 11 105 [105]]))))))
(rS [oO 121 (.load (some 2) 4) [4], oN (.store 2 2 121) [121], oA 3 kT []] .ret)))))))), [.cell 2 (some 2),.t 3]⟩
/-- interrex/interrexlaw1.Some -/
def f52 : AFn := ⟨0, (rS [oO 0 (.alloc false [vS,(vI 0),(vI 0),(vI 0),(vI 0),(vI 0),.nils,.nils,.nils,.nils,vS,.nils,(vI 0),.nils,vS,(vI 0)]) []] (rS [oO 1 (.bld [(vI 0),(vI 0),(vI 0)] [(0, 1, (kI 2)),(1, 1, (kI 3)),(2, 1, (kI 0))]) [], oO 2 (.bsl (.im false) 1 2 [(vI 0)] [(0, (kI 80)),(1, (kI 443))]) [], oO 3 (.bld [vS,vS] [(0, 1, (.c (.s [97,112,112]))),(1, 1, (.c (.s [120])))]) [], oO 4 (.bsl (.im false) 2 1 [vS,vS] [(0, 3)]) [3], oO 5 (.bsl (.im false) 1 2 [vS] [(0, (.c (.s [97]))),(1, (.c (.s [98])))]) [], oO 6 (.bld [vS,(vI 0),.nils] [(0, 1, (.c (.s [122,111,110,101]))),(1, 1, (kI 1)),(2, 1, 5)]) [5], oO 7 (.bsl (.im false) 3 1 [vS,(vI 0),.nils] [(0, 6)]) [6], oO 8 (.bld [vS,vS,(.b false)] [(2, 1, kT)]) [], oO 9 (.bsl (.im false) 3 1 [vS,vS,(.b false)] [(0, 8)]) [8], oO 10 (.bld [vS,(vI 0),.nils] [(0, 1, (.c (.s [97,112,112]))),(1, 1, (kI 3))]) [], oO 11 (.bsl (.im false) 3 1 [vS,(vI 0),.nils] [(0, 10)]) [10], oO 12 (.bld [vS,(vI 0),(vI 0),(vI 0),(vI 0),(vI 0),.nils,.nils,.nils,.nils,vS,.nils,(vI 0),.nils,vS,(vI 0)] [(0, 1, (.c (.s [97]))),(1, 1, (kI 7)),(2, 1, (kI 3)),(3, 3, 1),(6, 1, 2),(7, 1, 4),(8, 1, 7),(9, 1, 9),(10, 1, (.c (.s [122,111,110,101]))),(11, 1, 11),(12, 1, (kI 2))]) [1,2,4,7,9,11], oN (.store 16 0 12) [12]] .ret)), [.cell 0 (some 16)]⟩
/-- interrex/interrexlaw6.Begun -/
def f53 : AFn := ⟨0, (rS [oA 0 kF [0]] (rS [oO 1 (.call 102 []) [], oA 0 1 [1]] .ret)), [.t 0]⟩
/-- ( interrex/clock.Clocks).Now -/
def f54 : AFn := ⟨2, (rS [oA 4 (kI 0) [4]] (.seq (rS [oM 5 0 [], oO 6 (.eqn false 5 (.c .nilp)) [5], oM 7 6 [6], oH 8 (.mv 1) 7 [], oH 9 (.bin .lss 8 (kI 0)) 7 [8], oO 10 (.pick 7 kT 9) [7,9], oM 11 10 [10], oH 12 (.mv 1) 11 [], oH 13 (.mv 0) 11 [], oH 14 (.nilc 13) 11 [13], oH 15 (.faddr 0 14) 11 [14], oH 16 (.load none 15) 11 [15], oH 17 (.lenL 16) 11 [16], oH 18 (.bin .geq 12 17) 11 [12,17], oO 19 (.pick 11 kT 18) [11,18]] (.cond 19 (rS [oA 4 (kI 0) []] .ret)
 .skip))
(rS [oM 20 0 [0], oO 21 (.nilc 20) [20], oO 22 (.faddr 0 21) [21], oO 23 (.load none 22) [22], oM 24 1 [1], oO 25 (.iasl 1 23 24) [23,24], oO 26 (.load none 25) [25], oA 4 26 [26]] .ret))), [.t 4]⟩
/-- ( interrex/clock.Clocks).Drift -/
def f55 : AFn := ⟨1, (rS [oA 2 (kI 0) [2]] (rS [oA 3 (kI 0) []] (.seq (rS [oM 6 0 [], oO 7 (.eqn true 6 (.c .nilp)) [6]] (.cond 7 (rS [oM 8 0 [], oO 9 (.nilc 8) [8], oO 10 (.faddr 0 9) [9], oO 11 (.load none 10) [10], oO 12 (.lenL 11) [11], oM 13 (kI 0) []] (.blk 0 (.loop (rS [oO 14 (.bin .lss 13 12) []] (.seq (.cond 14 .skip
 (.exit 0))
(.seq (.blk 1 (rS [oM 15 13 [], oA 4 15 [15]] (rS [oM 16 0 [], oO 17 (.nilc 16) [16], oO 18 (.faddr 0 17) [17], oO 19 (.load none 18) [18], oO 20 (.lenL 19) [19], oM 21 (kI 0) []] (.blk 2 (.loop (rS [oO 22 (.bin .lss 21 20) []] (.seq (.cond 22 .skip
 (.exit 2))
(.seq (.blk 3 (rS [oM 23 21 [], oA 5 23 [23]] (.dreg [⟨0, (oM 24 3 []), false, []⟩,
 ⟨1, (oM 25 0 []), false, []⟩,
 ⟨2, (oM 26 4 []), false, []⟩,
 ⟨3, (oM 27 5 []), false, []⟩,
 ⟨4, (oO 28 (.nilc 25) []), false, []⟩,
 ⟨5, (oO 29 (.faddr 65 28) []), false, []⟩,
 ⟨6, (oO 30 (.iaar 8 8 29 26) []), false, []⟩,
 ⟨7, (oO 31 (.iaar 8 1 30 27) []), false, []⟩,
 ⟨8, (oO 32 (.load none 31) []), false, []⟩,
 ⟨9, (oM 33 0 []), false, []⟩,
 ⟨10, (oM 34 4 []), false, []⟩,
 ⟨11, (oM 35 5 []), false, []⟩,
 ⟨12, (oO 36 (.nilc 33) []), false, []⟩,
 ⟨13, (oO 37 (.faddr 1 36) []), false, []⟩,
 ⟨14, (oO 38 (.iaar 8 8 37 34) []), false, []⟩,
 ⟨15, (oO 39 (.iaar 8 1 38 35) []), false, []⟩,
 ⟨16, (oO 40 (.load none 39) []), false, []⟩,
 ⟨17, (oO 41 (.bin .sub 32 40) []), false, []⟩,
 ⟨18, (oO 42 (.mnmx true [24,41]) []), false, []⟩,
 ⟨19, (oA 3 42 []), true, []⟩] [24,25,26,5,27,28,29,30,31,32,33,34,35,36,37,38,39,40,41,42])))
(rR [oO 43 (.bin .add 21 (kI 1)) [21], oM 21 43 [43]])))))))))
(rR [oO 44 (.bin .add 13 (kI 1)) [13], oM 13 44 [44]])))))))
 .skip))
(rS [oM 45 3 [3], oA 2 45 [45]] .ret)))), [.t 2]⟩
/-- ( interrex/net.Net).Len -/
def f56 : AFn := ⟨1, (rS [oA 2 (kI 0) [2]] (.seq (rS [oM 3 0 [], oO 4 (.eqn false 3 (.c .nilp)) [3]] (.cond 4 (rS [oA 2 (kI 0) []] .ret)
 .skip))
(rS [oM 5 0 [0], oO 6 (.nilc 5) [5], oO 7 (.faddr 0 6) [6], oO 8 (.load none 7) [7], oO 9 (.lenL 8) [8], oA 2 9 [9]] .ret))), [.t 2]⟩
/-- ( interrex/relist.Relist).Fresh -/
def f57 : AFn := ⟨1, (rS [oA 2 (kI 0) [2]] (.seq (rS [oM 3 0 [], oO 4 (.eqn false 3 (.c .nilp)) [3]] (.cond 4 (rS [oA 2 (kI 0) []] .ret)
 .skip))
(rS [oM 5 0 [0], oO 6 (.nilc 5) [5], oO 7 (.faddr 12 6) [6], oO 8 (.load none 7) [7], oA 2 8 [8]] .ret))), [.t 2]⟩
/-- ( interrex/elect.Elect).Leads -/
def f58 : AFn := ⟨2, (rS [oA 4 kF [4]] (rS [oM 5 0 [], oO 6 (.eqn true 5 (.c .nilp)) [5], oM 7 6 [6], oG 8 (.mv 0) 7 [], oG 9 (.nilc 8) 7 [8], oG 10 (.faddr 9 9) 7 [9], oG 11 (.load none 10) 7 [10], oG 12 (.bin .gtr 11 (kI 0)) 7 [11], oO 13 (.pick 7 12 kF) [7,12], oM 14 13 [13], oG 15 (.mv 1) 14 [1], oG 16 (.mv 0) 14 [0], oG 17 (.nilc 16) 14 [16], oG 18 (.faddr 10 17) 14 [17], oG 19 (.load none 18) 14 [18], oG 20 (.call 103 [15,19]) 14 [15,19], oO 21 (.pick 14 20 kF) [14,20], oA 4 21 [21]] .ret)), [.t 4]⟩
/-- ( interrex/elect.Elect).Term -/
def f59 : AFn := ⟨1, (rS [oA 2 (kI 0) [2]] (.seq (rS [oM 3 0 [], oO 4 (.eqn false 3 (.c .nilp)) [3]] (.cond 4 (rS [oA 2 (kI 0) []] .ret)
 .skip))
(rS [oM 5 0 [0], oO 6 (.nilc 5) [5], oO 7 (.faddr 9 6) [6], oO 8 (.load none 7) [7], oA 2 8 [8]] .ret))), [.t 2]⟩
/-- interrex/lease.Until -/
def f60 : AFn := ⟨1, (rS [oA 2 (kI 0) [2]] (rS [oM 3 0 [0], oO 4 (.call 104 [3]) [3], oO 5 (.bin .add 4 (kI 1000)) [4], oO 6 (.bin .sub 5 (kI 100)) [5], oA 2 6 [6]] .ret)), [.t 2]⟩
/-- interrex/cache.copied -/
def f61 : AFn := ⟨1, (rS [oO 1 (.box false 0) [0], oO 2 (.alloc false [vS,(vI 0),.nils]) []] (rS [oO 3 (.faddr 2 1) [], oO 4 (.load none 3) [3], oO 5 (.call 105 [4]) [4], oO 6 (.faddr 2 1) [], oN (.store 1 6 5) [6,5]] (rS [oO 7 (.load (some 3) 1) [1], oN (.store 3 2 7) [7]] .ret))), [.cell 2 (some 3)]⟩
/-- maps.Keys map string interrex/api.Entry string interrex/api.Entry  -/
def f63 : AFn := ⟨1, (rS [oO 1 (.box true 0) [0], oA 2 (.c .nilf) [2]] (rS [oO 3 (.mkfn 108 [1]) [1], oA 2 3 [3]] .ret)), [.t 2]⟩
/-- interrex/log.New -/
def f64 : AFn := ⟨1, (rS [oA 2 (.c .nilp) [2]] (rS [oM 3 0 [0], oO 4 (.mnmx true [3,(kI 1)]) [3], oO 5 (.mnmx false [4,(kI 1000)]) [4], oO 6 (.bld [.nils,(vI 0),(vI 0),(vI 0)] [(1, 1, 5)]) [5], oO 7 (.box true 6) [6], oA 2 7 [7]] .ret)), [.t 2]⟩
/-- ( interrex/store.Store).can -/
def f66 : AFn := ⟨2, (rS [oO 3 (.box false 1) [1], oA 4 (kI 0) [4]] (.seq (rS [oO 11 (.load (some 2) 3) [], oO 12 (.call 110 [11]) [11], oO 13 (.un .not 12) [12]] (.cond 13 (rS [oA 4 (kI 1) []] .ret)
 .skip))
(.seq (rS [oO 14 (.faddr 0 3) [], oO 15 (.load none 14) [14], oO 16 (.lenL 15) [], oM 17 (kI 0) []] (.blk 0 (.loop (rS [oO 18 (.bin .lss 17 16) []] (.seq (.cond 18 .skip
 (.exit 0))
(.seq (.blk 1 (rS [oO 19 (.iasl 3 15 17) [], oO 20 (.load (some 3) 19) [19], oO 6 (.alloc false [vS,(vI 0),(.b false)]) [], oN (.store 3 6 20) [20]] (rS [oM 21 0 [], oO 22 (.load (some 3) 6) [6], oO 23 (.call 111 [21,22]) [21,22], oO 24 (.un .not 23) [23]] (.cond 24 (rS [oA 4 (kI 6) []] .ret)
 .skip))))
(rR [oO 25 (.bin .add 17 (kI 1)) [17], oM 17 25 [25]])))))))
(.seq (rS [oO 26 (.faddr 1 3) [3], oO 27 (.load none 26) [26], oO 28 (.lenL 27) [], oM 29 (kI 0) []] (.blk 2 (.loop (rS [oO 30 (.bin .lss 29 28) []] (.seq (.cond 30 .skip
 (.exit 2))
(.seq (.blk 3 (rS [oO 31 (.iasl 3 27 29) [], oO 32 (.load (some 3) 31) [31], oO 8 (.alloc false [vS,.nils,(.b false)]) [], oN (.store 3 8 32) [32]] (.seq (.dreg [⟨0, (oM 34 0 []), false, []⟩,
 ⟨1, (oO 35 (.nilc 34) []), false, []⟩,
 ⟨2, (oO 36 (.faddr 1 35) []), false, []⟩,
 ⟨3, (oO 37 (.load none 36) []), false, []⟩,
 ⟨4, (oO 38 (.faddr 0 8) []), false, []⟩,
 ⟨5, (oO 39 (.load none 38) []), false, []⟩,
 ⟨6, (oO 40 (.lkp none (.agg [vS,(vI 0),.nils]) 37 39 true) []), false, []⟩,
 ⟨7, (oM 33 40 []), false, []⟩,
 ⟨8, (oO 41 (.ext 33 0) []), false, []⟩,
 ⟨9, (oO 42 (.ext 33 1) []), false, []⟩,
 ⟨10, (oO 9 (.alloc false [vS,(vI 0),.nils]) []), true, [6,5,3]⟩,
 ⟨11, (oN (.store 3 9 41) []), true, []⟩,
 ⟨12, (oA 10 42 []), false, []⟩] [34,35,36,37,38,39,40,33,41,42,9])
(rS [oO 43 (.faddr 2 8) [8], oO 44 (.load none 43) [43], oM 45 44 [44], oG 46 (.mv 10) 45 [10], oG 47 (.un .not 46) 45 [46], oO 48 (.pick 45 47 kF) [45,47]] (.cond 48 (rS [oA 4 (kI 3) []] .ret)
 .skip)))))
(rR [oO 49 (.bin .add 29 (kI 1)) [29], oM 29 49 [49]])))))))
(rS [oA 4 (kI 0) []] .ret))))), [.t 4]⟩
/-- interrex/store.copied -/
def f67 : AFn := ⟨1, (rS [oO 1 (.box false 0) [0], oO 2 (.alloc false [vS,(vI 0),.nils]) []] (rS [oO 3 (.faddr 2 1) [], oO 4 (.load none 3) [3], oO 5 (.call 105 [4]) [4], oO 6 (.faddr 2 1) [], oN (.store 1 6 5) [6,5]] (rS [oO 7 (.load (some 3) 1) [1], oN (.store 3 2 7) [7]] .ret))), [.cell 2 (some 3)]⟩
/-- ( interrex/log.Log).Add -/
def f68 : AFn := ⟨2, (rS [oA 4 kF [4]] (.seq (.seq (.dreg [⟨0, (oM 8 0 []), false, []⟩,
 ⟨1, (oO 9 (.eqn false 8 (.c .nilp)) []), true, []⟩,
 ⟨2, (oM 10 9 []), false, []⟩,
 ⟨3, (oH 11 (.mv 1) 10 []), false, []⟩,
 ⟨4, (oH 12 (.lenL 11) 10 []), false, []⟩,
 ⟨5, (oH 13 (.bin .eql 12 (kI 0)) 10 []), false, []⟩,
 ⟨6, (oO 14 (.pick 10 kT 13) []), false, []⟩,
 ⟨7, (oM 15 14 []), false, []⟩,
 ⟨8, (oH 16 (.mv 1) 15 []), false, []⟩,
 ⟨9, (oH 17 (.iasl 4 16 (kI 0)) 15 []), false, []⟩,
 ⟨10, (oH 18 (.faddr 0 17) 15 []), false, []⟩,
 ⟨11, (oH 19 (.load none 18) 15 []), false, []⟩,
 ⟨12, (oH 20 (.mv 0) 15 []), false, []⟩,
 ⟨13, (oH 21 (.nilc 20) 15 []), false, []⟩,
 ⟨14, (oH 22 (.faddr 3 21) 15 []), false, []⟩,
 ⟨15, (oH 23 (.load none 22) 15 []), false, []⟩,
 ⟨16, (oH 24 (.bin .leq 19 23) 15 []), false, []⟩,
 ⟨17, (oO 25 (.pick 15 kT 24) []), false, []⟩] [8,9,10,11,12,13,14,15,16,17,18,19,20,21,22,23,24])
(.cond 25 (rS [oA 4 kF []] .ret)
 .skip))
(.seq (rS [oM 26 1 [], oO 27 (.lenL 26) [26], oM 28 (kI 0) []] (.blk 0 (.loop (rS [oO 29 (.bin .lss 28 27) []] (.seq (.cond 29 .skip
 (.exit 0))
(.seq (.blk 1 (rS [oM 30 28 [], oA 5 30 [30]] (.seq (.dreg [⟨0, (oM 31 5 []), false, []⟩,
 ⟨1, (oO 32 (.bin .gtr 31 (kI 0)) []), false, []⟩,
 ⟨2, (oM 33 32 []), false, []⟩,
 ⟨3, (oG 34 (.mv 1) 33 []), false, []⟩,
 ⟨4, (oG 35 (.mv 5) 33 []), false, []⟩,
 ⟨5, (oG 36 (.iasl 4 34 35) 33 []), false, []⟩,
 ⟨6, (oG 37 (.faddr 0 36) 33 []), false, []⟩,
 ⟨7, (oG 38 (.load none 37) 33 []), false, []⟩,
 ⟨8, (oG 39 (.mv 1) 33 []), false, []⟩,
 ⟨9, (oG 40 (.mv 5) 33 []), false, []⟩,
 ⟨10, (oG 41 (.bin .sub 40 (kI 1)) 33 []), false, []⟩,
 ⟨11, (oG 42 (.iasl 4 39 41) 33 []), false, []⟩,
 ⟨12, (oG 43 (.faddr 0 42) 33 []), false, []⟩,
 ⟨13, (oG 44 (.load none 43) 33 []), false, []⟩,
 ⟨14, (oG 45 (.bin .lss 38 44) 33 []), false, []⟩,
 ⟨15, (oO 46 (.pick 33 45 kF) []), false, []⟩] [5,31,32,33,34,35,36,37,38,39,40,41,42,43,44,45])
(.cond 46 (rS [oA 4 kF []] .ret)
 .skip))))
(rR [oO 47 (.bin .add 28 (kI 1)) [28], oM 28 47 [47]])))))))
(.seq (rS [oM 48 1 [], oO 49 (.lenL 48) [], oM 50 (kI 0) []] (.blk 2 (.loop (rS [oO 51 (.bin .lss 50 49) []] (.seq (.cond 51 .skip
 (.exit 2))
(.seq (.blk 3 (rS [oO 52 (.iasl 4 48 50) [], oO 53 (.load (some 4) 52) [52], oO 7 (.alloc false [(vI 0),vS,.nils,(.b false)]) [], oN (.store 4 7 53) [53]] (.dreg [⟨0, (oM 54 0 []), false, []⟩,
 ⟨1, (oM 55 0 []), false, []⟩,
 ⟨2, (oO 56 (.nilc 55) []), false, []⟩,
 ⟨3, (oO 57 (.faddr 0 56) []), false, []⟩,
 ⟨4, (oO 58 (.load none 57) []), false, []⟩,
 ⟨5, (oO 59 (.load (some 4) 7) []), false, []⟩,
 ⟨6, (oO 60 (.call 112 [59]) []), true, [4]⟩,
 ⟨7, (oO 61 (.bsl (.mu true) 4 1 [(vI 0),vS,.nils,(.b false)] [(0, 60)]) []), true, [4]⟩,
 ⟨8, (oO 62 (.append (.mu true) 4 56 58 61) []), true, []⟩,
 ⟨9, (oO 63 (.nilc 54) []), false, []⟩,
 ⟨10, (oO 64 (.faddr 0 63) []), false, []⟩,
 ⟨11, (oN (.store 1 64 62) []), true, []⟩] [54,55,56,57,58,7,59,60,61,62,63,64])))
(rR [oO 65 (.bin .add 50 (kI 1)) [50], oM 50 65 [65]])))))))
(rS [oM 66 0 [], oM 67 1 [], oM 68 1 [1], oO 69 (.lenL 68) [68], oO 70 (.bin .sub 69 (kI 1)) [69], oO 71 (.iasl 4 67 70) [67,70], oO 72 (.faddr 0 71) [71], oO 73 (.load none 72) [72], oO 74 (.nilc 66) [66], oO 75 (.faddr 3 74) [74], oN (.store 1 75 73) [75,73]] (.seq (.blk 4 (.loop (.seq (.seq (.dreg [⟨0, (oM 76 0 []), false, []⟩,
 ⟨1, (oO 77 (.nilc 76) []), false, []⟩,
 ⟨2, (oO 78 (.faddr 0 77) []), false, []⟩,
 ⟨3, (oO 79 (.load none 78) []), false, []⟩,
 ⟨4, (oO 80 (.lenL 79) []), false, []⟩,
 ⟨5, (oM 81 0 []), false, []⟩,
 ⟨6, (oO 82 (.nilc 81) []), false, []⟩,
 ⟨7, (oO 83 (.faddr 1 82) []), false, []⟩,
 ⟨8, (oO 84 (.load none 83) []), false, []⟩,
 ⟨9, (oO 85 (.bin .gtr 80 84) []), false, []⟩] [76,77,78,79,80,81,82,83,84])
(.cond 85 .skip
 (.exit 4)))
(.blk 5 (rR [oM 86 0 [], oM 87 0 [], oO 88 (.nilc 87) [87], oO 89 (.faddr 0 88) [88], oO 90 (.load none 89) [89], oO 91 (.iasl 4 90 (kI 0)) [90], oO 92 (.faddr 0 91) [91], oO 93 (.load none 92) [92], oO 94 (.call 69 [86,93]) [86,93,94]])))))
(rS [oA 4 kT []] .ret))))))), [.t 4]⟩
/-- interrex/relist.late -/
def f70 : AFn := ⟨2, (rS [oA 4 kF [4]] (rS [oM 5 0 [], oM 6 1 [], oO 7 (.bin .geq 5 6) [5,6], oM 8 7 [7], oG 9 (.mv 0) 8 [0], oG 10 (.cvi .u64 9) 8 [9], oG 11 (.mv 1) 8 [1], oG 12 (.cvi .u64 11) 8 [11], oG 13 (.bin .sub 10 12) 8 [10,12], oG 14 (.bin .geq 13 (.c (.i .u64 200))) 8 [13], oO 15 (.pick 8 14 kF) [8,14], oA 4 15 [15]] .ret)), [.t 4]⟩
/-- interrex/interrexref1.lay -/
def f72 : AFn := ⟨3, (rS [oO 4 (.box false 1) [1], oA 6 (.c .nils) [6]] (rS [oA 7 (.c .nils) []] (rS [oM 10 2 [2], oA 8 10 [10]] (.seq (rS [oM 11 0 [], oO 12 (.lenL 11) [11], oM 13 (kI 0) []] (.blk 0 (.loop (rS [oO 14 (.bin .lss 13 12) []] (.seq (.cond 14 .skip
 (.exit 0))
(.seq (.blk 1 (rS [oM 15 13 [], oA 9 15 [15]] (.seq (.seq (.dreg [⟨0, (oM 16 0 []), false, []⟩,
 ⟨1, (oM 17 9 []), false, []⟩,
 ⟨2, (oO 18 (.iasl 3 16 17) []), false, []⟩,
 ⟨3, (oO 19 (.faddr 0 18) []), false, []⟩,
 ⟨4, (oO 20 (.load none 19) []), false, []⟩,
 ⟨5, (oO 21 (.faddr 0 4) []), false, []⟩,
 ⟨6, (oO 22 (.load none 21) []), false, []⟩,
 ⟨7, (oO 23 (.bin .eql 20 22) []), false, []⟩] [16,17,18,19,20,21,22])
(.cond 23 (.exit 1)
 .skip))
(.seq (.seq (.dreg [⟨0, (oM 24 8 []), false, []⟩,
 ⟨1, (oO 25 (.un .not 24) []), false, []⟩,
 ⟨2, (oM 26 25 []), false, []⟩,
 ⟨3, (oG 27 (.mv 0) 26 []), false, []⟩,
 ⟨4, (oG 28 (.mv 9) 26 []), false, []⟩,
 ⟨5, (oG 29 (.iasl 3 27 28) 26 []), false, []⟩,
 ⟨6, (oG 30 (.faddr 0 29) 26 []), false, []⟩,
 ⟨7, (oG 31 (.load none 30) 26 []), false, []⟩,
 ⟨8, (oG 32 (.faddr 0 4) 26 []), false, []⟩,
 ⟨9, (oG 33 (.load none 32) 26 []), false, []⟩,
 ⟨10, (oG 34 (.bin .gtr 31 33) 26 []), false, []⟩,
 ⟨11, (oO 35 (.pick 26 34 kF) []), false, []⟩] [24,25,26,27,28,29,30,31,32,33,34])
(.cond 35 (rR [oM 36 7 [7], oO 37 (.load (some 3) 4) [], oO 38 (.bsl (.im false) 3 1 [vS,(vI 0),.nils] [(0, 37)]) [37], oO 39 (.append (.im false) 3 48 36 38) [36,38], oA 7 39 [39], oA 8 kT []])
 .skip))
(rR [oM 40 7 [7], oM 41 0 [], oM 42 9 [9], oO 43 (.iasl 3 41 42) [41,42], oO 44 (.load (some 3) 43) [43], oO 45 (.bsl (.im false) 3 1 [vS,(vI 0),.nils] [(0, 44)]) [44], oO 46 (.append (.im false) 3 48 40 45) [40,45], oA 7 46 [46]])))))
(rR [oO 47 (.bin .add 13 (kI 1)) [13], oM 13 47 [47]])))))))
(.seq (rS [oM 48 8 [8], oO 49 (.un .not 48) [48]] (.cond 49 (rR [oM 50 7 [7], oO 51 (.load (some 3) 4) [4], oO 52 (.bsl (.im false) 3 1 [vS,(vI 0),.nils] [(0, 51)]) [51], oO 53 (.append (.im false) 3 48 50 52) [50,52], oA 7 53 [53]])
 .skip))
(rS [oM 54 7 [7], oA 6 54 [54]] .ret)))))), [.t 6]⟩
/-- interrex/interrexref1.Bytes -/
def f73 : AFn := ⟨2, (rS [oA 4 kF [4]] (rS [oM 5 0 [0], oO 6 (.b2s 5) [5], oM 7 1 [1], oO 8 (.b2s 7) [7], oO 9 (.bin .eql 6 8) [6,8], oA 4 9 [9]] .ret)), [.t 4]⟩
/-- interrex/obj.MayPod -/
def f74 : AFn := ⟨1, (rS [oO 1 (.box false 0) [0], oA 2 kF [2]] (.seq (rS [oO 3 (.faddr 0 1) [], oO 4 (.load none 3) [3], oO 5 (.call 116 [4]) [4], oO 6 (.un .not 5) [5], oM 7 6 [6], oH 8 (.faddr 1 1) 7 [], oH 9 (.load none 8) 7 [8], oH 10 (.bin .lss 9 (kI 1)) 7 [9], oO 11 (.pick 7 kT 10) [7,10], oM 12 11 [11], oH 13 (.faddr 1 1) 12 [], oH 14 (.load none 13) 12 [13], oH 15 (.bin .gtr 14 (kI 1099511627776)) 12 [14], oO 16 (.pick 12 kT 15) [12,15], oM 17 16 [16], oH 18 (.faddr 2 1) 17 [], oH 19 (.load none 18) 17 [18], oH 20 (.bin .lss 19 (kI 0)) 17 [19], oO 21 (.pick 17 kT 20) [17,20], oM 22 21 [21], oH 23 (.faddr 2 1) 22 [], oH 24 (.load none 23) 22 [23], oH 25 (.bin .gtr 24 (kI 1000)) 22 [24], oO 26 (.pick 22 kT 25) [22,25], oM 27 26 [26], oH 28 (.faddr 3 1) 27 [], oH 29 (.load (some 3) 28) 27 [28], oH 30 (.call 117 [29]) 27 [29], oH 31 (.un .not 30) 27 [30], oO 32 (.pick 27 kT 31) [27,31], oM 33 32 [32], oH 34 (.faddr 6 1) 33 [], oH 35 (.load none 34) 33 [34], oH 36 (.call 118 [35]) 33 [35], oH 37 (.un .not 36) 33 [36], oO 38 (.pick 33 kT 37) [33,37]] (.cond 38 (rS [oA 2 kF []] .ret)
 .skip))
(.seq (rS [oO 39 (.faddr 7 1) [], oO 40 (.load none 39) [39], oO 41 (.call 119 [40]) [40], oO 42 (.un .not 41) [41], oM 43 42 [42], oH 44 (.faddr 8 1) 43 [], oH 45 (.load none 44) 43 [44], oH 46 (.call 120 [45]) 43 [45], oH 47 (.un .not 46) 43 [46], oO 48 (.pick 43 kT 47) [43,47], oM 49 48 [48], oH 50 (.faddr 9 1) 49 [], oH 51 (.load none 50) 49 [50], oH 52 (.call 121 [51]) 49 [51], oH 53 (.un .not 52) 49 [52], oO 54 (.pick 49 kT 53) [49,53], oM 55 54 [54], oH 56 (.load (some 16) 1) 55 [], oH 57 (.call 122 [56]) 55 [56], oH 58 (.un .not 57) 55 [57], oO 59 (.pick 55 kT 58) [55,58]] (.cond 59 (rS [oA 2 kF []] .ret)
 .skip))
(rS [oO 60 (.faddr 14 1) [], oO 61 (.load none 60) [60], oO 62 (.call 116 [61]) [61], oM 63 62 [62], oG 64 (.faddr 15 1) 63 [], oG 65 (.load none 64) 63 [64], oG 66 (.bin .gtr 65 (kI 0)) 63 [65], oO 67 (.pick 63 66 kF) [63,66], oM 68 67 [67], oH 69 (.faddr 14 1) 68 [], oH 70 (.load none 69) 68 [69], oH 71 (.bin .eql 70 (.c vS)) 68 [70], oH 72 (.mv 71) 68 [71], oG 73 (.faddr 15 1) 72 [1], oG 74 (.load none 73) 72 [73], oG 75 (.bin .eql 74 (kI 0)) 72 [74], oH 76 (.pick 72 75 kF) 68 [72,75], oO 77 (.pick 68 kT 76) [68,76], oA 2 77 [77]] .ret)))), [.t 2]⟩
/-- ( interrex/wire.Writer).Num -/
def f75 : AFn := ⟨3, (rS [oM 7 2 [], oM 8 (kI 0) []] (.blk 0 (.loop (rS [oO 9 (.bin .lss 8 7) []] (.seq (.cond 9 .skip
 (.exit 0))
(.seq (.blk 1 (rS [oM 10 8 [], oA 6 10 [10]] (.dreg [⟨0, (oM 11 0 []), false, []⟩,
 ⟨1, (oM 12 0 []), false, []⟩,
 ⟨2, (oO 13 (.nilc 12) []), false, []⟩,
 ⟨3, (oO 14 (.faddr 297 13) []), false, []⟩,
 ⟨4, (oO 15 (.load none 14) []), false, []⟩,
 ⟨5, (oM 16 1 []), false, []⟩,
 ⟨6, (oM 17 2 []), false, []⟩,
 ⟨7, (oO 18 (.bin .sub 17 (kI 1)) []), false, []⟩,
 ⟨8, (oM 19 6 []), false, []⟩,
 ⟨9, (oO 20 (.bin .sub 18 19) []), false, []⟩,
 ⟨10, (oO 21 (.bin .mul (kI 8) 20) []), false, []⟩,
 ⟨11, (oO 22 (.bin .shr 16 21) []), false, []⟩,
 ⟨12, (oO 23 (.cvi .u8 22) []), false, []⟩,
 ⟨13, (oO 24 (.bsl (.im true) 1 1 [(.i .u8 0)] [(0, 23)]) []), true, [4]⟩,
 ⟨14, (oO 25 (.append (.im true) 1 1 15 24) []), true, []⟩,
 ⟨15, (oO 26 (.nilc 11) []), false, []⟩,
 ⟨16, (oO 27 (.faddr 297 26) []), false, []⟩,
 ⟨17, (oN (.store 1 27 25) []), true, []⟩] [11,12,13,14,15,16,17,18,6,19,20,21,22,23,24,25,26,27])))
(rR [oO 28 (.bin .add 8 (kI 1)) [8], oM 8 28 [28]]))))))), []⟩
/-- ( interrex/wire.Writer).Name -/
def f76 : AFn := ⟨2, (rS [oM 6 0 [], oO 7 (.nilc 6) [6], oO 8 (.faddr 0 7) [7], oO 9 (.call 123 [8]) [8,9]] (rS [oA 4 (.c (.i .u64 0)) []] (.seq (rS [oM 10 (kI 0) []] (.blk 0 (.loop (rS [oO 11 (.bin .lss 10 (kI 12)) []] (.seq (.cond 11 .skip
 (.exit 0))
(.seq (.blk 1 (rS [oM 12 10 [], oA 5 12 [12]] (rS [oM 13 4 [4], oO 14 (.bin .mul 13 (.c (.i .u64 38))) [13], oA 4 14 [14]] (rS [oM 15 5 [], oM 16 1 [], oO 17 (.lenS 16) [16], oO 18 (.bin .lss 15 17) [15,17]] (.cond 18 (.dreg [⟨0, (oM 19 4 []), false, []⟩,
 ⟨1, (oM 20 0 []), false, []⟩,
 ⟨2, (oM 21 1 []), false, []⟩,
 ⟨3, (oM 22 5 []), false, []⟩,
 ⟨4, (oO 23 (.ixs 21 22) []), false, []⟩,
 ⟨5, (oO 24 (.nilc 20) []), false, []⟩,
 ⟨6, (oO 25 (.faddr 0 24) []), false, []⟩,
 ⟨7, (oO 26 (.faddr 3 25) []), false, []⟩,
 ⟨8, (oO 27 (.iaar 256 1 26 23) []), false, []⟩,
 ⟨9, (oO 28 (.load none 27) []), false, []⟩,
 ⟨10, (oO 29 (.bin .add 19 28) []), false, []⟩,
 ⟨11, (oA 4 29 []), true, []⟩] [19,20,21,5,22,23,24,25,26,27,28,29])
 .skip)))))
(rR [oO 30 (.bin .add 10 (kI 1)) [10], oM 10 30 [30]])))))))
(rR [oM 31 0 [0], oM 32 4 [4], oO 33 (.cvi .i64 32) [32], oO 34 (.call 75 [31,33,(kI 8)]) [31,33,34]])))), []⟩
/-- interrex/code.putRes -/
def f77 : AFn := ⟨2, (rS [oO 3 (.box false 1) [1]] (rS [oO 6 (.load (some 3) 3) [3], oM 7 (kI 0) []] (.blk 0 (.loop (rS [oO 8 (.bin .lss 7 (kI 3)) []] (.seq (.cond 8 .skip
 (.exit 0))
(.seq (.blk 1 (rS [oO 9 (.ixa 3 1 none 6 7) [], oA 5 9 [9]] (rR [oM 10 0 [], oM 11 5 [5], oO 12 (.call 75 [10,11,(kI 4)]) [10,11,12]])))
(rR [oO 13 (.bin .add 7 (kI 1)) [7], oM 7 13 [13]])))))))), []⟩
/-- interrex/code.putPairs interrex/api.Pair  -/
def f78 : AFn := ⟨3, (rS [oM 10 0 [], oM 11 1 [], oO 12 (.lenL 11) [11], oO 13 (.call 75 [10,12,(kI 1)]) [10,12,13]] (rS [oM 14 1 [1], oO 15 (.lenL 14) [], oM 16 (kI 0) []] (.blk 0 (.loop (rS [oO 17 (.bin .lss 16 15) []] (.seq (.cond 17 .skip
 (.exit 0))
(.seq (.blk 1 (rS [oO 18 (.iasl 2 14 16) [], oO 19 (.load (some 2) 18) [18], oO 7 (.alloc false [vS,vS]) [], oN (.store 2 7 19) [19]] (rS [oM 21 2 [], oO 22 (.load (some 2) 7) [7], oO 23 (.callv 21 [22]) [21,22], oM 20 23 [23], oO 24 (.ext 20 0) [], oO 25 (.ext 20 1) [20], oA 8 24 [24], oA 9 25 [25]] (rS [oM 26 0 [], oM 27 8 [8], oO 28 (.call 76 [26,27]) [26,27,28]] (rR [oM 29 0 [], oM 30 9 [9], oO 31 (.call 76 [29,30]) [29,30,31]])))))
(rR [oO 32 (.bin .add 16 (kI 1)) [16], oM 16 32 [32]])))))))), []⟩
/-- interrex/code.ofPair -/
def f79 : AFn := ⟨1, (rS [oO 1 (.box false 0) [0], oA 2 (.c vS) [2], oA 3 (.c vS) [3]] (.seq (.dreg [⟨0, (oO 4 (.faddr 0 1) []), false, []⟩,
 ⟨1, (oO 5 (.load none 4) []), false, []⟩,
 ⟨2, (oO 6 (.faddr 1 1) []), false, []⟩,
 ⟨3, (oO 7 (.load none 6) []), false, []⟩,
 ⟨4, (oA 2 5 []), false, []⟩,
 ⟨5, (oA 3 7 []), false, []⟩] [1,4,5,6,7])
.ret)), [.t 2,.t 3]⟩
/-- interrex/code.putTerms -/
def f80 : AFn := ⟨2, (rS [oM 8 0 [], oM 9 1 [], oO 10 (.lenL 9) [9], oO 11 (.call 75 [8,10,(kI 1)]) [8,10,11]] (rS [oM 12 1 [1], oO 13 (.lenL 12) [], oM 14 (kI 0) []] (.blk 0 (.loop (rS [oO 15 (.bin .lss 14 13) []] (.seq (.cond 15 .skip
 (.exit 0))
(.seq (.blk 1 (rS [oO 16 (.iasl 3 12 14) [], oO 17 (.load (some 3) 16) [16], oO 5 (.alloc false [vS,(vI 0),.nils]) [], oN (.store 3 5 17) [17]] (rS [oM 18 0 [], oO 19 (.faddr 0 5) [], oO 20 (.load none 19) [19], oO 21 (.call 76 [18,20]) [18,20,21]] (rS [oM 22 0 [], oO 23 (.faddr 1 5) [], oO 24 (.load none 23) [23], oO 25 (.call 75 [22,24,(kI 1)]) [22,24,25]] (rS [oM 26 0 [], oO 27 (.faddr 2 5) [], oO 28 (.load none 27) [27], oO 29 (.lenL 28) [28], oO 30 (.call 75 [26,29,(kI 1)]) [26,29,30]] (rS [oO 31 (.faddr 2 5) [5], oO 32 (.load none 31) [31], oO 33 (.lenL 32) [], oM 34 (kI 0) []] (.blk 2 (.loop (rS [oO 35 (.bin .lss 34 33) []] (.seq (.cond 35 .skip
 (.exit 2))
(.seq (.blk 3 (rS [oO 36 (.iasl 1 32 34) [], oO 37 (.load none 36) [36], oA 7 37 [37]] (rR [oM 38 0 [], oM 39 7 [7], oO 40 (.call 76 [38,39]) [38,39,40]])))
(rR [oO 41 (.bin .add 34 (kI 1)) [34], oM 34 41 [41]]))))))))))))
(rR [oO 42 (.bin .add 14 (kI 1)) [14], oM 14 42 [42]])))))))), []⟩
/-- ( interrex/wire.Writer).Bool -/
def f81 : AFn := ⟨2, (rS [oA 4 (kI 0) []] (.seq (rS [oM 5 1 [1]] (.cond 5 (rR [oA 4 (kI 1) []])
 .skip))
(rR [oM 6 0 [0], oM 7 4 [4], oO 8 (.call 75 [6,7,(kI 1)]) [6,7,8]]))), []⟩
/-- ( interrex/wire.Writer).Bytes -/
def f82 : AFn := ⟨1, (rS [oA 2 (.c .nils) [2]] (rS [oM 3 0 [0], oO 4 (.nilc 3) [3], oO 5 (.faddr 297 4) [4], oO 6 (.load none 5) [5], oO 7 (.call 105 [6]) [6], oA 2 7 [7]] .ret)), [.t 2]⟩
/-- interrex/assume.copied -/
def f83 : AFn := ⟨1, (rS [oO 1 (.box false 0) [0], oO 2 (.alloc false [vS,vS,.nils]) []] (rS [oO 3 (.faddr 2 1) [], oO 4 (.load none 3) [3], oO 5 (.call 124 [4]) [4], oO 6 (.faddr 2 1) [], oN (.store 1 6 5) [6,5]] (rS [oO 7 (.load (some 3) 1) [1], oN (.store 3 2 7) [7]] .ret))), [.cell 2 (some 3)]⟩
/-- slices.DeleteFunc   interrex/assume.one interrex/assume.one  -/
def f84 : AFn := ⟨2, (rS [oA 4 (.c .nils) [4]] (rS [oM 8 0 [], oM 9 1 [], oO 10 (.call 125 [8,9]) [8,9], oA 5 10 [10]] (.seq (rS [oM 11 5 [], oO 12 (.bin .eql 11 (kI (-1))) [11]] (.cond 12 (rS [oM 13 0 [0], oA 4 13 [13]] .ret)
 .skip))
(.seq (rS [oM 14 5 [], oO 15 (.bin .add 14 (kI 1)) [14], oA 6 15 [15]] (.blk 0 (.loop (.seq (rS [oM 16 6 [], oM 17 0 [], oO 18 (.lenL 17) [17], oO 19 (.bin .lss 16 18) [16,18]] (.cond 19 .skip
 (.exit 0)))
(.seq (.blk 1 (rS [oM 22 0 [], oM 23 6 [], oO 24 (.iasl 6 22 23) [22,23], oO 25 (.load (some 6) 24) [24], oO 7 (.alloc false [vS,vS,.nils,(vI 0),(vI 0),(vI 0)]) [], oN (.store 6 7 25) [25]] (rS [oM 26 1 [], oO 27 (.load (some 6) 7) [], oO 28 (.callv 26 [27]) [26,27], oO 29 (.un .not 28) [28]] (.cond 29 (rS [oM 30 0 [], oM 31 5 [], oO 32 (.load (some 6) 7) [7], oO 33 (.iasl 6 30 31) [30,31], oN (.store 6 33 32) [33,32]] (rR [oM 34 5 [5], oO 35 (.bin .add 34 (kI 1)) [34], oA 5 35 [35]]))
 .skip))))
(rR [oM 20 6 [6], oO 21 (.bin .add 20 (kI 1)) [20], oA 6 21 [21]]))))))
(rS [oM 36 0 [], oM 37 5 [], oO 38 (.slsl 6 36 (some 37) none none) [36,37], oN (.clear 6 [vS,vS,.nils,(vI 0),(vI 0),(vI 0)] 38) [38]] (rS [oM 39 0 [0], oM 40 5 [5], oO 41 (.slsl 6 39 none (some 40) none) [39,40], oA 4 41 [41]] .ret)))))), [.t 4]⟩
/-- ( interrex/assume.Assume).Settle 1 -/
def f85 : AFn := ⟨4, (rS [oO 4 (.box false 0) [0], oA 5 kF [5]] (rS [oO 6 (.faddr 4 4) [], oO 7 (.load none 6) [6], oO 8 (.load none 1) [1], oO 9 (.bin .neq 7 8) [7,8], oM 10 9 [9], oH 11 (.load none 2) 10 [2], oH 12 (.faddr 5 4) 10 [], oH 13 (.load none 12) 10 [12], oH 14 (.bin .geq 11 13) 10 [11,13], oO 15 (.pick 10 kT 14) [10,14], oM 16 15 [15], oH 17 (.load none 3) 16 [3], oH 18 (.faddr 0 4) 16 [], oH 19 (.faddr 0 18) 16 [18], oH 20 (.load none 19) 16 [19], oH 21 (.faddr 3 4) 16 [4], oH 22 (.load none 21) 16 [21], oH 23 (.call 86 [17,20,22]) 16 [17,20,22], oH 24 (.un .not 23) 16 [23], oO 25 (.pick 16 kT 24) [16,24], oA 5 25 [25]] .ret)), [.t 5]⟩
/-- interrex/assume.waits -/
def f86 : AFn := ⟨3, (rS [oA 6 kF [6]] (rS [oM 12 0 [0], oM 13 1 [1], oO 14 (.call 93 [(kI 1),13]) [13], oO 15 (.call 30 [12,14]) [12,14], oM 11 15 [15], oO 16 (.ext 11 0) [], oO 17 (.ext 11 1) [11], oO 7 (.alloc false [vS,(vI 0),.nils]) [], oN (.store 3 7 16) [16], oA 8 17 [17]] (rS [oO 19 (.faddr 2 7) [7], oO 20 (.load none 19) [19], oO 21 (.call 95 [20]) [20], oM 18 21 [21], oO 22 (.ext 18 0) [], oO 23 (.ext 18 1) [18], oO 9 (.alloc false [vS,(vI 0),(vI 0),(vI 0),(vI 0),(vI 0),.nils,.nils,.nils,.nils,vS,.nils,(vI 0),.nils,vS,(vI 0)]) [], oN (.store 16 9 22) [22], oA 10 23 [23]] (rS [oM 24 8 [8], oM 25 24 [24], oG 26 (.mv 10) 25 [10], oO 27 (.pick 25 26 kF) [25,26], oM 28 27 [27], oG 29 (.faddr 1 9) 28 [], oG 30 (.load none 29) 28 [29], oG 31 (.mv 2) 28 [2], oG 32 (.bin .eql 30 31) 28 [30,31], oO 33 (.pick 28 32 kF) [28,32], oM 34 33 [33], oG 35 (.faddr 14 9) 34 [9], oG 36 (.load none 35) 34 [35], oG 37 (.bin .eql 36 (.c vS)) 34 [36], oO 38 (.pick 34 37 kF) [34,37], oA 6 38 [38]] .ret)))), [.t 6]⟩
/-- slices.ContainsFunc   interrex/assume.one interrex/assume.one  -/
def f87 : AFn := ⟨2, (rS [oA 4 kF [4]] (rS [oM 5 0 [0], oM 6 1 [1], oO 7 (.call 125 [5,6]) [5,6], oO 8 (.bin .geq 7 (kI 0)) [7], oA 4 8 [8]] .ret)), [.t 4]⟩
/-- ( interrex/assume.Assume).Has 1 -/
def f88 : AFn := ⟨2, (rS [oO 2 (.box false 0) [0], oA 3 kF [3]] (rS [oO 4 (.faddr 0 2) [2], oO 5 (.faddr 0 4) [4], oO 6 (.load none 5) [5], oO 7 (.load none 1) [1], oO 8 (.bin .eql 6 7) [6,7], oA 3 8 [8]] .ret)), [.t 3]⟩
/-- interrex/net.copied -/
def f89 : AFn := ⟨1, (rS [oO 1 (.box false 0) [0], oO 2 (.alloc false [(.b false),(vI 0),.nils]) []] (rS [oO 3 (.faddr 2 1) [], oO 4 (.load none 3) [3], oO 5 (.call 105 [4]) [4], oO 6 (.faddr 2 1) [], oN (.store 1 6 5) [6,5]] (rS [oO 7 (.load (some 3) 1) [1], oN (.store 3 2 7) [7]] .ret))), [.cell 2 (some 3)]⟩
/-- ( interrex/elect.Elect).wants -/
def f92 : AFn := ⟨2, (rS [oA 4 kF [4]] (.seq (.blk 0 (rS [oM 6 0 [], oO 7 (.nilc 6) [6], oO 8 (.faddr 1 7) [7], oO 9 (.load none 8) [8], oO 10 (.un .not 9) [9], oA 5 10 [10]] (.cond 5 (rS [oA 4 kF []] .ret)
 (rS [oM 12 0 [], oM 13 1 [], oO 14 (.call 58 [12,13]) [12,13], oA 11 14 [14]] (.cond 11 (rS [oM 15 1 [1], oM 16 0 [0], oO 17 (.nilc 16) [16], oO 18 (.faddr 10 17) [17], oO 19 (.load none 18) [18], oO 20 (.call 126 [15,19]) [15,19], oA 4 20 [20]] .ret)
 .skip)))))
(.seq (.dreg [⟨0, (oM 21 0 []), false, []⟩,
 ⟨1, (oO 22 (.nilc 21) []), false, []⟩,
 ⟨2, (oO 23 (.faddr 2 22) []), false, []⟩,
 ⟨3, (oO 24 (.load none 23) []), false, []⟩,
 ⟨4, (oO 25 (.un .not 24) []), false, []⟩,
 ⟨5, (oM 26 25 []), false, []⟩,
 ⟨6, (oH 27 (.mv 0) 26 []), false, []⟩,
 ⟨7, (oH 28 (.nilc 27) 26 []), false, []⟩,
 ⟨8, (oH 29 (.faddr 4 28) 26 []), false, []⟩,
 ⟨9, (oH 30 (.faddr 0 29) 26 []), false, []⟩,
 ⟨10, (oH 31 (.load none 30) 26 []), false, []⟩,
 ⟨11, (oH 32 (.mv 0) 26 []), false, []⟩,
 ⟨12, (oH 33 (.nilc 32) 26 []), false, []⟩,
 ⟨13, (oH 34 (.faddr 0 33) 26 []), false, []⟩,
 ⟨14, (oH 35 (.load none 34) 26 []), false, []⟩,
 ⟨15, (oH 36 (.bin .eql 31 35) 26 []), false, []⟩,
 ⟨16, (oO 37 (.pick 26 kT 36) []), false, []⟩,
 ⟨17, (oM 38 37 []), false, []⟩,
 ⟨18, (oH 39 (.mv 1) 38 []), false, []⟩,
 ⟨19, (oH 40 (.mv 0) 38 []), false, []⟩,
 ⟨20, (oH 41 (.nilc 40) 38 []), false, []⟩,
 ⟨21, (oH 42 (.faddr 6 41) 38 []), false, []⟩,
 ⟨22, (oH 43 (.load none 42) 38 []), false, []⟩,
 ⟨23, (oH 44 (.mv 0) 38 []), false, []⟩,
 ⟨24, (oH 45 (.nilc 44) 38 []), false, []⟩,
 ⟨25, (oH 46 (.faddr 4 45) 38 []), false, []⟩,
 ⟨26, (oH 47 (.faddr 1 46) 38 []), false, []⟩,
 ⟨27, (oH 48 (.load none 47) 38 []), false, []⟩,
 ⟨28, (oH 49 (.call 127 [39,43,48]) 38 []), true, []⟩,
 ⟨29, (oO 50 (.pick 38 kT 49) []), false, []⟩,
 ⟨30, (oA 4 50 []), false, []⟩] [0,21,22,23,24,25,26,27,28,29,30,31,32,33,34,35,36,37,38,1,39,40,41,42,43,44,45,46,47,48,49,50])
.ret))), [.t 4]⟩
/-- interrex/code.Key -/
def f93 : AFn := ⟨2, (rS [oA 4 (.c vS) [4]] (.seq (.blk 0 (rS [oM 6 0 [], oO 7 (.bin .eql 6 (kI 3)) [6], oA 5 7 [7]] (.cond 5 (rS [oA 4 (.c (.s [108])) []] .ret)
 (rS [oM 9 0 [], oO 10 (.bin .eql 9 (kI 1)) [9], oM 11 10 [10], oG 12 (.mv 1) 11 [], oG 13 (.call 116 [12]) 11 [12], oO 14 (.pick 11 13 kF) [11,13], oA 8 14 [14]] (.cond 8 (rS [oM 15 1 [1], oO 16 (.bin .add (.c (.s [112,47])) 15) [15], oA 4 16 [16]] .ret)
 (rS [oM 18 0 [0], oO 19 (.bin .eql 18 (kI 2)) [18], oM 20 19 [19], oG 21 (.mv 1) 20 [], oG 22 (.call 116 [21]) 20 [21], oO 23 (.pick 20 22 kF) [20,22], oA 17 23 [23]] (.cond 17 (rS [oM 24 1 [1], oO 25 (.bin .add (.c (.s [110,47])) 24) [24], oA 4 25 [25]] .ret)
 .skip)))))))
(rS [oA 4 (.c vS) []] .ret))), [.t 4]⟩
/-- interrex/code.Kind -/
def f94 : AFn := ⟨1, (rS [oA 2 (kI 0) [2]] (.seq (.blk 0 (rS [oM 4 0 [], oO 5 (.bin .eql 4 (.c (.s [108]))) [4], oA 3 5 [5]] (.cond 3 (rS [oA 2 (kI 3) []] .ret)
 (rS [oM 7 0 [], oO 8 (.lenS 7) [7], oO 9 (.bin .gtr 8 (kI 2)) [8], oM 10 9 [9], oG 11 (.mv 0) 10 [], oG 12 (.slstr 11 none (some (kI 2))) 10 [11], oG 13 (.bin .eql 12 (.c (.s [112,47]))) 10 [12], oO 14 (.pick 10 13 kF) [10,13], oM 15 14 [14], oG 16 (.mv 0) 15 [], oG 17 (.slstr 16 (some (kI 2)) none) 15 [16], oG 18 (.call 116 [17]) 15 [17], oO 19 (.pick 15 18 kF) [15,18], oA 6 19 [19]] (.cond 6 (rS [oA 2 (kI 1) []] .ret)
 (rS [oM 21 0 [], oO 22 (.lenS 21) [21], oO 23 (.bin .gtr 22 (kI 2)) [22], oM 24 23 [23], oG 25 (.mv 0) 24 [], oG 26 (.slstr 25 none (some (kI 2))) 24 [25], oG 27 (.bin .eql 26 (.c (.s [110,47]))) 24 [26], oO 28 (.pick 24 27 kF) [24,27], oM 29 28 [28], oG 30 (.mv 0) 29 [0], oG 31 (.slstr 30 (some (kI 2)) none) 29 [30], oG 32 (.call 116 [31]) 29 [31], oO 33 (.pick 29 32 kF) [29,32], oA 20 33 [33]] (.cond 20 (rS [oA 2 (kI 2) []] .ret)
 .skip)))))))
(rS [oA 2 (kI 0) []] .ret))), [.t 2]⟩
/-- interrex/code.GetPod -/
def f95 : AFn := ⟨1, (rS [oO 2 (.alloc false [vS,(vI 0),(vI 0),(vI 0),(vI 0),(vI 0),.nils,.nils,.nils,.nils,vS,.nils,(vI 0),.nils,vS,(vI 0)]) [], oA 3 kF [3]] (rS [oM 6 0 [], oO 7 (.call 128 [6]) [6], oA 4 7 [7]] (rS [oM 8 4 [], oO 9 (.call 129 [8,(kI 1)]) [8,9]] (rS [oM 10 4 [], oO 11 (.call 130 [10]) [10], oM 12 4 [], oO 13 (.call 129 [12,(kI 8)]) [12], oM 14 4 [], oO 15 (.call 129 [14,(kI 2)]) [14], oM 16 4 [], oO 17 (.call 131 [16]) [16], oO 18 (.bld [vS,(vI 0),(vI 0),(vI 0),(vI 0),(vI 0),.nils,.nils,.nils,.nils,vS,.nils,(vI 0),.nils,vS,(vI 0)] [(0, 1, 11),(1, 1, 13),(2, 1, 15),(3, 3, 17)]) [11,13,15,17], oO 5 (.alloc false [vS,(vI 0),(vI 0),(vI 0),(vI 0),(vI 0),.nils,.nils,.nils,.nils,vS,.nils,(vI 0),.nils,vS,(vI 0)]) [], oN (.store 16 5 18) [18]] (.seq (rS [oM 19 4 [], oO 20 (.call 132 [19,(kI 1)]) [19], oM 21 (kI 0) []] (.blk 0 (.loop (rS [oO 22 (.bin .lss 21 20) []] (.seq (.cond 22 .skip
 (.exit 0))
(.seq (.blk 1 (.dreg [⟨0, (oO 23 (.faddr 6 5) []), false, []⟩,
 ⟨1, (oO 24 (.load none 23) []), false, []⟩,
 ⟨2, (oM 25 4 []), false, []⟩,
 ⟨3, (oO 26 (.call 129 [25,(kI 2)]) []), true, [1]⟩,
 ⟨4, (oO 27 (.bsl (.im false) 1 1 [(vI 0)] [(0, 26)]) []), true, [1]⟩,
 ⟨5, (oO 28 (.append (.im false) 1 8 24 27) []), true, []⟩,
 ⟨6, (oO 29 (.faddr 6 5) []), false, []⟩,
 ⟨7, (oN (.store 1 29 28) []), true, []⟩] [23,24,25,26,27,28,29]))
(rR [oO 30 (.bin .add 21 (kI 1)) [21], oM 21 30 [30]])))))))
(rS [oM 31 4 [], oO 32 (.call 133 [31,(.c (.fn 134 [] []))]) [31], oO 33 (.faddr 7 5) [], oN (.store 1 33 32) [33,32]] (rS [oM 34 4 [], oO 35 (.call 135 [34]) [34], oO 36 (.faddr 8 5) [], oN (.store 1 36 35) [36,35]] (.seq (rS [oM 37 4 [], oO 38 (.call 132 [37,(kI 1)]) [37], oM 39 (kI 0) []] (.blk 2 (.loop (rS [oO 40 (.bin .lss 39 38) []] (.seq (.cond 40 .skip
 (.exit 2))
(.seq (.blk 3 (.dreg [⟨0, (oO 41 (.faddr 9 5) []), false, []⟩,
 ⟨1, (oO 42 (.load none 41) []), false, []⟩,
 ⟨2, (oM 43 4 []), false, []⟩,
 ⟨4, (oM 45 4 []), false, []⟩,
 ⟨6, (oM 47 4 []), false, []⟩,
 ⟨3, (oO 44 (.call 130 [43]) []), true, [1]⟩,
 ⟨5, (oO 46 (.call 130 [45]) []), true, [1]⟩,
 ⟨7, (oO 48 (.call 136 [47]) []), true, [1]⟩,
 ⟨8, (oO 49 (.bld [vS,vS,(.b false)] [(0, 1, 44),(1, 1, 46),(2, 1, 48)]) []), false, []⟩,
 ⟨9, (oO 50 (.bsl (.im false) 3 1 [vS,vS,(.b false)] [(0, 49)]) []), true, [1]⟩,
 ⟨10, (oO 51 (.append (.im false) 3 40 42 50) []), true, []⟩,
 ⟨11, (oO 52 (.faddr 9 5) []), false, []⟩,
 ⟨12, (oN (.store 1 52 51) []), true, []⟩] [41,42,43,44,45,46,47,48,49,50,51,52]))
(rR [oO 53 (.bin .add 39 (kI 1)) [39], oM 39 53 [53]])))))))
(rS [oM 54 4 [], oO 55 (.call 130 [54]) [54], oO 56 (.faddr 10 5) [], oN (.store 1 56 55) [56,55]] (rS [oM 57 4 [], oO 58 (.call 135 [57]) [57], oO 59 (.faddr 11 5) [], oN (.store 1 59 58) [59,58]] (rS [oM 60 4 [], oO 61 (.call 129 [60,(kI 1)]) [60], oO 62 (.faddr 12 5) [], oN (.store 1 62 61) [62,61]] (rS [oM 63 4 [], oO 64 (.call 135 [63]) [63], oO 65 (.faddr 13 5) [], oN (.store 1 65 64) [65,64]] (rS [oM 66 4 [], oO 67 (.call 130 [66]) [66], oO 68 (.faddr 14 5) [], oN (.store 1 68 67) [68,67]] (rS [oM 69 4 [], oO 70 (.call 129 [69,(kI 8)]) [69], oO 71 (.faddr 15 5) [], oN (.store 1 71 70) [71,70]] (.seq (rS [oM 72 4 [4], oO 73 (.call 137 [72]) [72], oO 74 (.un .not 73) [73], oM 75 74 [74], oH 76 (.mv 0) 75 [], oH 77 (.lenL 76) 75 [76], oH 78 (.bin .eql 77 (kI 0)) 75 [77], oO 79 (.pick 75 kT 78) [75,78], oM 80 79 [79], oH 81 (.load (some 16) 5) 80 [], oH 82 (.call 33 [81]) 80 [81], oH 83 (.mv 0) 80 [0], oH 84 (.call 138 [82,83]) 80 [82,83], oH 85 (.un .not 84) 80 [84], oO 86 (.pick 80 kT 85) [80,85]] (.cond 86 (rS [oO 87 (.bld [vS,(vI 0),(vI 0),(vI 0),(vI 0),(vI 0),.nils,.nils,.nils,.nils,vS,.nils,(vI 0),.nils,vS,(vI 0)] []) [], oN (.store 16 2 87) [87], oA 3 kF []] .ret)
 .skip))
(rS [oO 88 (.load (some 16) 5) [5], oN (.store 16 2 88) [88], oA 3 kT []] .ret)))))))))))))))), [.cell 2 (some 16),.t 3]⟩
/-- interrex/code.GetNode -/
def f96 : AFn := ⟨1, (rS [oO 2 (.alloc false [vS,(vI 0),(vI 0),(vI 0),.nils,.nils]) [], oA 3 kF [3]] (rS [oM 6 0 [], oO 7 (.call 128 [6]) [6], oA 4 7 [7]] (rS [oM 8 4 [], oO 9 (.call 129 [8,(kI 1)]) [8,9]] (rS [oM 10 4 [], oO 11 (.call 130 [10]) [10], oM 12 4 [], oO 13 (.call 131 [12]) [12], oO 14 (.bld [vS,(vI 0),(vI 0),(vI 0),.nils,.nils] [(0, 1, 11),(1, 3, 13)]) [11,13], oO 5 (.alloc false [vS,(vI 0),(vI 0),(vI 0),.nils,.nils]) [], oN (.store 6 5 14) [14]] (rS [oM 15 4 [], oO 16 (.call 133 [15,(.c (.fn 134 [] []))]) [15], oO 17 (.faddr 4 5) [], oN (.store 1 17 16) [17,16]] (rS [oM 18 4 [], oO 19 (.call 139 [18,(.c (.fn 140 [] []))]) [18], oO 20 (.faddr 5 5) [], oN (.store 1 20 19) [20,19]] (.seq (rS [oM 21 4 [4], oO 22 (.call 137 [21]) [21], oO 23 (.un .not 22) [22], oM 24 23 [23], oH 25 (.mv 0) 24 [], oH 26 (.lenL 25) 24 [25], oH 27 (.bin .eql 26 (kI 0)) 24 [26], oO 28 (.pick 24 kT 27) [24,27], oM 29 28 [28], oH 30 (.load (some 6) 5) 29 [], oH 31 (.call 141 [30]) 29 [30], oH 32 (.mv 0) 29 [0], oH 33 (.call 138 [31,32]) 29 [31,32], oH 34 (.un .not 33) 29 [33], oO 35 (.pick 29 kT 34) [29,34]] (.cond 35 (rS [oO 36 (.bld [vS,(vI 0),(vI 0),(vI 0),.nils,.nils] []) [], oN (.store 6 2 36) [36], oA 3 kF []] .ret)
 .skip))
(rS [oO 37 (.load (some 6) 5) [5], oN (.store 6 2 37) [37], oA 3 kT []] .ret)))))))), [.cell 2 (some 6),.t 3]⟩
/-- slices.SortFunc   interrex/api.Pod interrex/api.Pod  -/
def f97 : AFn := ⟨2, (rS [oM 5 0 [], oO 6 (.lenL 5) [5], oA 4 6 [6]] (rR [oM 7 0 [0], oM 8 4 [], oM 9 4 [4], oO 10 (.cvi .u64 9) [9], oO 11 (.call 143 [10]) [10], oM 12 1 [1], oO 13 (.call 142 [7,(kI 0),8,11,12]) [7,8,11,12,13]])), []⟩
/-- slices.SortFunc   interrex/api.Node interrex/api.Node  -/
def f100 : AFn := ⟨2, (rS [oM 5 0 [], oO 6 (.lenL 5) [5], oA 4 6 [6]] (rR [oM 7 0 [0], oM 8 4 [], oM 9 4 [4], oO 10 (.cvi .u64 9) [9], oO 11 (.call 143 [10]) [10], oM 12 1 [1], oO 13 (.call 145 [7,(kI 0),8,11,12]) [7,8,11,12,13]])), []⟩
/-- interrex/interrexlaw6.begun -/
def f102 : AFn := ⟨0, (rS [oA 0 kF [0]] (rS [oO 18 (.call 64 [(kI 3)]) [], oO 19 (.call 17 []) [], oA 1 18 [18], oA 2 19 [19]] (.seq (rS [oM 20 1 [], oO 21 (.eqn false 20 (.c .nilp)) [20], oM 22 21 [21], oH 23 (.mv 2) 22 [], oH 24 (.eqn false 23 (.c .nilp)) 22 [23], oO 25 (.pick 22 kT 24) [22,24]] (.cond 25 (rS [oA 0 kF []] .ret)
 .skip))
(rS [oM 26 1 [], oO 27 (.bld [(vI 0),vS,.nils,(.b false)] [(0, 1, (kI 4)),(1, 1, (.c (.s [107])))]) [], oO 28 (.bsl (.im false) 4 1 [(vI 0),vS,.nils,(.b false)] [(0, 27)]) [27], oO 29 (.call 68 [26,28]) [26,28], oA 3 29 [29]] (rS [oM 31 1 [1], oO 32 (.call 115 [31,(kI 0)]) [31], oM 30 32 [32], oO 33 (.ext 30 0) [], oO 34 (.ext 30 1) [30], oA 4 33 [33], oA 5 34 [34]] (rS [oM 36 2 [], oO 37 (.bld [vS,(vI 0),(.b false)] [(0, 1, (.c (.s [97])))]) [], oO 38 (.bsl (.im false) 3 1 [vS,(vI 0),(.b false)] [(0, 37)]) [37], oO 39 (.bsl (.im false) 1 1 [(.i .u8 0)] [(0, (.c (.i .u8 120)))]) [], oO 40 (.mkb 39) [39], oO 41 (.bld [vS,.nils,(.b false)] [(0, 1, (.c (.s [97]))),(1, 1, 40)]) [40], oO 42 (.bsl (.im false) 3 1 [vS,.nils,(.b false)] [(0, 41)]) [41], oO 43 (.bld [.nils,.nils] [(0, 1, 38),(1, 1, 42)]) [38,42], oO 44 (.call 19 [36,43]) [36,43], oM 35 44 [44], oO 45 (.ext 35 0) [], oO 46 (.ext 35 1) [35], oA 6 45 [45], oA 7 46 [46]] (rS [oM 48 2 [], oO 49 (.bld [vS,(vI 0),(.b false)] [(0, 1, (.c (.s [97])))]) [], oO 50 (.bsl (.im false) 3 1 [vS,(vI 0),(.b false)] [(0, 49)]) [49], oO 51 (.bsl (.im false) 1 1 [(.i .u8 0)] [(0, (.c (.i .u8 121)))]) [], oO 52 (.mkb 51) [51], oO 53 (.bld [vS,.nils,(.b false)] [(0, 1, (.c (.s [97]))),(1, 1, 52)]) [52], oO 54 (.bsl (.im false) 3 1 [vS,.nils,(.b false)] [(0, 53)]) [53], oO 55 (.bld [.nils,.nils] [(0, 1, 50),(1, 1, 54)]) [50,54], oO 56 (.call 19 [48,55]) [48,55], oM 47 56 [56], oO 57 (.ext 47 0) [], oO 58 (.ext 47 1) [47], oA 8 57 [57,8], oA 9 58 [58]] (rS [oM 60 2 [], oO 61 (.call 146 [60,(.c (.s [97]))]) [60], oM 59 61 [61], oO 62 (.ext 59 0) [], oO 63 (.ext 59 1) [59], oO 10 (.alloc false [vS,(vI 0),.nils]) [], oN (.store 3 10 62) [62], oA 11 63 [63]] (rS [oO 64 (.bld [(vI 0),(vI 0),(vI 0),vS,(vI 0),.nils,.nils] [(0, 1, (kI 1)),(1, 1, (kI 5)),(2, 1, (kI 2))]) [], oO 12 (.alloc false [(vI 0),(vI 0),(vI 0),vS,(vI 0),.nils,.nils]) [], oN (.store 7 12 64) [64]] (rS [oO 66 (.load (some 7) 12) [], oO 67 (.call 148 [66]) [66], oO 68 (.call 147 [67]) [67], oM 65 68 [68], oO 69 (.ext 65 0) [], oO 70 (.ext 65 1) [65], oO 13 (.alloc false [(vI 0),(vI 0),(vI 0),vS,(vI 0),.nils,.nils]) [], oN (.store 7 13 69) [69], oA 14 70 [70]] (rS [oM 71 2 [2], oO 72 (.load (some 7) 12) [], oO 73 (.call 149 [71,72]) [71,72], oO 15 (.alloc false [(vI 0),(vI 0),(vI 0),(vI 0),(vI 0),.nils,.nils]) [], oN (.store 7 15 73) [73]] (rS [oO 75 (.load (some 7) 15) [], oO 76 (.call 151 [75]) [75], oO 77 (.call 150 [76]) [76], oM 74 77 [77], oO 78 (.ext 74 0) [], oO 79 (.ext 74 1) [74], oO 16 (.alloc false [(vI 0),(vI 0),(vI 0),(vI 0),(vI 0),.nils,.nils]) [], oN (.store 7 16 78) [78], oA 17 79 [79]] (rS [oO 80 (.call 152 []) [], oM 81 80 [80], oG 82 (.mv 3) 81 [3], oO 83 (.pick 81 82 kF) [81,82], oM 84 83 [83], oG 85 (.mv 5) 84 [5], oG 86 (.bin .eql 85 (kI 0)) 84 [85], oO 87 (.pick 84 86 kF) [84,86], oM 88 87 [87], oG 89 (.mv 4) 88 [4], oG 90 (.lenL 89) 88 [89], oG 91 (.bin .eql 90 (kI 1)) 88 [90], oO 92 (.pick 88 91 kF) [88,91], oM 93 92 [92], oG 94 (.mv 6) 93 [6], oG 95 (.bin .eql 94 (kI 1)) 93 [94], oO 96 (.pick 93 95 kF) [93,95], oM 97 96 [96], oG 98 (.mv 7) 97 [7], oG 99 (.bin .eql 98 (kI 0)) 97 [98], oO 100 (.pick 97 99 kF) [97,99], oM 101 100 [100], oG 102 (.mv 9) 101 [9], oG 103 (.bin .eql 102 (kI 6)) 101 [102], oO 104 (.pick 101 103 kF) [101,103], oM 105 104 [104], oG 106 (.mv 11) 105 [11], oO 107 (.pick 105 106 kF) [105,106], oM 108 107 [107], oG 109 (.faddr 2 10) 108 [], oG 110 (.load none 109) 108 [109], oG 111 (.b2s 110) 108 [110], oG 112 (.bin .eql 111 (.c (.s [120]))) 108 [111], oO 113 (.pick 108 112 kF) [108,112], oM 114 113 [113], oG 115 (.faddr 1 10) 114 [10], oG 116 (.load none 115) 114 [115], oG 117 (.bin .eql 116 (kI 1)) 114 [116], oO 118 (.pick 114 117 kF) [114,117], oM 119 118 [118], oG 120 (.mv 14) 119 [14], oO 121 (.pick 119 120 kF) [119,120], oM 122 121 [121], oG 123 (.load (some 7) 12) 122 [12], oG 124 (.load (some 7) 13) 122 [13], oG 125 (.call 153 [123,124]) 122 [123,124], oO 126 (.pick 122 125 kF) [122,125], oM 127 126 [126], oG 128 (.mv 17) 127 [17], oO 129 (.pick 127 128 kF) [127,128], oM 130 129 [129], oG 131 (.load (some 7) 15) 130 [15], oG 132 (.load (some 7) 16) 130 [], oG 133 (.call 154 [131,132]) 130 [131,132], oO 134 (.pick 130 133 kF) [130,133], oM 135 134 [134], oG 136 (.faddr 5 16) 135 [], oG 137 (.load none 136) 135 [136], oG 138 (.lenL 137) 135 [137], oG 139 (.bin .eql 138 (kI 1)) 135 [138], oO 140 (.pick 135 139 kF) [135,139], oM 141 140 [140], oG 142 (.faddr 4 16) 141 [], oG 143 (.load none 142) 141 [142], oG 144 (.bin .eql 143 (kI 1)) 141 [143], oO 145 (.pick 141 144 kF) [141,144], oM 146 145 [145], oG 147 (.faddr 0 16) 146 [16], oG 148 (.load none 147) 146 [147], oG 149 (.bin .eql 148 (kI 1)) 146 [148], oO 150 (.pick 146 149 kF) [146,149], oA 0 150 [150]] .ret))))))))))))), [.t 0]⟩
/-- interrex/lease.Leads -/
def f103 : AFn := ⟨2, (rS [oA 4 kF [4]] (rS [oM 5 0 [0], oO 6 (.call 104 [5]) [5], oM 7 1 [1], oO 8 (.call 60 [7]) [7], oO 9 (.bin .lss 6 8) [6,8], oA 4 9 [9]] .ret)), [.t 4]⟩
/-- interrex/lease.bring -/
def f104 : AFn := ⟨1, (rS [oA 2 (kI 0) [2]] (rS [oM 3 0 [0], oO 4 (.mnmx true [3,(kI 0)]) [3], oO 5 (.mnmx false [4,(kI 1152921504606846976)]) [4], oA 2 5 [5]] .ret)), [.t 2]⟩
/-- slices.Clone   byte byte  -/
def f105 : AFn := ⟨1, (rS [oA 2 (.c .nils) [2]] (.seq (rS [oM 3 0 [], oO 4 (.eqn false 3 (.c .nils)) [3]] (.cond 4 (rS [oA 2 (.c .nils) []] .ret)
 .skip))
(rS [oO 5 (.bsl (.im false) 1 0 [(.i .u8 0)] []) [], oM 6 0 [0], oO 7 (.append (.im false) 1 1 5 6) [5,6], oA 2 7 [7]] .ret))), [.t 2]⟩
/-- maps.Keys map string interrex/api.Entry string interrex/api.Entry  1 -/
def f108 : AFn := ⟨2, (rS [oO 4 (.load none 1) [1], oO 5 (.no) [4]] (.blk 0 (.loop (rS [oO 6 (.no) [], oO 7 (.ext 6 0) [6]] (.seq (.cond 7 .skip
 (.exit 0))
(.blk 1 (rS [oO 8 (.no) [], oO 9 (.ext 8 0) [8], oA 3 9 [9]] (rS [oM 10 0 [], oM 11 3 [3], oO 12 (.callv 10 [11]) [10,11], oO 13 (.un .not 12) [12]] (.cond 13 .ret
 .skip))))))))), []⟩
/-- interrex/store.may -/
def f110 : AFn := ⟨1, (rS [oO 1 (.box false 0) [0], oA 2 kF [2]] (.seq (rS [oO 8 (.faddr 0 1) [], oO 9 (.load none 8) [8], oO 10 (.lenL 9) [9], oO 11 (.bin .gtr 10 (kI 20)) [10], oM 12 11 [11], oH 13 (.faddr 1 1) 12 [], oH 14 (.load none 13) 12 [13], oH 15 (.lenL 14) 12 [14], oH 16 (.bin .lss 15 (kI 1)) 12 [15], oO 17 (.pick 12 kT 16) [12,16], oM 18 17 [17], oH 19 (.faddr 1 1) 18 [], oH 20 (.load none 19) 18 [19], oH 21 (.lenL 20) 18 [20], oH 22 (.bin .gtr 21 (kI 64)) 18 [21], oO 23 (.pick 18 kT 22) [18,22]] (.cond 23 (rS [oA 2 kF []] .ret)
 .skip))
(.seq (rS [oO 24 (.faddr 0 1) [], oO 25 (.load none 24) [24], oO 26 (.lenL 25) [], oM 27 (kI 0) []] (.blk 0 (.loop (rS [oO 28 (.bin .lss 27 26) []] (.seq (.cond 28 .skip
 (.exit 0))
(.seq (.blk 1 (rS [oO 29 (.iasl 3 25 27) [], oO 30 (.load (some 3) 29) [29], oO 4 (.alloc false [vS,(vI 0),(.b false)]) [], oN (.store 3 4 30) [30]] (rS [oO 31 (.faddr 0 4) [], oO 32 (.load none 31) [31], oO 33 (.call 157 [32]) [32], oO 34 (.un .not 33) [33], oM 35 34 [34], oH 36 (.faddr 1 4) 35 [4], oH 37 (.load none 36) 35 [36], oH 38 (.bin .lss 37 (kI 0)) 35 [37], oO 39 (.pick 35 kT 38) [35,38]] (.cond 39 (rS [oA 2 kF []] .ret)
 .skip))))
(rR [oO 40 (.bin .add 27 (kI 1)) [27], oM 27 40 [40]])))))))
(rS [oO 41 (.mkmap true none) [], oA 5 41 [41]] (.seq (rS [oO 42 (.faddr 1 1) [1], oO 43 (.load none 42) [42], oO 44 (.lenL 43) [], oM 45 (kI 0) []] (.blk 2 (.loop (rS [oO 46 (.bin .lss 45 44) []] (.seq (.cond 46 .skip
 (.exit 2))
(.seq (.blk 3 (rS [oO 47 (.iasl 3 43 45) [], oO 48 (.load (some 3) 47) [47], oO 7 (.alloc false [vS,.nils,(.b false)]) [], oN (.store 3 7 48) [48]] (.seq (rS [oO 49 (.faddr 0 7) [], oO 50 (.load none 49) [49], oO 51 (.call 157 [50]) [50], oO 52 (.un .not 51) [51], oM 53 52 [52], oH 54 (.mv 5) 53 [], oH 55 (.faddr 0 7) 53 [], oH 56 (.load none 55) 53 [55], oH 57 (.lkp none (.b false) 54 56 false) 53 [54,56], oO 58 (.pick 53 kT 57) [53,57], oM 59 58 [58], oH 60 (.faddr 2 7) 59 [], oH 61 (.load none 60) 59 [60], oH 62 (.mv 61) 59 [61], oG 63 (.faddr 1 7) 62 [], oG 64 (.load none 63) 62 [63], oG 65 (.lenL 64) 62 [64], oG 66 (.bin .gtr 65 (kI 0)) 62 [65], oH 67 (.pick 62 66 kF) 59 [62,66], oO 68 (.pick 59 kT 67) [59,67], oM 69 68 [68], oH 70 (.faddr 1 7) 69 [], oH 71 (.load none 70) 69 [70], oH 72 (.lenL 71) 69 [71], oH 73 (.bin .gtr 72 (kI 4000)) 69 [72], oO 74 (.pick 69 kT 73) [69,73]] (.cond 74 (rS [oA 2 kF []] .ret)
 .skip))
(rR [oM 75 5 [], oO 76 (.faddr 0 7) [7], oO 77 (.load none 76) [76], oN (.mupd none 75 77 kT) [75,77]]))))
(rR [oO 78 (.bin .add 45 (kI 1)) [45], oM 45 78 [78]])))))))
(rS [oA 2 kT []] .ret)))))), [.t 2]⟩
/-- ( interrex/store.Store).holds -/
def f111 : AFn := ⟨2, (rS [oO 3 (.box false 1) [1], oA 4 kF [4]] (.seq (rS [oO 7 (.faddr 2 3) [], oO 8 (.load none 7) [7], oO 9 (.un .not 8) [8]] (.cond 9 (.seq (.dreg [⟨0, (oM 10 0 []), false, []⟩,
 ⟨1, (oO 11 (.nilc 10) []), false, []⟩,
 ⟨2, (oO 12 (.faddr 1 11) []), false, []⟩,
 ⟨3, (oO 13 (.load none 12) []), false, []⟩,
 ⟨4, (oO 14 (.faddr 0 3) []), false, []⟩,
 ⟨5, (oO 15 (.load none 14) []), false, []⟩,
 ⟨6, (oO 16 (.lkp none (.agg [vS,(vI 0),.nils]) 13 15 false) []), false, []⟩,
 ⟨7, (oO 17 (.fld 1 none 16) []), false, []⟩,
 ⟨8, (oO 18 (.faddr 1 3) []), false, []⟩,
 ⟨9, (oO 19 (.load none 18) []), false, []⟩,
 ⟨10, (oO 20 (.bin .eql 17 19) []), false, []⟩,
 ⟨11, (oA 4 20 []), false, []⟩] [0,10,11,12,13,3,14,15,16,17,18,19,20])
.ret)
 .skip))
(.seq (rS [oM 21 0 [0], oO 22 (.nilc 21) [21], oO 23 (.faddr 2 22) [22], oO 24 (.load none 23) [23], oO 25 (.no) [24]] (.blk 0 (.loop (rS [oO 26 (.no) [], oO 27 (.ext 26 0) [26]] (.seq (.cond 27 .skip
 (.exit 0))
(.blk 1 (rS [oO 28 (.no) [], oO 29 (.ext 28 0) [], oO 30 (.ext 28 1) [28], oA 5 29 [29], oA 6 30 [30]] (rS [oM 31 6 [6], oO 32 (.faddr 1 3) [], oO 33 (.load none 32) [32], oO 34 (.bin .gtr 31 33) [31,33], oM 35 34 [34], oG 36 (.mv 5) 35 [5], oG 37 (.faddr 0 3) 35 [], oG 38 (.load none 37) 35 [37], oG 39 (.call 158 [36,38]) 35 [36,38], oO 40 (.pick 35 39 kF) [35,39]] (.cond 40 (rS [oA 4 kF []] .ret)
 .skip)))))))))
(rS [oA 4 kT []] .ret)))), [.t 4]⟩
/-- interrex/log.copied -/
def f112 : AFn := ⟨1, (rS [oO 1 (.box false 0) [0], oO 2 (.alloc false [(vI 0),vS,.nils,(.b false)]) []] (rS [oO 3 (.faddr 2 1) [], oO 4 (.load none 3) [3], oO 5 (.call 105 [4]) [4], oO 6 (.faddr 2 1) [], oN (.store 1 6 5) [6,5]] (rS [oO 7 (.load (some 4) 1) [1], oN (.store 4 2 7) [7]] .ret))), [.cell 2 (some 4)]⟩
/-- slices.DeleteFunc   interrex/api.Event interrex/api.Event  -/
def f113 : AFn := ⟨2, (rS [oA 4 (.c .nils) [4]] (rS [oM 8 0 [], oM 9 1 [], oO 10 (.call 159 [8,9]) [8,9], oA 5 10 [10]] (.seq (rS [oM 11 5 [], oO 12 (.bin .eql 11 (kI (-1))) [11]] (.cond 12 (rS [oM 13 0 [0], oA 4 13 [13]] .ret)
 .skip))
(.seq (rS [oM 14 5 [], oO 15 (.bin .add 14 (kI 1)) [14], oA 6 15 [15]] (.blk 0 (.loop (.seq (rS [oM 16 6 [], oM 17 0 [], oO 18 (.lenL 17) [17], oO 19 (.bin .lss 16 18) [16,18]] (.cond 19 .skip
 (.exit 0)))
(.seq (.blk 1 (rS [oM 22 0 [], oM 23 6 [], oO 24 (.iasl 4 22 23) [22,23], oO 25 (.load (some 4) 24) [24], oO 7 (.alloc false [(vI 0),vS,.nils,(.b false)]) [], oN (.store 4 7 25) [25]] (rS [oM 26 1 [], oO 27 (.load (some 4) 7) [], oO 28 (.callv 26 [27]) [26,27], oO 29 (.un .not 28) [28]] (.cond 29 (rS [oM 30 0 [], oM 31 5 [], oO 32 (.load (some 4) 7) [7], oO 33 (.iasl 4 30 31) [30,31], oN (.store 4 33 32) [33,32]] (rR [oM 34 5 [5], oO 35 (.bin .add 34 (kI 1)) [34], oA 5 35 [35]]))
 .skip))))
(rR [oM 20 6 [6], oO 21 (.bin .add 20 (kI 1)) [20], oA 6 21 [21]]))))))
(rS [oM 36 0 [], oM 37 5 [], oO 38 (.slsl 4 36 (some 37) none none) [36,37], oN (.clear 4 [(vI 0),vS,.nils,(.b false)] 38) [38]] (rS [oM 39 0 [0], oM 40 5 [5], oO 41 (.slsl 4 39 none (some 40) none) [39,40], oA 4 41 [41]] .ret)))))), [.t 4]⟩
/-- ( interrex/log.Log).From -/
def f115 : AFn := ⟨2, (rS [oA 4 (.c .nils) [4], oA 5 (kI 0) [5]] (.seq (.blk 0 (rS [oM 10 0 [], oO 11 (.eqn false 10 (.c .nilp)) [10], oA 9 11 [11]] (.cond 9 (rS [oA 4 (.c .nils) [], oA 5 (kI 9) []] .ret)
 (rS [oM 13 1 [], oM 14 0 [], oO 15 (.nilc 14) [14], oO 16 (.faddr 2 15) [15], oO 17 (.load none 16) [16], oO 18 (.bin .lss 13 17) [13,17], oA 12 18 [18]] (.cond 12 (rS [oA 4 (.c .nils) [], oA 5 (kI 7) []] .ret)
 (rS [oM 20 1 [], oM 21 0 [], oO 22 (.nilc 21) [21], oO 23 (.faddr 3 22) [22], oO 24 (.load none 23) [23], oO 25 (.bin .gtr 20 24) [20,24], oA 19 25 [25]] (.cond 19 (rS [oA 4 (.c .nils) [], oA 5 (kI 2) []] .ret)
 .skip)))))))
(rS [oA 6 (.c .nils) []] (.seq (rS [oM 26 0 [0], oO 27 (.nilc 26) [26], oO 28 (.faddr 0 27) [27], oO 29 (.load none 28) [28], oO 30 (.lenL 29) [], oM 31 (kI 0) []] (.blk 1 (.loop (rS [oO 32 (.bin .lss 31 30) []] (.seq (.cond 32 .skip
 (.exit 1))
(.seq (.blk 2 (rS [oO 33 (.iasl 4 29 31) [], oO 34 (.load (some 4) 33) [33], oO 8 (.alloc false [(vI 0),vS,.nils,(.b false)]) [], oN (.store 4 8 34) [34]] (rS [oO 35 (.faddr 0 8) [], oO 36 (.load none 35) [35], oM 37 1 [], oO 38 (.bin .gtr 36 37) [36,37]] (.cond 38 (rR [oM 39 6 [6], oO 40 (.load (some 4) 8) [8], oO 41 (.call 112 [40]) [40], oO 42 (.bsl (.im false) 4 1 [(vI 0),vS,.nils,(.b false)] [(0, 41)]) [41], oO 43 (.append (.im false) 4 56 39 42) [39,42], oA 6 43 [43]])
 .skip))))
(rR [oO 44 (.bin .add 31 (kI 1)) [31], oM 31 44 [44]])))))))
(rS [oM 45 6 [6], oA 4 45 [45], oA 5 (kI 0) []] .ret))))), [.t 4,.t 5]⟩
/-- interrex/label.Name -/
def f116 : AFn := ⟨1, (rS [oA 2 kF [2]] (.seq (rS [oM 4 0 [], oO 5 (.lenS 4) [4], oO 6 (.bin .lss 5 (kI 1)) [5], oM 7 6 [6], oH 8 (.mv 0) 7 [], oH 9 (.lenS 8) 7 [8], oH 10 (.bin .gtr 9 (kI 12)) 7 [9], oO 11 (.pick 7 kT 10) [7,10]] (.cond 11 (rS [oA 2 kF []] .ret)
 .skip))
(.seq (rS [oM 12 0 [], oO 13 (.lenS 12) [12], oM 14 (kI 0) []] (.blk 0 (.loop (rS [oO 15 (.bin .lss 14 13) []] (.seq (.cond 15 .skip
 (.exit 0))
(.seq (.blk 1 (rS [oM 16 14 [], oA 3 16 [16]] (rS [oM 17 0 [], oM 18 3 [3], oO 19 (.ixs 17 18) [17,18], oO 20 (.call 160 [19]) [19], oO 21 (.un .not 20) [20]] (.cond 21 (rS [oA 2 kF []] .ret)
 .skip))))
(rR [oO 22 (.bin .add 14 (kI 1)) [14], oM 14 22 [22]])))))))
(rS [oA 2 kT []] .ret)))), [.t 2]⟩
/-- interrex/qty.May -/
def f117 : AFn := ⟨1, (rS [oO 1 (.box false 0) [0], oA 2 kF [2]] (.seq (rS [oO 5 (.load (some 3) 1) [1], oM 6 (kI 0) []] (.blk 0 (.loop (rS [oO 7 (.bin .lss 6 (kI 3)) []] (.seq (.cond 7 .skip
 (.exit 0))
(.seq (.blk 1 (rS [oO 8 (.ixa 3 1 none 5 6) [], oA 4 8 [8]] (rS [oM 9 4 [], oO 10 (.bin .lss 9 (kI 0)) [9], oM 11 10 [10], oH 12 (.mv 4) 11 [4], oH 13 (.bin .gtr 12 (kI 1000000000)) 11 [12], oO 14 (.pick 11 kT 13) [11,13]] (.cond 14 (rS [oA 2 kF []] .ret)
 .skip))))
(rR [oO 15 (.bin .add 6 (kI 1)) [6], oM 6 15 [15]])))))))
(rS [oA 2 kT []] .ret))), [.t 2]⟩
/-- interrex/obj.mayPorts -/
def f118 : AFn := ⟨1, (rS [oA 2 kF [2]] (.seq (rS [oM 5 0 [], oO 6 (.lenL 5) [], oM 7 (kI 0) []] (.blk 0 (.loop (rS [oO 8 (.bin .lss 7 6) []] (.seq (.cond 8 .skip
 (.exit 0))
(.seq (.blk 1 (rS [oM 9 7 [], oO 10 (.iasl 1 5 7) [], oO 11 (.load none 10) [10], oA 3 9 [9], oA 4 11 [11]] (rS [oM 12 4 [], oO 13 (.bin .lss 12 (kI 1)) [12], oM 14 13 [13], oH 15 (.mv 4) 14 [], oH 16 (.bin .gtr 15 (kI 65535)) 14 [15], oO 17 (.pick 14 kT 16) [14,16], oM 18 17 [17], oH 19 (.mv 3) 18 [], oH 20 (.bin .gtr 19 (kI 0)) 18 [19], oH 21 (.mv 20) 18 [20], oG 22 (.mv 0) 21 [], oG 23 (.mv 3) 21 [3], oG 24 (.bin .sub 23 (kI 1)) 21 [23], oG 25 (.iasl 1 22 24) 21 [22,24], oG 26 (.load none 25) 21 [25], oG 27 (.mv 4) 21 [4], oG 28 (.bin .geq 26 27) 21 [26,27], oH 29 (.pick 21 28 kF) 18 [21,28], oO 30 (.pick 18 kT 29) [18,29]] (.cond 30 (rS [oA 2 kF []] .ret)
 .skip))))
(rR [oO 31 (.bin .add 7 (kI 1)) [7], oM 7 31 [31]])))))))
(rS [oM 32 0 [0], oO 33 (.lenL 32) [32], oO 34 (.bin .leq 33 (kI 6)) [33], oA 2 34 [34]] .ret))), [.t 2]⟩
/-- interrex/label.May -/
def f119 : AFn := ⟨1, (rS [oA 2 kF [2]] (.seq (rS [oM 5 0 [], oO 6 (.lenL 5) [], oM 7 (kI 0) []] (.blk 0 (.loop (rS [oO 8 (.bin .lss 7 6) []] (.seq (.cond 8 .skip
 (.exit 0))
(.seq (.blk 1 (rS [oM 9 7 [], oO 10 (.iasl 2 5 7) [], oO 11 (.load (some 2) 10) [10], oO 4 (.alloc false [vS,vS]) [], oA 3 9 [9], oN (.store 2 4 11) [11]] (.seq (.dreg [⟨0, (oO 12 (.faddr 0 4) []), false, []⟩,
 ⟨1, (oO 13 (.load none 12) []), false, []⟩,
 ⟨2, (oO 14 (.call 116 [13]) []), true, []⟩,
 ⟨3, (oO 15 (.un .not 14) []), false, []⟩,
 ⟨4, (oM 16 15 []), false, []⟩,
 ⟨5, (oH 17 (.faddr 1 4) 16 []), false, []⟩,
 ⟨6, (oH 18 (.load none 17) 16 []), false, []⟩,
 ⟨7, (oH 19 (.call 116 [18]) 16 []), true, []⟩,
 ⟨8, (oH 20 (.un .not 19) 16 []), false, []⟩,
 ⟨9, (oO 21 (.pick 16 kT 20) []), false, []⟩,
 ⟨10, (oM 22 21 []), false, []⟩,
 ⟨11, (oH 23 (.mv 3) 22 []), false, []⟩,
 ⟨12, (oH 24 (.bin .gtr 23 (kI 0)) 22 []), false, []⟩,
 ⟨13, (oH 25 (.mv 24) 22 []), false, []⟩,
 ⟨14, (oG 26 (.mv 0) 25 []), false, []⟩,
 ⟨15, (oG 27 (.mv 3) 25 []), false, []⟩,
 ⟨16, (oG 28 (.bin .sub 27 (kI 1)) 25 []), false, []⟩,
 ⟨17, (oG 29 (.iasl 2 26 28) 25 []), false, []⟩,
 ⟨18, (oG 30 (.faddr 0 29) 25 []), false, []⟩,
 ⟨19, (oG 31 (.load none 30) 25 []), false, []⟩,
 ⟨20, (oG 32 (.faddr 0 4) 25 []), false, []⟩,
 ⟨21, (oG 33 (.load none 32) 25 []), false, []⟩,
 ⟨22, (oG 34 (.bin .geq 31 33) 25 []), false, []⟩,
 ⟨23, (oH 35 (.pick 25 34 kF) 22 []), false, []⟩,
 ⟨24, (oO 36 (.pick 22 kT 35) []), false, []⟩] [4,12,13,14,15,16,17,18,19,20,21,22,3,23,24,25,26,27,28,29,30,31,32,33,34,35])
(.cond 36 (rS [oA 2 kF []] .ret)
 .skip))))
(rR [oO 37 (.bin .add 7 (kI 1)) [7], oM 7 37 [37]])))))))
(rS [oM 38 0 [0], oO 39 (.lenL 38) [38], oO 40 (.bin .leq 39 (kI 6)) [39], oA 2 40 [40]] .ret))), [.t 2]⟩
/-- interrex/label.MayTerms -/
def f120 : AFn := ⟨1, (rS [oA 2 kF [2]] (rS [oM 3 0 [], oO 4 (.lenL 3) [3], oO 5 (.bin .leq 4 (kI 6)) [4], oM 6 5 [5], oG 7 (.mv 0) 6 [0], oG 8 (.call 161 [7,(.c (.fn 162 [] []))]) 6 [7], oG 9 (.un .not 8) 6 [8], oO 10 (.pick 6 9 kF) [6,9], oA 2 10 [10]] .ret)), [.t 2]⟩
/-- interrex/taint.MayTols -/
def f121 : AFn := ⟨1, (rS [oA 2 kF [2]] (rS [oM 3 0 [], oO 4 (.lenL 3) [3], oO 5 (.bin .leq 4 (kI 6)) [4], oM 6 5 [5], oG 7 (.mv 0) 6 [0], oG 8 (.call 164 [7,(.c (.fn 165 [] []))]) 6 [7], oG 9 (.un .not 8) 6 [8], oO 10 (.pick 6 9 kF) [6,9], oA 2 10 [10]] .ret)), [.t 2]⟩
/-- interrex/obj.mayTopo -/
def f122 : AFn := ⟨1, (rS [oO 1 (.box false 0) [0], oA 2 kF [2]] (.seq (rS [oO 3 (.faddr 12 1) [], oO 4 (.load none 3) [3], oO 5 (.bin .lss 4 (kI 0)) [4], oM 6 5 [5], oH 7 (.faddr 12 1) 6 [], oH 8 (.load none 7) 6 [7], oH 9 (.bin .gtr 8 (kI 10)) 6 [8], oO 10 (.pick 6 kT 9) [6,9], oM 11 10 [10], oH 12 (.faddr 11 1) 11 [], oH 13 (.load none 12) 11 [12], oH 14 (.call 120 [13]) 11 [13], oH 15 (.un .not 14) 11 [14], oO 16 (.pick 11 kT 15) [11,15], oM 17 16 [16], oH 18 (.faddr 13 1) 17 [], oH 19 (.load none 18) 17 [18], oH 20 (.call 120 [19]) 17 [19], oH 21 (.un .not 20) 17 [20], oO 22 (.pick 17 kT 21) [17,21]] (.cond 22 (rS [oA 2 kF []] .ret)
 .skip))
(rS [oO 23 (.faddr 10 1) [], oO 24 (.load none 23) [23], oO 25 (.call 116 [24]) [24], oM 26 25 [25], oH 27 (.faddr 10 1) 26 [], oH 28 (.load none 27) 26 [27], oH 29 (.bin .eql 28 (.c vS)) 26 [28], oH 30 (.mv 29) 26 [29], oG 31 (.faddr 11 1) 30 [], oG 32 (.load none 31) 30 [31], oG 33 (.lenL 32) 30 [32], oG 34 (.bin .eql 33 (kI 0)) 30 [33], oH 35 (.pick 30 34 kF) 26 [30,34], oH 36 (.mv 35) 26 [35], oG 37 (.faddr 12 1) 36 [1], oG 38 (.load none 37) 36 [37], oG 39 (.bin .eql 38 (kI 0)) 36 [38], oH 40 (.pick 36 39 kF) 26 [36,39], oO 41 (.pick 26 kT 40) [26,40], oA 2 41 [41]] .ret))), [.t 2]⟩
/-- ( interrex/wire.table).make -/
def f123 : AFn := ⟨1, (rS [oO 1 (.box true 0) [0]] (rR [oO 2 (.load none 1) [], oO 3 (.nilc 2) [2], oO 4 (.faddr 0 3) [3], oO 5 (.mkfn 168 [1]) [1], oO 6 (.call 167 [4,5]) [4,5,6]])), []⟩
/-- slices.Clone   string string  -/
def f124 : AFn := ⟨1, (rS [oA 2 (.c .nils) [2]] (.seq (rS [oM 3 0 [], oO 4 (.eqn false 3 (.c .nils)) [3]] (.cond 4 (rS [oA 2 (.c .nils) []] .ret)
 .skip))
(rS [oO 5 (.bsl (.mu true) 1 0 [vS] []) [], oM 6 0 [0], oO 7 (.append (.mu true) 1 16 5 6) [5,6], oA 2 7 [7]] .ret))), [.t 2]⟩
/-- slices.IndexFunc   interrex/assume.one interrex/assume.one  -/
def f125 : AFn := ⟨2, (rS [oA 4 (kI 0) [4]] (.seq (rS [oM 6 0 [], oO 7 (.lenL 6) [6], oM 8 (kI 0) []] (.blk 0 (.loop (rS [oO 9 (.bin .lss 8 7) []] (.seq (.cond 9 .skip
 (.exit 0))
(.seq (.blk 1 (rS [oM 10 8 [], oA 5 10 [10]] (rS [oM 11 1 [], oM 12 0 [], oM 13 5 [], oO 14 (.iasl 6 12 13) [12,13], oO 15 (.load (some 6) 14) [14], oO 16 (.callv 11 [15]) [11,15]] (.cond 16 (rS [oM 17 5 [5], oA 4 17 [17]] .ret)
 .skip))))
(rR [oO 18 (.bin .add 8 (kI 1)) [8], oM 8 18 [18]])))))))
(rS [oA 4 (kI (-1)) []] .ret))), [.t 4]⟩
/-- interrex/wire.NewReader -/
def f128 : AFn := ⟨1, (rS [oA 2 (.c .nilp) [2]] (rS [oM 3 0 [0], oO 4 (.call 105 [3]) [3], oO 5 (.bld [(.i .u32 0),(.i .i32 0),(.i .u32 0),(.i .u64 0),(.i .u64 0),(.i .u64 0),(.i .u64 0),(.i .u64 0),(.i .u64 0),(.i .u64 0),(.i .u64 0),(.i .u64 0),(.i .u64 0),(.i .u64 0),(.i .u64 0),(.i .u64 0),(.i .u64 0),(.i .u64 0),(.i .u64 0),(.i .u64 0),(.i .u64 0),(.i .u64 0),(.i .u64 0),(.i .u64 0),(.i .u64 0),(.i .u64 0),(.i .u64 0),(.i .u64 0),(.i .u64 0),(.i .u64 0),(.i .u64 0),(.i .u64 0),(.i .u64 0),(.i .u64 0),(.i .u64 0),(.i .u64 0),(.i .u64 0),(.i .u64 0),(.i .u64 0),(.i .u64 0),(.i .u64 0),(.i .u64 0),(.i .u64 0),(.i .u64 0),(.i .u64 0),(.i .u64 0),(.i .u64 0),(.i .u64 0),(.i .u64 0),(.i .u64 0),(.i .u64 0),(.i .u64 0),(.i .u64 0),(.i .u64 0),(.i .u64 0),(.i .u64 0),(.i .u64 0),(.i .u64 0),(.i .u64 0),(.i .u64 0),(.i .u64 0),(.i .u64 0),(.i .u64 0),(.i .u64 0),(.i .u64 0),(.i .u64 0),(.i .u64 0),(.i .u64 0),(.i .u64 0),(.i .u64 0),(.i .u64 0),(.i .u64 0),(.i .u64 0),(.i .u64 0),(.i .u64 0),(.i .u64 0),(.i .u64 0),(.i .u64 0),(.i .u64 0),(.i .u64 0),(.i .u64 0),(.i .u64 0),(.i .u64 0),(.i .u64 0),(.i .u64 0),(.i .u64 0),(.i .u64 0),(.i .u64 0),(.i .u64 0),(.i .u64 0),(.i .u64 0),(.i .u64 0),(.i .u64 0),(.i .u64 0),(.i .u64 0),(.i .u64 0),(.i .u64 0),(.i .u64 0),(.i .u64 0),(.i .u64 0),(.i .u64 0),(.i .u64 0),(.i .u64 0),(.i .u64 0),(.i .u64 0),(.i .u64 0),(.i .u64 0),(.i .u64 0),(.i .u64 0),(.i .u64 0),(.i .u64 0),(.i .u64 0),(.i .u64 0),(.i .u64 0),(.i .u64 0),(.i .u64 0),(.i .u64 0),(.i .u64 0),(.i .u64 0),(.i .u64 0),(.i .u64 0),(.i .u64 0),(.i .u64 0),(.i .u64 0),(.i .u64 0),(.i .u64 0),(.i .u64 0),(.i .u64 0),(.i .u64 0),(.i .u64 0),(.i .u64 0),(.i .u64 0),(.i .u64 0),(.i .u64 0),(.i .u64 0),(.i .u64 0),(.i .u64 0),(.i .u64 0),(.i .u64 0),(.i .u64 0),(.i .u64 0),(.i .u64 0),(.i .u64 0),(.i .u64 0),(.i .u64 0),(.i .u64 0),(.i .u64 0),(.i .u64 0),(.i .u64 0),(.i .u64 0),(.i .u64 0),(.i .u64 0),(.i .u64 0),(.i .u64 0),(.i .u64 0),(.i .u64 0),(.i .u64 0),(.i .u64 0),(.i .u64 0),(.i .u64 0),(.i .u64 0),(.i .u64 0),(.i .u64 0),(.i .u64 0),(.i .u64 0),(.i .u64 0),(.i .u64 0),(.i .u64 0),(.i .u64 0),(.i .u64 0),(.i .u64 0),(.i .u64 0),(.i .u64 0),(.i .u64 0),(.i .u64 0),(.i .u64 0),(.i .u64 0),(.i .u64 0),(.i .u64 0),(.i .u64 0),(.i .u64 0),(.i .u64 0),(.i .u64 0),(.i .u64 0),(.i .u64 0),(.i .u64 0),(.i .u64 0),(.i .u64 0),(.i .u64 0),(.i .u64 0),(.i .u64 0),(.i .u64 0),(.i .u64 0),(.i .u64 0),(.i .u64 0),(.i .u64 0),(.i .u64 0),(.i .u64 0),(.i .u64 0),(.i .u64 0),(.i .u64 0),(.i .u64 0),(.i .u64 0),(.i .u64 0),(.i .u64 0),(.i .u64 0),(.i .u64 0),(.i .u64 0),(.i .u64 0),(.i .u64 0),(.i .u64 0),(.i .u64 0),(.i .u64 0),(.i .u64 0),(.i .u64 0),(.i .u64 0),(.i .u64 0),(.i .u64 0),(.i .u64 0),(.i .u64 0),(.i .u64 0),(.i .u64 0),(.i .u64 0),(.i .u64 0),(.i .u64 0),(.i .u64 0),(.i .u64 0),(.i .u64 0),(.i .u64 0),(.i .u64 0),(.i .u64 0),(.i .u64 0),(.i .u64 0),(.i .u64 0),(.i .u64 0),(.i .u64 0),(.i .u64 0),(.i .u64 0),(.i .u64 0),(.i .u64 0),(.i .u64 0),(.i .u64 0),(.i .u64 0),(.i .u64 0),(.i .u64 0),(.i .u64 0),(.i .u64 0),(.i .u64 0),(.i .u64 0),(.i .u64 0),(.i .u64 0),(.i .u64 0),(.i .u64 0),(.i .u64 0),(.i .u64 0),(.i .u64 0),(.i .u64 0),(.i .u64 0),(.i .u64 0),(.i .u8 0),(.i .u8 0),(.i .u8 0),(.i .u8 0),(.i .u8 0),(.i .u8 0),(.i .u8 0),(.i .u8 0),(.i .u8 0),(.i .u8 0),(.i .u8 0),(.i .u8 0),(.i .u8 0),(.i .u8 0),(.i .u8 0),(.i .u8 0),(.i .u8 0),(.i .u8 0),(.i .u8 0),(.i .u8 0),(.i .u8 0),(.i .u8 0),(.i .u8 0),(.i .u8 0),(.i .u8 0),(.i .u8 0),(.i .u8 0),(.i .u8 0),(.i .u8 0),(.i .u8 0),(.i .u8 0),(.i .u8 0),(.i .u8 0),(.i .u8 0),(.i .u8 0),(.i .u8 0),(.i .u8 0),(.i .u8 0),.nils,(.b false)] [(297, 1, 4)]) [4], oO 6 (.box true 5) [5], oA 2 6 [6]] .ret)), [.t 2]⟩
/-- ( interrex/wire.Reader).Num -/
def f129 : AFn := ⟨2, (rS [oA 4 (kI 0) [4]] (.seq (rS [oM 8 0 [], oO 9 (.nilc 8) [8], oO 10 (.faddr 297 9) [9], oO 11 (.load none 10) [10], oO 12 (.lenL 11) [11], oM 13 1 [], oO 14 (.bin .lss 12 13) [12,13]] (.cond 14 (rS [oM 15 0 [], oM 16 0 [0], oO 17 (.nilc 15) [15], oO 18 (.faddr 298 17) [17], oN (.store 1 18 kT) [18], oO 19 (.nilc 16) [16], oO 20 (.faddr 297 19) [19], oN (.store 1 20 (.c .nils)) [20]] (rS [oA 4 (kI 0) []] .ret))
 .skip))
(rS [oA 5 (kI 0) []] (.seq (rS [oM 21 0 [], oO 22 (.nilc 21) [21], oO 23 (.faddr 297 22) [22], oO 24 (.load none 23) [23], oM 25 1 [], oO 26 (.slsl 1 24 none (some 25) none) [24,25], oO 27 (.lenL 26) [], oM 28 (kI 0) []] (.blk 0 (.loop (rS [oO 29 (.bin .lss 28 27) []] (.seq (.cond 29 .skip
 (.exit 0))
(.seq (.blk 1 (rS [oO 30 (.iasl 1 26 28) [], oO 31 (.load none 30) [30], oA 7 31 [31]] (rR [oM 32 5 [5], oO 33 (.bin .shl 32 (.c (.i .u64 8))) [32], oM 34 7 [7], oO 35 (.cvi .i64 34) [34], oO 36 (.bin .or 33 35) [33,35], oA 5 36 [36]])))
(rR [oO 37 (.bin .add 28 (kI 1)) [28], oM 28 37 [37]])))))))
(rS [oM 38 0 [], oM 39 0 [0], oO 40 (.nilc 39) [39], oO 41 (.faddr 297 40) [40], oO 42 (.load none 41) [41], oM 43 1 [1], oO 44 (.slsl 1 42 (some 43) none none) [42,43], oO 45 (.nilc 38) [38], oO 46 (.faddr 297 45) [45], oN (.store 1 46 44) [46,44]] (rS [oM 47 5 [5], oA 4 47 [47]] .ret)))))), [.t 4]⟩
/-- ( interrex/wire.Reader).Name -/
def f130 : AFn := ⟨1, (rS [oA 2 (.c vS) [2]] (rS [oM 6 0 [], oO 7 (.nilc 6) [6], oO 8 (.faddr 0 7) [7], oO 9 (.call 123 [8]) [8,9]] (rS [oM 10 0 [], oO 11 (.call 129 [10,(kI 8)]) [10], oO 12 (.cvi .u64 11) [11], oA 3 12 [12]] (rS [oA 4 (.c .nils) []] (.seq (rS [oM 13 (kI 0) []] (.blk 0 (.loop (rS [oO 14 (.bin .lss 13 (kI 12)) []] (.seq (.cond 14 .skip
 (.exit 0))
(.seq (.blk 1 (.seq (rS [oM 15 3 [], oO 16 (.bin .rem 15 (.c (.i .u64 38))) [15], oA 5 16 [16]] (rS [oM 17 5 [], oO 18 (.bin .gtr 17 (.c (.i .u64 0))) [17]] (.cond 18 (rR [oM 19 4 [4], oM 20 0 [], oM 21 5 [5], oO 22 (.nilc 20) [20], oO 23 (.faddr 0 22) [22], oO 24 (.faddr 259 23) [23], oO 25 (.iaar 38 1 24 21) [24,21], oO 26 (.load none 25) [25], oO 27 (.bsl (.mu true) 1 1 [(.i .u8 0)] [(0, 26)]) [26], oO 28 (.append (.mu true) 1 1 19 27) [19,27], oA 4 28 [28]])
 .skip)))
(rR [oM 29 3 [3], oO 30 (.bin .quo 29 (.c (.i .u64 38))) [29], oA 3 30 [30]])))
(rR [oO 31 (.bin .add 13 (kI 1)) [13], oM 13 31 [31]])))))))
(rS [oM 32 4 [], oO 33 (.call 170 [32]) [32,33]] (rS [oM 34 4 [4], oO 35 (.b2s 34) [34], oA 2 35 [35]] .ret))))))), [.t 2]⟩
/-- interrex/code.getRes -/
def f131 : AFn := ⟨1, (rS [oO 2 (.alloc false [(vI 0),(vI 0),(vI 0)]) []] (rS [oO 3 (.alloc false [(vI 0),(vI 0),(vI 0)]) []] (.seq (rS [oM 5 (kI 0) []] (.blk 0 (.loop (rS [oO 6 (.bin .lss 5 (kI 3)) []] (.seq (.cond 6 .skip
 (.exit 0))
(.seq (.blk 1 (rS [oM 7 5 [], oA 4 7 [7]] (rR [oM 8 4 [4], oM 9 0 [], oO 10 (.call 129 [9,(kI 4)]) [9], oO 11 (.iaar 3 1 3 8) [8], oN (.store 1 11 10) [11,10]])))
(rR [oO 12 (.bin .add 5 (kI 1)) [5], oM 5 12 [12]])))))))
(rS [oO 13 (.load (some 3) 3) [3], oN (.store 3 2 13) [13]] .ret)))), [.cell 2 (some 3)]⟩
/-- ( interrex/wire.Reader).Count -/
def f132 : AFn := ⟨2, (rS [oA 4 (kI 0) [4]] (rS [oM 6 0 [], oM 7 1 [1], oO 8 (.call 129 [6,7]) [6,7], oA 5 8 [8]] (.seq (rS [oM 9 5 [], oM 10 0 [], oO 11 (.nilc 10) [10], oO 12 (.faddr 297 11) [11], oO 13 (.load none 12) [12], oO 14 (.lenL 13) [13], oO 15 (.bin .gtr 9 14) [9,14]] (.cond 15 (rS [oM 16 0 [], oM 17 0 [0], oO 18 (.nilc 16) [16], oO 19 (.faddr 298 18) [18], oN (.store 1 19 kT) [19], oO 20 (.nilc 17) [17], oO 21 (.faddr 297 20) [20], oN (.store 1 21 (.c .nils)) [21]] (rS [oA 4 (kI 0) []] .ret))
 .skip))
(rS [oM 22 5 [5], oA 4 22 [22]] .ret)))), [.t 4]⟩
/-- interrex/code.getPairs interrex/api.Pair  -/
def f133 : AFn := ⟨2, (rS [oA 4 (.c .nils) [4]] (rS [oA 5 (.c .nils) []] (.seq (rS [oM 8 0 [], oO 9 (.call 132 [8,(kI 1)]) [8], oM 10 (kI 0) []] (.blk 0 (.loop (rS [oO 11 (.bin .lss 10 9) []] (.seq (.cond 11 .skip
 (.exit 0))
(.seq (.blk 1 (rS [oM 12 0 [], oO 13 (.call 130 [12]) [12], oM 14 0 [], oO 15 (.call 130 [14]) [14], oA 6 13 [13], oA 7 15 [15]] (rR [oM 16 5 [5], oM 17 1 [], oM 18 6 [6], oM 19 7 [7], oO 20 (.callv 17 [18,19]) [17,18,19], oO 21 (.bsl (.im false) 2 1 [vS,vS] [(0, 20)]) [20], oO 22 (.append (.im false) 2 32 16 21) [16,21], oA 5 22 [22]])))
(rR [oO 23 (.bin .add 10 (kI 1)) [10], oM 10 23 [23]])))))))
(rS [oM 24 5 [5], oA 4 24 [24]] .ret)))), [.t 4]⟩
/-- interrex/code.toPair -/
def f134 : AFn := ⟨2, (rS [oO 4 (.alloc false [vS,vS]) []] (rS [oM 5 0 [0], oM 6 1 [1], oO 7 (.bld [vS,vS] [(0, 1, 5),(1, 1, 6)]) [5,6], oN (.store 2 4 7) [7]] .ret)), [.cell 4 (some 2)]⟩
/-- interrex/code.getTerms -/
def f135 : AFn := ⟨1, (rS [oA 2 (.c .nils) [2]] (rS [oA 3 (.c .nils) []] (.seq (rS [oM 5 0 [], oO 6 (.call 132 [5,(kI 1)]) [5], oM 7 (kI 0) []] (.blk 0 (.loop (rS [oO 8 (.bin .lss 7 6) []] (.seq (.cond 8 .skip
 (.exit 0))
(.seq (.blk 1 (rS [oM 9 0 [], oO 10 (.call 130 [9]) [9], oM 11 0 [], oO 12 (.call 129 [11,(kI 1)]) [11], oO 13 (.bld [vS,(vI 0),.nils] [(0, 1, 10),(1, 1, 12)]) [10,12], oO 4 (.alloc false [vS,(vI 0),.nils]) [], oN (.store 3 4 13) [13]] (.seq (rS [oM 14 0 [], oO 15 (.call 132 [14,(kI 1)]) [14], oM 16 (kI 0) []] (.blk 2 (.loop (rS [oO 17 (.bin .lss 16 15) []] (.seq (.cond 17 .skip
 (.exit 2))
(.seq (.blk 3 (.dreg [⟨0, (oO 18 (.faddr 2 4) []), false, []⟩,
 ⟨1, (oO 19 (.load none 18) []), false, []⟩,
 ⟨2, (oM 20 0 []), false, []⟩,
 ⟨3, (oO 21 (.call 130 [20]) []), true, [1]⟩,
 ⟨4, (oO 22 (.bsl (.im false) 1 1 [vS] [(0, 21)]) []), true, [1]⟩,
 ⟨5, (oO 23 (.append (.im false) 1 16 19 22) []), true, []⟩,
 ⟨6, (oO 24 (.faddr 2 4) []), false, []⟩,
 ⟨7, (oN (.store 1 24 23) []), true, []⟩] [18,19,20,21,22,23,24]))
(rR [oO 25 (.bin .add 16 (kI 1)) [16], oM 16 25 [25]])))))))
(rR [oM 26 3 [3], oO 27 (.load (some 3) 4) [4], oO 28 (.bsl (.im false) 3 1 [vS,(vI 0),.nils] [(0, 27)]) [27], oO 29 (.append (.im false) 3 48 26 28) [26,28], oA 3 29 [29]]))))
(rR [oO 30 (.bin .add 7 (kI 1)) [7], oM 7 30 [30]])))))))
(rS [oM 31 3 [3], oA 2 31 [31]] .ret)))), [.t 2]⟩
/-- ( interrex/wire.Reader).Bool -/
def f136 : AFn := ⟨1, (rS [oA 2 kF [2]] (rS [oM 3 0 [0], oO 4 (.call 129 [3,(kI 1)]) [3], oO 5 (.bin .eql 4 (kI 1)) [4], oA 2 5 [5]] .ret)), [.t 2]⟩
/-- ( interrex/wire.Reader).End -/
def f137 : AFn := ⟨1, (rS [oA 2 kF [2]] (rS [oM 3 0 [], oO 4 (.nilc 3) [3], oO 5 (.faddr 298 4) [4], oO 6 (.load none 5) [5], oO 7 (.un .not 6) [6], oM 8 7 [7], oG 9 (.mv 0) 8 [0], oG 10 (.nilc 9) 8 [9], oG 11 (.faddr 297 10) 8 [10], oG 12 (.load none 11) 8 [11], oG 13 (.lenL 12) 8 [12], oG 14 (.bin .eql 13 (kI 0)) 8 [13], oO 15 (.pick 8 14 kF) [8,14], oA 2 15 [15]] .ret)), [.t 2]⟩
/-- bytes.Equal -/
def f138 : AFn := ⟨2, (rS [oA 4 kF [4]] (rS [oM 5 0 [0], oO 6 (.b2s 5) [5], oM 7 1 [1], oO 8 (.b2s 7) [7], oO 9 (.bin .eql 6 8) [6,8], oA 4 9 [9]] .ret)), [.t 4]⟩
/-- interrex/code.getPairs interrex/api.Taint  -/
def f139 : AFn := ⟨2, (rS [oA 4 (.c .nils) [4]] (rS [oA 5 (.c .nils) []] (.seq (rS [oM 8 0 [], oO 9 (.call 132 [8,(kI 1)]) [8], oM 10 (kI 0) []] (.blk 0 (.loop (rS [oO 11 (.bin .lss 10 9) []] (.seq (.cond 11 .skip
 (.exit 0))
(.seq (.blk 1 (rS [oM 12 0 [], oO 13 (.call 130 [12]) [12], oM 14 0 [], oO 15 (.call 130 [14]) [14], oA 6 13 [13], oA 7 15 [15]] (rR [oM 16 5 [5], oM 17 1 [], oM 18 6 [6], oM 19 7 [7], oO 20 (.callv 17 [18,19]) [17,18,19], oO 21 (.bsl (.im false) 2 1 [vS,vS] [(0, 20)]) [20], oO 22 (.append (.im false) 2 32 16 21) [16,21], oA 5 22 [22]])))
(rR [oO 23 (.bin .add 10 (kI 1)) [10], oM 10 23 [23]])))))))
(rS [oM 24 5 [5], oA 4 24 [24]] .ret)))), [.t 4]⟩
/-- interrex/code.toTaint -/
def f140 : AFn := ⟨2, (rS [oO 4 (.alloc false [vS,vS]) []] (rS [oM 5 0 [0], oM 6 1 [1], oO 7 (.bld [vS,vS] [(0, 1, 5),(1, 1, 6)]) [5,6], oN (.store 2 4 7) [7]] .ret)), [.cell 4 (some 2)]⟩
/-- interrex/code.PutNode -/
def f141 : AFn := ⟨1, (rS [oO 1 (.box false 0) [0], oA 2 (.c .nils) [2]] (.seq (rS [oO 4 (.load (some 6) 1) [], oO 5 (.call 171 [4]) [4], oO 6 (.un .not 5) [5]] (.cond 6 (rS [oA 2 (.c .nils) []] .ret)
 .skip))
(rS [oO 3 (.alloc true [(.i .u32 0),(.i .i32 0),(.i .u32 0),(.i .u64 0),(.i .u64 0),(.i .u64 0),(.i .u64 0),(.i .u64 0),(.i .u64 0),(.i .u64 0),(.i .u64 0),(.i .u64 0),(.i .u64 0),(.i .u64 0),(.i .u64 0),(.i .u64 0),(.i .u64 0),(.i .u64 0),(.i .u64 0),(.i .u64 0),(.i .u64 0),(.i .u64 0),(.i .u64 0),(.i .u64 0),(.i .u64 0),(.i .u64 0),(.i .u64 0),(.i .u64 0),(.i .u64 0),(.i .u64 0),(.i .u64 0),(.i .u64 0),(.i .u64 0),(.i .u64 0),(.i .u64 0),(.i .u64 0),(.i .u64 0),(.i .u64 0),(.i .u64 0),(.i .u64 0),(.i .u64 0),(.i .u64 0),(.i .u64 0),(.i .u64 0),(.i .u64 0),(.i .u64 0),(.i .u64 0),(.i .u64 0),(.i .u64 0),(.i .u64 0),(.i .u64 0),(.i .u64 0),(.i .u64 0),(.i .u64 0),(.i .u64 0),(.i .u64 0),(.i .u64 0),(.i .u64 0),(.i .u64 0),(.i .u64 0),(.i .u64 0),(.i .u64 0),(.i .u64 0),(.i .u64 0),(.i .u64 0),(.i .u64 0),(.i .u64 0),(.i .u64 0),(.i .u64 0),(.i .u64 0),(.i .u64 0),(.i .u64 0),(.i .u64 0),(.i .u64 0),(.i .u64 0),(.i .u64 0),(.i .u64 0),(.i .u64 0),(.i .u64 0),(.i .u64 0),(.i .u64 0),(.i .u64 0),(.i .u64 0),(.i .u64 0),(.i .u64 0),(.i .u64 0),(.i .u64 0),(.i .u64 0),(.i .u64 0),(.i .u64 0),(.i .u64 0),(.i .u64 0),(.i .u64 0),(.i .u64 0),(.i .u64 0),(.i .u64 0),(.i .u64 0),(.i .u64 0),(.i .u64 0),(.i .u64 0),(.i .u64 0),(.i .u64 0),(.i .u64 0),(.i .u64 0),(.i .u64 0),(.i .u64 0),(.i .u64 0),(.i .u64 0),(.i .u64 0),(.i .u64 0),(.i .u64 0),(.i .u64 0),(.i .u64 0),(.i .u64 0),(.i .u64 0),(.i .u64 0),(.i .u64 0),(.i .u64 0),(.i .u64 0),(.i .u64 0),(.i .u64 0),(.i .u64 0),(.i .u64 0),(.i .u64 0),(.i .u64 0),(.i .u64 0),(.i .u64 0),(.i .u64 0),(.i .u64 0),(.i .u64 0),(.i .u64 0),(.i .u64 0),(.i .u64 0),(.i .u64 0),(.i .u64 0),(.i .u64 0),(.i .u64 0),(.i .u64 0),(.i .u64 0),(.i .u64 0),(.i .u64 0),(.i .u64 0),(.i .u64 0),(.i .u64 0),(.i .u64 0),(.i .u64 0),(.i .u64 0),(.i .u64 0),(.i .u64 0),(.i .u64 0),(.i .u64 0),(.i .u64 0),(.i .u64 0),(.i .u64 0),(.i .u64 0),(.i .u64 0),(.i .u64 0),(.i .u64 0),(.i .u64 0),(.i .u64 0),(.i .u64 0),(.i .u64 0),(.i .u64 0),(.i .u64 0),(.i .u64 0),(.i .u64 0),(.i .u64 0),(.i .u64 0),(.i .u64 0),(.i .u64 0),(.i .u64 0),(.i .u64 0),(.i .u64 0),(.i .u64 0),(.i .u64 0),(.i .u64 0),(.i .u64 0),(.i .u64 0),(.i .u64 0),(.i .u64 0),(.i .u64 0),(.i .u64 0),(.i .u64 0),(.i .u64 0),(.i .u64 0),(.i .u64 0),(.i .u64 0),(.i .u64 0),(.i .u64 0),(.i .u64 0),(.i .u64 0),(.i .u64 0),(.i .u64 0),(.i .u64 0),(.i .u64 0),(.i .u64 0),(.i .u64 0),(.i .u64 0),(.i .u64 0),(.i .u64 0),(.i .u64 0),(.i .u64 0),(.i .u64 0),(.i .u64 0),(.i .u64 0),(.i .u64 0),(.i .u64 0),(.i .u64 0),(.i .u64 0),(.i .u64 0),(.i .u64 0),(.i .u64 0),(.i .u64 0),(.i .u64 0),(.i .u64 0),(.i .u64 0),(.i .u64 0),(.i .u64 0),(.i .u64 0),(.i .u64 0),(.i .u64 0),(.i .u64 0),(.i .u64 0),(.i .u64 0),(.i .u64 0),(.i .u64 0),(.i .u64 0),(.i .u64 0),(.i .u64 0),(.i .u64 0),(.i .u64 0),(.i .u64 0),(.i .u64 0),(.i .u64 0),(.i .u64 0),(.i .u64 0),(.i .u64 0),(.i .u64 0),(.i .u64 0),(.i .u64 0),(.i .u64 0),(.i .u64 0),(.i .u64 0),(.i .u64 0),(.i .u64 0),(.i .u64 0),(.i .u64 0),(.i .u64 0),(.i .u64 0),(.i .u64 0),(.i .u64 0),(.i .u64 0),(.i .u64 0),(.i .u64 0),(.i .u64 0),(.i .u64 0),(.i .u64 0),(.i .u64 0),(.i .u64 0),(.i .u8 0),(.i .u8 0),(.i .u8 0),(.i .u8 0),(.i .u8 0),(.i .u8 0),(.i .u8 0),(.i .u8 0),(.i .u8 0),(.i .u8 0),(.i .u8 0),(.i .u8 0),(.i .u8 0),(.i .u8 0),(.i .u8 0),(.i .u8 0),(.i .u8 0),(.i .u8 0),(.i .u8 0),(.i .u8 0),(.i .u8 0),(.i .u8 0),(.i .u8 0),(.i .u8 0),(.i .u8 0),(.i .u8 0),(.i .u8 0),(.i .u8 0),(.i .u8 0),(.i .u8 0),(.i .u8 0),(.i .u8 0),(.i .u8 0),(.i .u8 0),(.i .u8 0),(.i .u8 0),(.i .u8 0),(.i .u8 0),.nils]) []] (rS [oO 7 (.call 75 [3,(kI 2),(kI 1)]) [7]] (rS [oO 8 (.faddr 0 1) [], oO 9 (.load none 8) [8], oO 10 (.call 76 [3,9]) [9,10]] (rS [oO 11 (.faddr 1 1) [], oO 12 (.load (some 3) 11) [11], oO 13 (.call 77 [3,12]) [12,13]] (rS [oO 14 (.faddr 4 1) [], oO 15 (.load none 14) [14], oO 16 (.call 78 [3,15,(.c (.fn 79 [] []))]) [15,16]] (rS [oO 17 (.faddr 5 1) [1], oO 18 (.load none 17) [17], oO 19 (.call 172 [3,18,(.c (.fn 173 [] []))]) [18,19]] (rS [oO 20 (.call 82 [3]) [3], oA 2 20 [20]] .ret))))))))), [.t 2]⟩
/-- slices.pdqsortCmpFunc interrex/api.Pod  -/
def f142 : AFn := ⟨5, (rS [oA 10 kT []] (rS [oA 11 kT []] (.blk 0 (.loop (.blk 1 (rS [oM 21 2 [], oM 22 1 [], oO 23 (.bin .sub 21 22) [21,22], oA 12 23 [23]] (.seq (rS [oM 24 12 [], oO 25 (.bin .leq 24 (kI 12)) [24]] (.cond 25 (rS [oM 26 0 [0], oM 27 1 [1], oM 28 2 [2], oM 29 4 [4], oO 30 (.call 174 [26,27,28,29]) [26,27,28,29,30]] .ret)
 .skip))
(.seq (rS [oM 31 3 [], oO 32 (.bin .eql 31 (kI 0)) [31]] (.cond 32 (rS [oM 33 0 [0], oM 34 1 [1], oM 35 2 [2], oM 36 4 [4], oO 37 (.call 175 [33,34,35,36]) [33,34,35,36,37]] .ret)
 .skip))
(.seq (rS [oM 38 10 [], oO 39 (.un .not 38) [38]] (.cond 39 (rS [oM 40 0 [], oM 41 1 [], oM 42 2 [], oM 43 4 [], oO 44 (.call 176 [40,41,42,43]) [40,41,42,43,44]] (rR [oM 45 3 [3], oO 46 (.bin .sub 45 (kI 1)) [45], oA 3 46 [46]]))
 .skip))
(rS [oM 48 0 [], oM 49 1 [], oM 50 2 [], oM 51 4 [], oO 52 (.call 177 [48,49,50,51]) [48,49,50,51], oM 47 52 [52], oO 53 (.ext 47 0) [], oO 54 (.ext 47 1) [47], oA 13 53 [53], oA 14 54 [54]] (.seq (rS [oM 55 14 [], oO 56 (.bin .eql 55 (kI 2)) [55]] (.cond 56 (rS [oM 57 0 [], oM 58 1 [], oM 59 2 [], oM 60 4 [], oO 61 (.call 178 [57,58,59,60]) [57,58,59,60,61]] (rS [oM 62 2 [], oO 63 (.bin .sub 62 (kI 1)) [62], oM 64 13 [13], oM 65 1 [], oO 66 (.bin .sub 64 65) [64,65], oO 67 (.bin .sub 63 66) [63,66], oA 13 67 [67]] (rR [oA 14 (kI 1) []])))
 .skip))
(.seq (rS [oM 68 10 [], oM 69 68 [68], oG 70 (.mv 11) 69 [], oO 71 (.pick 69 70 kF) [69,70], oM 72 71 [71], oG 73 (.mv 14) 72 [14], oG 74 (.bin .eql 73 (kI 1)) 72 [73], oO 75 (.pick 72 74 kF) [72,74]] (.cond 75 (rS [oM 76 0 [], oM 77 1 [], oM 78 2 [], oM 79 4 [], oO 80 (.call 179 [76,77,78,79]) [76,77,78,79]] (.cond 80 .ret
 .skip))
 .skip))
(.seq (.seq (.dreg [⟨0, (oM 81 1 []), false, []⟩,
 ⟨1, (oO 82 (.bin .gtr 81 (kI 0)) []), false, []⟩,
 ⟨2, (oM 83 82 []), false, []⟩,
 ⟨3, (oG 84 (.mv 4) 83 []), false, []⟩,
 ⟨4, (oG 85 (.mv 0) 83 []), false, []⟩,
 ⟨5, (oG 86 (.mv 1) 83 []), false, []⟩,
 ⟨6, (oG 87 (.bin .sub 86 (kI 1)) 83 []), false, []⟩,
 ⟨7, (oG 88 (.iasl 16 85 87) 83 []), false, []⟩,
 ⟨8, (oG 89 (.load (some 16) 88) 83 []), false, []⟩,
 ⟨9, (oG 90 (.mv 0) 83 []), false, []⟩,
 ⟨10, (oG 91 (.mv 13) 83 []), false, []⟩,
 ⟨11, (oG 92 (.iasl 16 90 91) 83 []), false, []⟩,
 ⟨12, (oG 93 (.load (some 16) 92) 83 []), false, []⟩,
 ⟨13, (oG 94 (.callv 84 [89,93]) 83 []), true, []⟩,
 ⟨14, (oG 95 (.bin .lss 94 (kI 0)) 83 []), false, []⟩,
 ⟨15, (oG 96 (.un .not 95) 83 []), false, []⟩,
 ⟨16, (oO 97 (.pick 83 96 kF) []), false, []⟩] [81,82,83,84,85,86,87,88,89,90,91,92,93,94,95,96])
(.cond 97 (rS [oM 98 0 [], oM 99 1 [1], oM 100 2 [], oM 101 13 [13], oM 102 4 [], oO 103 (.call 180 [98,99,100,101,102]) [98,99,100,101,102], oA 15 103 [103]] (rS [oM 104 15 [15], oA 1 104 [104]] (.exit 1)))
 .skip))
(rS [oM 106 0 [], oM 107 1 [], oM 108 2 [], oM 109 13 [13], oM 110 4 [], oO 111 (.call 181 [106,107,108,109,110]) [106,107,108,109,110], oM 105 111 [111], oO 112 (.ext 105 0) [], oO 113 (.ext 105 1) [105], oA 16 112 [112], oA 17 113 [113]] (rS [oM 114 17 [17], oA 11 114 [114]] (rS [oM 115 16 [], oM 116 1 [], oO 117 (.bin .sub 115 116) [115,116], oM 118 2 [], oM 119 16 [], oO 120 (.bin .sub 118 119) [118,119], oA 18 117 [117], oA 19 120 [120]] (rS [oM 121 12 [12], oO 122 (.bin .quo 121 (kI 8)) [121], oA 20 122 [122]] (rS [oM 123 18 [], oM 124 19 [], oO 125 (.bin .lss 123 124) [123,124]] (.cond 125 (rS [oM 126 18 [18], oM 127 20 [20], oO 128 (.bin .geq 126 127) [126,127], oA 10 128 [128]] (rS [oM 129 0 [], oM 130 1 [1], oM 131 16 [], oM 132 3 [], oM 133 4 [], oO 134 (.call 142 [129,130,131,132,133]) [129,130,131,132,133,134]] (rR [oM 135 16 [16], oO 136 (.bin .add 135 (kI 1)) [135], oA 1 136 [136]])))
 (rS [oM 137 19 [19], oM 138 20 [20], oO 139 (.bin .geq 137 138) [137,138], oA 10 139 [139]] (rS [oM 140 0 [], oM 141 16 [], oO 142 (.bin .add 141 (kI 1)) [141], oM 143 2 [2], oM 144 3 [], oM 145 4 [], oO 146 (.call 142 [140,142,143,144,145]) [140,142,143,144,145,146]] (rR [oM 147 16 [16], oA 2 147 [147]])))))))))))))))))))))), []⟩
/-- math/bits.Len -/
def f143 : AFn := ⟨1, (rS [oA 2 (kI 0) [2]] (.seq (.cond kF (rS [oM 3 0 [0], oO 4 (.cvi .u32 3) [3], oO 5 (.call 182 [4]) [4], oA 2 5 [5]] .ret)
 .skip)
(rS [oM 6 0 [0], oO 7 (.call 183 [6]) [6], oA 2 7 [7]] .ret))), [.t 2]⟩
/-- slices.pdqsortCmpFunc interrex/api.Node  -/
def f145 : AFn := ⟨5, (rS [oA 10 kT []] (rS [oA 11 kT []] (.blk 0 (.loop (.blk 1 (rS [oM 21 2 [], oM 22 1 [], oO 23 (.bin .sub 21 22) [21,22], oA 12 23 [23]] (.seq (rS [oM 24 12 [], oO 25 (.bin .leq 24 (kI 12)) [24]] (.cond 25 (rS [oM 26 0 [0], oM 27 1 [1], oM 28 2 [2], oM 29 4 [4], oO 30 (.call 185 [26,27,28,29]) [26,27,28,29,30]] .ret)
 .skip))
(.seq (rS [oM 31 3 [], oO 32 (.bin .eql 31 (kI 0)) [31]] (.cond 32 (rS [oM 33 0 [0], oM 34 1 [1], oM 35 2 [2], oM 36 4 [4], oO 37 (.call 186 [33,34,35,36]) [33,34,35,36,37]] .ret)
 .skip))
(.seq (rS [oM 38 10 [], oO 39 (.un .not 38) [38]] (.cond 39 (rS [oM 40 0 [], oM 41 1 [], oM 42 2 [], oM 43 4 [], oO 44 (.call 187 [40,41,42,43]) [40,41,42,43,44]] (rR [oM 45 3 [3], oO 46 (.bin .sub 45 (kI 1)) [45], oA 3 46 [46]]))
 .skip))
(rS [oM 48 0 [], oM 49 1 [], oM 50 2 [], oM 51 4 [], oO 52 (.call 188 [48,49,50,51]) [48,49,50,51], oM 47 52 [52], oO 53 (.ext 47 0) [], oO 54 (.ext 47 1) [47], oA 13 53 [53], oA 14 54 [54]] (.seq (rS [oM 55 14 [], oO 56 (.bin .eql 55 (kI 2)) [55]] (.cond 56 (rS [oM 57 0 [], oM 58 1 [], oM 59 2 [], oM 60 4 [], oO 61 (.call 189 [57,58,59,60]) [57,58,59,60,61]] (rS [oM 62 2 [], oO 63 (.bin .sub 62 (kI 1)) [62], oM 64 13 [13], oM 65 1 [], oO 66 (.bin .sub 64 65) [64,65], oO 67 (.bin .sub 63 66) [63,66], oA 13 67 [67]] (rR [oA 14 (kI 1) []])))
 .skip))
(.seq (rS [oM 68 10 [], oM 69 68 [68], oG 70 (.mv 11) 69 [], oO 71 (.pick 69 70 kF) [69,70], oM 72 71 [71], oG 73 (.mv 14) 72 [14], oG 74 (.bin .eql 73 (kI 1)) 72 [73], oO 75 (.pick 72 74 kF) [72,74]] (.cond 75 (rS [oM 76 0 [], oM 77 1 [], oM 78 2 [], oM 79 4 [], oO 80 (.call 190 [76,77,78,79]) [76,77,78,79]] (.cond 80 .ret
 .skip))
 .skip))
(.seq (.seq (.dreg [⟨0, (oM 81 1 []), false, []⟩,
 ⟨1, (oO 82 (.bin .gtr 81 (kI 0)) []), false, []⟩,
 ⟨2, (oM 83 82 []), false, []⟩,
 ⟨3, (oG 84 (.mv 4) 83 []), false, []⟩,
 ⟨4, (oG 85 (.mv 0) 83 []), false, []⟩,
 ⟨5, (oG 86 (.mv 1) 83 []), false, []⟩,
 ⟨6, (oG 87 (.bin .sub 86 (kI 1)) 83 []), false, []⟩,
 ⟨7, (oG 88 (.iasl 6 85 87) 83 []), false, []⟩,
 ⟨8, (oG 89 (.load (some 6) 88) 83 []), false, []⟩,
 ⟨9, (oG 90 (.mv 0) 83 []), false, []⟩,
 ⟨10, (oG 91 (.mv 13) 83 []), false, []⟩,
 ⟨11, (oG 92 (.iasl 6 90 91) 83 []), false, []⟩,
 ⟨12, (oG 93 (.load (some 6) 92) 83 []), false, []⟩,
 ⟨13, (oG 94 (.callv 84 [89,93]) 83 []), true, []⟩,
 ⟨14, (oG 95 (.bin .lss 94 (kI 0)) 83 []), false, []⟩,
 ⟨15, (oG 96 (.un .not 95) 83 []), false, []⟩,
 ⟨16, (oO 97 (.pick 83 96 kF) []), false, []⟩] [81,82,83,84,85,86,87,88,89,90,91,92,93,94,95,96])
(.cond 97 (rS [oM 98 0 [], oM 99 1 [1], oM 100 2 [], oM 101 13 [13], oM 102 4 [], oO 103 (.call 191 [98,99,100,101,102]) [98,99,100,101,102], oA 15 103 [103]] (rS [oM 104 15 [15], oA 1 104 [104]] (.exit 1)))
 .skip))
(rS [oM 106 0 [], oM 107 1 [], oM 108 2 [], oM 109 13 [13], oM 110 4 [], oO 111 (.call 192 [106,107,108,109,110]) [106,107,108,109,110], oM 105 111 [111], oO 112 (.ext 105 0) [], oO 113 (.ext 105 1) [105], oA 16 112 [112], oA 17 113 [113]] (rS [oM 114 17 [17], oA 11 114 [114]] (rS [oM 115 16 [], oM 116 1 [], oO 117 (.bin .sub 115 116) [115,116], oM 118 2 [], oM 119 16 [], oO 120 (.bin .sub 118 119) [118,119], oA 18 117 [117], oA 19 120 [120]] (rS [oM 121 12 [12], oO 122 (.bin .quo 121 (kI 8)) [121], oA 20 122 [122]] (rS [oM 123 18 [], oM 124 19 [], oO 125 (.bin .lss 123 124) [123,124]] (.cond 125 (rS [oM 126 18 [18], oM 127 20 [20], oO 128 (.bin .geq 126 127) [126,127], oA 10 128 [128]] (rS [oM 129 0 [], oM 130 1 [1], oM 131 16 [], oM 132 3 [], oM 133 4 [], oO 134 (.call 145 [129,130,131,132,133]) [129,130,131,132,133,134]] (rR [oM 135 16 [16], oO 136 (.bin .add 135 (kI 1)) [135], oA 1 136 [136]])))
 (rS [oM 137 19 [19], oM 138 20 [20], oO 139 (.bin .geq 137 138) [137,138], oA 10 139 [139]] (rS [oM 140 0 [], oM 141 16 [], oO 142 (.bin .add 141 (kI 1)) [141], oM 143 2 [2], oM 144 3 [], oM 145 4 [], oO 146 (.call 145 [140,142,143,144,145]) [140,142,143,144,145,146]] (rR [oM 147 16 [16], oA 2 147 [147]])))))))))))))))))))))), []⟩
/-- ( interrex/store.Store).Get -/
def f146 : AFn := ⟨2, (rS [oO 4 (.alloc false [vS,(vI 0),.nils]) [], oA 5 kF [5]] (.seq (rS [oM 8 0 [], oO 9 (.eqn false 8 (.c .nilp)) [8]] (.cond 9 (rS [oO 10 (.bld [vS,(vI 0),.nils] []) [], oN (.store 3 4 10) [10], oA 5 kF []] .ret)
 .skip))
(rS [oM 11 0 [], oO 12 (.nilc 11) [11], oO 13 (.faddr 4 12) [12], oO 14 (.call 65 [13,(kI 1)]) [13,14]] (rS [oM 16 0 [0], oO 17 (.nilc 16) [16], oO 18 (.faddr 1 17) [17], oO 19 (.load none 18) [18], oM 20 1 [1], oO 21 (.lkp none (.agg [vS,(vI 0),.nils]) 19 20 true) [19,20], oM 15 21 [21], oO 22 (.ext 15 0) [], oO 23 (.ext 15 1) [15], oO 6 (.alloc false [vS,(vI 0),.nils]) [], oN (.store 3 6 22) [22], oA 7 23 [23]] (rS [oO 24 (.load (some 3) 6) [6], oO 25 (.call 67 [24]) [24], oM 26 7 [7], oN (.store 3 4 25) [25], oA 5 26 [26]] .ret))))), [.cell 4 (some 3),.t 5]⟩
/-- interrex/call.Get -/
def f147 : AFn := ⟨1, (rS [oO 2 (.alloc false [(vI 0),(vI 0),(vI 0),vS,(vI 0),.nils,.nils]) [], oA 3 kF [3]] (rS [oM 6 0 [], oO 7 (.call 128 [6]) [6], oA 4 7 [7]] (rS [oM 8 4 [], oO 9 (.call 129 [8,(kI 1)]) [8], oM 10 4 [], oO 11 (.call 129 [10,(kI 1)]) [10], oM 12 4 [], oO 13 (.call 129 [12,(kI 8)]) [12], oM 14 4 [], oO 15 (.call 193 [14]) [14], oM 16 4 [], oO 17 (.call 129 [16,(kI 8)]) [16], oO 18 (.bld [(vI 0),(vI 0),(vI 0),vS,(vI 0),.nils,.nils] [(2, 1, 9),(0, 1, 11),(1, 1, 13),(3, 1, 15),(4, 1, 17)]) [9,11,13,15,17], oO 5 (.alloc false [(vI 0),(vI 0),(vI 0),vS,(vI 0),.nils,.nils]) [], oN (.store 7 5 18) [18]] (.seq (rS [oM 19 4 [], oO 20 (.call 132 [19,(kI 1)]) [19], oM 21 (kI 0) []] (.blk 0 (.loop (rS [oO 22 (.bin .lss 21 20) []] (.seq (.cond 22 .skip
 (.exit 0))
(.seq (.blk 1 (.dreg [⟨0, (oO 23 (.faddr 5 5) []), false, []⟩,
 ⟨1, (oO 24 (.faddr 0 23) []), false, []⟩,
 ⟨2, (oO 25 (.load none 24) []), false, []⟩,
 ⟨3, (oM 26 4 []), false, []⟩,
 ⟨5, (oM 28 4 []), false, []⟩,
 ⟨7, (oM 30 4 []), false, []⟩,
 ⟨4, (oO 27 (.call 193 [26]) []), true, [2]⟩,
 ⟨6, (oO 29 (.call 129 [28,(kI 8)]) []), true, [2]⟩,
 ⟨8, (oO 31 (.call 136 [30]) []), true, [2]⟩,
 ⟨9, (oO 32 (.bld [vS,(vI 0),(.b false)] [(0, 1, 27),(1, 1, 29),(2, 1, 31)]) []), false, []⟩,
 ⟨10, (oO 33 (.bsl (.im false) 3 1 [vS,(vI 0),(.b false)] [(0, 32)]) []), true, [2]⟩,
 ⟨11, (oO 34 (.append (.im false) 3 32 25 33) []), true, []⟩,
 ⟨12, (oO 35 (.faddr 5 5) []), false, []⟩,
 ⟨13, (oO 36 (.faddr 0 35) []), false, []⟩,
 ⟨14, (oN (.store 1 36 34) []), true, []⟩] [23,24,25,26,27,28,29,30,31,32,33,34,35,36]))
(rR [oO 37 (.bin .add 21 (kI 1)) [21], oM 21 37 [37]])))))))
(.seq (rS [oM 38 4 [], oO 39 (.call 132 [38,(kI 1)]) [38], oM 40 (kI 0) []] (.blk 2 (.loop (rS [oO 41 (.bin .lss 40 39) []] (.seq (.cond 41 .skip
 (.exit 2))
(.seq (.blk 3 (.dreg [⟨0, (oO 42 (.faddr 5 5) []), false, []⟩,
 ⟨1, (oO 43 (.faddr 1 42) []), false, []⟩,
 ⟨2, (oO 44 (.load none 43) []), false, []⟩,
 ⟨3, (oM 45 4 []), false, []⟩,
 ⟨5, (oM 47 4 []), false, []⟩,
 ⟨8, (oM 50 4 []), false, []⟩,
 ⟨4, (oO 46 (.call 193 [45]) []), true, [2]⟩,
 ⟨6, (oO 48 (.call 193 [47]) []), true, [2]⟩,
 ⟨7, (oO 49 (.s2b .fz 48) []), false, []⟩,
 ⟨9, (oO 51 (.call 136 [50]) []), true, [2]⟩,
 ⟨10, (oO 52 (.bld [vS,.nils,(.b false)] [(0, 1, 46),(1, 1, 49),(2, 1, 51)]) []), false, []⟩,
 ⟨11, (oO 53 (.bsl (.im false) 3 1 [vS,.nils,(.b false)] [(0, 52)]) []), true, [2]⟩,
 ⟨12, (oO 54 (.append (.im false) 3 48 44 53) []), true, []⟩,
 ⟨13, (oO 55 (.faddr 5 5) []), false, []⟩,
 ⟨14, (oO 56 (.faddr 1 55) []), false, []⟩,
 ⟨15, (oN (.store 1 56 54) []), true, []⟩] [42,43,44,45,46,47,48,49,50,51,52,53,54,55,56]))
(rR [oO 57 (.bin .add 40 (kI 1)) [40], oM 40 57 [57]])))))))
(.seq (rS [oM 58 4 [4], oO 59 (.call 137 [58]) [58], oO 60 (.un .not 59) [59], oM 61 60 [60], oH 62 (.load (some 7) 5) 61 [], oH 63 (.call 148 [62]) 61 [62], oH 64 (.mv 0) 61 [], oH 65 (.call 138 [63,64]) 61 [63,64], oH 66 (.un .not 65) 61 [65], oO 67 (.pick 61 kT 66) [61,66], oM 68 67 [67], oH 69 (.mv 0) 68 [0], oH 70 (.lenL 69) 68 [69], oH 71 (.bin .eql 70 (kI 0)) 68 [70], oO 72 (.pick 68 kT 71) [68,71]] (.cond 72 (rS [oO 73 (.bld [(vI 0),(vI 0),(vI 0),vS,(vI 0),.nils,.nils] []) [], oN (.store 7 2 73) [73], oA 3 kF []] .ret)
 .skip))
(rS [oO 74 (.load (some 7) 5) [5], oN (.store 7 2 74) [74], oA 3 kT []] .ret))))))), [.cell 2 (some 7),.t 3]⟩
/-- interrex/call.Put -/
def f148 : AFn := ⟨1, (rS [oO 1 (.box false 0) [0], oA 2 (.c .nils) [2]] (.seq (rS [oO 8 (.load (some 7) 1) [], oO 9 (.call 194 [8]) [8], oO 10 (.un .not 9) [9]] (.cond 10 (rS [oA 2 (.c .nils) []] .ret)
 .skip))
(rS [oO 3 (.alloc true [(.i .u32 0),(.i .i32 0),(.i .u32 0),(.i .u64 0),(.i .u64 0),(.i .u64 0),(.i .u64 0),(.i .u64 0),(.i .u64 0),(.i .u64 0),(.i .u64 0),(.i .u64 0),(.i .u64 0),(.i .u64 0),(.i .u64 0),(.i .u64 0),(.i .u64 0),(.i .u64 0),(.i .u64 0),(.i .u64 0),(.i .u64 0),(.i .u64 0),(.i .u64 0),(.i .u64 0),(.i .u64 0),(.i .u64 0),(.i .u64 0),(.i .u64 0),(.i .u64 0),(.i .u64 0),(.i .u64 0),(.i .u64 0),(.i .u64 0),(.i .u64 0),(.i .u64 0),(.i .u64 0),(.i .u64 0),(.i .u64 0),(.i .u64 0),(.i .u64 0),(.i .u64 0),(.i .u64 0),(.i .u64 0),(.i .u64 0),(.i .u64 0),(.i .u64 0),(.i .u64 0),(.i .u64 0),(.i .u64 0),(.i .u64 0),(.i .u64 0),(.i .u64 0),(.i .u64 0),(.i .u64 0),(.i .u64 0),(.i .u64 0),(.i .u64 0),(.i .u64 0),(.i .u64 0),(.i .u64 0),(.i .u64 0),(.i .u64 0),(.i .u64 0),(.i .u64 0),(.i .u64 0),(.i .u64 0),(.i .u64 0),(.i .u64 0),(.i .u64 0),(.i .u64 0),(.i .u64 0),(.i .u64 0),(.i .u64 0),(.i .u64 0),(.i .u64 0),(.i .u64 0),(.i .u64 0),(.i .u64 0),(.i .u64 0),(.i .u64 0),(.i .u64 0),(.i .u64 0),(.i .u64 0),(.i .u64 0),(.i .u64 0),(.i .u64 0),(.i .u64 0),(.i .u64 0),(.i .u64 0),(.i .u64 0),(.i .u64 0),(.i .u64 0),(.i .u64 0),(.i .u64 0),(.i .u64 0),(.i .u64 0),(.i .u64 0),(.i .u64 0),(.i .u64 0),(.i .u64 0),(.i .u64 0),(.i .u64 0),(.i .u64 0),(.i .u64 0),(.i .u64 0),(.i .u64 0),(.i .u64 0),(.i .u64 0),(.i .u64 0),(.i .u64 0),(.i .u64 0),(.i .u64 0),(.i .u64 0),(.i .u64 0),(.i .u64 0),(.i .u64 0),(.i .u64 0),(.i .u64 0),(.i .u64 0),(.i .u64 0),(.i .u64 0),(.i .u64 0),(.i .u64 0),(.i .u64 0),(.i .u64 0),(.i .u64 0),(.i .u64 0),(.i .u64 0),(.i .u64 0),(.i .u64 0),(.i .u64 0),(.i .u64 0),(.i .u64 0),(.i .u64 0),(.i .u64 0),(.i .u64 0),(.i .u64 0),(.i .u64 0),(.i .u64 0),(.i .u64 0),(.i .u64 0),(.i .u64 0),(.i .u64 0),(.i .u64 0),(.i .u64 0),(.i .u64 0),(.i .u64 0),(.i .u64 0),(.i .u64 0),(.i .u64 0),(.i .u64 0),(.i .u64 0),(.i .u64 0),(.i .u64 0),(.i .u64 0),(.i .u64 0),(.i .u64 0),(.i .u64 0),(.i .u64 0),(.i .u64 0),(.i .u64 0),(.i .u64 0),(.i .u64 0),(.i .u64 0),(.i .u64 0),(.i .u64 0),(.i .u64 0),(.i .u64 0),(.i .u64 0),(.i .u64 0),(.i .u64 0),(.i .u64 0),(.i .u64 0),(.i .u64 0),(.i .u64 0),(.i .u64 0),(.i .u64 0),(.i .u64 0),(.i .u64 0),(.i .u64 0),(.i .u64 0),(.i .u64 0),(.i .u64 0),(.i .u64 0),(.i .u64 0),(.i .u64 0),(.i .u64 0),(.i .u64 0),(.i .u64 0),(.i .u64 0),(.i .u64 0),(.i .u64 0),(.i .u64 0),(.i .u64 0),(.i .u64 0),(.i .u64 0),(.i .u64 0),(.i .u64 0),(.i .u64 0),(.i .u64 0),(.i .u64 0),(.i .u64 0),(.i .u64 0),(.i .u64 0),(.i .u64 0),(.i .u64 0),(.i .u64 0),(.i .u64 0),(.i .u64 0),(.i .u64 0),(.i .u64 0),(.i .u64 0),(.i .u64 0),(.i .u64 0),(.i .u64 0),(.i .u64 0),(.i .u64 0),(.i .u64 0),(.i .u64 0),(.i .u64 0),(.i .u64 0),(.i .u64 0),(.i .u64 0),(.i .u64 0),(.i .u64 0),(.i .u64 0),(.i .u64 0),(.i .u64 0),(.i .u64 0),(.i .u64 0),(.i .u64 0),(.i .u64 0),(.i .u64 0),(.i .u64 0),(.i .u64 0),(.i .u64 0),(.i .u64 0),(.i .u64 0),(.i .u64 0),(.i .u64 0),(.i .u64 0),(.i .u64 0),(.i .u64 0),(.i .u64 0),(.i .u64 0),(.i .u64 0),(.i .u64 0),(.i .u64 0),(.i .u64 0),(.i .u64 0),(.i .u64 0),(.i .u64 0),(.i .u64 0),(.i .u64 0),(.i .u64 0),(.i .u64 0),(.i .u64 0),(.i .u64 0),(.i .u64 0),(.i .u8 0),(.i .u8 0),(.i .u8 0),(.i .u8 0),(.i .u8 0),(.i .u8 0),(.i .u8 0),(.i .u8 0),(.i .u8 0),(.i .u8 0),(.i .u8 0),(.i .u8 0),(.i .u8 0),(.i .u8 0),(.i .u8 0),(.i .u8 0),(.i .u8 0),(.i .u8 0),(.i .u8 0),(.i .u8 0),(.i .u8 0),(.i .u8 0),(.i .u8 0),(.i .u8 0),(.i .u8 0),(.i .u8 0),(.i .u8 0),(.i .u8 0),(.i .u8 0),(.i .u8 0),(.i .u8 0),(.i .u8 0),(.i .u8 0),(.i .u8 0),(.i .u8 0),(.i .u8 0),(.i .u8 0),(.i .u8 0),.nils]) []] (rS [oO 11 (.faddr 2 1) [], oO 12 (.load none 11) [11], oO 13 (.call 75 [3,12,(kI 1)]) [12,13]] (rS [oO 14 (.faddr 0 1) [], oO 15 (.load none 14) [14], oO 16 (.call 75 [3,15,(kI 1)]) [15,16]] (rS [oO 17 (.faddr 1 1) [], oO 18 (.load none 17) [17], oO 19 (.call 75 [3,18,(kI 8)]) [18,19]] (rS [oO 20 (.faddr 3 1) [], oO 21 (.load none 20) [20], oO 22 (.call 195 [3,21]) [21,22]] (rS [oO 23 (.faddr 4 1) [], oO 24 (.load none 23) [23], oO 25 (.call 75 [3,24,(kI 8)]) [24,25]] (rS [oO 26 (.faddr 5 1) [], oO 27 (.faddr 0 26) [26], oO 28 (.load none 27) [27], oO 29 (.lenL 28) [28], oO 30 (.call 75 [3,29,(kI 1)]) [29,30]] (.seq (rS [oO 31 (.faddr 5 1) [], oO 32 (.faddr 0 31) [31], oO 33 (.load none 32) [32], oO 34 (.lenL 33) [], oM 35 (kI 0) []] (.blk 0 (.loop (rS [oO 36 (.bin .lss 35 34) []] (.seq (.cond 36 .skip
 (.exit 0))
(.seq (.blk 1 (rS [oO 37 (.iasl 3 33 35) [], oO 38 (.load (some 3) 37) [37], oO 5 (.alloc false [vS,(vI 0),(.b false)]) [], oN (.store 3 5 38) [38]] (rS [oO 39 (.faddr 0 5) [], oO 40 (.load none 39) [39], oO 41 (.call 195 [3,40]) [40,41]] (rS [oO 42 (.faddr 1 5) [], oO 43 (.load none 42) [42], oO 44 (.call 75 [3,43,(kI 8)]) [43,44]] (rR [oO 45 (.faddr 2 5) [5], oO 46 (.load none 45) [45], oO 47 (.call 81 [3,46]) [46,47]])))))
(rR [oO 48 (.bin .add 35 (kI 1)) [35], oM 35 48 [48]])))))))
(rS [oO 49 (.faddr 5 1) [], oO 50 (.faddr 1 49) [49], oO 51 (.load none 50) [50], oO 52 (.lenL 51) [51], oO 53 (.call 75 [3,52,(kI 1)]) [52,53]] (.seq (rS [oO 54 (.faddr 5 1) [1], oO 55 (.faddr 1 54) [54], oO 56 (.load none 55) [55], oO 57 (.lenL 56) [], oM 58 (kI 0) []] (.blk 2 (.loop (rS [oO 59 (.bin .lss 58 57) []] (.seq (.cond 59 .skip
 (.exit 2))
(.seq (.blk 3 (rS [oO 60 (.iasl 3 56 58) [], oO 61 (.load (some 3) 60) [60], oO 7 (.alloc false [vS,.nils,(.b false)]) [], oN (.store 3 7 61) [61]] (rS [oO 62 (.faddr 0 7) [], oO 63 (.load none 62) [62], oO 64 (.call 195 [3,63]) [63,64]] (rS [oO 65 (.faddr 1 7) [], oO 66 (.load none 65) [65], oO 67 (.b2s 66) [66], oO 68 (.call 195 [3,67]) [67,68]] (rR [oO 69 (.faddr 2 7) [7], oO 70 (.load none 69) [69], oO 71 (.call 81 [3,70]) [70,71]])))))
(rR [oO 72 (.bin .add 58 (kI 1)) [58], oM 58 72 [72]])))))))
(rS [oO 73 (.call 82 [3]) [3], oA 2 73 [73]] .ret))))))))))))), [.t 2]⟩
/-- interrex/reply.Of -/
def f149 : AFn := ⟨2, (rS [oO 3 (.box false 1) [1], oO 4 (.alloc false [(vI 0),(vI 0),(vI 0),(vI 0),(vI 0),.nils,.nils]) []] (rS [oO 8 (.faddr 0 3) [], oO 9 (.load none 8) [8], oO 10 (.faddr 1 3) [], oO 11 (.load none 10) [10], oO 12 (.faddr 2 3) [], oO 13 (.load none 12) [12], oO 14 (.bld [(vI 0),(vI 0),(vI 0),(vI 0),(vI 0),.nils,.nils] [(0, 1, 9),(1, 1, 11),(2, 1, 13)]) [9,11,13], oO 5 (.alloc false [(vI 0),(vI 0),(vI 0),(vI 0),(vI 0),.nils,.nils]) [], oN (.store 7 5 14) [14]] (.seq (rS [oO 15 (.load (some 7) 3) [], oO 16 (.call 194 [15]) [15], oO 17 (.un .not 16) [16]] (.cond 17 (rS [oO 18 (.faddr 3 5) [], oN (.store 1 18 (kI 1)) [18]] (rS [oO 19 (.load (some 7) 5) [5], oN (.store 7 4 19) [19]] .ret))
 .skip))
(.seq (rS [oO 20 (.faddr 2 3) [], oO 21 (.load none 20) [20]] (.blk 0 (rS [oO 23 (.bin .eql 21 (kI 1)) [], oA 22 23 [23]] (.cond 22 (rS [oM 25 0 [], oO 26 (.faddr 3 3) [3], oO 27 (.load none 26) [26], oO 28 (.call 146 [25,27]) [25,27], oM 24 28 [28], oO 29 (.ext 24 0) [], oO 30 (.ext 24 1) [24], oO 6 (.alloc false [vS,(vI 0),.nils]) [], oN (.store 3 6 29) [29], oA 7 30 [30]] (rS [oM 31 7 [7]] (.cond 31 (rR [oO 32 (.load (some 3) 6) [6], oO 33 (.bsl (.im false) 3 1 [vS,(vI 0),.nils] [(0, 32)]) [32], oO 34 (.faddr 5 5) [], oN (.store 1 34 33) [34,33]])
 (rR [oO 35 (.faddr 3 5) [], oN (.store 1 35 (kI 3)) [35]]))))
 (rS [oO 37 (.bin .eql 21 (kI 2)) [], oA 36 37 [37]] (.cond 36 (rR [oM 38 0 [], oO 39 (.call 20 [38]) [38], oO 40 (.faddr 5 5) [], oN (.store 1 40 39) [40,39]])
 (rS [oO 42 (.bin .eql 21 (kI 3)) [], oA 41 42 [42]] (.cond 41 (rR [oM 44 0 [], oO 45 (.faddr 4 3) [3], oO 46 (.load none 45) [45], oO 47 (.call 71 [44,46]) [44,46], oM 43 47 [47], oO 48 (.ext 43 0) [], oO 49 (.ext 43 1) [43], oO 50 (.faddr 6 5) [], oN (.store 1 50 48) [50,48], oO 51 (.faddr 3 5) [], oN (.store 1 51 49) [51,49]])
 (rS [oO 53 (.bin .eql 21 (kI 4)) [21], oA 52 53 [53]] (.cond 52 (rR [oM 55 0 [], oO 56 (.faddr 5 3) [3], oO 57 (.load (some 2) 56) [56], oO 58 (.call 19 [55,57]) [55,57], oM 54 58 [58], oO 59 (.ext 54 0) [59], oO 60 (.ext 54 1) [54], oO 61 (.faddr 3 5) [], oN (.store 1 61 60) [61,60]])
 .skip))))))))))
(rS [oM 62 0 [0], oO 63 (.call 21 [62]) [62], oO 64 (.faddr 4 5) [], oN (.store 1 64 63) [64,63]] (rS [oO 65 (.load (some 7) 5) [5], oN (.store 7 4 65) [65]] .ret)))))), [.cell 4 (some 7)]⟩
/-- interrex/reply.Get -/
def f150 : AFn := ⟨1, (rS [oO 2 (.alloc false [(vI 0),(vI 0),(vI 0),(vI 0),(vI 0),.nils,.nils]) [], oA 3 kF [3]] (rS [oM 6 0 [], oO 7 (.call 128 [6]) [6], oA 4 7 [7]] (rS [oM 8 4 [], oO 9 (.call 129 [8,(kI 1)]) [8], oM 10 4 [], oO 11 (.call 129 [10,(kI 1)]) [10], oM 12 4 [], oO 13 (.call 129 [12,(kI 1)]) [12], oM 14 4 [], oO 15 (.call 129 [14,(kI 8)]) [14], oM 16 4 [], oO 17 (.call 129 [16,(kI 8)]) [16], oO 18 (.bld [(vI 0),(vI 0),(vI 0),(vI 0),(vI 0),.nils,.nils] [(2, 1, 9),(0, 1, 11),(3, 1, 13),(1, 1, 15),(4, 1, 17)]) [9,11,13,15,17], oO 5 (.alloc false [(vI 0),(vI 0),(vI 0),(vI 0),(vI 0),.nils,.nils]) [], oN (.store 7 5 18) [18]] (.seq (rS [oM 19 4 [], oO 20 (.call 132 [19,(kI 1)]) [19], oM 21 (kI 0) []] (.blk 0 (.loop (rS [oO 22 (.bin .lss 21 20) []] (.seq (.cond 22 .skip
 (.exit 0))
(.seq (.blk 1 (.dreg [⟨0, (oO 23 (.faddr 5 5) []), false, []⟩,
 ⟨1, (oO 24 (.load none 23) []), false, []⟩,
 ⟨2, (oM 25 4 []), false, []⟩,
 ⟨4, (oM 27 4 []), false, []⟩,
 ⟨6, (oM 29 4 []), false, []⟩,
 ⟨3, (oO 26 (.call 193 [25]) []), true, [1]⟩,
 ⟨5, (oO 28 (.call 129 [27,(kI 8)]) []), true, [1]⟩,
 ⟨7, (oO 30 (.call 193 [29]) []), true, [1]⟩,
 ⟨8, (oO 31 (.s2b .fz 30) []), false, []⟩,
 ⟨9, (oO 32 (.bld [vS,(vI 0),.nils] [(0, 1, 26),(1, 1, 28),(2, 1, 31)]) []), false, []⟩,
 ⟨10, (oO 33 (.bsl (.im false) 3 1 [vS,(vI 0),.nils] [(0, 32)]) []), true, [1]⟩,
 ⟨11, (oO 34 (.append (.im false) 3 48 24 33) []), true, []⟩,
 ⟨12, (oO 35 (.faddr 5 5) []), false, []⟩,
 ⟨13, (oN (.store 1 35 34) []), true, []⟩] [23,24,25,26,27,28,29,30,31,32,33,34,35]))
(rR [oO 36 (.bin .add 21 (kI 1)) [21], oM 21 36 [36]])))))))
(.seq (rS [oM 37 4 [], oO 38 (.call 132 [37,(kI 1)]) [37], oM 39 (kI 0) []] (.blk 2 (.loop (rS [oO 40 (.bin .lss 39 38) []] (.seq (.cond 40 .skip
 (.exit 2))
(.seq (.blk 3 (.dreg [⟨0, (oO 41 (.faddr 6 5) []), false, []⟩,
 ⟨1, (oO 42 (.load none 41) []), false, []⟩,
 ⟨2, (oM 43 4 []), false, []⟩,
 ⟨4, (oM 45 4 []), false, []⟩,
 ⟨6, (oM 47 4 []), false, []⟩,
 ⟨9, (oM 50 4 []), false, []⟩,
 ⟨3, (oO 44 (.call 129 [43,(kI 8)]) []), true, [1]⟩,
 ⟨5, (oO 46 (.call 193 [45]) []), true, [1]⟩,
 ⟨7, (oO 48 (.call 193 [47]) []), true, [1]⟩,
 ⟨8, (oO 49 (.s2b .fz 48) []), false, []⟩,
 ⟨10, (oO 51 (.call 136 [50]) []), true, [1]⟩,
 ⟨11, (oO 52 (.bld [(vI 0),vS,.nils,(.b false)] [(0, 1, 44),(1, 1, 46),(2, 1, 49),(3, 1, 51)]) []), false, []⟩,
 ⟨12, (oO 53 (.bsl (.im false) 4 1 [(vI 0),vS,.nils,(.b false)] [(0, 52)]) []), true, [1]⟩,
 ⟨13, (oO 54 (.append (.im false) 4 56 42 53) []), true, []⟩,
 ⟨14, (oO 55 (.faddr 6 5) []), false, []⟩,
 ⟨15, (oN (.store 1 55 54) []), true, []⟩] [41,42,43,44,45,46,47,48,49,50,51,52,53,54,55]))
(rR [oO 56 (.bin .add 39 (kI 1)) [39], oM 39 56 [56]])))))))
(.seq (rS [oM 57 4 [4], oO 58 (.call 137 [57]) [57], oO 59 (.un .not 58) [58], oM 60 59 [59], oH 61 (.mv 0) 60 [], oH 62 (.lenL 61) 60 [61], oH 63 (.bin .eql 62 (kI 0)) 60 [62], oO 64 (.pick 60 kT 63) [60,63], oM 65 64 [64], oH 66 (.load (some 7) 5) 65 [], oH 67 (.call 151 [66]) 65 [66], oH 68 (.mv 0) 65 [0], oH 69 (.call 138 [67,68]) 65 [67,68], oH 70 (.un .not 69) 65 [69], oO 71 (.pick 65 kT 70) [65,70]] (.cond 71 (rS [oO 72 (.bld [(vI 0),(vI 0),(vI 0),(vI 0),(vI 0),.nils,.nils] []) [], oN (.store 7 2 72) [72], oA 3 kF []] .ret)
 .skip))
(rS [oO 73 (.load (some 7) 5) [5], oN (.store 7 2 73) [73], oA 3 kT []] .ret))))))), [.cell 2 (some 7),.t 3]⟩
/-- interrex/reply.Put -/
def f151 : AFn := ⟨1, (rS [oO 1 (.box false 0) [0], oA 2 (.c .nils) [2]] (.seq (rS [oO 10 (.load (some 7) 1) [], oO 11 (.call 196 [10]) [10], oO 12 (.un .not 11) [11]] (.cond 12 (rS [oA 2 (.c .nils) []] .ret)
 .skip))
(rS [oO 3 (.alloc true [(.i .u32 0),(.i .i32 0),(.i .u32 0),(.i .u64 0),(.i .u64 0),(.i .u64 0),(.i .u64 0),(.i .u64 0),(.i .u64 0),(.i .u64 0),(.i .u64 0),(.i .u64 0),(.i .u64 0),(.i .u64 0),(.i .u64 0),(.i .u64 0),(.i .u64 0),(.i .u64 0),(.i .u64 0),(.i .u64 0),(.i .u64 0),(.i .u64 0),(.i .u64 0),(.i .u64 0),(.i .u64 0),(.i .u64 0),(.i .u64 0),(.i .u64 0),(.i .u64 0),(.i .u64 0),(.i .u64 0),(.i .u64 0),(.i .u64 0),(.i .u64 0),(.i .u64 0),(.i .u64 0),(.i .u64 0),(.i .u64 0),(.i .u64 0),(.i .u64 0),(.i .u64 0),(.i .u64 0),(.i .u64 0),(.i .u64 0),(.i .u64 0),(.i .u64 0),(.i .u64 0),(.i .u64 0),(.i .u64 0),(.i .u64 0),(.i .u64 0),(.i .u64 0),(.i .u64 0),(.i .u64 0),(.i .u64 0),(.i .u64 0),(.i .u64 0),(.i .u64 0),(.i .u64 0),(.i .u64 0),(.i .u64 0),(.i .u64 0),(.i .u64 0),(.i .u64 0),(.i .u64 0),(.i .u64 0),(.i .u64 0),(.i .u64 0),(.i .u64 0),(.i .u64 0),(.i .u64 0),(.i .u64 0),(.i .u64 0),(.i .u64 0),(.i .u64 0),(.i .u64 0),(.i .u64 0),(.i .u64 0),(.i .u64 0),(.i .u64 0),(.i .u64 0),(.i .u64 0),(.i .u64 0),(.i .u64 0),(.i .u64 0),(.i .u64 0),(.i .u64 0),(.i .u64 0),(.i .u64 0),(.i .u64 0),(.i .u64 0),(.i .u64 0),(.i .u64 0),(.i .u64 0),(.i .u64 0),(.i .u64 0),(.i .u64 0),(.i .u64 0),(.i .u64 0),(.i .u64 0),(.i .u64 0),(.i .u64 0),(.i .u64 0),(.i .u64 0),(.i .u64 0),(.i .u64 0),(.i .u64 0),(.i .u64 0),(.i .u64 0),(.i .u64 0),(.i .u64 0),(.i .u64 0),(.i .u64 0),(.i .u64 0),(.i .u64 0),(.i .u64 0),(.i .u64 0),(.i .u64 0),(.i .u64 0),(.i .u64 0),(.i .u64 0),(.i .u64 0),(.i .u64 0),(.i .u64 0),(.i .u64 0),(.i .u64 0),(.i .u64 0),(.i .u64 0),(.i .u64 0),(.i .u64 0),(.i .u64 0),(.i .u64 0),(.i .u64 0),(.i .u64 0),(.i .u64 0),(.i .u64 0),(.i .u64 0),(.i .u64 0),(.i .u64 0),(.i .u64 0),(.i .u64 0),(.i .u64 0),(.i .u64 0),(.i .u64 0),(.i .u64 0),(.i .u64 0),(.i .u64 0),(.i .u64 0),(.i .u64 0),(.i .u64 0),(.i .u64 0),(.i .u64 0),(.i .u64 0),(.i .u64 0),(.i .u64 0),(.i .u64 0),(.i .u64 0),(.i .u64 0),(.i .u64 0),(.i .u64 0),(.i .u64 0),(.i .u64 0),(.i .u64 0),(.i .u64 0),(.i .u64 0),(.i .u64 0),(.i .u64 0),(.i .u64 0),(.i .u64 0),(.i .u64 0),(.i .u64 0),(.i .u64 0),(.i .u64 0),(.i .u64 0),(.i .u64 0),(.i .u64 0),(.i .u64 0),(.i .u64 0),(.i .u64 0),(.i .u64 0),(.i .u64 0),(.i .u64 0),(.i .u64 0),(.i .u64 0),(.i .u64 0),(.i .u64 0),(.i .u64 0),(.i .u64 0),(.i .u64 0),(.i .u64 0),(.i .u64 0),(.i .u64 0),(.i .u64 0),(.i .u64 0),(.i .u64 0),(.i .u64 0),(.i .u64 0),(.i .u64 0),(.i .u64 0),(.i .u64 0),(.i .u64 0),(.i .u64 0),(.i .u64 0),(.i .u64 0),(.i .u64 0),(.i .u64 0),(.i .u64 0),(.i .u64 0),(.i .u64 0),(.i .u64 0),(.i .u64 0),(.i .u64 0),(.i .u64 0),(.i .u64 0),(.i .u64 0),(.i .u64 0),(.i .u64 0),(.i .u64 0),(.i .u64 0),(.i .u64 0),(.i .u64 0),(.i .u64 0),(.i .u64 0),(.i .u64 0),(.i .u64 0),(.i .u64 0),(.i .u64 0),(.i .u64 0),(.i .u64 0),(.i .u64 0),(.i .u64 0),(.i .u64 0),(.i .u64 0),(.i .u64 0),(.i .u64 0),(.i .u64 0),(.i .u64 0),(.i .u64 0),(.i .u64 0),(.i .u64 0),(.i .u64 0),(.i .u64 0),(.i .u64 0),(.i .u64 0),(.i .u64 0),(.i .u64 0),(.i .u64 0),(.i .u64 0),(.i .u64 0),(.i .u64 0),(.i .u64 0),(.i .u64 0),(.i .u64 0),(.i .u64 0),(.i .u64 0),(.i .u64 0),(.i .u64 0),(.i .u64 0),(.i .u64 0),(.i .u8 0),(.i .u8 0),(.i .u8 0),(.i .u8 0),(.i .u8 0),(.i .u8 0),(.i .u8 0),(.i .u8 0),(.i .u8 0),(.i .u8 0),(.i .u8 0),(.i .u8 0),(.i .u8 0),(.i .u8 0),(.i .u8 0),(.i .u8 0),(.i .u8 0),(.i .u8 0),(.i .u8 0),(.i .u8 0),(.i .u8 0),(.i .u8 0),(.i .u8 0),(.i .u8 0),(.i .u8 0),(.i .u8 0),(.i .u8 0),(.i .u8 0),(.i .u8 0),(.i .u8 0),(.i .u8 0),(.i .u8 0),(.i .u8 0),(.i .u8 0),(.i .u8 0),(.i .u8 0),(.i .u8 0),(.i .u8 0),.nils]) []] (.seq (rS [oO 13 (.faddr 2 1) [], oO 14 (.load none 13) [13], oO 15 (.faddr 0 1) [], oO 16 (.load none 15) [15], oO 17 (.faddr 3 1) [], oO 18 (.load none 17) [17], oO 19 (.bsl (.im false) 1 3 [(vI 0)] [(0, 14),(1, 16),(2, 18)]) [14,16,18], oO 20 (.lenL 19) [], oM 21 (kI 0) []] (.blk 0 (.loop (rS [oO 22 (.bin .lss 21 20) []] (.seq (.cond 22 .skip
 (.exit 0))
(.seq (.blk 1 (rS [oO 23 (.iasl 1 19 21) [], oO 24 (.load none 23) [23], oA 5 24 [24]] (rR [oM 25 5 [5], oO 26 (.call 75 [3,25,(kI 1)]) [25,26]])))
(rR [oO 27 (.bin .add 21 (kI 1)) [21], oM 21 27 [27]])))))))
(rS [oO 28 (.faddr 1 1) [], oO 29 (.load none 28) [28], oO 30 (.call 75 [3,29,(kI 8)]) [29,30]] (rS [oO 31 (.faddr 4 1) [], oO 32 (.load none 31) [31], oO 33 (.call 75 [3,32,(kI 8)]) [32,33]] (rS [oO 34 (.faddr 5 1) [], oO 35 (.load none 34) [34], oO 36 (.lenL 35) [35], oO 37 (.call 75 [3,36,(kI 1)]) [36,37]] (.seq (rS [oO 38 (.faddr 5 1) [], oO 39 (.load none 38) [38], oO 40 (.lenL 39) [], oM 41 (kI 0) []] (.blk 2 (.loop (rS [oO 42 (.bin .lss 41 40) []] (.seq (.cond 42 .skip
 (.exit 2))
(.seq (.blk 3 (rS [oO 43 (.iasl 3 39 41) [], oO 44 (.load (some 3) 43) [43], oO 7 (.alloc false [vS,(vI 0),.nils]) [], oN (.store 3 7 44) [44]] (rS [oO 45 (.faddr 0 7) [], oO 46 (.load none 45) [45], oO 47 (.call 195 [3,46]) [46,47]] (rS [oO 48 (.faddr 1 7) [], oO 49 (.load none 48) [48], oO 50 (.call 75 [3,49,(kI 8)]) [49,50]] (rR [oO 51 (.faddr 2 7) [7], oO 52 (.load none 51) [51], oO 53 (.b2s 52) [52], oO 54 (.call 195 [3,53]) [53,54]])))))
(rR [oO 55 (.bin .add 41 (kI 1)) [41], oM 41 55 [55]])))))))
(rS [oO 56 (.faddr 6 1) [], oO 57 (.load none 56) [56], oO 58 (.lenL 57) [57], oO 59 (.call 75 [3,58,(kI 1)]) [58,59]] (.seq (rS [oO 60 (.faddr 6 1) [1], oO 61 (.load none 60) [60], oO 62 (.lenL 61) [], oM 63 (kI 0) []] (.blk 4 (.loop (rS [oO 64 (.bin .lss 63 62) []] (.seq (.cond 64 .skip
 (.exit 4))
(.seq (.blk 5 (rS [oO 65 (.iasl 4 61 63) [], oO 66 (.load (some 4) 65) [65], oO 9 (.alloc false [(vI 0),vS,.nils,(.b false)]) [], oN (.store 4 9 66) [66]] (rS [oO 67 (.faddr 0 9) [], oO 68 (.load none 67) [67], oO 69 (.call 75 [3,68,(kI 8)]) [68,69]] (rS [oO 70 (.faddr 1 9) [], oO 71 (.load none 70) [70], oO 72 (.call 195 [3,71]) [71,72]] (rS [oO 73 (.faddr 2 9) [], oO 74 (.load none 73) [73], oO 75 (.b2s 74) [74], oO 76 (.call 195 [3,75]) [75,76]] (rR [oO 77 (.faddr 3 9) [9], oO 78 (.load none 77) [77], oO 79 (.call 81 [3,78]) [78,79]]))))))
(rR [oO 80 (.bin .add 63 (kI 1)) [63], oM 63 80 [80]])))))))
(rS [oO 81 (.call 82 [3]) [3], oA 2 81 [81]] .ret))))))))))), [.t 2]⟩
/-- interrex/interrexlaw1.Begun -/
def f152 : AFn := ⟨0, (rS [oA 0 kF [0]] (rS [oO 1 (.call 197 []) [], oA 0 1 [1]] .ret)), [.t 0]⟩
/-- interrex/call.Eq -/
def f153 : AFn := ⟨2, (rS [oO 2 (.box false 0) [0], oO 3 (.box false 1) [1], oA 4 kF [4]] (.seq (rS [oO 5 (.faddr 0 2) [], oO 6 (.load none 5) [5], oO 7 (.faddr 0 3) [], oO 8 (.load none 7) [7], oO 9 (.bin .neq 6 8) [6,8], oM 10 9 [9], oH 11 (.faddr 1 2) 10 [], oH 12 (.load none 11) 10 [11], oH 13 (.faddr 1 3) 10 [], oH 14 (.load none 13) 10 [13], oH 15 (.bin .neq 12 14) 10 [12,14], oO 16 (.pick 10 kT 15) [10,15], oM 17 16 [16], oH 18 (.faddr 2 2) 17 [], oH 19 (.load none 18) 17 [18], oH 20 (.faddr 2 3) 17 [], oH 21 (.load none 20) 17 [20], oH 22 (.bin .neq 19 21) 17 [19,21], oO 23 (.pick 17 kT 22) [17,22], oM 24 23 [23], oH 25 (.faddr 3 2) 24 [], oH 26 (.load none 25) 24 [25], oH 27 (.faddr 3 3) 24 [], oH 28 (.load none 27) 24 [27], oH 29 (.bin .neq 26 28) 24 [26,28], oO 30 (.pick 24 kT 29) [24,29], oM 31 30 [30], oH 32 (.faddr 4 2) 31 [], oH 33 (.load none 32) 31 [32], oH 34 (.faddr 4 3) 31 [], oH 35 (.load none 34) 31 [34], oH 36 (.bin .neq 33 35) 31 [33,35], oO 37 (.pick 31 kT 36) [31,36], oM 38 37 [37], oH 39 (.faddr 5 2) 38 [], oH 40 (.faddr 0 39) 38 [39], oH 41 (.load none 40) 38 [40], oH 42 (.faddr 5 3) 38 [], oH 43 (.faddr 0 42) 38 [42], oH 44 (.load none 43) 38 [43], oH 45 (.call 198 [41,44]) 38 [41,44], oH 46 (.un .not 45) 38 [45], oO 47 (.pick 38 kT 46) [38,46]] (.cond 47 (rS [oA 4 kF []] .ret)
 .skip))
(rS [oO 48 (.faddr 5 2) [2], oO 49 (.faddr 1 48) [48], oO 50 (.load none 49) [49], oO 51 (.faddr 5 3) [3], oO 52 (.faddr 1 51) [51], oO 53 (.load none 52) [52], oO 54 (.call 199 [50,53,(.c (.fn 200 [] []))]) [50,53], oA 4 54 [54]] .ret))), [.t 4]⟩
/-- interrex/reply.Eq -/
def f154 : AFn := ⟨2, (rS [oO 2 (.box false 0) [0], oO 3 (.box false 1) [1], oA 4 kF [4]] (.seq (rS [oO 6 (.faddr 0 2) [], oO 7 (.load none 6) [6], oO 8 (.faddr 0 3) [], oO 9 (.load none 8) [8], oO 10 (.bin .neq 7 9) [7,9], oM 11 10 [10], oH 12 (.faddr 1 2) 11 [], oH 13 (.load none 12) 11 [12], oH 14 (.faddr 1 3) 11 [], oH 15 (.load none 14) 11 [14], oH 16 (.bin .neq 13 15) 11 [13,15], oO 17 (.pick 11 kT 16) [11,16], oM 18 17 [17], oH 19 (.faddr 2 2) 18 [], oH 20 (.load none 19) 18 [19], oH 21 (.faddr 2 3) 18 [], oH 22 (.load none 21) 18 [21], oH 23 (.bin .neq 20 22) 18 [20,22], oO 24 (.pick 18 kT 23) [18,23], oM 25 24 [24], oH 26 (.faddr 3 2) 25 [], oH 27 (.load none 26) 25 [26], oH 28 (.faddr 3 3) 25 [], oH 29 (.load none 28) 25 [28], oH 30 (.bin .neq 27 29) 25 [27,29], oO 31 (.pick 25 kT 30) [25,30], oM 32 31 [31], oH 33 (.faddr 4 2) 32 [], oH 34 (.load none 33) 32 [33], oH 35 (.faddr 4 3) 32 [], oH 36 (.load none 35) 32 [35], oH 37 (.bin .neq 34 36) 32 [34,36], oO 38 (.pick 32 kT 37) [32,37]] (.cond 38 (rS [oA 4 kF []] .ret)
 .skip))
(rS [oO 39 (.faddr 5 2) [], oO 40 (.load none 39) [39], oO 41 (.faddr 5 3) [], oO 42 (.load none 41) [41], oO 43 (.call 201 [40,42,(.c (.fn 202 [] []))]) [40,42], oA 5 43 [43]] (rS [oM 44 5 [5], oM 45 44 [44], oG 46 (.faddr 6 2) 45 [2], oG 47 (.load none 46) 45 [46], oG 48 (.faddr 6 3) 45 [3], oG 49 (.load none 48) 45 [48], oG 50 (.call 203 [47,49,(.c (.fn 204 [] []))]) 45 [47,49], oO 51 (.pick 45 50 kF) [45,50], oA 4 51 [51]] .ret)))), [.t 4]⟩
/-- interrex/store.key -/
def f157 : AFn := ⟨1, (rS [oA 2 kF [2]] (rS [oM 3 0 [], oO 4 (.lenS 3) [3], oO 5 (.bin .geq 4 (kI 1)) [4], oM 6 5 [5], oG 7 (.mv 0) 6 [0], oG 8 (.lenS 7) 6 [7], oG 9 (.bin .leq 8 (kI 20)) 6 [8], oO 10 (.pick 6 9 kF) [6,9], oA 2 10 [10]] .ret)), [.t 2]⟩
end Go.Eng.AF
