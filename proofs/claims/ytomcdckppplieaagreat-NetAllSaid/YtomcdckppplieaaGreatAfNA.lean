/-
One more function's abstract text.
-/
import Derived.Test.YtomcdckppplieaaGreatEngC
set_option maxRecDepth 100000
namespace Go.Eng.AF
open Go Go.Eng
/-- interrex/interrexlaw10.NetAll -/
def na : AFn := ⟨2, (rS [oA 4 kF [4]] (rS [oO 16 (.call 7 []) [], oA 5 16 [16]] (.seq (rS [oM 17 5 [5], oO 18 (.un .not 17) [17]] (.cond 18 (rS [oA 4 kF []] .ret)
 .skip))
(rS [oM 19 0 [], oO 20 (.call 23 [19]) [19], oA 6 20 [20]] (rS [oM 21 0 [0], oO 22 (.mnmx false [21,(kI 1000)]) [21], oO 23 (.mnmx true [(kI 1),22]) [22], oA 0 23 [23]] (rS [oA 7 (.c .nils) []] (.seq (rS [oA 8 (kI 0) []] (.blk 0 (.loop (.seq (rS [oM 24 8 [], oM 25 1 [], oO 26 (.lenL 25) [25], oO 27 (.bin .lss 24 26) [24,26], oM 28 27 [27], oG 29 (.mv 8) 28 [], oG 30 (.bin .lss 29 (kI 60)) 28 [29], oO 31 (.pick 28 30 kF) [28,30]] (.cond 31 .skip
 (.exit 0)))
(.seq (.blk 1 (rS [oM 34 1 [], oM 35 8 [], oO 36 (.iasl 6 34 35) [34,35], oO 37 (.load (some 6) 36) [36], oO 9 (.alloc false [(vI 0),(vI 0),(.b false),(.b false),(vI 0),.nils]) [], oN (.store 6 9 37) [37]] (rS [oO 38 (.faddr 3 9) [], oO 39 (.faddr 2 38) [38], oO 40 (.load none 39) [39], oO 41 (.faddr 3 9) [], oO 42 (.faddr 2 41) [41], oO 43 (.load none 42) [42], oO 44 (.lenL 43) [43], oO 45 (.mnmx false [44,(kI 30)]) [44], oO 46 (.slsl 1 40 none (some 45) none) [40,45], oO 47 (.faddr 3 9) [], oO 48 (.faddr 2 47) [47], oN (.store 1 48 46) [48,46]] (.seq (rS [oO 49 (.faddr 0 9) [], oO 50 (.load none 49) [49], oO 51 (.bin .eql 50 (kI 0)) [50]] (.cond 51 (.seq (rS [oM 52 6 [], oO 53 (.faddr 3 9) [], oO 54 (.load (some 3) 53) [53], oO 55 (.call 25 [52,54]) [52,54], oM 56 7 [], oO 57 (.lenL 56) [56], oM 58 0 [], oO 59 (.bin .lss 57 58) [57,58], oO 60 (.eqc false [.b] true 55 59) [55,59]] (.cond 60 (rS [oA 4 kF []] .ret)
 .skip))
(rS [oM 61 7 [], oO 62 (.lenL 61) [61], oM 63 0 [], oO 64 (.bin .lss 62 63) [62,63]] (.cond 64 (rR [oM 65 7 [7], oO 66 (.faddr 3 9) [9], oO 67 (.load (some 3) 66) [66], oO 68 (.bsl (.im false) 3 1 [(.b false),(vI 0),.nils] [(0, 67)]) [67], oO 69 (.append (.im false) 3 40 65 68) [65,68], oA 7 69 [69]])
 .skip)))
 (rS [oM 71 6 [], oO 72 (.faddr 1 9) [], oO 73 (.load none 72) [72], oO 74 (.faddr 2 9) [], oO 75 (.load none 74) [74], oO 76 (.call 26 [71,73,75]) [71,73,75], oM 70 76 [76], oO 77 (.ext 70 0) [], oO 78 (.ext 70 1) [70], oO 10 (.alloc false [(.b false),(vI 0),.nils]) [], oN (.store 3 10 77) [77], oA 11 78 [78]] (.seq (rS [oM 79 11 [], oM 80 7 [], oO 81 (.lenL 80) [80], oO 82 (.bin .gtr 81 (kI 0)) [81], oO 83 (.eqc false [.b] true 79 82) [79,82], oM 84 83 [83], oH 85 (.mv 11) 84 [], oH 86 (.un .not 85) 84 [85], oH 87 (.mv 86) 84 [86], oG 88 (.load (some 3) 10) 87 [], oG 89 (.bld [(.b false),(vI 0),.nils] []) 87 [], oG 90 (.call 27 [88,89]) 87 [88,89], oG 91 (.un .not 90) 87 [90], oH 92 (.pick 87 91 kF) 84 [87,91], oO 93 (.pick 84 kT 92) [84,92]] (.cond 93 (rS [oA 4 kF []] .ret)
 .skip))
(rS [oM 94 11 [11]] (.cond 94 (rS [oO 95 (.faddr 1 9) [], oO 96 (.load none 95) [95], oM 97 7 [], oO 98 (.lenL 97) [97], oO 99 (.bin .rem 96 98) [96,98], oM 100 7 [], oO 101 (.lenL 100) [100], oO 102 (.bin .add 99 101) [99,101], oM 103 7 [], oO 104 (.lenL 103) [103], oO 105 (.bin .rem 102 104) [102,104], oA 12 105 [105]] (.seq (.seq (.dreg [⟨0, (oO 106 (.load (some 3) 10) []), false, []⟩,
 ⟨1, (oM 107 7 []), false, []⟩,
 ⟨2, (oM 108 12 []), false, []⟩,
 ⟨3, (oO 109 (.iasl 3 107 108) []), false, []⟩,
 ⟨4, (oO 110 (.load (some 3) 109) []), false, []⟩,
 ⟨5, (oO 111 (.call 27 [106,110]) []), true, []⟩,
 ⟨6, (oO 112 (.un .not 111) []), false, []⟩] [10,106,107,108,109,110,111])
(.cond 112 (rS [oA 4 kF []] .ret)
 .skip))
(rS [oO 113 (.faddr 2 9) [9], oO 114 (.load none 113) [113], oO 115 (.un .not 114) [114]] (.cond 115 (.dreg [⟨0, (oM 116 7 []), false, []⟩,
 ⟨1, (oM 117 12 []), false, []⟩,
 ⟨2, (oO 118 (.slsl 3 116 none (some 117) none) []), false, []⟩,
 ⟨4, (oM 120 7 []), false, []⟩,
 ⟨5, (oM 121 12 []), false, []⟩,
 ⟨6, (oO 122 (.bin .add 121 (kI 1)) []), false, []⟩,
 ⟨7, (oO 123 (.slsl 3 120 (some 122) none none) []), false, []⟩,
 ⟨3, (oO 119 (.append (.im false) 3 40 (.c .nils) 118) []), true, [7]⟩,
 ⟨8, (oO 124 (.append (.im false) 3 40 119 123) []), true, []⟩,
 ⟨9, (oA 7 124 []), true, []⟩] [116,12,117,118,119,120,121,122,123,124])
 .skip))))
 .skip))))))
(rS [oM 125 6 [], oO 126 (.call 28 [125]) [125], oA 13 126 [126]] (.seq (rS [oM 127 13 [], oO 128 (.lenL 127) [127], oM 129 7 [], oO 130 (.lenL 129) [129], oO 131 (.bin .neq 128 130) [128,130], oM 132 131 [131], oH 133 (.mv 6) 132 [], oH 134 (.call 24 [133]) 132 [133], oH 135 (.mv 7) 132 [], oH 136 (.lenL 135) 132 [135], oH 137 (.bin .neq 134 136) 132 [134,136], oO 138 (.pick 132 kT 137) [132,137]] (.cond 138 (rS [oA 4 kF []] .ret)
 .skip))
(rS [oM 139 13 [], oO 140 (.lenL 139) [139], oM 141 (kI 0) []] (.blk 2 (.loop (rS [oO 142 (.bin .lss 141 140) []] (.seq (.cond 142 .skip
 (.exit 2))
(.seq (.blk 3 (rS [oM 143 141 [], oA 14 143 [143]] (.seq (.seq (.dreg [⟨0, (oM 144 13 []), false, []⟩,
 ⟨1, (oM 145 14 []), false, []⟩,
 ⟨2, (oO 146 (.iasl 3 144 145) []), false, []⟩,
 ⟨3, (oO 147 (.load (some 3) 146) []), false, []⟩,
 ⟨4, (oM 148 7 []), false, []⟩,
 ⟨5, (oM 149 14 []), false, []⟩,
 ⟨6, (oO 150 (.iasl 3 148 149) []), false, []⟩,
 ⟨7, (oO 151 (.load (some 3) 150) []), false, []⟩,
 ⟨8, (oO 152 (.call 27 [147,151]) []), true, []⟩,
 ⟨9, (oO 153 (.un .not 152) []), false, []⟩] [144,145,146,147,148,149,150,151,152])
(.cond 153 (rS [oA 4 kF []] .ret)
 .skip))
(rS [oM 154 13 [], oM 155 14 [], oO 156 (.iasl 3 154 155) [154,155], oO 157 (.faddr 2 156) [156], oO 158 (.load none 157) [157], oO 159 (.lenL 158) [158], oM 160 (kI 0) []] (.blk 4 (.loop (rS [oO 161 (.bin .lss 160 159) []] (.seq (.cond 161 .skip
 (.exit 4))
(.seq (.blk 5 (rS [oM 162 160 [], oA 15 162 [162]] (rR [oM 163 13 [], oM 164 14 [], oO 165 (.iasl 3 163 164) [163,164], oO 166 (.faddr 2 165) [165], oO 167 (.load none 166) [166], oM 168 15 [15], oO 169 (.iasl 1 167 168) [], oO 170 (.load none 169) [169], oO 171 (.bin .add 170 (.c (.i .u8 1))) [170], oO 172 (.iasl 1 167 168) [167,168], oN (.store 1 172 171) [172,171]])))
(rR [oO 173 (.bin .add 160 (kI 1)) [160], oM 160 173 [173]]))))))))))
(rR [oO 174 (.bin .add 141 (kI 1)) [141], oM 141 174 [174]])))))))))))))
(rR [oM 32 8 [8], oO 33 (.bin .add 32 (kI 1)) [32], oA 8 33 [33]]))))))
(rS [oA 4 kT []] .ret)))))))), [.t 4]⟩
end Go.Eng.AF
