/-
Functions' abstract texts, beyond those of begun.
-/
import Derived.Test.YtjoaahnmbonboaaGreatEngExec
set_option maxRecDepth 100000
namespace Go.Eng.AF
open Go Go.Eng
/-- interrex/interrexlaw10.RelistOne -/
def f3 : AFn := ⟨4, (.seq (.reg [⟨(some 8), .asg (.c (.b false)), none, [8]⟩])
 (.seq (.reg [⟨(some 18), .call 11 [], none, []⟩,
 ⟨(some 9), .asg (.t 18), none, [18]⟩])
 (.seq (.seq (.reg [⟨(some 19), .mv (.t 9), none, [9]⟩,
 ⟨(some 20), .un .not (.t 19), none, [19]⟩])
 (.cond (.t 20) (.seq (.reg [⟨(some 8), .asg (.c (.b false)), none, []⟩])
 .ret)
 .skip))
 (.seq (.reg [⟨(some 21), .mv (.t 0), none, []⟩,
 ⟨(some 22), .call 12 [(.t 21)], none, [21]⟩,
 ⟨(some 10), .asg (.t 22), none, [22]⟩])
 (.seq (.seq (.reg [⟨(some 23), .mv (.t 0), none, []⟩,
 ⟨(some 24), .bin .lss (.t 23) (.c (.i .i64 0)), none, [23]⟩,
 ⟨(some 25), .mv (.t 24), none, [24]⟩,
 ⟨(some 26), .mv (.t 0), (some (25, false)), []⟩,
 ⟨(some 27), .bin .gtr (.t 26) (.c (.i .i64 7)), (some (25, false)), [26]⟩,
 ⟨(some 28), .pick (.t 25) (.c (.b true)) (.t 27), none, [25, 27]⟩])
 (.cond (.t 28) (.seq (.reg [⟨(some 29), .mv (.t 10), none, [10]⟩,
 ⟨(some 30), .eqn false (.t 29) (.c .nilp), none, [29]⟩,
 ⟨(some 8), .asg (.t 30), none, [30]⟩])
 .ret)
 .skip))
 (.seq (.reg [⟨(some 31), .mv (.t 1), none, [1]⟩,
 ⟨(some 32), .mnmx false [(.t 31), (.c (.i .i64 1099511627776))], none, [31]⟩,
 ⟨(some 33), .mnmx true [(.c (.i .i64 0)), (.t 32)], none, [32]⟩,
 ⟨(some 34), .mv (.t 2), none, [2]⟩,
 ⟨(some 35), .mnmx false [(.t 34), (.c (.i .i64 1000))], none, [34]⟩,
 ⟨(some 36), .mnmx true [(.c (.i .i64 0)), (.t 35)], none, [35]⟩,
 ⟨(some 1), .asg (.t 33), none, [33]⟩,
 ⟨(some 2), .asg (.t 36), none, [36]⟩])
 (.seq (.reg [⟨(some 38), .mv (.t 10), none, []⟩,
 ⟨(some 39), .call 13 [(.t 38), (.c (.i .i64 1000))], none, [38]⟩,
 ⟨(some 37), .mv (.t 39), none, [39]⟩,
 ⟨(some 40), .ext (.t 37) 0, none, []⟩,
 ⟨(some 41), .ext (.t 37) 1, none, [37]⟩,
 ⟨(some 11), .alloc false [(.i .i64 0), (.i .i64 0), (.i .i64 0), (.s []), (.i .i64 0), .nils, .nils], none, []⟩,
 ⟨none, .store 7 (.t 11) (.t 40), none, [40]⟩,
 ⟨(some 12), .asg (.t 41), none, [41]⟩])
 (.seq (.reg [⟨(some 43), .mv (.t 10), none, []⟩,
 ⟨(some 44), .mv (.t 2), none, []⟩,
 ⟨(some 45), .bin .add (.c (.i .i64 1000)) (.t 44), none, [44]⟩,
 ⟨(some 46), .call 13 [(.t 43), (.t 45)], none, [43, 45]⟩,
 ⟨(some 42), .mv (.t 46), none, [46]⟩,
 ⟨(some 47), .ext (.t 42) 0, none, []⟩,
 ⟨(some 48), .ext (.t 42) 1, none, [42]⟩,
 ⟨(some 13), .alloc false [(.i .i64 0), (.i .i64 0), (.i .i64 0), (.s []), (.i .i64 0), .nils, .nils], none, []⟩,
 ⟨none, .store 7 (.t 13) (.t 47), none, [47]⟩,
 ⟨(some 14), .asg (.t 48), none, [48]⟩])
 (.seq (.seq (.reg [⟨(some 49), .mv (.t 12), none, [12]⟩,
 ⟨(some 50), .un .not (.t 49), none, [49]⟩,
 ⟨(some 51), .mv (.t 50), none, [50]⟩,
 ⟨(some 52), .faddr 2 (.t 11), (some (51, false)), []⟩,
 ⟨(some 53), .load none (.t 52), (some (51, false)), [52]⟩,
 ⟨(some 54), .bin .neq (.t 53) (.c (.i .i64 2)), (some (51, false)), [53]⟩,
 ⟨(some 55), .pick (.t 51) (.c (.b true)) (.t 54), none, [51, 54]⟩,
 ⟨(some 56), .mv (.t 55), none, [55]⟩,
 ⟨(some 57), .faddr 1 (.t 11), (some (56, false)), []⟩,
 ⟨(some 58), .load none (.t 57), (some (56, false)), [57]⟩,
 ⟨(some 59), .bin .neq (.t 58) (.c (.i .i64 1)), (some (56, false)), [58]⟩,
 ⟨(some 60), .pick (.t 56) (.c (.b true)) (.t 59), none, [56, 59]⟩,
 ⟨(some 61), .mv (.t 60), none, [60]⟩,
 ⟨(some 62), .mv (.t 14), (some (61, false)), []⟩,
 ⟨(some 63), .mv (.t 2), (some (61, false)), [2]⟩,
 ⟨(some 64), .bin .geq (.t 63) (.c (.i .i64 200)), (some (61, false)), [63]⟩,
 ⟨(some 65), .eqc false [.b] true (.t 62) (.t 64), (some (61, false)), [62, 64]⟩,
 ⟨(some 66), .pick (.t 61) (.c (.b true)) (.t 65), none, [61, 65]⟩,
 ⟨(some 67), .mv (.t 66), none, [66]⟩,
 ⟨(some 68), .mv (.t 14), (some (67, false)), []⟩,
 ⟨(some 69), .mv (.t 68), (some (67, false)), [68]⟩,
 ⟨(some 70), .faddr 1 (.t 13), (some (69, true)), []⟩,
 ⟨(some 71), .load none (.t 70), (some (69, true)), [70]⟩,
 ⟨(some 72), .bin .neq (.t 71) (.c (.i .i64 2)), (some (69, true)), [71]⟩,
 ⟨(some 73), .mv (.t 72), (some (69, true)), [72]⟩,
 ⟨(some 74), .faddr 2 (.t 13), (some (73, false)), []⟩,
 ⟨(some 75), .load none (.t 74), (some (73, false)), [74]⟩,
 ⟨(some 76), .bin .neq (.t 75) (.c (.i .i64 2)), (some (73, false)), [75]⟩,
 ⟨(some 77), .pick (.t 73) (.c (.b true)) (.t 76), (some (69, true)), [73, 76]⟩,
 ⟨(some 78), .pick (.t 69) (.t 77) (.c (.b false)), (some (67, false)), [69, 77]⟩,
 ⟨(some 79), .pick (.t 67) (.c (.b true)) (.t 78), none, [67, 78]⟩])
 (.cond (.t 79) (.seq (.reg [⟨(some 8), .asg (.c (.b false)), none, []⟩])
 .ret)
 .skip))
 (.seq (.reg [⟨(some 80), .faddr 1 (.t 11), none, []⟩,
 ⟨(some 81), .load none (.t 80), none, [80]⟩,
 ⟨(some 15), .asg (.t 81), none, [81]⟩])
 (.seq (.seq (.reg [⟨(some 82), .mv (.t 14), none, [14]⟩])
 (.cond (.t 82) (.seq (.reg [⟨(some 83), .faddr 1 (.t 13), none, [13]⟩,
 ⟨(some 84), .load none (.t 83), none, [83]⟩,
 ⟨(some 15), .asg (.t 84), none, [84]⟩])
 (.seq (.reg [⟨(some 85), .mv (.t 10), none, []⟩,
 ⟨(some 86), .mv (.t 0), none, []⟩,
 ⟨(some 87), .faddr 1 (.t 11), none, [11]⟩,
 ⟨(some 88), .load none (.t 87), none, [87]⟩,
 ⟨(some 89), .mv (.t 1), none, []⟩,
 ⟨(some 90), .bld [(.i .i64 0), (.i .i64 0), (.i .i64 0), (.i .i64 0), (.i .i64 0), .nils, .nils] [(0, 1, (.t 86)), (1, 1, (.t 88)), (2, 1, (.c (.i .i64 2))), (4, 1, (.t 89))], none, [86, 88, 89]⟩,
 ⟨(some 91), .call 14 [(.t 85), (.t 90)], none, [85, 90]⟩])
 (.cond (.t 91) (.seq (.reg [⟨(some 8), .asg (.c (.b false)), none, []⟩])
 .ret)
 .skip)))
 .skip))
 (.seq (.seq (.reg [⟨(some 92), .mv (.t 3), none, []⟩,
 ⟨(some 93), .mv (.t 15), none, []⟩,
 ⟨(some 94), .bin .neq (.t 92) (.t 93), none, [92, 93]⟩,
 ⟨(some 95), .mv (.t 94), none, [94]⟩,
 ⟨(some 96), .mv (.t 10), (some (95, true)), []⟩,
 ⟨(some 97), .mv (.t 0), (some (95, true)), []⟩,
 ⟨(some 98), .mv (.t 3), (some (95, true)), [3]⟩,
 ⟨(some 99), .mv (.t 1), (some (95, true)), []⟩,
 ⟨(some 100), .bld [(.i .i64 0), (.i .i64 0), (.i .i64 0), (.i .i64 0), (.i .i64 0), .nils, .nils] [(0, 1, (.t 97)), (1, 1, (.t 98)), (2, 1, (.c (.i .i64 2))), (4, 1, (.t 99))], (some (95, true)), [97, 98, 99]⟩,
 ⟨(some 101), .call 14 [(.t 96), (.t 100)], (some (95, true)), [96, 100]⟩,
 ⟨(some 102), .pick (.t 95) (.t 101) (.c (.b false)), none, [95, 101]⟩,
 ⟨(some 103), .mv (.t 102), none, [102]⟩,
 ⟨(some 104), .mv (.t 10), (some (103, false)), []⟩,
 ⟨(some 105), .mv (.t 0), (some (103, false)), []⟩,
 ⟨(some 106), .mv (.t 15), (some (103, false)), []⟩,
 ⟨(some 107), .mv (.t 1), (some (103, false)), []⟩,
 ⟨(some 108), .bld [(.i .i64 0), (.i .i64 0), (.i .i64 0), (.i .i64 0), (.i .i64 0), .nils, .nils] [(0, 1, (.t 105)), (1, 1, (.t 106)), (2, 1, (.c (.i .i64 3))), (4, 1, (.t 107))], (some (103, false)), [105, 106, 107]⟩,
 ⟨(some 109), .call 14 [(.t 104), (.t 108)], (some (103, false)), [104, 108]⟩,
 ⟨(some 110), .pick (.t 103) (.c (.b true)) (.t 109), none, [103, 109]⟩,
 ⟨(some 111), .mv (.t 110), none, [110]⟩,
 ⟨(some 112), .mv (.t 10), (some (111, false)), []⟩,
 ⟨(some 113), .mv (.t 0), (some (111, false)), []⟩,
 ⟨(some 114), .bin .add (.t 113) (.c (.i .i64 1)), (some (111, false)), [113]⟩,
 ⟨(some 115), .bin .rem (.t 114) (.c (.i .i64 8)), (some (111, false)), [114]⟩,
 ⟨(some 116), .mv (.t 15), (some (111, false)), []⟩,
 ⟨(some 117), .mv (.t 1), (some (111, false)), []⟩,
 ⟨(some 118), .bld [(.i .i64 0), (.i .i64 0), (.i .i64 0), (.i .i64 0), (.i .i64 0), .nils, .nils] [(0, 1, (.t 115)), (1, 1, (.t 116)), (2, 1, (.c (.i .i64 2))), (4, 1, (.t 117))], (some (111, false)), [115, 116, 117]⟩,
 ⟨(some 119), .call 14 [(.t 112), (.t 118)], (some (111, false)), [112, 118]⟩,
 ⟨(some 120), .pick (.t 111) (.c (.b true)) (.t 119), none, [111, 119]⟩,
 ⟨(some 121), .mv (.t 120), none, [120]⟩,
 ⟨(some 122), .mv (.t 10), (some (121, false)), []⟩,
 ⟨(some 123), .call 15 [(.t 122)], (some (121, false)), [122]⟩,
 ⟨(some 124), .call 16 [(.t 123)], (some (121, false)), [123]⟩,
 ⟨(some 125), .bin .neq (.t 124) (.c (.i .i64 (-1))), (some (121, false)), [124]⟩,
 ⟨(some 126), .pick (.t 121) (.c (.b true)) (.t 125), none, [121, 125]⟩])
 (.cond (.t 126) (.seq (.reg [⟨(some 8), .asg (.c (.b false)), none, []⟩])
 .ret)
 .skip))
 (.seq (.reg [⟨(some 127), .mv (.t 0), none, [0]⟩,
 ⟨(some 128), .mv (.t 15), none, []⟩,
 ⟨(some 129), .mv (.t 1), none, []⟩,
 ⟨(some 130), .bld [(.i .i64 0), (.i .i64 0), (.i .i64 0), (.i .i64 0), (.i .i64 0), .nils, .nils] [(0, 1, (.t 127)), (1, 1, (.t 128)), (2, 1, (.c (.i .i64 2))), (4, 1, (.t 129))], none, [127, 128, 129]⟩,
 ⟨(some 16), .alloc false [(.i .i64 0), (.i .i64 0), (.i .i64 0), (.i .i64 0), (.i .i64 0), .nils, .nils], none, []⟩,
 ⟨none, .store 7 (.t 16) (.t 130), none, [130]⟩])
 (.seq (.seq (.reg [⟨(some 131), .mv (.t 10), none, []⟩,
 ⟨(some 132), .load (some 7) (.t 16), none, []⟩,
 ⟨(some 133), .call 14 [(.t 131), (.t 132)], none, [131, 132]⟩,
 ⟨(some 134), .un .not (.t 133), none, [133]⟩,
 ⟨(some 135), .mv (.t 134), none, [134]⟩,
 ⟨(some 136), .mv (.t 10), (some (135, false)), []⟩,
 ⟨(some 137), .load (some 7) (.t 16), (some (135, false)), [16]⟩,
 ⟨(some 138), .call 14 [(.t 136), (.t 137)], (some (135, false)), [136, 137]⟩,
 ⟨(some 139), .pick (.t 135) (.c (.b true)) (.t 138), none, [135, 138]⟩,
 ⟨(some 140), .mv (.t 139), none, [139]⟩,
 ⟨(some 141), .mv (.t 10), (some (140, false)), []⟩,
 ⟨(some 142), .call 15 [(.t 141)], (some (140, false)), [141]⟩,
 ⟨(some 143), .call 16 [(.t 142)], (some (140, false)), [142]⟩,
 ⟨(some 144), .mv (.t 1), (some (140, false)), []⟩,
 ⟨(some 145), .bin .neq (.t 143) (.t 144), (some (140, false)), [143, 144]⟩,
 ⟨(some 146), .pick (.t 140) (.c (.b true)) (.t 145), none, [140, 145]⟩,
 ⟨(some 147), .mv (.t 146), none, [146]⟩,
 ⟨(some 148), .mv (.t 10), (some (147, false)), []⟩,
 ⟨(some 149), .call 17 [(.t 148)], (some (147, false)), [148]⟩,
 ⟨(some 150), .bin .neq (.t 149) (.c (.i .i64 1)), (some (147, false)), [149]⟩,
 ⟨(some 151), .pick (.t 147) (.c (.b true)) (.t 150), none, [147, 150]⟩])
 (.cond (.t 151) (.seq (.reg [⟨(some 8), .asg (.c (.b false)), none, []⟩])
 .ret)
 .skip))
 (.seq (.reg [⟨(some 153), .mv (.t 10), none, [10]⟩,
 ⟨(some 154), .call 13 [(.t 153), (.c (.i .i64 5000))], none, [153]⟩,
 ⟨(some 152), .mv (.t 154), none, [154]⟩,
 ⟨(some 155), .ext (.t 152) 0, none, []⟩,
 ⟨(some 156), .ext (.t 152) 1, none, [152]⟩,
 ⟨(some 17), .alloc false [(.i .i64 0), (.i .i64 0), (.i .i64 0), (.s []), (.i .i64 0), .nils, .nils], none, []⟩,
 ⟨none, .store 7 (.t 17) (.t 155), none, [155]⟩,
 ⟨(some 12), .asg (.t 156), none, [156]⟩])
 (.seq (.reg [⟨(some 157), .mv (.t 12), none, [12]⟩,
 ⟨(some 158), .mv (.t 157), none, [157]⟩,
 ⟨(some 159), .faddr 2 (.t 17), (some (158, true)), []⟩,
 ⟨(some 160), .load none (.t 159), (some (158, true)), [159]⟩,
 ⟨(some 161), .bin .eql (.t 160) (.c (.i .i64 3)), (some (158, true)), [160]⟩,
 ⟨(some 162), .pick (.t 158) (.t 161) (.c (.b false)), none, [158, 161]⟩,
 ⟨(some 163), .mv (.t 162), none, [162]⟩,
 ⟨(some 164), .faddr 4 (.t 17), (some (163, true)), []⟩,
 ⟨(some 165), .load none (.t 164), (some (163, true)), [164]⟩,
 ⟨(some 166), .mv (.t 1), (some (163, true)), [1]⟩,
 ⟨(some 167), .bin .eql (.t 165) (.t 166), (some (163, true)), [165, 166]⟩,
 ⟨(some 168), .pick (.t 163) (.t 167) (.c (.b false)), none, [163, 167]⟩,
 ⟨(some 169), .mv (.t 168), none, [168]⟩,
 ⟨(some 170), .faddr 1 (.t 17), (some (169, true)), [17]⟩,
 ⟨(some 171), .load none (.t 170), (some (169, true)), [170]⟩,
 ⟨(some 172), .mv (.t 15), (some (169, true)), [15]⟩,
 ⟨(some 173), .bin .add (.t 172) (.c (.i .i64 1)), (some (169, true)), [172]⟩,
 ⟨(some 174), .bin .eql (.t 171) (.t 173), (some (169, true)), [171, 173]⟩,
 ⟨(some 175), .pick (.t 169) (.t 174) (.c (.b false)), none, [169, 174]⟩,
 ⟨(some 8), .asg (.t 175), none, [175]⟩])
 .ret)))))))))))))))), [.t 8]⟩
/-- interrex/interrexlaw10.RelistGap -/
def f4 : AFn := ⟨3, (.seq (.reg [⟨(some 6), .asg (.c (.b false)), none, [6]⟩])
 (.seq (.reg [⟨(some 18), .call 11 [], none, []⟩,
 ⟨(some 7), .asg (.t 18), none, [18]⟩])
 (.seq (.seq (.reg [⟨(some 19), .mv (.t 7), none, [7]⟩,
 ⟨(some 20), .un .not (.t 19), none, [19]⟩])
 (.cond (.t 20) (.seq (.reg [⟨(some 6), .asg (.c (.b false)), none, []⟩])
 .ret)
 .skip))
 (.seq (.reg [⟨(some 21), .mv (.t 0), none, [0]⟩,
 ⟨(some 22), .mnmx false [(.t 21), (.c (.i .i64 1073741824))], none, [21]⟩,
 ⟨(some 23), .mnmx true [(.c (.i .i64 0)), (.t 22)], none, [22]⟩,
 ⟨(some 24), .mv (.t 2), none, [2]⟩,
 ⟨(some 25), .mnmx false [(.t 24), (.c (.i .i64 2147483648))], none, [24]⟩,
 ⟨(some 26), .mnmx true [(.c (.i .i64 0)), (.t 25)], none, [25]⟩,
 ⟨(some 0), .asg (.t 23), none, [23]⟩,
 ⟨(some 2), .asg (.t 26), none, [26]⟩])
 (.seq (.reg [⟨(some 27), .call 12 [(.c (.i .i64 0))], none, []⟩,
 ⟨(some 8), .asg (.t 27), none, [27]⟩])
 (.seq (.reg [⟨(some 29), .mv (.t 8), none, []⟩,
 ⟨(some 30), .call 13 [(.t 29), (.c (.i .i64 0))], none, [29]⟩,
 ⟨(some 28), .mv (.t 30), none, [30]⟩,
 ⟨(some 31), .ext (.t 28) 0, none, []⟩,
 ⟨(some 32), .ext (.t 28) 1, none, [28]⟩,
 ⟨(some 9), .alloc false [(.i .i64 0), (.i .i64 0), (.i .i64 0), (.s []), (.i .i64 0), .nils, .nils], none, []⟩,
 ⟨none, .store 7 (.t 9) (.t 31), none, [31]⟩,
 ⟨(some 10), .asg (.t 32), none, [32, 10]⟩])
 (.seq (.seq (.reg [⟨(some 33), .mv (.t 8), none, []⟩,
 ⟨(some 34), .faddr 1 (.t 9), none, [9]⟩,
 ⟨(some 35), .load none (.t 34), none, [34]⟩,
 ⟨(some 36), .mv (.t 0), none, []⟩,
 ⟨(some 37), .bld [(.i .i64 0), (.i .i64 0), (.i .i64 0), (.i .i64 0), (.i .i64 0), .nils, .nils] [(1, 1, (.t 35)), (2, 1, (.c (.i .i64 2))), (4, 1, (.t 36))], none, [35, 36]⟩,
 ⟨(some 38), .call 14 [(.t 33), (.t 37)], none, [33, 37]⟩,
 ⟨(some 39), .un .not (.t 38), none, [38]⟩])
 (.cond (.t 39) (.seq (.reg [⟨(some 6), .asg (.c (.b false)), none, []⟩])
 .ret)
 .skip))
 (.seq (.reg [⟨(some 41), .mv (.t 8), none, []⟩,
 ⟨(some 42), .call 13 [(.t 41), (.c (.i .i64 0))], none, [41]⟩,
 ⟨(some 40), .mv (.t 42), none, [42]⟩,
 ⟨(some 43), .ext (.t 40) 0, none, []⟩,
 ⟨(some 44), .ext (.t 40) 1, none, [40]⟩,
 ⟨(some 11), .alloc false [(.i .i64 0), (.i .i64 0), (.i .i64 0), (.s []), (.i .i64 0), .nils, .nils], none, []⟩,
 ⟨none, .store 7 (.t 11) (.t 43), none, [43]⟩,
 ⟨(some 12), .asg (.t 44), none, [44]⟩])
 (.seq (.reg [⟨(some 45), .bsl (.im false) 1 5 [(.i .i64 0)] [(0, (.c (.i .i64 0))), (1, (.c (.i .i64 7))), (2, (.c (.i .i64 2))), (3, (.c (.i .i64 1))), (4, (.c (.i .i64 9)))], none, []⟩,
 ⟨(some 46), .mv (.t 1), none, [1]⟩,
 ⟨(some 47), .bin .rem (.t 46) (.c (.i .i64 5)), none, [46]⟩,
 ⟨(some 48), .bin .add (.t 47) (.c (.i .i64 5)), none, [47]⟩,
 ⟨(some 49), .bin .rem (.t 48) (.c (.i .i64 5)), none, [48]⟩,
 ⟨(some 50), .iasl 1 (.t 45) (.t 49), none, [45, 49]⟩,
 ⟨(some 51), .load none (.t 50), none, [50]⟩,
 ⟨(some 13), .asg (.t 51), none, [51]⟩])
 (.seq (.reg [⟨(some 52), .mv (.t 8), none, []⟩,
 ⟨(some 53), .faddr 1 (.t 11), none, [11]⟩,
 ⟨(some 54), .load none (.t 53), none, [53]⟩,
 ⟨(some 55), .mv (.t 13), none, []⟩,
 ⟨(some 56), .mv (.t 2), none, []⟩,
 ⟨(some 57), .bld [(.i .i64 0), (.i .i64 0), (.i .i64 0), (.i .i64 0), (.i .i64 0), .nils, .nils] [(1, 1, (.t 54)), (2, 1, (.c (.i .i64 3))), (3, 1, (.t 55)), (4, 1, (.t 56))], none, [54, 55, 56]⟩,
 ⟨(some 58), .call 14 [(.t 52), (.t 57)], none, [52, 57]⟩,
 ⟨(some 14), .asg (.t 58), none, [58]⟩])
 (.seq (.reg [⟨(some 60), .mv (.t 8), none, []⟩,
 ⟨(some 61), .call 13 [(.t 60), (.c (.i .i64 0))], none, [60]⟩,
 ⟨(some 59), .mv (.t 61), none, [61]⟩,
 ⟨(some 62), .ext (.t 59) 0, none, []⟩,
 ⟨(some 63), .ext (.t 59) 1, none, [59]⟩,
 ⟨(some 15), .alloc false [(.i .i64 0), (.i .i64 0), (.i .i64 0), (.s []), (.i .i64 0), .nils, .nils], none, []⟩,
 ⟨none, .store 7 (.t 15) (.t 62), none, [62]⟩,
 ⟨(some 16), .asg (.t 63), none, [63]⟩])
 (.seq (.seq (.reg [⟨(some 64), .mv (.t 12), none, [12]⟩,
 ⟨(some 65), .un .not (.t 64), none, [64]⟩,
 ⟨(some 66), .mv (.t 65), none, [65]⟩,
 ⟨(some 67), .mv (.t 16), (some (66, false)), [16]⟩,
 ⟨(some 68), .un .not (.t 67), (some (66, false)), [67]⟩,
 ⟨(some 69), .pick (.t 66) (.c (.b true)) (.t 68), none, [66, 68]⟩,
 ⟨(some 70), .mv (.t 69), none, [69]⟩,
 ⟨(some 71), .mv (.t 14), (some (70, false)), []⟩,
 ⟨(some 72), .mv (.t 13), (some (70, false)), []⟩,
 ⟨(some 73), .bin .eql (.t 72) (.c (.i .i64 0)), (some (70, false)), [72]⟩,
 ⟨(some 74), .mv (.t 73), (some (70, false)), [73]⟩,
 ⟨(some 75), .mv (.t 2), (some (74, true)), []⟩,
 ⟨(some 76), .mv (.t 0), (some (74, true)), []⟩,
 ⟨(some 77), .bin .geq (.t 75) (.t 76), (some (74, true)), [75, 76]⟩,
 ⟨(some 78), .pick (.t 74) (.t 77) (.c (.b false)), (some (70, false)), [74, 77]⟩,
 ⟨(some 79), .eqc false [.b] true (.t 71) (.t 78), (some (70, false)), [71, 78]⟩,
 ⟨(some 80), .pick (.t 70) (.c (.b true)) (.t 79), none, [70, 79]⟩])
 (.cond (.t 80) (.seq (.reg [⟨(some 6), .asg (.c (.b false)), none, []⟩])
 .ret)
 .skip))
 (.seq (.reg [⟨(some 81), .mv (.t 13), none, []⟩,
 ⟨(some 82), .bin .eql (.t 81) (.c (.i .i64 7)), none, [81]⟩,
 ⟨(some 83), .mv (.t 82), none, [82]⟩,
 ⟨(some 84), .mv (.t 13), (some (83, false)), []⟩,
 ⟨(some 85), .bin .eql (.t 84) (.c (.i .i64 2)), (some (83, false)), [84]⟩,
 ⟨(some 86), .pick (.t 83) (.c (.b true)) (.t 85), none, [83, 85]⟩,
 ⟨(some 87), .mv (.t 86), none, [86]⟩,
 ⟨(some 88), .mv (.t 13), (some (87, false)), [13]⟩,
 ⟨(some 89), .bin .eql (.t 88) (.c (.i .i64 0)), (some (87, false)), [88]⟩,
 ⟨(some 90), .mv (.t 89), (some (87, false)), [89]⟩,
 ⟨(some 91), .mv (.t 2), (some (90, true)), []⟩,
 ⟨(some 92), .mv (.t 0), (some (90, true)), [0]⟩,
 ⟨(some 93), .bin .lss (.t 91) (.t 92), (some (90, true)), [91, 92]⟩,
 ⟨(some 94), .pick (.t 90) (.t 93) (.c (.b false)), (some (87, false)), [90, 93]⟩,
 ⟨(some 95), .pick (.t 87) (.c (.b true)) (.t 94), none, [87, 94]⟩,
 ⟨(some 17), .asg (.t 95), none, [95]⟩])
 (.seq (.reg [⟨(some 96), .faddr 2 (.t 15), none, [15]⟩,
 ⟨(some 97), .load none (.t 96), none, [96]⟩,
 ⟨(some 98), .bin .eql (.t 97) (.c (.i .i64 2)), none, [97]⟩,
 ⟨(some 99), .mv (.t 17), none, []⟩,
 ⟨(some 100), .eqc false [.b] false (.t 98) (.t 99), none, [98, 99]⟩,
 ⟨(some 101), .mv (.t 100), none, [100]⟩,
 ⟨(some 102), .mv (.t 8), (some (101, true)), []⟩,
 ⟨(some 103), .call 15 [(.t 102)], (some (101, true)), [102]⟩,
 ⟨(some 104), .call 16 [(.t 103)], (some (101, true)), [103]⟩,
 ⟨(some 105), .bin .lss (.t 104) (.c (.i .i64 0)), (some (101, true)), [104]⟩,
 ⟨(some 106), .mv (.t 17), (some (101, true)), [17]⟩,
 ⟨(some 107), .eqc false [.b] false (.t 105) (.t 106), (some (101, true)), [105, 106]⟩,
 ⟨(some 108), .pick (.t 101) (.t 107) (.c (.b false)), none, [101, 107]⟩,
 ⟨(some 109), .mv (.t 108), none, [108]⟩,
 ⟨(some 110), .mv (.t 14), (some (109, true)), [14]⟩,
 ⟨(some 111), .un .not (.t 110), (some (109, true)), [110]⟩,
 ⟨(some 112), .mv (.t 111), (some (109, true)), [111]⟩,
 ⟨(some 113), .mv (.t 8), (some (112, false)), [8]⟩,
 ⟨(some 114), .call 15 [(.t 113)], (some (112, false)), [113]⟩,
 ⟨(some 115), .call 16 [(.t 114)], (some (112, false)), [114]⟩,
 ⟨(some 116), .mv (.t 2), (some (112, false)), [2]⟩,
 ⟨(some 117), .bin .eql (.t 115) (.t 116), (some (112, false)), [115, 116]⟩,
 ⟨(some 118), .pick (.t 112) (.c (.b true)) (.t 117), (some (109, true)), [112, 117]⟩,
 ⟨(some 119), .pick (.t 109) (.t 118) (.c (.b false)), none, [109, 118]⟩,
 ⟨(some 6), .asg (.t 119), none, [119]⟩])
 .ret)))))))))))))), [.t 6]⟩
/-- interrex/interrexlaw10.ElectTakes -/
def f5 : AFn := ⟨2, (.seq (.reg [⟨(some 4), .asg (.c (.b false)), none, [4]⟩])
 (.seq (.reg [⟨(some 21), .call 11 [], none, []⟩,
 ⟨(some 5), .asg (.t 21), none, [21]⟩])
 (.seq (.seq (.reg [⟨(some 22), .mv (.t 5), none, [5]⟩,
 ⟨(some 23), .un .not (.t 22), none, [22]⟩])
 (.cond (.t 23) (.seq (.reg [⟨(some 4), .asg (.c (.b false)), none, []⟩])
 .ret)
 .skip))
 (.seq (.reg [⟨(some 24), .call 18 [], none, []⟩,
 ⟨(some 6), .asg (.t 24), none, [24]⟩])
 (.seq (.reg [⟨(some 25), .call 19 [(.c (.i .i64 0))], none, []⟩,
 ⟨(some 26), .call 19 [(.c (.i .i64 1))], none, []⟩,
 ⟨(some 7), .asg (.t 25), none, [25]⟩,
 ⟨(some 8), .asg (.t 26), none, [26]⟩])
 (.seq (.reg [⟨(some 27), .mv (.t 7), none, []⟩,
 ⟨(some 28), .bld [(.i .i64 0), (.i .i64 0)] [], none, []⟩,
 ⟨(some 29), .call 20 [(.t 27), (.c (.i .i64 0)), (.c (.i .i64 0)), (.t 28), (.c (.b false))], none, [27, 28, 29]⟩])
 (.seq (.reg [⟨(some 31), .mv (.t 7), none, []⟩,
 ⟨(some 32), .call 21 [(.t 31), (.c (.i .i64 0))], none, [31]⟩,
 ⟨(some 30), .mv (.t 32), none, [32]⟩,
 ⟨(some 33), .ext (.t 30) 0, none, []⟩,
 ⟨(some 34), .ext (.t 30) 1, none, [30]⟩,
 ⟨(some 9), .alloc false [.nils, .nils], none, []⟩,
 ⟨none, .store 2 (.t 9) (.t 33), none, [33]⟩,
 ⟨(some 10), .asg (.t 34), none, [34]⟩])
 (.seq (.reg [⟨(some 36), .mv (.t 6), none, []⟩,
 ⟨(some 37), .load (some 2) (.t 9), none, []⟩,
 ⟨(some 38), .call 22 [(.t 36), (.t 37)], none, [36, 37]⟩,
 ⟨(some 35), .mv (.t 38), none, [38]⟩,
 ⟨(some 39), .ext (.t 35) 0, none, []⟩,
 ⟨(some 40), .ext (.t 35) 1, none, [35]⟩,
 ⟨(some 11), .asg (.t 39), none, [39]⟩,
 ⟨(some 12), .asg (.t 40), none, [40]⟩])
 (.seq (.reg [⟨(some 41), .mv (.t 7), none, []⟩,
 ⟨(some 42), .mv (.t 11), none, [11]⟩,
 ⟨(some 43), .mv (.t 12), none, []⟩,
 ⟨(some 44), .call 23 [(.t 41), (.c (.i .i64 0)), (.t 42), (.t 43)], none, [41, 42, 43, 44]⟩])
 (.seq (.seq (.reg [⟨(some 45), .mv (.t 10), none, [10]⟩,
 ⟨(some 46), .un .not (.t 45), none, [45]⟩,
 ⟨(some 47), .mv (.t 46), none, [46]⟩,
 ⟨(some 48), .mv (.t 12), (some (47, false)), [12]⟩,
 ⟨(some 49), .bin .neq (.t 48) (.c (.i .i64 0)), (some (47, false)), [48]⟩,
 ⟨(some 50), .pick (.t 47) (.c (.b true)) (.t 49), none, [47, 49]⟩,
 ⟨(some 51), .mv (.t 50), none, [50]⟩,
 ⟨(some 52), .mv (.t 7), (some (51, false)), []⟩,
 ⟨(some 53), .call 24 [(.t 52), (.c (.i .i64 899))], (some (51, false)), [52]⟩,
 ⟨(some 54), .un .not (.t 53), (some (51, false)), [53]⟩,
 ⟨(some 55), .pick (.t 51) (.c (.b true)) (.t 54), none, [51, 54]⟩,
 ⟨(some 56), .mv (.t 55), none, [55]⟩,
 ⟨(some 57), .mv (.t 7), (some (56, false)), []⟩,
 ⟨(some 58), .call 24 [(.t 57), (.c (.i .i64 900))], (some (56, false)), [57]⟩,
 ⟨(some 59), .pick (.t 56) (.c (.b true)) (.t 58), none, [56, 58]⟩])
 (.cond (.t 59) (.seq (.reg [⟨(some 4), .asg (.c (.b false)), none, []⟩])
 .ret)
 .skip))
 (.seq (.reg [⟨(some 61), .mv (.t 6), none, []⟩,
 ⟨(some 62), .call 25 [(.t 61), (.c (.s [108]))], none, [61]⟩,
 ⟨(some 60), .mv (.t 62), none, [62]⟩,
 ⟨(some 63), .ext (.t 60) 0, none, []⟩,
 ⟨(some 64), .ext (.t 60) 1, none, [60]⟩,
 ⟨(some 13), .alloc false [(.s []), (.i .i64 0), .nils], none, []⟩,
 ⟨none, .store 3 (.t 13) (.t 63), none, [63]⟩,
 ⟨(some 14), .asg (.t 64), none, [64, 14]⟩])
 (.seq (.reg [⟨(some 66), .faddr 2 (.t 13), none, []⟩,
 ⟨(some 67), .load none (.t 66), none, [66]⟩,
 ⟨(some 68), .call 26 [(.t 67)], none, [67]⟩,
 ⟨(some 65), .mv (.t 68), none, [68]⟩,
 ⟨(some 69), .ext (.t 65) 0, none, []⟩,
 ⟨(some 70), .ext (.t 65) 1, none, [65]⟩,
 ⟨(some 15), .alloc false [(.i .i64 0), (.i .i64 0)], none, []⟩,
 ⟨none, .store 2 (.t 15) (.t 69), none, [69]⟩,
 ⟨(some 16), .asg (.t 70), none, [70, 16]⟩])
 (.seq (.reg [⟨(some 71), .mv (.t 1), none, [1]⟩,
 ⟨(some 72), .mnmx false [(.t 71), (.c (.i .i64 500))], none, [71]⟩,
 ⟨(some 73), .mnmx true [(.c (.i .i64 0)), (.t 72)], none, [72]⟩,
 ⟨(some 17), .asg (.t 73), none, [73]⟩])
 (.seq (.reg [⟨(some 74), .mv (.t 8), none, []⟩,
 ⟨(some 75), .mv (.t 17), none, []⟩,
 ⟨(some 76), .faddr 1 (.t 13), none, [13]⟩,
 ⟨(some 77), .load none (.t 76), none, [76]⟩,
 ⟨(some 78), .load (some 2) (.t 15), none, [15]⟩,
 ⟨(some 79), .call 20 [(.t 74), (.t 75), (.t 77), (.t 78), (.c (.b true))], none, [74, 75, 77, 78, 79]⟩])
 (.seq (.reg [⟨(some 80), .mv (.t 17), none, []⟩,
 ⟨(some 81), .mv (.t 0), none, [0]⟩,
 ⟨(some 82), .mnmx false [(.t 81), (.c (.i .i64 3000))], none, [81]⟩,
 ⟨(some 83), .mnmx true [(.c (.i .i64 0)), (.t 82)], none, [82]⟩,
 ⟨(some 84), .bin .add (.t 80) (.t 83), none, [80, 83]⟩,
 ⟨(some 0), .asg (.t 84), none, [84]⟩])
 (.seq (.reg [⟨(some 86), .mv (.t 8), none, []⟩,
 ⟨(some 87), .mv (.t 0), none, []⟩,
 ⟨(some 88), .call 21 [(.t 86), (.t 87)], none, [86, 87]⟩,
 ⟨(some 85), .mv (.t 88), none, [88]⟩,
 ⟨(some 89), .ext (.t 85) 0, none, []⟩,
 ⟨(some 90), .ext (.t 85) 1, none, [85]⟩,
 ⟨(some 18), .alloc false [.nils, .nils], none, []⟩,
 ⟨none, .store 2 (.t 18) (.t 89), none, [89]⟩,
 ⟨(some 10), .asg (.t 90), none, [90]⟩])
 (.seq (.seq (.reg [⟨(some 91), .mv (.t 10), none, []⟩,
 ⟨(some 92), .mv (.t 0), none, []⟩,
 ⟨(some 93), .mv (.t 17), none, [17]⟩,
 ⟨(some 94), .bin .add (.t 93) (.c (.i .i64 1000)), none, [93]⟩,
 ⟨(some 95), .bin .geq (.t 92) (.t 94), none, [92, 94]⟩,
 ⟨(some 96), .eqc false [.b] true (.t 91) (.t 95), none, [91, 95]⟩])
 (.cond (.t 96) (.seq (.reg [⟨(some 4), .asg (.c (.b false)), none, []⟩])
 .ret)
 .skip))
 (.seq (.seq (.reg [⟨(some 97), .mv (.t 10), none, [10]⟩,
 ⟨(some 98), .un .not (.t 97), none, [97]⟩])
 (.cond (.t 98) (.seq (.reg [⟨(some 99), .mv (.t 8), none, [8]⟩,
 ⟨(some 100), .mv (.t 0), none, [0]⟩,
 ⟨(some 101), .call 24 [(.t 99), (.t 100)], none, [99, 100]⟩,
 ⟨(some 102), .un .not (.t 101), none, [101]⟩,
 ⟨(some 4), .asg (.t 102), none, [102]⟩])
 .ret)
 .skip))
 (.seq (.reg [⟨(some 104), .mv (.t 6), none, []⟩,
 ⟨(some 105), .load (some 2) (.t 18), none, [18]⟩,
 ⟨(some 106), .call 22 [(.t 104), (.t 105)], none, [104, 105]⟩,
 ⟨(some 103), .mv (.t 106), none, [106]⟩,
 ⟨(some 107), .ext (.t 103) 0, none, []⟩,
 ⟨(some 108), .ext (.t 103) 1, none, [103]⟩,
 ⟨(some 11), .asg (.t 107), none, [107]⟩,
 ⟨(some 12), .asg (.t 108), none, [108]⟩])
 (.seq (.reg [⟨(some 109), .mv (.t 8), none, []⟩,
 ⟨(some 110), .mv (.t 0), none, []⟩,
 ⟨(some 111), .mv (.t 11), none, [11]⟩,
 ⟨(some 112), .mv (.t 12), none, []⟩,
 ⟨(some 113), .call 23 [(.t 109), (.t 110), (.t 111), (.t 112)], none, [109, 110, 111, 112, 113]⟩])
 (.seq (.reg [⟨(some 115), .mv (.t 6), none, [6]⟩,
 ⟨(some 116), .load (some 2) (.t 9), none, [9]⟩,
 ⟨(some 117), .call 22 [(.t 115), (.t 116)], none, [115, 116]⟩,
 ⟨(some 114), .mv (.t 117), none, [117]⟩,
 ⟨(some 118), .ext (.t 114) 0, none, []⟩,
 ⟨(some 119), .ext (.t 114) 1, none, [114]⟩,
 ⟨(some 19), .asg (.t 118), none, [118, 19]⟩,
 ⟨(some 20), .asg (.t 119), none, [119]⟩])
 (.seq (.reg [⟨(some 120), .mv (.t 12), none, [12]⟩,
 ⟨(some 121), .bin .eql (.t 120) (.c (.i .i64 0)), none, [120]⟩,
 ⟨(some 122), .mv (.t 121), none, [121]⟩,
 ⟨(some 123), .mv (.t 8), (some (122, true)), [8]⟩,
 ⟨(some 124), .mv (.t 0), (some (122, true)), []⟩,
 ⟨(some 125), .call 24 [(.t 123), (.t 124)], (some (122, true)), [123, 124]⟩,
 ⟨(some 126), .pick (.t 122) (.t 125) (.c (.b false)), none, [122, 125]⟩,
 ⟨(some 127), .mv (.t 126), none, [126]⟩,
 ⟨(some 128), .mv (.t 7), (some (127, true)), [7]⟩,
 ⟨(some 129), .mv (.t 0), (some (127, true)), [0]⟩,
 ⟨(some 130), .call 24 [(.t 128), (.t 129)], (some (127, true)), [128, 129]⟩,
 ⟨(some 131), .un .not (.t 130), (some (127, true)), [130]⟩,
 ⟨(some 132), .pick (.t 127) (.t 131) (.c (.b false)), none, [127, 131]⟩,
 ⟨(some 133), .mv (.t 132), none, [132]⟩,
 ⟨(some 134), .mv (.t 20), (some (133, true)), [20]⟩,
 ⟨(some 135), .bin .eql (.t 134) (.c (.i .i64 6)), (some (133, true)), [134]⟩,
 ⟨(some 136), .pick (.t 133) (.t 135) (.c (.b false)), none, [133, 135]⟩,
 ⟨(some 4), .asg (.t 136), none, [136]⟩])
 .ret)))))))))))))))))))))), [.t 4]⟩
/-- interrex/interrexlaw10.ElectLoses -/
def f6 : AFn := ⟨3, (.seq (.reg [⟨(some 6), .asg (.c (.b false)), none, [6]⟩])
 (.seq (.reg [⟨(some 16), .call 11 [], none, []⟩,
 ⟨(some 7), .asg (.t 16), none, [16]⟩])
 (.seq (.seq (.reg [⟨(some 17), .mv (.t 7), none, [7]⟩,
 ⟨(some 18), .un .not (.t 17), none, [17]⟩])
 (.cond (.t 18) (.seq (.reg [⟨(some 6), .asg (.c (.b false)), none, []⟩])
 .ret)
 .skip))
 (.seq (.reg [⟨(some 19), .mv (.t 2), none, [2]⟩,
 ⟨(some 20), .bin .rem (.t 19) (.c (.i .i64 7)), none, [19]⟩,
 ⟨(some 21), .bin .add (.t 20) (.c (.i .i64 7)), none, [20]⟩,
 ⟨(some 22), .bin .rem (.t 21) (.c (.i .i64 7)), none, [21]⟩,
 ⟨(some 23), .bin .add (.c (.i .i64 1)) (.t 22), none, [22]⟩,
 ⟨(some 2), .asg (.t 23), none, [23]⟩])
 (.seq (.reg [⟨(some 24), .call 19 [(.c (.i .i64 0))], none, []⟩,
 ⟨(some 8), .asg (.t 24), none, [24]⟩])
 (.seq (.reg [⟨(some 25), .mv (.t 8), none, []⟩,
 ⟨(some 26), .bld [(.i .i64 0), (.i .i64 0)] [], none, []⟩,
 ⟨(some 27), .call 20 [(.t 25), (.c (.i .i64 0)), (.c (.i .i64 0)), (.t 26), (.c (.b false))], none, [25, 26, 27]⟩])
 (.seq (.seq (.reg [⟨(some 29), .mv (.t 8), none, []⟩,
 ⟨(some 30), .call 21 [(.t 29), (.c (.i .i64 0))], none, [29]⟩,
 ⟨(some 28), .mv (.t 30), none, [30]⟩,
 ⟨(some 31), .ext (.t 28) 0, none, []⟩,
 ⟨(some 32), .ext (.t 28) 1, none, [28]⟩,
 ⟨(some 9), .alloc false [.nils, .nils], none, []⟩,
 ⟨none, .store 2 (.t 9) (.t 31), none, [9, 31]⟩,
 ⟨(some 10), .asg (.t 32), none, [32]⟩])
 (.seq (.reg [⟨(some 33), .mv (.t 10), none, [10]⟩,
 ⟨(some 34), .un .not (.t 33), none, [33]⟩])
 (.cond (.t 34) (.seq (.reg [⟨(some 6), .asg (.c (.b false)), none, []⟩])
 .ret)
 .skip)))
 (.seq (.reg [⟨(some 35), .mv (.t 8), none, []⟩,
 ⟨(some 36), .call 23 [(.t 35), (.c (.i .i64 1)), (.c (.i .i64 5)), (.c (.i .i64 0))], none, [35, 36]⟩])
 (.seq (.seq (.reg [⟨(some 37), .mv (.t 8), none, []⟩,
 ⟨(some 38), .call 24 [(.t 37), (.c (.i .i64 1))], none, [37]⟩,
 ⟨(some 39), .un .not (.t 38), none, [38]⟩,
 ⟨(some 40), .mv (.t 39), none, [39]⟩,
 ⟨(some 41), .mv (.t 8), (some (40, false)), []⟩,
 ⟨(some 42), .call 27 [(.t 41)], (some (40, false)), [41]⟩,
 ⟨(some 43), .bin .neq (.t 42) (.c (.i .i64 5)), (some (40, false)), [42]⟩,
 ⟨(some 44), .pick (.t 40) (.c (.b true)) (.t 43), none, [40, 43]⟩])
 (.cond (.t 44) (.seq (.reg [⟨(some 6), .asg (.c (.b false)), none, []⟩])
 .ret)
 .skip))
 (.seq (.seq (.reg [⟨(some 45), .mv (.t 0), none, []⟩,
 ⟨(some 46), .bin .rem (.t 45) (.c (.i .i64 2)), none, [45]⟩,
 ⟨(some 47), .bin .eql (.t 46) (.c (.i .i64 0)), none, [46]⟩])
 (.cond (.t 47) (.reg [⟨(some 48), .mv (.t 8), none, []⟩,
 ⟨(some 49), .mv (.t 2), none, [2]⟩,
 ⟨(some 50), .bld [(.i .i64 0), (.i .i64 0)] [(0, 1, (.t 49)), (1, 1, (.c (.i .i64 1000)))], none, [49]⟩,
 ⟨(some 51), .call 20 [(.t 48), (.c (.i .i64 10)), (.c (.i .i64 9)), (.t 50), (.c (.b true))], none, [48, 50, 51]⟩])
 (.seq (.seq (.reg [⟨(some 53), .mv (.t 8), none, []⟩,
 ⟨(some 54), .call 21 [(.t 53), (.c (.i .i64 300))], none, [53]⟩,
 ⟨(some 52), .mv (.t 54), none, [54]⟩,
 ⟨(some 55), .ext (.t 52) 0, none, []⟩,
 ⟨(some 56), .ext (.t 52) 1, none, [52]⟩,
 ⟨(some 11), .alloc false [.nils, .nils], none, []⟩,
 ⟨none, .store 2 (.t 11) (.t 55), none, [11, 55]⟩,
 ⟨(some 12), .asg (.t 56), none, [56]⟩])
 (.seq (.reg [⟨(some 57), .mv (.t 12), none, [12]⟩,
 ⟨(some 58), .un .not (.t 57), none, [57]⟩])
 (.cond (.t 58) (.seq (.reg [⟨(some 6), .asg (.c (.b false)), none, []⟩])
 .ret)
 .skip)))
 (.seq (.reg [⟨(some 59), .mv (.t 8), none, []⟩,
 ⟨(some 60), .call 23 [(.t 59), (.c (.i .i64 300)), (.c (.i .i64 0)), (.c (.i .i64 6))], none, [59, 60]⟩])
 (.reg [⟨(some 61), .mv (.t 8), none, []⟩,
 ⟨(some 62), .mv (.t 2), none, [2]⟩,
 ⟨(some 63), .bld [(.i .i64 0), (.i .i64 0)] [(0, 1, (.t 62)), (1, 1, (.c (.i .i64 1000)))], none, [62]⟩,
 ⟨(some 64), .call 20 [(.t 61), (.c (.i .i64 300)), (.c (.i .i64 9)), (.t 63), (.c (.b true))], none, [61, 63, 64]⟩])))))
 (.seq (.reg [⟨(some 13), .asg (.c (.i .i64 10)), none, []⟩])
 (.seq (.seq (.reg [⟨(some 65), .mv (.t 0), none, [0]⟩,
 ⟨(some 66), .bin .rem (.t 65) (.c (.i .i64 2)), none, [65]⟩,
 ⟨(some 67), .bin .neq (.t 66) (.c (.i .i64 0)), none, [66]⟩])
 (.cond (.t 67) (.reg [⟨(some 13), .asg (.c (.i .i64 300)), none, []⟩])
 .skip))
 (.seq (.reg [⟨(some 68), .mv (.t 13), none, []⟩,
 ⟨(some 69), .mv (.t 1), none, [1]⟩,
 ⟨(some 70), .mnmx false [(.t 69), (.c (.i .i64 2000))], none, [69]⟩,
 ⟨(some 71), .mnmx true [(.c (.i .i64 0)), (.t 70)], none, [70]⟩,
 ⟨(some 72), .bin .add (.t 68) (.t 71), none, [68, 71]⟩,
 ⟨(some 1), .asg (.t 72), none, [72]⟩])
 (.seq (.reg [⟨(some 74), .mv (.t 8), none, []⟩,
 ⟨(some 75), .mv (.t 1), none, []⟩,
 ⟨(some 76), .call 21 [(.t 74), (.t 75)], none, [74, 75]⟩,
 ⟨(some 73), .mv (.t 76), none, [76]⟩,
 ⟨(some 77), .ext (.t 73) 0, none, []⟩,
 ⟨(some 78), .ext (.t 73) 1, none, [73]⟩,
 ⟨(some 14), .alloc false [.nils, .nils], none, []⟩,
 ⟨none, .store 2 (.t 14) (.t 77), none, [14, 77]⟩,
 ⟨(some 15), .asg (.t 78), none, [78]⟩])
 (.seq (.reg [⟨(some 79), .mv (.t 8), none, []⟩,
 ⟨(some 80), .mv (.t 1), none, []⟩,
 ⟨(some 81), .call 24 [(.t 79), (.t 80)], none, [79, 80]⟩,
 ⟨(some 82), .un .not (.t 81), none, [81]⟩,
 ⟨(some 83), .mv (.t 82), none, [82]⟩,
 ⟨(some 84), .mv (.t 8), (some (83, true)), [8]⟩,
 ⟨(some 85), .call 27 [(.t 84)], (some (83, true)), [84]⟩,
 ⟨(some 86), .bin .eql (.t 85) (.c (.i .i64 0)), (some (83, true)), [85]⟩,
 ⟨(some 87), .pick (.t 83) (.t 86) (.c (.b false)), none, [83, 86]⟩,
 ⟨(some 88), .mv (.t 87), none, [87]⟩,
 ⟨(some 89), .mv (.t 15), (some (88, true)), [15]⟩,
 ⟨(some 90), .mv (.t 1), (some (88, true)), [1]⟩,
 ⟨(some 91), .mv (.t 13), (some (88, true)), [13]⟩,
 ⟨(some 92), .bin .add (.t 91) (.c (.i .i64 1000)), (some (88, true)), [91]⟩,
 ⟨(some 93), .bin .geq (.t 90) (.t 92), (some (88, true)), [90, 92]⟩,
 ⟨(some 94), .eqc false [.b] false (.t 89) (.t 93), (some (88, true)), [89, 93]⟩,
 ⟨(some 95), .pick (.t 88) (.t 94) (.c (.b false)), none, [88, 94]⟩,
 ⟨(some 6), .asg (.t 95), none, [95]⟩])
 .ret))))))))))))))), [.t 6]⟩
/-- interrex/interrexlaw10.ElectLate -/
def f7 : AFn := ⟨3, (.seq (.reg [⟨(some 6), .asg (.c (.b false)), none, [6]⟩])
 (.seq (.reg [⟨(some 17), .call 11 [], none, []⟩,
 ⟨(some 7), .asg (.t 17), none, [17]⟩])
 (.seq (.seq (.reg [⟨(some 18), .mv (.t 7), none, [7]⟩,
 ⟨(some 19), .un .not (.t 18), none, [18]⟩])
 (.cond (.t 19) (.seq (.reg [⟨(some 6), .asg (.c (.b false)), none, []⟩])
 .ret)
 .skip))
 (.seq (.reg [⟨(some 20), .mv (.t 0), none, [0]⟩,
 ⟨(some 21), .mnmx false [(.t 20), (.c (.i .i64 1073741824))], none, [20]⟩,
 ⟨(some 22), .mnmx true [(.c (.i .i64 0)), (.t 21)], none, [21]⟩,
 ⟨(some 23), .bin .add (.c (.i .i64 2)) (.t 22), none, [22]⟩,
 ⟨(some 0), .asg (.t 23), none, [23]⟩])
 (.seq (.reg [⟨(some 24), .mv (.t 1), none, [1]⟩,
 ⟨(some 25), .mv (.t 0), none, []⟩,
 ⟨(some 26), .bin .sub (.t 25) (.c (.i .i64 1)), none, [25]⟩,
 ⟨(some 27), .mnmx false [(.t 24), (.t 26)], none, [24, 26]⟩,
 ⟨(some 28), .mnmx true [(.c (.i .i64 0)), (.t 27)], none, [27]⟩,
 ⟨(some 1), .asg (.t 28), none, [28]⟩])
 (.seq (.reg [⟨(some 29), .call 19 [(.c (.i .i64 3))], none, []⟩,
 ⟨(some 30), .bld [(.i .i64 0), (.b false), (.i .i64 0), (.i .i64 0), (.i .i64 0), (.i .i64 0), (.b false), (.i .i64 0), (.i .i64 0), (.b false), (.i .i64 0)] [(0, 1, (.c (.i .i64 3)))], none, []⟩,
 ⟨(some 31), .box true (.t 30), none, [30]⟩,
 ⟨(some 8), .asg (.t 29), none, [29]⟩,
 ⟨(some 9), .asg (.t 31), none, [31]⟩])
 (.seq (.seq (.reg [⟨(some 32), .mv (.t 0), none, []⟩,
 ⟨(some 33), .mv (.t 1), none, []⟩,
 ⟨(some 34), .bsl (.im false) 1 2 [(.i .i64 0)] [(0, (.t 32)), (1, (.t 33))], none, [32, 33]⟩,
 ⟨(some 35), .lenL (.t 34), none, []⟩,
 ⟨(some 36), .mv (.c (.i .i64 0)), none, []⟩])
 (.blk 0 (.loop (.seq (.reg [⟨(some 37), .bin .lss (.t 36) (.t 35), none, []⟩])
 (.seq (.cond (.t 37) .skip
 (.exit 0))
 (.seq (.blk 1 (.seq (.reg [⟨(some 38), .iasl 1 (.t 34) (.t 36), none, []⟩,
 ⟨(some 39), .load none (.t 38), none, [38]⟩,
 ⟨(some 11), .asg (.t 39), none, [39]⟩])
 (.seq (.reg [⟨(some 40), .mv (.t 2), none, []⟩,
 ⟨(some 41), .bin .rem (.t 40) (.c (.i .i64 8)), none, [40]⟩,
 ⟨(some 42), .bin .add (.t 41) (.c (.i .i64 8)), none, [41]⟩,
 ⟨(some 43), .bin .rem (.t 42) (.c (.i .i64 8)), none, [42]⟩,
 ⟨(some 44), .bld [(.i .i64 0), (.i .i64 0)] [(0, 1, (.t 43)), (1, 1, (.c (.i .i64 1000)))], none, [43]⟩,
 ⟨(some 12), .alloc false [(.i .i64 0), (.i .i64 0)], none, []⟩,
 ⟨none, .store 2 (.t 12) (.t 44), none, [44]⟩])
 (.seq (.seq (.reg [⟨(some 45), .mv (.t 11), none, []⟩,
 ⟨(some 46), .mv (.t 1), none, []⟩,
 ⟨(some 47), .bin .eql (.t 45) (.t 46), none, [45, 46]⟩])
 (.cond (.t 47) (.reg [⟨(some 48), .faddr 0 (.t 12), none, []⟩,
 ⟨none, .store 1 (.t 48) (.c (.i .i64 3)), none, [48]⟩])
 .skip))
 (.seq (.reg [⟨(some 49), .mv (.t 8), none, []⟩,
 ⟨(some 50), .mv (.t 11), none, []⟩,
 ⟨(some 51), .bin .rem (.t 50) (.c (.i .i64 7)), none, [50]⟩,
 ⟨(some 52), .bin .add (.c (.i .i64 100)) (.t 51), none, [51]⟩,
 ⟨(some 53), .mv (.t 11), none, []⟩,
 ⟨(some 54), .load (some 2) (.t 12), none, []⟩,
 ⟨(some 55), .mv (.t 11), none, []⟩,
 ⟨(some 56), .bin .gtr (.t 55) (.c (.i .i64 0)), none, [55]⟩,
 ⟨(some 57), .call 20 [(.t 49), (.t 52), (.t 53), (.t 54), (.t 56)], none, [49, 52, 53, 54, 56, 57]⟩])
 (.reg [⟨(some 58), .mv (.t 9), none, []⟩,
 ⟨(some 59), .mv (.t 11), none, []⟩,
 ⟨(some 60), .bin .rem (.t 59) (.c (.i .i64 7)), none, [59]⟩,
 ⟨(some 61), .bin .add (.c (.i .i64 100)) (.t 60), none, [60]⟩,
 ⟨(some 62), .mv (.t 11), none, []⟩,
 ⟨(some 63), .load (some 2) (.t 12), none, [12]⟩,
 ⟨(some 64), .mv (.t 11), none, [11]⟩,
 ⟨(some 65), .bin .gtr (.t 64) (.c (.i .i64 0)), none, [64]⟩,
 ⟨(some 66), .call 28 [(.t 58), (.t 61), (.t 62), (.t 63), (.t 65)], none, [58, 61, 62, 63, 65, 66]⟩]))))))
 (.reg [⟨(some 67), .bin .add (.t 36) (.c (.i .i64 1)), none, [36]⟩,
 ⟨(some 36), .mv (.t 67), none, [67]⟩])))))))
 (.seq (.reg [⟨(some 69), .mv (.t 8), none, [8]⟩,
 ⟨(some 70), .call 21 [(.t 69), (.c (.i .i64 105))], none, [69]⟩,
 ⟨(some 68), .mv (.t 70), none, [70]⟩,
 ⟨(some 71), .ext (.t 68) 0, none, []⟩,
 ⟨(some 72), .ext (.t 68) 1, none, [68]⟩,
 ⟨(some 13), .alloc false [.nils, .nils], none, []⟩,
 ⟨none, .store 2 (.t 13) (.t 71), none, [71]⟩,
 ⟨(some 14), .asg (.t 72), none, [72]⟩])
 (.seq (.reg [⟨(some 74), .mv (.t 9), none, [9]⟩,
 ⟨(some 75), .call 29 [(.t 74), (.c (.i .i64 105))], none, [74]⟩,
 ⟨(some 73), .mv (.t 75), none, [75]⟩,
 ⟨(some 76), .ext (.t 73) 0, none, []⟩,
 ⟨(some 77), .ext (.t 73) 1, none, [73]⟩,
 ⟨(some 15), .asg (.t 76), none, [76]⟩,
 ⟨(some 16), .asg (.t 77), none, [77]⟩])
 (.seq (.reg [⟨(some 78), .mv (.t 14), none, []⟩,
 ⟨(some 79), .mv (.t 16), none, [16]⟩,
 ⟨(some 80), .eqc false [.b] false (.t 78) (.t 79), none, [78, 79]⟩,
 ⟨(some 81), .mv (.t 80), none, [80]⟩,
 ⟨(some 82), .mv (.t 14), (some (81, true)), [14]⟩,
 ⟨(some 83), .un .not (.t 82), (some (81, true)), [82]⟩,
 ⟨(some 84), .mv (.t 83), (some (81, true)), [83]⟩,
 ⟨(some 85), .load (some 2) (.t 13), (some (84, false)), [13]⟩,
 ⟨(some 86), .mv (.t 15), (some (84, false)), []⟩,
 ⟨(some 87), .call 30 [(.t 85), (.c (.i .i64 3)), (.t 86)], (some (84, false)), [85, 86]⟩,
 ⟨(some 88), .mv (.t 87), (some (84, false)), [87]⟩,
 ⟨(some 89), .mv (.t 15), (some (88, true)), [15]⟩,
 ⟨(some 90), .mv (.t 0), (some (88, true)), [0]⟩,
 ⟨(some 91), .bin .eql (.t 89) (.t 90), (some (88, true)), [89, 90]⟩,
 ⟨(some 92), .pick (.t 88) (.t 91) (.c (.b false)), (some (84, false)), [88, 91]⟩,
 ⟨(some 93), .pick (.t 84) (.c (.b true)) (.t 92), (some (81, true)), [84, 92]⟩,
 ⟨(some 94), .pick (.t 81) (.t 93) (.c (.b false)), none, [81, 93]⟩,
 ⟨(some 6), .asg (.t 94), none, [94]⟩])
 .ret)))))))))), [.t 6]⟩
/-- ( interrex/interrexref15.Elect).See -/
def f28 : AFn := ⟨5, (.seq (.reg [⟨(some 8), .box false (.t 3), none, [3]⟩])
 (.seq (.seq (.reg [⟨(some 10), .mv (.t 4), none, []⟩,
 ⟨(some 11), .un .not (.t 10), none, [10]⟩])
 (.cond (.t 11) (.reg [⟨(some 12), .bld [(.i .i64 0), (.i .i64 0)] [], none, []⟩,
 ⟨(some 2), .asg (.c (.i .i64 0)), none, []⟩,
 ⟨none, .store 2 (.t 8) (.t 12), none, [12]⟩])
 .skip))
 (.seq (.seq (.reg [⟨(some 13), .mv (.t 0), none, []⟩,
 ⟨(some 14), .nilc (.t 13), none, [13]⟩,
 ⟨(some 15), .faddr 1 (.t 14), none, [14]⟩,
 ⟨(some 16), .load none (.t 15), none, [15]⟩,
 ⟨(some 17), .mv (.t 16), none, [16]⟩,
 ⟨(some 18), .mv (.t 2), (some (17, true)), []⟩,
 ⟨(some 19), .mv (.t 0), (some (17, true)), []⟩,
 ⟨(some 20), .nilc (.t 19), (some (17, true)), [19]⟩,
 ⟨(some 21), .faddr 2 (.t 20), (some (17, true)), [20]⟩,
 ⟨(some 22), .load none (.t 21), (some (17, true)), [21]⟩,
 ⟨(some 23), .bin .lss (.t 18) (.t 22), (some (17, true)), [18, 22]⟩,
 ⟨(some 24), .pick (.t 17) (.t 23) (.c (.b false)), none, [17, 23]⟩])
 (.cond (.t 24) .ret
 .skip))
 (.seq (.seq (.reg [⟨(some 25), .mv (.t 0), none, []⟩,
 ⟨(some 26), .nilc (.t 25), none, [25]⟩,
 ⟨(some 27), .faddr 1 (.t 26), none, [26]⟩,
 ⟨(some 28), .load none (.t 27), none, [27]⟩,
 ⟨(some 29), .un .not (.t 28), none, [28]⟩,
 ⟨(some 30), .mv (.t 29), none, [29]⟩,
 ⟨(some 31), .mv (.t 2), (some (30, false)), []⟩,
 ⟨(some 32), .mv (.t 0), (some (30, false)), []⟩,
 ⟨(some 33), .nilc (.t 32), (some (30, false)), [32]⟩,
 ⟨(some 34), .faddr 2 (.t 33), (some (30, false)), [33]⟩,
 ⟨(some 35), .load none (.t 34), (some (30, false)), [34]⟩,
 ⟨(some 36), .bin .neq (.t 31) (.t 35), (some (30, false)), [31, 35]⟩,
 ⟨(some 37), .pick (.t 30) (.c (.b true)) (.t 36), none, [30, 36]⟩])
 (.cond (.t 37) (.reg [⟨(some 38), .mv (.t 0), none, []⟩,
 ⟨(some 39), .mv (.t 1), none, [1]⟩,
 ⟨(some 40), .nilc (.t 38), none, [38]⟩,
 ⟨(some 41), .faddr 3 (.t 40), none, [40]⟩,
 ⟨none, .store 1 (.t 41) (.t 39), none, [41, 39]⟩])
 .skip))
 (.seq (.dreg [⟨0, ⟨(some 42), .mv (.t 0), none, []⟩, false, []⟩,
 ⟨1, ⟨(some 43), .mv (.t 0), none, []⟩, false, []⟩,
 ⟨2, ⟨(some 44), .mv (.t 0), none, []⟩, false, []⟩,
 ⟨3, ⟨(some 45), .mv (.t 0), none, []⟩, false, []⟩,
 ⟨4, ⟨(some 46), .mv (.t 2), none, []⟩, false, []⟩,
 ⟨5, ⟨(some 47), .load (some 2) (.t 8), none, []⟩, false, []⟩,
 ⟨6, ⟨(some 48), .mv (.t 4), none, []⟩, false, []⟩,
 ⟨7, ⟨(some 49), .nilc (.t 42), none, []⟩, false, []⟩,
 ⟨8, ⟨(some 50), .faddr 1 (.t 49), none, []⟩, false, []⟩,
 ⟨9, ⟨none, .store 1 (.t 50) (.c (.b true)), none, []⟩, true, [5]⟩,
 ⟨10, ⟨(some 51), .nilc (.t 43), none, []⟩, false, []⟩,
 ⟨11, ⟨(some 52), .faddr 2 (.t 51), none, []⟩, false, []⟩,
 ⟨12, ⟨none, .store 1 (.t 52) (.t 46), none, []⟩, true, [5]⟩,
 ⟨13, ⟨(some 53), .nilc (.t 44), none, []⟩, false, []⟩,
 ⟨14, ⟨(some 54), .faddr 4 (.t 53), none, []⟩, false, []⟩,
 ⟨15, ⟨none, .store 2 (.t 54) (.t 47), none, []⟩, true, []⟩,
 ⟨16, ⟨(some 55), .nilc (.t 45), none, []⟩, false, []⟩,
 ⟨17, ⟨(some 56), .faddr 6 (.t 55), none, []⟩, false, []⟩,
 ⟨18, ⟨none, .store 1 (.t 56) (.t 48), none, []⟩, true, []⟩] [42, 43, 44, 45, 46, 47, 4, 48, 49, 50, 51, 52, 53, 54, 55, 56])
 (.seq (.dreg [⟨0, ⟨(some 57), .mv (.t 0), none, []⟩, false, []⟩,
 ⟨1, ⟨(some 58), .nilc (.t 57), none, []⟩, false, []⟩,
 ⟨2, ⟨(some 59), .faddr 7 (.t 58), none, []⟩, false, []⟩,
 ⟨3, ⟨(some 60), .load none (.t 59), none, []⟩, false, []⟩,
 ⟨4, ⟨(some 61), .bin .gtr (.t 60) (.c (.i .i64 0)), none, []⟩, false, []⟩,
 ⟨5, ⟨(some 62), .mv (.t 61), none, []⟩, false, []⟩,
 ⟨6, ⟨(some 63), .mv (.t 0), (some (62, true)), []⟩, false, []⟩,
 ⟨7, ⟨(some 64), .nilc (.t 63), (some (62, true)), []⟩, false, []⟩,
 ⟨8, ⟨(some 65), .faddr 7 (.t 64), (some (62, true)), []⟩, false, []⟩,
 ⟨9, ⟨(some 66), .load none (.t 65), (some (62, true)), []⟩, false, []⟩,
 ⟨10, ⟨(some 67), .mv (.t 2), (some (62, true)), []⟩, false, []⟩,
 ⟨11, ⟨(some 68), .bin .lss (.t 66) (.t 67), (some (62, true)), []⟩, false, []⟩,
 ⟨12, ⟨(some 69), .pick (.t 62) (.t 68) (.c (.b false)), none, []⟩, false, []⟩,
 ⟨13, ⟨(some 70), .mv (.t 69), none, []⟩, false, []⟩,
 ⟨14, ⟨(some 71), .faddr 0 (.t 8), (some (70, true)), []⟩, false, []⟩,
 ⟨15, ⟨(some 72), .load none (.t 71), (some (70, true)), []⟩, false, []⟩,
 ⟨16, ⟨(some 73), .mv (.t 0), (some (70, true)), []⟩, false, []⟩,
 ⟨17, ⟨(some 74), .nilc (.t 73), (some (70, true)), []⟩, false, []⟩,
 ⟨18, ⟨(some 75), .faddr 0 (.t 74), (some (70, true)), []⟩, false, []⟩,
 ⟨19, ⟨(some 76), .load none (.t 75), (some (70, true)), []⟩, false, []⟩,
 ⟨20, ⟨(some 77), .bin .neq (.t 72) (.t 76), (some (70, true)), []⟩, false, []⟩,
 ⟨21, ⟨(some 78), .pick (.t 70) (.t 77) (.c (.b false)), none, []⟩, false, []⟩] [57, 58, 59, 60, 61, 62, 63, 64, 65, 66, 2, 67, 68, 69, 70, 8, 71, 72, 73, 74, 75, 76, 77])
 (.cond (.t 78) (.reg [⟨(some 79), .mv (.t 0), none, [0]⟩,
 ⟨(some 80), .nilc (.t 79), none, [79]⟩,
 ⟨(some 81), .faddr 7 (.t 80), none, [80]⟩,
 ⟨none, .store 1 (.t 81) (.c (.i .i64 0)), none, [81]⟩])
 .skip))))))), []⟩
/-- ( interrex/interrexref15.Elect).Want -/
def f29 : AFn := ⟨2, (.seq (.reg [⟨(some 4), .asg (.c (.i .i64 0)), none, [4]⟩,
 ⟨(some 5), .asg (.c (.b false)), none, [5]⟩])
 (.seq (.seq (.reg [⟨(some 7), .mv (.t 0), none, []⟩,
 ⟨(some 8), .nilc (.t 7), none, [7]⟩,
 ⟨(some 9), .faddr 9 (.t 8), none, [8]⟩,
 ⟨(some 10), .load none (.t 9), none, [9]⟩,
 ⟨(some 11), .mv (.t 10), none, [10]⟩,
 ⟨(some 12), .mv (.t 1), (some (11, true)), []⟩,
 ⟨(some 13), .mv (.t 0), (some (11, true)), []⟩,
 ⟨(some 14), .nilc (.t 13), (some (11, true)), [13]⟩,
 ⟨(some 15), .faddr 10 (.t 14), (some (11, true)), [14]⟩,
 ⟨(some 16), .load none (.t 15), (some (11, true)), [15]⟩,
 ⟨(some 17), .bin .sub (.t 12) (.t 16), (some (11, true)), [12, 16]⟩,
 ⟨(some 18), .bin .lss (.t 17) (.c (.i .i64 200)), (some (11, true)), [17]⟩,
 ⟨(some 19), .pick (.t 11) (.t 18) (.c (.b false)), none, [11, 18]⟩])
 (.cond (.t 19) (.seq (.reg [⟨(some 4), .asg (.c (.i .i64 0)), none, []⟩,
 ⟨(some 5), .asg (.c (.b false)), none, []⟩])
 .ret)
 .skip))
 (.seq (.reg [⟨(some 20), .mv (.t 0), none, []⟩,
 ⟨(some 21), .nilc (.t 20), none, [20]⟩,
 ⟨(some 22), .faddr 9 (.t 21), none, [21]⟩,
 ⟨none, .store 1 (.t 22) (.c (.b false)), none, [22]⟩])
 (.seq (.reg [⟨(some 6), .asg (.c (.b false)), none, []⟩])
 (.seq (.seq (.reg [⟨(some 23), .mv (.t 0), none, []⟩,
 ⟨(some 24), .nilc (.t 23), none, [23]⟩,
 ⟨(some 25), .faddr 1 (.t 24), none, [24]⟩,
 ⟨(some 26), .load none (.t 25), none, [25]⟩])
 (.cond (.t 26) (.dreg [⟨0, ⟨(some 27), .mv (.t 0), none, []⟩, false, []⟩,
 ⟨1, ⟨(some 28), .mv (.t 1), none, []⟩, false, []⟩,
 ⟨2, ⟨(some 29), .call 71 [(.t 27), (.t 28)], none, []⟩, true, []⟩,
 ⟨3, ⟨(some 30), .mv (.t 29), none, []⟩, false, []⟩,
 ⟨4, ⟨(some 31), .mv (.t 1), (some (30, true)), []⟩, false, []⟩,
 ⟨5, ⟨(some 32), .mv (.t 0), (some (30, true)), []⟩, false, []⟩,
 ⟨6, ⟨(some 33), .nilc (.t 32), (some (30, true)), []⟩, false, []⟩,
 ⟨7, ⟨(some 34), .faddr 8 (.t 33), (some (30, true)), []⟩, false, []⟩,
 ⟨8, ⟨(some 35), .load none (.t 34), (some (30, true)), []⟩, false, []⟩,
 ⟨9, ⟨(some 36), .call 72 [(.t 31), (.t 35)], (some (30, true)), []⟩, true, []⟩,
 ⟨10, ⟨(some 37), .pick (.t 30) (.t 36) (.c (.b false)), none, []⟩, false, []⟩,
 ⟨11, ⟨(some 38), .mv (.t 37), none, []⟩, false, []⟩,
 ⟨12, ⟨(some 39), .mv (.t 0), (some (38, false)), []⟩, false, []⟩,
 ⟨13, ⟨(some 40), .mv (.t 1), (some (38, false)), []⟩, false, []⟩,
 ⟨14, ⟨(some 41), .call 71 [(.t 39), (.t 40)], (some (38, false)), []⟩, true, []⟩,
 ⟨15, ⟨(some 42), .un .not (.t 41), (some (38, false)), []⟩, false, []⟩,
 ⟨16, ⟨(some 43), .mv (.t 42), (some (38, false)), []⟩, false, []⟩,
 ⟨17, ⟨(some 44), .mv (.t 0), (some (43, true)), []⟩, false, []⟩,
 ⟨18, ⟨(some 45), .nilc (.t 44), (some (43, true)), []⟩, false, []⟩,
 ⟨19, ⟨(some 46), .faddr 6 (.t 45), (some (43, true)), []⟩, false, []⟩,
 ⟨20, ⟨(some 47), .load none (.t 46), (some (43, true)), []⟩, false, []⟩,
 ⟨21, ⟨(some 48), .un .not (.t 47), (some (43, true)), []⟩, false, []⟩,
 ⟨22, ⟨(some 49), .mv (.t 48), (some (43, true)), []⟩, false, []⟩,
 ⟨23, ⟨(some 50), .mv (.t 0), (some (49, false)), []⟩, false, []⟩,
 ⟨24, ⟨(some 51), .nilc (.t 50), (some (49, false)), []⟩, false, []⟩,
 ⟨25, ⟨(some 52), .faddr 4 (.t 51), (some (49, false)), []⟩, false, []⟩,
 ⟨26, ⟨(some 53), .faddr 0 (.t 52), (some (49, false)), []⟩, false, []⟩,
 ⟨27, ⟨(some 54), .load none (.t 53), (some (49, false)), []⟩, false, []⟩,
 ⟨28, ⟨(some 55), .mv (.t 0), (some (49, false)), []⟩, false, []⟩,
 ⟨29, ⟨(some 56), .nilc (.t 55), (some (49, false)), []⟩, false, []⟩,
 ⟨30, ⟨(some 57), .faddr 0 (.t 56), (some (49, false)), []⟩, false, []⟩,
 ⟨31, ⟨(some 58), .load none (.t 57), (some (49, false)), []⟩, false, []⟩,
 ⟨32, ⟨(some 59), .bin .eql (.t 54) (.t 58), (some (49, false)), []⟩, false, []⟩,
 ⟨33, ⟨(some 60), .pick (.t 49) (.c (.b true)) (.t 59), (some (43, true)), []⟩, false, []⟩,
 ⟨34, ⟨(some 61), .mv (.t 60), (some (43, true)), []⟩, false, []⟩,
 ⟨35, ⟨(some 62), .mv (.t 1), (some (61, false)), []⟩, false, []⟩,
 ⟨36, ⟨(some 63), .mv (.t 0), (some (61, false)), []⟩, false, []⟩,
 ⟨37, ⟨(some 64), .nilc (.t 63), (some (61, false)), []⟩, false, []⟩,
 ⟨38, ⟨(some 65), .faddr 3 (.t 64), (some (61, false)), []⟩, false, []⟩,
 ⟨39, ⟨(some 66), .load none (.t 65), (some (61, false)), []⟩, false, []⟩,
 ⟨40, ⟨(some 67), .mv (.t 0), (some (61, false)), []⟩, false, []⟩,
 ⟨41, ⟨(some 68), .nilc (.t 67), (some (61, false)), []⟩, false, []⟩,
 ⟨42, ⟨(some 69), .faddr 4 (.t 68), (some (61, false)), []⟩, false, []⟩,
 ⟨43, ⟨(some 70), .faddr 1 (.t 69), (some (61, false)), []⟩, false, []⟩,
 ⟨44, ⟨(some 71), .load none (.t 70), (some (61, false)), []⟩, false, []⟩,
 ⟨45, ⟨(some 72), .call 73 [(.t 62), (.t 66), (.t 71)], (some (61, false)), []⟩, true, []⟩,
 ⟨46, ⟨(some 73), .pick (.t 61) (.c (.b true)) (.t 72), (some (43, true)), []⟩, false, []⟩,
 ⟨47, ⟨(some 74), .pick (.t 43) (.t 73) (.c (.b false)), (some (38, false)), []⟩, false, []⟩,
 ⟨48, ⟨(some 75), .pick (.t 38) (.c (.b true)) (.t 74), none, []⟩, false, []⟩,
 ⟨49, ⟨(some 6), .asg (.t 75), none, []⟩, false, []⟩] [27, 28, 29, 30, 31, 32, 33, 34, 35, 36, 37, 38, 39, 40, 41, 42, 43, 44, 45, 46, 47, 48, 49, 50, 51, 52, 53, 54, 55, 56, 57, 58, 59, 60, 61, 62, 63, 64, 65, 66, 67, 68, 69, 70, 71, 72, 73, 74, 75])
 .skip))
 (.seq (.seq (.reg [⟨(some 76), .mv (.t 6), none, [6]⟩,
 ⟨(some 77), .un .not (.t 76), none, [76]⟩])
 (.cond (.t 77) (.seq (.reg [⟨(some 4), .asg (.c (.i .i64 0)), none, []⟩,
 ⟨(some 5), .asg (.c (.b false)), none, []⟩])
 .ret)
 .skip))
 (.seq (.reg [⟨(some 78), .mv (.t 0), none, []⟩,
 ⟨(some 79), .mv (.t 0), none, []⟩,
 ⟨(some 80), .mv (.t 1), none, [1]⟩,
 ⟨(some 81), .nilc (.t 78), none, [78]⟩,
 ⟨(some 82), .faddr 9 (.t 81), none, [81]⟩,
 ⟨none, .store 1 (.t 82) (.c (.b true)), none, [82]⟩,
 ⟨(some 83), .nilc (.t 79), none, [79]⟩,
 ⟨(some 84), .faddr 10 (.t 83), none, [83]⟩,
 ⟨none, .store 1 (.t 84) (.t 80), none, [84, 80]⟩])
 (.seq (.reg [⟨(some 85), .mv (.t 0), none, [0]⟩,
 ⟨(some 86), .nilc (.t 85), none, [85]⟩,
 ⟨(some 87), .faddr 2 (.t 86), none, [86]⟩,
 ⟨(some 88), .load none (.t 87), none, [87]⟩,
 ⟨(some 4), .asg (.t 88), none, [88]⟩,
 ⟨(some 5), .asg (.c (.b true)), none, []⟩])
 .ret)))))))), [.t 4, .t 5]⟩
/-- interrex/interrexlaw10.takes -/
def f30 : AFn := ⟨3, (.seq (.reg [⟨(some 3), .box false (.t 0), none, [0]⟩,
 ⟨(some 6), .asg (.c (.b false)), none, [6]⟩])
 (.seq (.seq (.reg [⟨(some 9), .faddr 0 (.t 3), none, []⟩,
 ⟨(some 10), .load none (.t 9), none, [9]⟩,
 ⟨(some 11), .lenL (.t 10), none, [10]⟩,
 ⟨(some 12), .bin .neq (.t 11) (.c (.i .i64 1)), none, [11]⟩,
 ⟨(some 13), .mv (.t 12), none, [12]⟩,
 ⟨(some 14), .faddr 1 (.t 3), (some (13, false)), []⟩,
 ⟨(some 15), .load none (.t 14), (some (13, false)), [14]⟩,
 ⟨(some 16), .lenL (.t 15), (some (13, false)), [15]⟩,
 ⟨(some 17), .bin .neq (.t 16) (.c (.i .i64 1)), (some (13, false)), [16]⟩,
 ⟨(some 18), .pick (.t 13) (.c (.b true)) (.t 17), none, [13, 17]⟩,
 ⟨(some 19), .mv (.t 18), none, [18]⟩,
 ⟨(some 20), .faddr 0 (.t 3), (some (19, false)), []⟩,
 ⟨(some 21), .load none (.t 20), (some (19, false)), [20]⟩,
 ⟨(some 22), .iasl 3 (.t 21) (.c (.i .i64 0)), (some (19, false)), [21]⟩,
 ⟨(some 23), .load (some 3) (.t 22), (some (19, false)), [22]⟩,
 ⟨(some 24), .mv (.t 2), (some (19, false)), [2]⟩,
 ⟨(some 25), .bld [(.s []), (.i .i64 0), (.b false)] [(0, 1, (.c (.s [108]))), (1, 1, (.t 24))], (some (19, false)), [24]⟩,
 ⟨(some 26), .eqc true [.s, .i, .b] true (.t 23) (.t 25), (some (19, false)), [23, 25]⟩,
 ⟨(some 27), .pick (.t 19) (.c (.b true)) (.t 26), none, [19, 26]⟩,
 ⟨(some 28), .mv (.t 27), none, [27]⟩,
 ⟨(some 29), .faddr 1 (.t 3), (some (28, false)), []⟩,
 ⟨(some 30), .load none (.t 29), (some (28, false)), [29]⟩,
 ⟨(some 31), .iasl 3 (.t 30) (.c (.i .i64 0)), (some (28, false)), [30]⟩,
 ⟨(some 32), .faddr 0 (.t 31), (some (28, false)), [31]⟩,
 ⟨(some 33), .load none (.t 32), (some (28, false)), [32]⟩,
 ⟨(some 34), .bin .neq (.t 33) (.c (.s [108])), (some (28, false)), [33]⟩,
 ⟨(some 35), .pick (.t 28) (.c (.b true)) (.t 34), none, [28, 34]⟩,
 ⟨(some 36), .mv (.t 35), none, [35]⟩,
 ⟨(some 37), .faddr 1 (.t 3), (some (36, false)), []⟩,
 ⟨(some 38), .load none (.t 37), (some (36, false)), [37]⟩,
 ⟨(some 39), .iasl 3 (.t 38) (.c (.i .i64 0)), (some (36, false)), [38]⟩,
 ⟨(some 40), .faddr 2 (.t 39), (some (36, false)), [39]⟩,
 ⟨(some 41), .load none (.t 40), (some (36, false)), [40]⟩,
 ⟨(some 42), .pick (.t 36) (.c (.b true)) (.t 41), none, [36, 41]⟩])
 (.cond (.t 42) (.seq (.reg [⟨(some 6), .asg (.c (.b false)), none, []⟩])
 .ret)
 .skip))
 (.seq (.reg [⟨(some 44), .faddr 1 (.t 3), none, [3]⟩,
 ⟨(some 45), .load none (.t 44), none, [44]⟩,
 ⟨(some 46), .iasl 3 (.t 45) (.c (.i .i64 0)), none, [45]⟩,
 ⟨(some 47), .faddr 1 (.t 46), none, [46]⟩,
 ⟨(some 48), .load none (.t 47), none, [47]⟩,
 ⟨(some 49), .call 26 [(.t 48)], none, [48]⟩,
 ⟨(some 43), .mv (.t 49), none, [49]⟩,
 ⟨(some 50), .ext (.t 43) 0, none, []⟩,
 ⟨(some 51), .ext (.t 43) 1, none, [43]⟩,
 ⟨(some 7), .alloc false [(.i .i64 0), (.i .i64 0)], none, []⟩,
 ⟨none, .store 2 (.t 7) (.t 50), none, [50]⟩,
 ⟨(some 8), .asg (.t 51), none, [51]⟩])
 (.seq (.reg [⟨(some 52), .mv (.t 8), none, [8]⟩,
 ⟨(some 53), .mv (.t 52), none, [52]⟩,
 ⟨(some 54), .load (some 2) (.t 7), (some (53, true)), [7]⟩,
 ⟨(some 55), .mv (.t 1), (some (53, true)), [1]⟩,
 ⟨(some 56), .bld [(.i .i64 0), (.i .i64 0)] [(0, 1, (.t 55)), (1, 1, (.c (.i .i64 1000)))], (some (53, true)), [55]⟩,
 ⟨(some 57), .eqc true [.i, .i] false (.t 54) (.t 56), (some (53, true)), [54, 56]⟩,
 ⟨(some 58), .pick (.t 53) (.t 57) (.c (.b false)), none, [53, 57]⟩,
 ⟨(some 6), .asg (.t 58), none, [58]⟩])
 .ret)))), [.t 6]⟩
/-- ( interrex/interrexref15.Elect).Leads -/
def f71 : AFn := ⟨2, (.seq (.reg [⟨(some 4), .asg (.c (.b false)), none, [4]⟩])
 (.seq (.reg [⟨(some 5), .mv (.t 0), none, []⟩,
 ⟨(some 6), .nilc (.t 5), none, [5]⟩,
 ⟨(some 7), .faddr 7 (.t 6), none, [6]⟩,
 ⟨(some 8), .load none (.t 7), none, [7]⟩,
 ⟨(some 9), .bin .gtr (.t 8) (.c (.i .i64 0)), none, [8]⟩,
 ⟨(some 10), .mv (.t 9), none, [9]⟩,
 ⟨(some 11), .mv (.t 1), (some (10, true)), [1]⟩,
 ⟨(some 12), .mv (.t 0), (some (10, true)), [0]⟩,
 ⟨(some 13), .nilc (.t 12), (some (10, true)), [12]⟩,
 ⟨(some 14), .faddr 8 (.t 13), (some (10, true)), [13]⟩,
 ⟨(some 15), .load none (.t 14), (some (10, true)), [14]⟩,
 ⟨(some 16), .call 109 [(.t 11), (.t 15)], (some (10, true)), [11, 15]⟩,
 ⟨(some 17), .pick (.t 10) (.t 16) (.c (.b false)), none, [10, 16]⟩,
 ⟨(some 4), .asg (.t 17), none, [17]⟩])
 .ret)), [.t 4]⟩
/-- interrex/interrexref1.Due -/
def f72 : AFn := ⟨2, (.seq (.reg [⟨(some 4), .asg (.c (.b false)), none, [4]⟩])
 (.seq (.reg [⟨(some 5), .mv (.t 0), none, [0]⟩,
 ⟨(some 6), .call 110 [(.t 5)], none, [5]⟩,
 ⟨(some 7), .mv (.t 1), none, [1]⟩,
 ⟨(some 8), .call 110 [(.t 7)], none, [7]⟩,
 ⟨(some 9), .bin .sub (.t 6) (.t 8), none, [6, 8]⟩,
 ⟨(some 10), .bin .geq (.t 9) (.c (.i .i64 300)), none, [9]⟩,
 ⟨(some 4), .asg (.t 10), none, [10]⟩])
 .ret)), [.t 4]⟩
/-- interrex/interrexref1.Free -/
def f73 : AFn := ⟨3, (.seq (.reg [⟨(some 6), .asg (.c (.b false)), none, [6]⟩])
 (.seq (.reg [⟨(some 7), .mv (.t 2), none, []⟩,
 ⟨(some 8), .bin .geq (.t 7) (.c (.i .i64 1)), none, [7]⟩,
 ⟨(some 9), .mv (.t 8), none, [8]⟩,
 ⟨(some 10), .mv (.t 2), (some (9, true)), []⟩,
 ⟨(some 11), .bin .leq (.t 10) (.c (.i .i64 1099511627776)), (some (9, true)), [10]⟩,
 ⟨(some 12), .pick (.t 9) (.t 11) (.c (.b false)), none, [9, 11]⟩,
 ⟨(some 13), .mv (.t 12), none, [12]⟩,
 ⟨(some 14), .mv (.t 0), (some (13, true)), [0]⟩,
 ⟨(some 15), .call 110 [(.t 14)], (some (13, true)), [14]⟩,
 ⟨(some 16), .mv (.t 1), (some (13, true)), [1]⟩,
 ⟨(some 17), .call 110 [(.t 16)], (some (13, true)), [16]⟩,
 ⟨(some 18), .bin .sub (.t 15) (.t 17), (some (13, true)), [15, 17]⟩,
 ⟨(some 19), .mv (.t 2), (some (13, true)), [2]⟩,
 ⟨(some 20), .bin .geq (.t 18) (.t 19), (some (13, true)), [18, 19]⟩,
 ⟨(some 21), .pick (.t 13) (.t 20) (.c (.b false)), none, [13, 20]⟩,
 ⟨(some 6), .asg (.t 21), none, [21]⟩])
 .ret)), [.t 6]⟩
/-- interrex/interrexref1.Leads -/
def f109 : AFn := ⟨2, (.seq (.reg [⟨(some 4), .asg (.c (.b false)), none, [4]⟩])
 (.seq (.reg [⟨(some 5), .mv (.t 0), none, [0]⟩,
 ⟨(some 6), .call 110 [(.t 5)], none, [5]⟩,
 ⟨(some 7), .mv (.t 1), none, [1]⟩,
 ⟨(some 8), .call 151 [(.t 7)], none, [7]⟩,
 ⟨(some 9), .bin .lss (.t 6) (.t 8), none, [6, 8]⟩,
 ⟨(some 4), .asg (.t 9), none, [9]⟩])
 .ret)), [.t 4]⟩
/-- interrex/interrexref1.clip -/
def f110 : AFn := ⟨1, (.seq (.reg [⟨(some 2), .asg (.c (.i .i64 0)), none, [2]⟩])
 (.seq (.reg [⟨(some 3), .mv (.t 0), none, [0]⟩,
 ⟨(some 4), .mnmx false [(.t 3), (.c (.i .i64 1152921504606846976))], none, [3]⟩,
 ⟨(some 5), .mnmx true [(.c (.i .i64 0)), (.t 4)], none, [4]⟩,
 ⟨(some 2), .asg (.t 5), none, [5]⟩])
 .ret)), [.t 2]⟩
/-- interrex/interrexref1.Until -/
def f151 : AFn := ⟨1, (.seq (.reg [⟨(some 2), .asg (.c (.i .i64 0)), none, [2]⟩])
 (.seq (.reg [⟨(some 3), .mv (.t 0), none, [0]⟩,
 ⟨(some 4), .call 110 [(.t 3)], none, [3]⟩,
 ⟨(some 5), .bin .add (.t 4) (.c (.i .i64 1000)), none, [4]⟩,
 ⟨(some 6), .bin .sub (.t 5) (.c (.i .i64 100)), none, [5]⟩,
 ⟨(some 2), .asg (.t 6), none, [6]⟩])
 .ret)), [.t 2]⟩
def s4 : FT := (.node (.node .nil 3 f3 .nil) 4 f4 (.node .nil 5 f5 .nil))
def s28 : FT := (.node (.node .nil 7 f7 .nil) 28 f28 (.node .nil 29 f29 .nil))
def s72 : FT := (.node (.node .nil 71 f71 .nil) 72 f72 (.node .nil 73 f73 .nil))
def s151 : FT := (.node (.node .nil 110 f110 .nil) 151 f151 .nil)
def gns : FT :=
  (.node (.node s4 6 f6 s28) 30 f30 (.node s72 109 f109 s151))
end Go.Eng.AF
