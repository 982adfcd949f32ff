/-
Functions' abstract texts.
-/
import Derived.Test.YtjoaahnmbonboaaGreatEngExec
set_option maxRecDepth 100000
namespace Go.Eng.AF
open Go Go.Eng
/-- interrex/interrexlaw10.begun -/
def f11 : AFn := ⟨0, (.seq (.reg [⟨(some 0), .asg (.c (.b false)), none, [0]⟩])
 (.seq (.reg [⟨(some 17), .call 41 [(.c (.i .i64 2))], none, []⟩,
 ⟨(some 18), .call 37 [(.c (.i .i64 3))], none, []⟩,
 ⟨(some 19), .call 32 [], none, []⟩,
 ⟨(some 20), .call 12 [(.c (.i .i64 1))], none, []⟩,
 ⟨(some 21), .call 42 [], none, []⟩,
 ⟨(some 22), .call 19 [(.c (.i .i64 1))], none, []⟩,
 ⟨(some 1), .asg (.t 17), none, [17]⟩,
 ⟨(some 2), .asg (.t 18), none, [18]⟩,
 ⟨(some 3), .asg (.t 19), none, [19]⟩,
 ⟨(some 4), .asg (.t 20), none, [20]⟩,
 ⟨(some 5), .asg (.t 21), none, [21]⟩,
 ⟨(some 6), .asg (.t 22), none, [22]⟩])
 (.seq (.seq (.reg [⟨(some 23), .mv (.t 1), none, []⟩,
 ⟨(some 24), .eqn false (.t 23) (.c .nilp), none, [23]⟩,
 ⟨(some 25), .mv (.t 24), none, [24]⟩,
 ⟨(some 26), .mv (.t 2), (some (25, false)), []⟩,
 ⟨(some 27), .eqn false (.t 26) (.c .nilp), (some (25, false)), [26]⟩,
 ⟨(some 28), .pick (.t 25) (.c (.b true)) (.t 27), none, [25, 27]⟩,
 ⟨(some 29), .mv (.t 28), none, [28]⟩,
 ⟨(some 30), .mv (.t 3), (some (29, false)), []⟩,
 ⟨(some 31), .eqn false (.t 30) (.c .nilp), (some (29, false)), [30]⟩,
 ⟨(some 32), .pick (.t 29) (.c (.b true)) (.t 31), none, [29, 31]⟩,
 ⟨(some 33), .mv (.t 32), none, [32]⟩,
 ⟨(some 34), .mv (.t 4), (some (33, false)), []⟩,
 ⟨(some 35), .eqn false (.t 34) (.c .nilp), (some (33, false)), [34]⟩,
 ⟨(some 36), .pick (.t 33) (.c (.b true)) (.t 35), none, [33, 35]⟩,
 ⟨(some 37), .mv (.t 36), none, [36]⟩,
 ⟨(some 38), .mv (.t 5), (some (37, false)), []⟩,
 ⟨(some 39), .eqn false (.t 38) (.c .nilp), (some (37, false)), [38]⟩,
 ⟨(some 40), .pick (.t 37) (.c (.b true)) (.t 39), none, [37, 39]⟩,
 ⟨(some 41), .mv (.t 40), none, [40]⟩,
 ⟨(some 42), .mv (.t 6), (some (41, false)), []⟩,
 ⟨(some 43), .eqn false (.t 42) (.c .nilp), (some (41, false)), [42]⟩,
 ⟨(some 44), .pick (.t 41) (.c (.b true)) (.t 43), none, [41, 43]⟩])
 (.cond (.t 44) (.seq (.reg [⟨(some 0), .asg (.c (.b false)), none, []⟩])
 .ret)
 .skip))
 (.seq (.reg [⟨(some 45), .mv (.t 1), none, []⟩,
 ⟨(some 46), .bsl (.im false) 1 2 [(.i .i64 0)] [(0, (.c (.i .i64 5))), (1, (.c (.i .i64 9)))], none, []⟩,
 ⟨(some 47), .call 43 [(.t 45), (.t 46)], none, [45, 46]⟩,
 ⟨(some 7), .asg (.t 47), none, [47]⟩])
 (.seq (.reg [⟨(some 48), .mv (.t 2), none, []⟩,
 ⟨(some 49), .bsl (.im false) 1 1 [(.i .u8 0)] [(0, (.c (.i .u8 120)))], none, []⟩,
 ⟨(some 50), .mkb (.t 49), none, [49]⟩,
 ⟨(some 51), .bld [(.b false), (.i .i64 0), .nils] [(1, 1, (.c (.i .i64 1))), (2, 1, (.t 50))], none, [50]⟩,
 ⟨(some 52), .call 39 [(.t 48), (.t 51)], none, [48, 51]⟩,
 ⟨(some 8), .asg (.t 52), none, [52]⟩])
 (.seq (.reg [⟨(some 54), .mv (.t 4), none, []⟩,
 ⟨(some 55), .call 13 [(.t 54), (.c (.i .i64 0))], none, [54]⟩,
 ⟨(some 53), .mv (.t 55), none, [55]⟩,
 ⟨(some 56), .ext (.t 53) 0, none, []⟩,
 ⟨(some 57), .ext (.t 53) 1, none, [53]⟩,
 ⟨(some 9), .alloc false [(.i .i64 0), (.i .i64 0), (.i .i64 0), (.s []), (.i .i64 0), .nils, .nils], none, []⟩,
 ⟨none, .store 7 (.t 9) (.t 56), none, [56]⟩,
 ⟨(some 10), .asg (.t 57), none, [57]⟩])
 (.seq (.dreg [⟨0, ⟨(some 58), .mv (.t 4), none, []⟩, false, []⟩,
 ⟨1, ⟨(some 59), .faddr 1 (.t 9), none, []⟩, false, []⟩,
 ⟨2, ⟨(some 60), .load none (.t 59), none, []⟩, false, []⟩,
 ⟨3, ⟨(some 61), .bld [(.i .i64 0), (.i .i64 0)] [(0, 1, (.c (.i .i64 1))), (1, 1, (.c (.i .i64 1000)))], none, []⟩, false, []⟩,
 ⟨4, ⟨(some 62), .call 44 [(.t 61)], none, []⟩, true, [2]⟩,
 ⟨5, ⟨(some 63), .bld [(.s []), (.i .i64 0), .nils] [(0, 1, (.c (.s [108]))), (1, 1, (.c (.i .i64 2))), (2, 1, (.t 62))], none, []⟩, false, []⟩,
 ⟨6, ⟨(some 64), .bsl (.im false) 3 1 [(.s []), (.i .i64 0), .nils] [(0, (.t 63))], none, []⟩, true, [2]⟩,
 ⟨7, ⟨(some 65), .bld [(.i .i64 0), (.i .i64 0), (.i .i64 0), (.i .i64 0), (.i .i64 0), .nils, .nils] [(0, 1, (.c (.i .i64 1))), (1, 1, (.t 60)), (2, 1, (.c (.i .i64 2))), (4, 1, (.c (.i .i64 4))), (5, 1, (.t 64))], none, []⟩, false, []⟩,
 ⟨8, ⟨(some 66), .call 14 [(.t 58), (.t 65)], none, []⟩, true, []⟩,
 ⟨9, ⟨(some 11), .asg (.t 66), none, []⟩, false, []⟩] [58, 59, 60, 61, 62, 63, 64, 65, 66])
 (.seq (.reg [⟨(some 67), .mv (.t 5), none, []⟩,
 ⟨(some 68), .bld [(.s []), (.s []), .nils] [(0, 1, (.c (.s [97]))), (1, 1, (.c (.s [110])))], none, []⟩,
 ⟨(some 69), .call 45 [(.t 67), (.t 68), (.c (.i .i64 7)), (.c (.i .i64 3)), (.c (.i .i64 100))], none, [67, 68]⟩,
 ⟨(some 12), .asg (.t 69), none, [69]⟩])
 (.seq (.reg [⟨(some 70), .mv (.t 6), none, []⟩,
 ⟨(some 71), .bld [(.i .i64 0), (.i .i64 0)] [], none, []⟩,
 ⟨(some 72), .call 20 [(.t 70), (.c (.i .i64 0)), (.c (.i .i64 0)), (.t 71), (.c (.b false))], none, [70, 71, 72]⟩])
 (.seq (.reg [⟨(some 74), .mv (.t 6), none, []⟩,
 ⟨(some 75), .call 21 [(.t 74), (.c (.i .i64 10))], none, [74]⟩,
 ⟨(some 73), .mv (.t 75), none, [75]⟩,
 ⟨(some 76), .ext (.t 73) 0, none, []⟩,
 ⟨(some 77), .ext (.t 73) 1, none, [73]⟩,
 ⟨(some 13), .alloc false [.nils, .nils], none, []⟩,
 ⟨none, .store 2 (.t 13) (.t 76), none, [76]⟩,
 ⟨(some 14), .asg (.t 77), none, [77]⟩])
 (.seq (.reg [⟨(some 78), .mv (.t 6), none, []⟩,
 ⟨(some 79), .call 23 [(.t 78), (.c (.i .i64 20)), (.c (.i .i64 6)), (.c (.i .i64 0))], none, [78, 79]⟩])
 (.seq (.reg [⟨(some 81), .call 48 [], none, []⟩,
 ⟨(some 82), .call 47 [(.t 81)], none, [81]⟩,
 ⟨(some 83), .bld [(.s []), (.i .i64 0), .nils] [(0, 1, (.c (.s [112, 47, 97]))), (1, 1, (.c (.i .i64 1))), (2, 1, (.t 82))], none, [82]⟩,
 ⟨(some 84), .bsl (.im false) 3 1 [(.s []), (.i .i64 0), .nils] [(0, (.t 83))], none, [83]⟩,
 ⟨(some 85), .call 46 [(.t 84)], none, [84]⟩,
 ⟨(some 80), .mv (.t 85), none, [85]⟩,
 ⟨(some 86), .ext (.t 80) 0, none, []⟩,
 ⟨(some 87), .ext (.t 80) 1, none, [80]⟩,
 ⟨(some 15), .alloc false [.nils, .nils], none, []⟩,
 ⟨none, .store 2 (.t 15) (.t 86), none, [86]⟩,
 ⟨(some 16), .asg (.t 87), none, [87]⟩])
 (.seq (.reg [⟨(some 88), .call 49 [], none, []⟩,
 ⟨(some 89), .mv (.t 88), none, [88]⟩,
 ⟨(some 90), .mv (.t 7), (some (89, true)), [7]⟩,
 ⟨(some 91), .pick (.t 89) (.t 90) (.c (.b false)), none, [89, 90]⟩,
 ⟨(some 92), .mv (.t 91), none, [91]⟩,
 ⟨(some 93), .mv (.t 1), (some (92, true)), []⟩,
 ⟨(some 94), .call 50 [(.t 93), (.c (.i .i64 1))], (some (92, true)), [93]⟩,
 ⟨(some 95), .bin .eql (.t 94) (.c (.i .i64 9)), (some (92, true)), [94]⟩,
 ⟨(some 96), .pick (.t 92) (.t 95) (.c (.b false)), none, [92, 95]⟩,
 ⟨(some 97), .mv (.t 96), none, [96]⟩,
 ⟨(some 98), .mv (.t 1), (some (97, true)), [1]⟩,
 ⟨(some 99), .call 51 [(.t 98)], (some (97, true)), [98]⟩,
 ⟨(some 100), .bin .eql (.t 99) (.c (.i .i64 4)), (some (97, true)), [99]⟩,
 ⟨(some 101), .pick (.t 97) (.t 100) (.c (.b false)), none, [97, 100]⟩,
 ⟨(some 102), .mv (.t 101), none, [101]⟩,
 ⟨(some 103), .mv (.t 8), (some (102, true)), [8]⟩,
 ⟨(some 104), .pick (.t 102) (.t 103) (.c (.b false)), none, [102, 103]⟩,
 ⟨(some 105), .mv (.t 104), none, [104]⟩,
 ⟨(some 106), .mv (.t 2), (some (105, true)), [2]⟩,
 ⟨(some 107), .call 38 [(.t 106)], (some (105, true)), [106]⟩,
 ⟨(some 108), .bin .eql (.t 107) (.c (.i .i64 1)), (some (105, true)), [107]⟩,
 ⟨(some 109), .pick (.t 105) (.t 108) (.c (.b false)), none, [105, 108]⟩,
 ⟨(some 110), .mv (.t 109), none, [109]⟩,
 ⟨(some 111), .mv (.t 10), (some (110, true)), [10]⟩,
 ⟨(some 112), .pick (.t 110) (.t 111) (.c (.b false)), none, [110, 111]⟩,
 ⟨(some 113), .mv (.t 112), none, [112]⟩,
 ⟨(some 114), .faddr 2 (.t 9), (some (113, true)), [9]⟩,
 ⟨(some 115), .load none (.t 114), (some (113, true)), [114]⟩,
 ⟨(some 116), .bin .eql (.t 115) (.c (.i .i64 2)), (some (113, true)), [115]⟩,
 ⟨(some 117), .pick (.t 113) (.t 116) (.c (.b false)), none, [113, 116]⟩,
 ⟨(some 118), .mv (.t 117), none, [117]⟩,
 ⟨(some 119), .mv (.t 11), (some (118, true)), [11]⟩,
 ⟨(some 120), .pick (.t 118) (.t 119) (.c (.b false)), none, [118, 119]⟩,
 ⟨(some 121), .mv (.t 120), none, [120]⟩,
 ⟨(some 122), .mv (.t 4), (some (121, true)), []⟩,
 ⟨(some 123), .call 15 [(.t 122)], (some (121, true)), [122]⟩,
 ⟨(some 124), .call 16 [(.t 123)], (some (121, true)), [123]⟩,
 ⟨(some 125), .bin .eql (.t 124) (.c (.i .i64 4)), (some (121, true)), [124]⟩,
 ⟨(some 126), .pick (.t 121) (.t 125) (.c (.b false)), none, [121, 125]⟩,
 ⟨(some 127), .mv (.t 126), none, [126]⟩,
 ⟨(some 128), .mv (.t 4), (some (127, true)), [4]⟩,
 ⟨(some 129), .call 17 [(.t 128)], (some (127, true)), [128]⟩,
 ⟨(some 130), .bin .eql (.t 129) (.c (.i .i64 1)), (some (127, true)), [129]⟩,
 ⟨(some 131), .pick (.t 127) (.t 130) (.c (.b false)), none, [127, 130]⟩,
 ⟨(some 132), .mv (.t 131), none, [131]⟩,
 ⟨(some 133), .mv (.t 12), (some (132, true)), [12]⟩,
 ⟨(some 134), .pick (.t 132) (.t 133) (.c (.b false)), none, [132, 133]⟩,
 ⟨(some 135), .mv (.t 134), none, [134]⟩,
 ⟨(some 136), .mv (.t 5), (some (135, true)), [5]⟩,
 ⟨(some 137), .call 52 [(.t 136), (.c (.s [97]))], (some (135, true)), [136]⟩,
 ⟨(some 138), .pick (.t 135) (.t 137) (.c (.b false)), none, [135, 137]⟩,
 ⟨(some 139), .mv (.t 138), none, [138]⟩,
 ⟨(some 140), .mv (.t 14), (some (139, true)), [14]⟩,
 ⟨(some 141), .pick (.t 139) (.t 140) (.c (.b false)), none, [139, 140]⟩,
 ⟨(some 142), .mv (.t 141), none, [141]⟩,
 ⟨(some 143), .faddr 1 (.t 13), (some (142, true)), [13]⟩,
 ⟨(some 144), .load none (.t 143), (some (142, true)), [143]⟩,
 ⟨(some 145), .lenL (.t 144), (some (142, true)), [144]⟩,
 ⟨(some 146), .bin .eql (.t 145) (.c (.i .i64 1)), (some (142, true)), [145]⟩,
 ⟨(some 147), .pick (.t 142) (.t 146) (.c (.b false)), none, [142, 146]⟩,
 ⟨(some 148), .mv (.t 147), none, [147]⟩,
 ⟨(some 149), .mv (.t 6), (some (148, true)), []⟩,
 ⟨(some 150), .call 24 [(.t 149), (.c (.i .i64 20))], (some (148, true)), [149]⟩,
 ⟨(some 151), .pick (.t 148) (.t 150) (.c (.b false)), none, [148, 150]⟩,
 ⟨(some 152), .mv (.t 151), none, [151]⟩,
 ⟨(some 153), .mv (.t 6), (some (152, true)), [6]⟩,
 ⟨(some 154), .call 27 [(.t 153)], (some (152, true)), [153]⟩,
 ⟨(some 155), .bin .eql (.t 154) (.c (.i .i64 6)), (some (152, true)), [154]⟩,
 ⟨(some 156), .pick (.t 152) (.t 155) (.c (.b false)), none, [152, 155]⟩,
 ⟨(some 157), .mv (.t 156), none, [156]⟩,
 ⟨(some 158), .call 53 [(.c (.i .i64 0))], (some (157, true)), []⟩,
 ⟨(some 159), .bin .eql (.t 158) (.c (.i .i64 900)), (some (157, true)), [158]⟩,
 ⟨(some 160), .pick (.t 157) (.t 159) (.c (.b false)), none, [157, 159]⟩,
 ⟨(some 161), .mv (.t 160), none, [160]⟩,
 ⟨(some 162), .mv (.t 16), (some (161, true)), [16]⟩,
 ⟨(some 163), .pick (.t 161) (.t 162) (.c (.b false)), none, [161, 162]⟩,
 ⟨(some 164), .mv (.t 163), none, [163]⟩,
 ⟨(some 165), .faddr 1 (.t 15), (some (164, true)), [15]⟩,
 ⟨(some 166), .load none (.t 165), (some (164, true)), [165]⟩,
 ⟨(some 167), .lenL (.t 166), (some (164, true)), [166]⟩,
 ⟨(some 168), .bin .eql (.t 167) (.c (.i .i64 1)), (some (164, true)), [167]⟩,
 ⟨(some 169), .pick (.t 164) (.t 168) (.c (.b false)), none, [164, 168]⟩,
 ⟨(some 170), .mv (.t 169), none, [169]⟩,
 ⟨(some 171), .mv (.t 3), (some (170, true)), [3]⟩,
 ⟨(some 172), .call 16 [(.t 171)], (some (170, true)), [171]⟩,
 ⟨(some 173), .bin .eql (.t 172) (.c (.i .i64 (-1))), (some (170, true)), [172]⟩,
 ⟨(some 174), .pick (.t 170) (.t 173) (.c (.b false)), none, [170, 173]⟩,
 ⟨(some 0), .asg (.t 174), none, [174]⟩])
 .ret))))))))))))), [.t 0]⟩
/-- interrex/relist.New -/
def f12 : AFn := ⟨1, (.seq (.reg [⟨(some 2), .asg (.c .nilp), none, [2]⟩])
 (.seq (.seq (.reg [⟨(some 3), .mv (.t 0), none, []⟩,
 ⟨(some 4), .bin .lss (.t 3) (.c (.i .i64 0)), none, [3]⟩,
 ⟨(some 5), .mv (.t 4), none, [4]⟩,
 ⟨(some 6), .mv (.t 0), (some (5, false)), []⟩,
 ⟨(some 7), .bin .gtr (.t 6) (.c (.i .i64 7)), (some (5, false)), [6]⟩,
 ⟨(some 8), .pick (.t 5) (.c (.b true)) (.t 7), none, [5, 7]⟩])
 (.cond (.t 8) (.seq (.reg [⟨(some 2), .asg (.c .nilp), none, []⟩])
 .ret)
 .skip))
 (.seq (.reg [⟨(some 9), .mv (.t 0), none, [0]⟩,
 ⟨(some 10), .call 32 [], none, []⟩,
 ⟨(some 11), .bld [(.i .i64 0), (.i .i64 0), .nilp, (.b false), (.i .i64 0), (.i .i64 0), (.i .i64 0), (.s []), (.i .i64 0), .nils, .nils, (.i .i64 0), (.i .i64 0)] [(0, 1, (.t 9)), (2, 1, (.t 10))], none, [9, 10]⟩,
 ⟨(some 12), .box true (.t 11), none, [11]⟩,
 ⟨(some 2), .asg (.t 12), none, [12]⟩])
 .ret))), [.t 2]⟩
/-- ( interrex/relist.Relist).Want -/
def f13 : AFn := ⟨2, (.seq (.reg [⟨(some 4), .alloc false [(.i .i64 0), (.i .i64 0), (.i .i64 0), (.s []), (.i .i64 0), .nils, .nils], none, []⟩,
 ⟨(some 5), .asg (.c (.b false)), none, [5]⟩])
 (.seq (.seq (.reg [⟨(some 7), .mv (.t 0), none, []⟩,
 ⟨(some 8), .eqn false (.t 7) (.c .nilp), none, [7]⟩,
 ⟨(some 9), .mv (.t 8), none, [8]⟩,
 ⟨(some 10), .mv (.t 0), (some (9, false)), []⟩,
 ⟨(some 11), .nilc (.t 10), (some (9, false)), [10]⟩,
 ⟨(some 12), .faddr 3 (.t 11), (some (9, false)), [11]⟩,
 ⟨(some 13), .load none (.t 12), (some (9, false)), [12]⟩,
 ⟨(some 14), .mv (.t 13), (some (9, false)), [13]⟩,
 ⟨(some 15), .mv (.t 1), (some (14, true)), []⟩,
 ⟨(some 16), .mv (.t 0), (some (14, true)), []⟩,
 ⟨(some 17), .nilc (.t 16), (some (14, true)), [16]⟩,
 ⟨(some 18), .faddr 11 (.t 17), (some (14, true)), [17]⟩,
 ⟨(some 19), .load none (.t 18), (some (14, true)), [18]⟩,
 ⟨(some 20), .call 54 [(.t 15), (.t 19)], (some (14, true)), [15, 19]⟩,
 ⟨(some 21), .un .not (.t 20), (some (14, true)), [20]⟩,
 ⟨(some 22), .pick (.t 14) (.t 21) (.c (.b false)), (some (9, false)), [14, 21]⟩,
 ⟨(some 23), .pick (.t 9) (.c (.b true)) (.t 22), none, [9, 22]⟩])
 (.cond (.t 23) (.seq (.reg [⟨(some 24), .bld [(.i .i64 0), (.i .i64 0), (.i .i64 0), (.s []), (.i .i64 0), .nils, .nils] [], none, []⟩,
 ⟨none, .store 7 (.t 4) (.t 24), none, [24]⟩,
 ⟨(some 5), .asg (.c (.b false)), none, []⟩])
 .ret)
 .skip))
 (.seq (.reg [⟨(some 25), .mv (.t 0), none, []⟩,
 ⟨(some 26), .nilc (.t 25), none, []⟩,
 ⟨(some 27), .faddr 1 (.t 26), none, [26]⟩,
 ⟨(some 28), .load none (.t 27), none, [27]⟩,
 ⟨(some 29), .bin .add (.t 28) (.c (.i .i64 1)), none, [28]⟩,
 ⟨(some 30), .nilc (.t 25), none, [25]⟩,
 ⟨(some 31), .faddr 1 (.t 30), none, [30]⟩,
 ⟨none, .store 1 (.t 31) (.t 29), none, [31, 29]⟩])
 (.seq (.dreg [⟨0, ⟨(some 32), .mv (.t 0), none, []⟩, false, []⟩,
 ⟨1, ⟨(some 33), .mv (.t 0), none, []⟩, false, []⟩,
 ⟨2, ⟨(some 34), .nilc (.t 33), none, []⟩, false, []⟩,
 ⟨3, ⟨(some 35), .faddr 0 (.t 34), none, []⟩, false, []⟩,
 ⟨4, ⟨(some 36), .load none (.t 35), none, []⟩, false, []⟩,
 ⟨5, ⟨(some 37), .mv (.t 0), none, []⟩, false, []⟩,
 ⟨6, ⟨(some 38), .nilc (.t 37), none, []⟩, false, []⟩,
 ⟨7, ⟨(some 39), .faddr 1 (.t 38), none, []⟩, false, []⟩,
 ⟨8, ⟨(some 40), .load none (.t 39), none, []⟩, false, []⟩,
 ⟨9, ⟨(some 41), .bld [(.i .i64 0), (.i .i64 0), (.i .i64 0), (.s []), (.i .i64 0), .nils, .nils] [(0, 1, (.t 36)), (1, 1, (.t 40)), (2, 1, (.c (.i .i64 2)))], none, []⟩, false, []⟩,
 ⟨10, ⟨(some 42), .nilc (.t 32), none, []⟩, false, []⟩,
 ⟨11, ⟨(some 43), .faddr 4 (.t 42), none, []⟩, false, []⟩,
 ⟨12, ⟨none, .store 7 (.t 43) (.t 41), none, []⟩, true, []⟩] [32, 33, 34, 35, 36, 37, 38, 39, 40, 41, 42, 43])
 (.seq (.seq (.reg [⟨(some 44), .mv (.t 0), none, []⟩,
 ⟨(some 45), .nilc (.t 44), none, [44]⟩,
 ⟨(some 46), .faddr 2 (.t 45), none, [45]⟩,
 ⟨(some 47), .load none (.t 46), none, [46]⟩,
 ⟨(some 48), .call 16 [(.t 47)], none, [47]⟩,
 ⟨(some 6), .asg (.t 48), none, [48]⟩])
 (.seq (.reg [⟨(some 49), .mv (.t 6), none, []⟩,
 ⟨(some 50), .bin .geq (.t 49) (.c (.i .i64 0)), none, [49]⟩])
 (.cond (.t 50) (.reg [⟨(some 51), .mv (.t 0), none, []⟩,
 ⟨(some 52), .mv (.t 0), none, []⟩,
 ⟨(some 53), .mv (.t 6), none, [6]⟩,
 ⟨(some 54), .nilc (.t 51), none, [51]⟩,
 ⟨(some 55), .faddr 4 (.t 54), none, [54]⟩,
 ⟨(some 56), .faddr 2 (.t 55), none, [55]⟩,
 ⟨none, .store 1 (.t 56) (.c (.i .i64 3)), none, [56]⟩,
 ⟨(some 57), .nilc (.t 52), none, [52]⟩,
 ⟨(some 58), .faddr 4 (.t 57), none, [57]⟩,
 ⟨(some 59), .faddr 4 (.t 58), none, [58]⟩,
 ⟨none, .store 1 (.t 59) (.t 53), none, [59, 53]⟩])
 .skip)))
 (.seq (.reg [⟨(some 60), .mv (.t 0), none, []⟩,
 ⟨(some 61), .mv (.t 0), none, []⟩,
 ⟨(some 62), .mv (.t 1), none, [1]⟩,
 ⟨(some 63), .nilc (.t 60), none, [60]⟩,
 ⟨(some 64), .faddr 3 (.t 63), none, [63]⟩,
 ⟨none, .store 1 (.t 64) (.c (.b true)), none, [64]⟩,
 ⟨(some 65), .nilc (.t 61), none, [61]⟩,
 ⟨(some 66), .faddr 11 (.t 65), none, [65]⟩,
 ⟨none, .store 1 (.t 66) (.t 62), none, [66, 62]⟩])
 (.seq (.reg [⟨(some 67), .mv (.t 0), none, [0]⟩,
 ⟨(some 68), .nilc (.t 67), none, [67]⟩,
 ⟨(some 69), .faddr 4 (.t 68), none, [68]⟩,
 ⟨(some 70), .load (some 7) (.t 69), none, [69]⟩,
 ⟨none, .store 7 (.t 4) (.t 70), none, [70]⟩,
 ⟨(some 5), .asg (.c (.b true)), none, []⟩])
 .ret))))))), [.cell 4 (some 7), .t 5]⟩
/-- ( interrex/relist.Relist).Take -/
def f14 : AFn := ⟨2, (.seq (.reg [⟨(some 3), .box false (.t 1), none, [1]⟩,
 ⟨(some 4), .asg (.c (.b false)), none, [4]⟩])
 (.seq (.seq (.dreg [⟨0, ⟨(some 6), .mv (.t 0), none, []⟩, false, []⟩,
 ⟨1, ⟨(some 7), .eqn false (.t 6) (.c .nilp), none, []⟩, true, []⟩,
 ⟨2, ⟨(some 8), .mv (.t 7), none, []⟩, false, []⟩,
 ⟨3, ⟨(some 9), .mv (.t 0), (some (8, false)), []⟩, false, []⟩,
 ⟨4, ⟨(some 10), .nilc (.t 9), (some (8, false)), []⟩, false, []⟩,
 ⟨5, ⟨(some 11), .faddr 3 (.t 10), (some (8, false)), []⟩, false, []⟩,
 ⟨6, ⟨(some 12), .load none (.t 11), (some (8, false)), []⟩, false, []⟩,
 ⟨7, ⟨(some 13), .un .not (.t 12), (some (8, false)), []⟩, false, []⟩,
 ⟨8, ⟨(some 14), .pick (.t 8) (.c (.b true)) (.t 13), none, []⟩, false, []⟩,
 ⟨9, ⟨(some 15), .mv (.t 14), none, []⟩, false, []⟩,
 ⟨10, ⟨(some 16), .faddr 0 (.t 3), (some (15, false)), []⟩, false, []⟩,
 ⟨11, ⟨(some 17), .load none (.t 16), (some (15, false)), []⟩, false, []⟩,
 ⟨12, ⟨(some 18), .mv (.t 0), (some (15, false)), []⟩, false, []⟩,
 ⟨13, ⟨(some 19), .nilc (.t 18), (some (15, false)), []⟩, false, []⟩,
 ⟨14, ⟨(some 20), .faddr 0 (.t 19), (some (15, false)), []⟩, false, []⟩,
 ⟨15, ⟨(some 21), .load none (.t 20), (some (15, false)), []⟩, false, []⟩,
 ⟨16, ⟨(some 22), .bin .neq (.t 17) (.t 21), (some (15, false)), []⟩, false, []⟩,
 ⟨17, ⟨(some 23), .pick (.t 15) (.c (.b true)) (.t 22), none, []⟩, false, []⟩,
 ⟨18, ⟨(some 24), .mv (.t 23), none, []⟩, false, []⟩,
 ⟨19, ⟨(some 25), .faddr 1 (.t 3), (some (24, false)), []⟩, false, []⟩,
 ⟨20, ⟨(some 26), .load none (.t 25), (some (24, false)), []⟩, false, []⟩,
 ⟨21, ⟨(some 27), .mv (.t 0), (some (24, false)), []⟩, false, []⟩,
 ⟨22, ⟨(some 28), .nilc (.t 27), (some (24, false)), []⟩, false, []⟩,
 ⟨23, ⟨(some 29), .faddr 4 (.t 28), (some (24, false)), []⟩, false, []⟩,
 ⟨24, ⟨(some 30), .faddr 1 (.t 29), (some (24, false)), []⟩, false, []⟩,
 ⟨25, ⟨(some 31), .load none (.t 30), (some (24, false)), []⟩, false, []⟩,
 ⟨26, ⟨(some 32), .bin .neq (.t 26) (.t 31), (some (24, false)), []⟩, false, []⟩,
 ⟨27, ⟨(some 33), .pick (.t 24) (.c (.b true)) (.t 32), none, []⟩, false, []⟩,
 ⟨28, ⟨(some 34), .mv (.t 33), none, []⟩, false, []⟩,
 ⟨29, ⟨(some 35), .faddr 2 (.t 3), (some (34, false)), []⟩, false, []⟩,
 ⟨30, ⟨(some 36), .load none (.t 35), (some (34, false)), []⟩, false, []⟩,
 ⟨31, ⟨(some 37), .mv (.t 0), (some (34, false)), []⟩, false, []⟩,
 ⟨32, ⟨(some 38), .nilc (.t 37), (some (34, false)), []⟩, false, []⟩,
 ⟨33, ⟨(some 39), .faddr 4 (.t 38), (some (34, false)), []⟩, false, []⟩,
 ⟨34, ⟨(some 40), .faddr 2 (.t 39), (some (34, false)), []⟩, false, []⟩,
 ⟨35, ⟨(some 41), .load none (.t 40), (some (34, false)), []⟩, false, []⟩,
 ⟨36, ⟨(some 42), .bin .neq (.t 36) (.t 41), (some (34, false)), []⟩, false, []⟩,
 ⟨37, ⟨(some 43), .pick (.t 34) (.c (.b true)) (.t 42), none, []⟩, false, []⟩] [6, 7, 8, 9, 10, 11, 12, 13, 14, 15, 16, 17, 18, 19, 20, 21, 22, 23, 24, 25, 26, 27, 28, 29, 30, 31, 32, 33, 34, 35, 36, 37, 38, 39, 40, 41, 42])
 (.cond (.t 43) (.seq (.reg [⟨(some 4), .asg (.c (.b false)), none, []⟩])
 .ret)
 .skip))
 (.seq (.reg [⟨(some 44), .mv (.t 0), none, []⟩,
 ⟨(some 45), .nilc (.t 44), none, [44]⟩,
 ⟨(some 46), .faddr 3 (.t 45), none, [45]⟩,
 ⟨none, .store 1 (.t 46) (.c (.b false)), none, [46]⟩])
 (.seq (.blk 0 (.seq (.reg [⟨(some 48), .faddr 2 (.t 3), none, []⟩,
 ⟨(some 49), .load none (.t 48), none, [48]⟩,
 ⟨(some 50), .bin .eql (.t 49) (.c (.i .i64 2)), none, [49]⟩,
 ⟨(some 51), .mv (.t 50), none, [50]⟩,
 ⟨(some 52), .faddr 3 (.t 3), (some (51, true)), []⟩,
 ⟨(some 53), .load none (.t 52), (some (51, true)), [52]⟩,
 ⟨(some 54), .bin .eql (.t 53) (.c (.i .i64 0)), (some (51, true)), [53]⟩,
 ⟨(some 55), .pick (.t 51) (.t 54) (.c (.b false)), none, [51, 54]⟩,
 ⟨(some 47), .asg (.t 55), none, [55]⟩])
 (.cond (.t 47) (.seq (.dreg [⟨0, ⟨(some 56), .mv (.t 0), none, []⟩, false, []⟩,
 ⟨1, ⟨(some 57), .nilc (.t 56), none, []⟩, false, []⟩,
 ⟨2, ⟨(some 58), .faddr 2 (.t 57), none, []⟩, false, []⟩,
 ⟨3, ⟨(some 59), .load none (.t 58), none, []⟩, false, []⟩,
 ⟨4, ⟨(some 60), .faddr 4 (.t 3), none, []⟩, false, []⟩,
 ⟨5, ⟨(some 61), .load none (.t 60), none, []⟩, false, []⟩,
 ⟨6, ⟨(some 62), .faddr 5 (.t 3), none, []⟩, false, []⟩,
 ⟨7, ⟨(some 63), .load none (.t 62), none, []⟩, false, []⟩,
 ⟨8, ⟨(some 64), .call 33 [(.t 59), (.t 61), (.t 63)], none, []⟩, true, []⟩,
 ⟨9, ⟨(some 5), .asg (.t 64), none, []⟩, false, []⟩] [56, 57, 58, 59, 3, 60, 61, 62, 63, 64])
 (.seq (.seq (.reg [⟨(some 65), .mv (.t 5), none, []⟩])
 (.cond (.t 65) (.reg [⟨(some 66), .mv (.t 0), none, [0]⟩,
 ⟨(some 67), .nilc (.t 66), none, []⟩,
 ⟨(some 68), .faddr 12 (.t 67), none, [67]⟩,
 ⟨(some 69), .load none (.t 68), none, [68]⟩,
 ⟨(some 70), .bin .add (.t 69) (.c (.i .i64 1)), none, [69]⟩,
 ⟨(some 71), .nilc (.t 66), none, [66]⟩,
 ⟨(some 72), .faddr 12 (.t 71), none, [71]⟩,
 ⟨none, .store 1 (.t 72) (.t 70), none, [72, 70]⟩])
 .skip))
 (.seq (.reg [⟨(some 73), .mv (.t 5), none, [5]⟩,
 ⟨(some 4), .asg (.t 73), none, [73]⟩])
 .ret)))
 (.seq (.reg [⟨(some 75), .faddr 2 (.t 3), none, []⟩,
 ⟨(some 76), .load none (.t 75), none, [75]⟩,
 ⟨(some 77), .bin .eql (.t 76) (.c (.i .i64 3)), none, [76]⟩,
 ⟨(some 78), .mv (.t 77), none, [77]⟩,
 ⟨(some 79), .faddr 3 (.t 3), (some (78, true)), []⟩,
 ⟨(some 80), .load none (.t 79), (some (78, true)), [79]⟩,
 ⟨(some 81), .bin .eql (.t 80) (.c (.i .i64 0)), (some (78, true)), [80]⟩,
 ⟨(some 82), .mv (.t 81), (some (78, true)), [81]⟩,
 ⟨(some 83), .faddr 3 (.t 3), (some (82, false)), []⟩,
 ⟨(some 84), .load none (.t 83), (some (82, false)), [83]⟩,
 ⟨(some 85), .bin .eql (.t 84) (.c (.i .i64 7)), (some (82, false)), [84]⟩,
 ⟨(some 86), .pick (.t 82) (.c (.b true)) (.t 85), (some (78, true)), [82, 85]⟩,
 ⟨(some 87), .mv (.t 86), (some (78, true)), [86]⟩,
 ⟨(some 88), .faddr 3 (.t 3), (some (87, false)), []⟩,
 ⟨(some 89), .load none (.t 88), (some (87, false)), [88]⟩,
 ⟨(some 90), .bin .eql (.t 89) (.c (.i .i64 2)), (some (87, false)), [89]⟩,
 ⟨(some 91), .pick (.t 87) (.c (.b true)) (.t 90), (some (78, true)), [87, 90]⟩,
 ⟨(some 92), .pick (.t 78) (.t 91) (.c (.b false)), none, [78, 91]⟩,
 ⟨(some 74), .asg (.t 92), none, [92]⟩])
 (.cond (.t 74) (.seq (.seq (.dreg [⟨0, ⟨(some 93), .faddr 3 (.t 3), none, []⟩, false, []⟩,
 ⟨1, ⟨(some 94), .load none (.t 93), none, []⟩, false, []⟩,
 ⟨2, ⟨(some 95), .bin .eql (.t 94) (.c (.i .i64 0)), none, []⟩, false, []⟩,
 ⟨3, ⟨(some 96), .mv (.t 95), none, []⟩, false, []⟩,
 ⟨4, ⟨(some 97), .mv (.t 0), (some (96, true)), []⟩, false, []⟩,
 ⟨5, ⟨(some 98), .nilc (.t 97), (some (96, true)), []⟩, false, []⟩,
 ⟨6, ⟨(some 99), .faddr 2 (.t 98), (some (96, true)), []⟩, false, []⟩,
 ⟨7, ⟨(some 100), .load none (.t 99), (some (96, true)), []⟩, false, []⟩,
 ⟨8, ⟨(some 101), .mv (.t 0), (some (96, true)), []⟩, false, []⟩,
 ⟨9, ⟨(some 102), .nilc (.t 101), (some (96, true)), []⟩, false, []⟩,
 ⟨10, ⟨(some 103), .faddr 4 (.t 102), (some (96, true)), []⟩, false, []⟩,
 ⟨11, ⟨(some 104), .faddr 4 (.t 103), (some (96, true)), []⟩, false, []⟩,
 ⟨12, ⟨(some 105), .load none (.t 104), (some (96, true)), []⟩, false, []⟩,
 ⟨13, ⟨(some 106), .faddr 4 (.t 3), (some (96, true)), []⟩, false, []⟩,
 ⟨14, ⟨(some 107), .load none (.t 106), (some (96, true)), []⟩, false, []⟩,
 ⟨15, ⟨(some 108), .faddr 6 (.t 3), (some (96, true)), []⟩, false, []⟩,
 ⟨16, ⟨(some 109), .load none (.t 108), (some (96, true)), []⟩, false, []⟩,
 ⟨17, ⟨(some 110), .call 55 [(.t 100), (.t 105), (.t 107), (.t 109)], (some (96, true)), []⟩, true, []⟩,
 ⟨18, ⟨(some 111), .pick (.t 96) (.t 110) (.c (.b false)), none, []⟩, false, []⟩] [3, 93, 94, 95, 96, 97, 98, 99, 100, 101, 102, 103, 104, 105, 106, 107, 108, 109, 110])
 (.cond (.t 111) (.seq (.reg [⟨(some 4), .asg (.c (.b true)), none, []⟩])
 .ret)
 .skip))
 (.reg [⟨(some 112), .mv (.t 0), none, [0]⟩,
 ⟨(some 113), .nilc (.t 112), none, [112]⟩,
 ⟨(some 114), .faddr 2 (.t 113), none, [113]⟩,
 ⟨(some 115), .load none (.t 114), none, [114]⟩,
 ⟨(some 116), .call 56 [(.t 115)], none, [115, 116]⟩]))
 .skip)))))
 (.seq (.reg [⟨(some 4), .asg (.c (.b false)), none, []⟩])
 .ret))))), [.t 4]⟩
/-- ( interrex/relist.Relist).Cache -/
def f15 : AFn := ⟨1, (.seq (.reg [⟨(some 2), .asg (.c .nilp), none, [2]⟩])
 (.seq (.seq (.reg [⟨(some 3), .mv (.t 0), none, []⟩,
 ⟨(some 4), .eqn false (.t 3) (.c .nilp), none, [3]⟩])
 (.cond (.t 4) (.seq (.reg [⟨(some 2), .asg (.c .nilp), none, []⟩])
 .ret)
 .skip))
 (.seq (.reg [⟨(some 5), .mv (.t 0), none, [0]⟩,
 ⟨(some 6), .nilc (.t 5), none, [5]⟩,
 ⟨(some 7), .faddr 2 (.t 6), none, [6]⟩,
 ⟨(some 8), .load none (.t 7), none, [7]⟩,
 ⟨(some 2), .asg (.t 8), none, [8]⟩])
 .ret))), [.t 2]⟩
/-- ( interrex/cache.Cache).Rev -/
def f16 : AFn := ⟨1, (.seq (.reg [⟨(some 2), .asg (.c (.i .i64 0)), none, [2]⟩])
 (.seq (.seq (.reg [⟨(some 3), .mv (.t 0), none, []⟩,
 ⟨(some 4), .eqn false (.t 3) (.c .nilp), none, [3]⟩])
 (.cond (.t 4) (.seq (.reg [⟨(some 2), .asg (.c (.i .i64 (-1))), none, []⟩])
 .ret)
 .skip))
 (.seq (.reg [⟨(some 5), .mv (.t 0), none, [0]⟩,
 ⟨(some 6), .nilc (.t 5), none, [5]⟩,
 ⟨(some 7), .faddr 1 (.t 6), none, [6]⟩,
 ⟨(some 8), .load none (.t 7), none, [7]⟩,
 ⟨(some 2), .asg (.t 8), none, [8]⟩])
 .ret))), [.t 2]⟩
/-- ( interrex/relist.Relist).Fresh -/
def f17 : AFn := ⟨1, (.seq (.reg [⟨(some 2), .asg (.c (.i .i64 0)), none, [2]⟩])
 (.seq (.seq (.reg [⟨(some 3), .mv (.t 0), none, []⟩,
 ⟨(some 4), .eqn false (.t 3) (.c .nilp), none, [3]⟩])
 (.cond (.t 4) (.seq (.reg [⟨(some 2), .asg (.c (.i .i64 0)), none, []⟩])
 .ret)
 .skip))
 (.seq (.reg [⟨(some 5), .mv (.t 0), none, [0]⟩,
 ⟨(some 6), .nilc (.t 5), none, [5]⟩,
 ⟨(some 7), .faddr 12 (.t 6), none, [6]⟩,
 ⟨(some 8), .load none (.t 7), none, [7]⟩,
 ⟨(some 2), .asg (.t 8), none, [8]⟩])
 .ret))), [.t 2]⟩
/-- interrex/store.New -/
def f18 : AFn := ⟨0, (.seq (.reg [⟨(some 0), .asg (.c .nilp), none, [0]⟩])
 (.seq (.reg [⟨(some 1), .mkmap true none, none, []⟩,
 ⟨(some 2), .mkmap true none, none, []⟩,
 ⟨(some 3), .call 57 [(.c (.i .i64 64))], none, []⟩,
 ⟨(some 4), .bld [(.i .i64 0), .nilm, .nilm, .nilp, (.i .i64 0), (.i .i64 0)] [(1, 1, (.t 1)), (2, 1, (.t 2)), (3, 1, (.t 3))], none, [1, 2, 3]⟩,
 ⟨(some 5), .box true (.t 4), none, [4]⟩,
 ⟨(some 0), .asg (.t 5), none, [5]⟩])
 .ret)), [.t 0]⟩
/-- interrex/elect.New -/
def f19 : AFn := ⟨1, (.seq (.reg [⟨(some 2), .asg (.c .nilp), none, [2]⟩])
 (.seq (.seq (.reg [⟨(some 3), .mv (.t 0), none, []⟩,
 ⟨(some 4), .bin .lss (.t 3) (.c (.i .i64 0)), none, [3]⟩,
 ⟨(some 5), .mv (.t 4), none, [4]⟩,
 ⟨(some 6), .mv (.t 0), (some (5, false)), []⟩,
 ⟨(some 7), .bin .gtr (.t 6) (.c (.i .i64 7)), (some (5, false)), [6]⟩,
 ⟨(some 8), .pick (.t 5) (.c (.b true)) (.t 7), none, [5, 7]⟩])
 (.cond (.t 8) (.seq (.reg [⟨(some 2), .asg (.c .nilp), none, []⟩])
 .ret)
 .skip))
 (.seq (.reg [⟨(some 9), .mv (.t 0), none, [0]⟩,
 ⟨(some 10), .bld [(.i .i64 0), (.b false), (.b false), (.i .i64 0), (.i .i64 0), (.i .i64 0), (.i .i64 0), (.b false), (.i .i64 0), (.i .i64 0), (.i .i64 0)] [(0, 1, (.t 9))], none, [9]⟩,
 ⟨(some 11), .box true (.t 10), none, [10]⟩,
 ⟨(some 2), .asg (.t 11), none, [11]⟩])
 .ret))), [.t 2]⟩
/-- ( interrex/elect.Elect).See -/
def f20 : AFn := ⟨5, (.seq (.reg [⟨(some 8), .box false (.t 3), none, [3]⟩])
 (.seq (.seq (.reg [⟨(some 10), .mv (.t 0), none, []⟩,
 ⟨(some 11), .eqn false (.t 10) (.c .nilp), none, [10]⟩])
 (.cond (.t 11) .ret
 .skip))
 (.seq (.seq (.reg [⟨(some 12), .mv (.t 4), none, []⟩,
 ⟨(some 13), .un .not (.t 12), none, [12]⟩])
 (.cond (.t 13) (.reg [⟨(some 14), .bld [(.i .i64 0), (.i .i64 0)] [], none, []⟩,
 ⟨(some 2), .asg (.c (.i .i64 0)), none, []⟩,
 ⟨none, .store 2 (.t 8) (.t 14), none, [14]⟩])
 .skip))
 (.seq (.seq (.reg [⟨(some 15), .mv (.t 0), none, []⟩,
 ⟨(some 16), .nilc (.t 15), none, [15]⟩,
 ⟨(some 17), .faddr 1 (.t 16), none, [16]⟩,
 ⟨(some 18), .load none (.t 17), none, [17]⟩,
 ⟨(some 19), .mv (.t 18), none, [18]⟩,
 ⟨(some 20), .mv (.t 2), (some (19, true)), []⟩,
 ⟨(some 21), .mv (.t 0), (some (19, true)), []⟩,
 ⟨(some 22), .nilc (.t 21), (some (19, true)), [21]⟩,
 ⟨(some 23), .faddr 3 (.t 22), (some (19, true)), [22]⟩,
 ⟨(some 24), .load none (.t 23), (some (19, true)), [23]⟩,
 ⟨(some 25), .bin .lss (.t 20) (.t 24), (some (19, true)), [20, 24]⟩,
 ⟨(some 26), .pick (.t 19) (.t 25) (.c (.b false)), none, [19, 25]⟩])
 (.cond (.t 26) .ret
 .skip))
 (.seq (.seq (.reg [⟨(some 27), .mv (.t 0), none, []⟩,
 ⟨(some 28), .nilc (.t 27), none, [27]⟩,
 ⟨(some 29), .faddr 1 (.t 28), none, [28]⟩,
 ⟨(some 30), .load none (.t 29), none, [29]⟩,
 ⟨(some 31), .un .not (.t 30), none, [30]⟩,
 ⟨(some 32), .mv (.t 31), none, [31]⟩,
 ⟨(some 33), .mv (.t 2), (some (32, false)), []⟩,
 ⟨(some 34), .mv (.t 0), (some (32, false)), []⟩,
 ⟨(some 35), .nilc (.t 34), (some (32, false)), [34]⟩,
 ⟨(some 36), .faddr 3 (.t 35), (some (32, false)), [35]⟩,
 ⟨(some 37), .load none (.t 36), (some (32, false)), [36]⟩,
 ⟨(some 38), .bin .neq (.t 33) (.t 37), (some (32, false)), [33, 37]⟩,
 ⟨(some 39), .pick (.t 32) (.c (.b true)) (.t 38), none, [32, 38]⟩])
 (.cond (.t 39) (.reg [⟨(some 40), .mv (.t 0), none, []⟩,
 ⟨(some 41), .mv (.t 1), none, [1]⟩,
 ⟨(some 42), .nilc (.t 40), none, [40]⟩,
 ⟨(some 43), .faddr 6 (.t 42), none, [42]⟩,
 ⟨none, .store 1 (.t 43) (.t 41), none, [43, 41]⟩])
 .skip))
 (.seq (.dreg [⟨0, ⟨(some 44), .mv (.t 0), none, []⟩, false, []⟩,
 ⟨1, ⟨(some 45), .mv (.t 0), none, []⟩, false, []⟩,
 ⟨2, ⟨(some 46), .mv (.t 0), none, []⟩, false, []⟩,
 ⟨3, ⟨(some 47), .mv (.t 0), none, []⟩, false, []⟩,
 ⟨4, ⟨(some 48), .mv (.t 4), none, []⟩, false, []⟩,
 ⟨5, ⟨(some 49), .mv (.t 2), none, []⟩, false, []⟩,
 ⟨6, ⟨(some 50), .load (some 2) (.t 8), none, []⟩, false, []⟩,
 ⟨7, ⟨(some 51), .nilc (.t 44), none, []⟩, false, []⟩,
 ⟨8, ⟨(some 52), .faddr 1 (.t 51), none, []⟩, false, []⟩,
 ⟨9, ⟨none, .store 1 (.t 52) (.c (.b true)), none, []⟩, true, [6]⟩,
 ⟨10, ⟨(some 53), .nilc (.t 45), none, []⟩, false, []⟩,
 ⟨11, ⟨(some 54), .faddr 2 (.t 53), none, []⟩, false, []⟩,
 ⟨12, ⟨none, .store 1 (.t 54) (.t 48), none, []⟩, true, [6]⟩,
 ⟨13, ⟨(some 55), .nilc (.t 46), none, []⟩, false, []⟩,
 ⟨14, ⟨(some 56), .faddr 3 (.t 55), none, []⟩, false, []⟩,
 ⟨15, ⟨none, .store 1 (.t 56) (.t 49), none, []⟩, true, [6]⟩,
 ⟨16, ⟨(some 57), .nilc (.t 47), none, []⟩, false, []⟩,
 ⟨17, ⟨(some 58), .faddr 4 (.t 57), none, []⟩, false, []⟩,
 ⟨18, ⟨none, .store 2 (.t 58) (.t 50), none, []⟩, true, []⟩] [44, 45, 46, 47, 48, 49, 50, 51, 52, 53, 54, 55, 56, 57, 58])
 (.seq (.dreg [⟨0, ⟨(some 59), .mv (.t 0), none, []⟩, false, []⟩,
 ⟨1, ⟨(some 60), .nilc (.t 59), none, []⟩, false, []⟩,
 ⟨2, ⟨(some 61), .faddr 9 (.t 60), none, []⟩, false, []⟩,
 ⟨3, ⟨(some 62), .load none (.t 61), none, []⟩, false, []⟩,
 ⟨4, ⟨(some 63), .bin .gtr (.t 62) (.c (.i .i64 0)), none, []⟩, false, []⟩,
 ⟨5, ⟨(some 64), .mv (.t 63), none, []⟩, false, []⟩,
 ⟨6, ⟨(some 65), .mv (.t 0), (some (64, true)), []⟩, false, []⟩,
 ⟨7, ⟨(some 66), .nilc (.t 65), (some (64, true)), []⟩, false, []⟩,
 ⟨8, ⟨(some 67), .faddr 9 (.t 66), (some (64, true)), []⟩, false, []⟩,
 ⟨9, ⟨(some 68), .load none (.t 67), (some (64, true)), []⟩, false, []⟩,
 ⟨10, ⟨(some 69), .mv (.t 2), (some (64, true)), []⟩, false, []⟩,
 ⟨11, ⟨(some 70), .bin .lss (.t 68) (.t 69), (some (64, true)), []⟩, false, []⟩,
 ⟨12, ⟨(some 71), .pick (.t 64) (.t 70) (.c (.b false)), none, []⟩, false, []⟩,
 ⟨13, ⟨(some 72), .mv (.t 71), none, []⟩, false, []⟩,
 ⟨14, ⟨(some 73), .mv (.t 4), (some (72, true)), []⟩, false, []⟩,
 ⟨15, ⟨(some 74), .un .not (.t 73), (some (72, true)), []⟩, false, []⟩,
 ⟨16, ⟨(some 75), .mv (.t 74), (some (72, true)), []⟩, false, []⟩,
 ⟨17, ⟨(some 76), .faddr 0 (.t 8), (some (75, false)), []⟩, false, []⟩,
 ⟨18, ⟨(some 77), .load none (.t 76), (some (75, false)), []⟩, false, []⟩,
 ⟨19, ⟨(some 78), .mv (.t 0), (some (75, false)), []⟩, false, []⟩,
 ⟨20, ⟨(some 79), .nilc (.t 78), (some (75, false)), []⟩, false, []⟩,
 ⟨21, ⟨(some 80), .faddr 0 (.t 79), (some (75, false)), []⟩, false, []⟩,
 ⟨22, ⟨(some 81), .load none (.t 80), (some (75, false)), []⟩, false, []⟩,
 ⟨23, ⟨(some 82), .bin .neq (.t 77) (.t 81), (some (75, false)), []⟩, false, []⟩,
 ⟨24, ⟨(some 83), .pick (.t 75) (.c (.b true)) (.t 82), (some (72, true)), []⟩, false, []⟩,
 ⟨25, ⟨(some 84), .pick (.t 72) (.t 83) (.c (.b false)), none, []⟩, false, []⟩] [59, 60, 61, 62, 63, 64, 65, 66, 67, 68, 2, 69, 70, 71, 72, 4, 73, 74, 75, 8, 76, 77, 78, 79, 80, 81, 82, 83])
 (.cond (.t 84) (.reg [⟨(some 85), .mv (.t 0), none, [0]⟩,
 ⟨(some 86), .call 58 [(.t 85)], none, [85, 86]⟩])
 .skip)))))))), []⟩
/-- ( interrex/elect.Elect).Want -/
def f21 : AFn := ⟨2, (.seq (.reg [⟨(some 4), .alloc false [.nils, .nils], none, []⟩,
 ⟨(some 5), .asg (.c (.b false)), none, [5]⟩])
 (.seq (.seq (.reg [⟨(some 8), .mv (.t 0), none, []⟩,
 ⟨(some 9), .eqn false (.t 8) (.c .nilp), none, [8]⟩,
 ⟨(some 10), .mv (.t 9), none, [9]⟩,
 ⟨(some 11), .mv (.t 0), (some (10, false)), []⟩,
 ⟨(some 12), .nilc (.t 11), (some (10, false)), [11]⟩,
 ⟨(some 13), .faddr 7 (.t 12), (some (10, false)), [12]⟩,
 ⟨(some 14), .load none (.t 13), (some (10, false)), [13]⟩,
 ⟨(some 15), .mv (.t 14), (some (10, false)), [14]⟩,
 ⟨(some 16), .mv (.t 1), (some (15, true)), []⟩,
 ⟨(some 17), .mv (.t 0), (some (15, true)), []⟩,
 ⟨(some 18), .nilc (.t 17), (some (15, true)), [17]⟩,
 ⟨(some 19), .faddr 8 (.t 18), (some (15, true)), [18]⟩,
 ⟨(some 20), .load none (.t 19), (some (15, true)), [19]⟩,
 ⟨(some 21), .call 59 [(.t 16), (.t 20)], (some (15, true)), [16, 20]⟩,
 ⟨(some 22), .un .not (.t 21), (some (15, true)), [21]⟩,
 ⟨(some 23), .pick (.t 15) (.t 22) (.c (.b false)), (some (10, false)), [15, 22]⟩,
 ⟨(some 24), .pick (.t 10) (.c (.b true)) (.t 23), none, [10, 23]⟩])
 (.cond (.t 24) (.seq (.reg [⟨(some 25), .bld [.nils, .nils] [], none, []⟩,
 ⟨none, .store 2 (.t 4) (.t 25), none, [25]⟩,
 ⟨(some 5), .asg (.c (.b false)), none, []⟩])
 .ret)
 .skip))
 (.seq (.reg [⟨(some 26), .mv (.t 0), none, []⟩,
 ⟨(some 27), .nilc (.t 26), none, [26]⟩,
 ⟨(some 28), .faddr 7 (.t 27), none, [27]⟩,
 ⟨none, .store 1 (.t 28) (.c (.b false)), none, [28]⟩])
 (.seq (.seq (.reg [⟨(some 29), .mv (.t 0), none, []⟩,
 ⟨(some 30), .mv (.t 1), none, []⟩,
 ⟨(some 31), .call 60 [(.t 29), (.t 30)], none, [29, 30]⟩,
 ⟨(some 32), .un .not (.t 31), none, [31]⟩])
 (.cond (.t 32) (.seq (.reg [⟨(some 33), .bld [.nils, .nils] [], none, []⟩,
 ⟨none, .store 2 (.t 4) (.t 33), none, [33]⟩,
 ⟨(some 5), .asg (.c (.b false)), none, []⟩])
 .ret)
 .skip))
 (.seq (.reg [⟨(some 34), .mv (.t 0), none, []⟩,
 ⟨(some 35), .mv (.t 0), none, []⟩,
 ⟨(some 36), .mv (.t 1), none, [1]⟩,
 ⟨(some 37), .nilc (.t 34), none, [34]⟩,
 ⟨(some 38), .faddr 7 (.t 37), none, [37]⟩,
 ⟨none, .store 1 (.t 38) (.c (.b true)), none, [38]⟩,
 ⟨(some 39), .nilc (.t 35), none, [35]⟩,
 ⟨(some 40), .faddr 8 (.t 39), none, [39]⟩,
 ⟨none, .store 1 (.t 40) (.t 36), none, [40, 36]⟩])
 (.seq (.reg [⟨(some 41), .call 61 [(.c (.i .i64 3)), (.c (.s []))], none, []⟩,
 ⟨(some 6), .asg (.t 41), none, [41]⟩])
 (.seq (.reg [⟨(some 42), .mv (.t 0), none, []⟩,
 ⟨(some 43), .nilc (.t 42), none, [42]⟩,
 ⟨(some 44), .faddr 0 (.t 43), none, [43]⟩,
 ⟨(some 45), .load none (.t 44), none, [44]⟩,
 ⟨(some 46), .bld [(.i .i64 0), (.i .i64 0)] [(0, 1, (.t 45)), (1, 1, (.c (.i .i64 1000)))], none, [45]⟩,
 ⟨(some 47), .call 44 [(.t 46)], none, [46]⟩,
 ⟨(some 7), .asg (.t 47), none, [47]⟩])
 (.seq (.reg [⟨(some 48), .mv (.t 6), none, []⟩,
 ⟨(some 49), .mv (.t 0), none, [0]⟩,
 ⟨(some 50), .nilc (.t 49), none, [49]⟩,
 ⟨(some 51), .faddr 3 (.t 50), none, [50]⟩,
 ⟨(some 52), .load none (.t 51), none, [51]⟩,
 ⟨(some 53), .bld [(.s []), (.i .i64 0), (.b false)] [(0, 1, (.t 48)), (1, 1, (.t 52))], none, [48, 52]⟩,
 ⟨(some 54), .bsl (.im false) 3 1 [(.s []), (.i .i64 0), (.b false)] [(0, (.t 53))], none, [53]⟩,
 ⟨(some 55), .mv (.t 6), none, [6]⟩,
 ⟨(some 56), .mv (.t 7), none, [7]⟩,
 ⟨(some 57), .bld [(.s []), .nils, (.b false)] [(0, 1, (.t 55)), (1, 1, (.t 56))], none, [55, 56]⟩,
 ⟨(some 58), .bsl (.im false) 3 1 [(.s []), .nils, (.b false)] [(0, (.t 57))], none, [57]⟩,
 ⟨(some 59), .bld [.nils, .nils] [(0, 1, (.t 54)), (1, 1, (.t 58))], none, [54, 58]⟩,
 ⟨none, .store 2 (.t 4) (.t 59), none, [59]⟩,
 ⟨(some 5), .asg (.c (.b true)), none, []⟩])
 .ret)))))))), [.cell 4 (some 2), .t 5]⟩
/-- ( interrex/store.Store).Txn -/
def f22 : AFn := ⟨2, (.seq (.reg [⟨(some 3), .box false (.t 1), none, [1]⟩,
 ⟨(some 4), .asg (.c (.i .i64 0)), none, [4]⟩,
 ⟨(some 5), .asg (.c (.i .i64 0)), none, [5]⟩])
 (.seq (.seq (.reg [⟨(some 10), .mv (.t 0), none, []⟩,
 ⟨(some 11), .eqn false (.t 10) (.c .nilp), none, [10]⟩])
 (.cond (.t 11) (.seq (.reg [⟨(some 4), .asg (.c (.i .i64 0)), none, []⟩,
 ⟨(some 5), .asg (.c (.i .i64 9)), none, []⟩])
 .ret)
 .skip))
 (.seq (.reg [⟨(some 12), .mv (.t 0), none, []⟩,
 ⟨(some 13), .nilc (.t 12), none, [12]⟩,
 ⟨(some 14), .faddr 5 (.t 13), none, [13]⟩,
 ⟨(some 15), .call 62 [(.t 14), (.c (.i .i64 1))], none, [14, 15]⟩])
 (.seq (.seq (.reg [⟨(some 16), .mv (.t 0), none, []⟩,
 ⟨(some 17), .load (some 2) (.t 3), none, []⟩,
 ⟨(some 18), .call 63 [(.t 16), (.t 17)], none, [16, 17]⟩,
 ⟨(some 6), .asg (.t 18), none, [18]⟩])
 (.seq (.reg [⟨(some 19), .mv (.t 6), none, []⟩,
 ⟨(some 20), .bin .neq (.t 19) (.c (.i .i64 0)), none, [19]⟩])
 (.cond (.t 20) (.seq (.reg [⟨(some 21), .mv (.t 6), none, [6]⟩,
 ⟨(some 4), .asg (.c (.i .i64 0)), none, []⟩,
 ⟨(some 5), .asg (.t 21), none, [21]⟩])
 .ret)
 .skip)))
 (.seq (.reg [⟨(some 22), .mv (.t 0), none, []⟩,
 ⟨(some 23), .nilc (.t 22), none, []⟩,
 ⟨(some 24), .faddr 0 (.t 23), none, [23]⟩,
 ⟨(some 25), .load none (.t 24), none, [24]⟩,
 ⟨(some 26), .bin .add (.t 25) (.c (.i .i64 1)), none, [25]⟩,
 ⟨(some 27), .nilc (.t 22), none, [22]⟩,
 ⟨(some 28), .faddr 0 (.t 27), none, [27]⟩,
 ⟨none, .store 1 (.t 28) (.t 26), none, [28, 26]⟩])
 (.seq (.reg [⟨(some 7), .asg (.c .nils), none, []⟩])
 (.seq (.seq (.reg [⟨(some 29), .faddr 1 (.t 3), none, [3]⟩,
 ⟨(some 30), .load none (.t 29), none, [29]⟩,
 ⟨(some 31), .lenL (.t 30), none, []⟩,
 ⟨(some 32), .mv (.c (.i .i64 0)), none, []⟩])
 (.blk 0 (.loop (.seq (.reg [⟨(some 33), .bin .lss (.t 32) (.t 31), none, []⟩])
 (.seq (.cond (.t 33) .skip
 (.exit 0))
 (.seq (.blk 1 (.seq (.reg [⟨(some 34), .iasl 3 (.t 30) (.t 32), none, []⟩,
 ⟨(some 35), .load (some 3) (.t 34), none, [34]⟩,
 ⟨(some 9), .alloc false [(.s []), .nils, (.b false)], none, []⟩,
 ⟨none, .store 3 (.t 9) (.t 35), none, [35]⟩])
 (.seq (.dreg [⟨0, ⟨(some 36), .mv (.t 0), none, []⟩, false, []⟩,
 ⟨1, ⟨(some 37), .nilc (.t 36), none, []⟩, false, []⟩,
 ⟨2, ⟨(some 38), .faddr 2 (.t 37), none, []⟩, false, []⟩,
 ⟨3, ⟨(some 39), .load none (.t 38), none, []⟩, false, []⟩,
 ⟨4, ⟨(some 40), .faddr 0 (.t 9), none, []⟩, false, []⟩,
 ⟨5, ⟨(some 41), .load none (.t 40), none, []⟩, false, []⟩,
 ⟨6, ⟨(some 42), .mv (.t 0), none, []⟩, false, []⟩,
 ⟨7, ⟨(some 43), .nilc (.t 42), none, []⟩, false, []⟩,
 ⟨8, ⟨(some 44), .faddr 0 (.t 43), none, []⟩, false, []⟩,
 ⟨9, ⟨(some 45), .load none (.t 44), none, []⟩, false, []⟩,
 ⟨10, ⟨none, .mupd none (.t 39) (.t 41) (.t 45), none, []⟩, true, []⟩] [36, 37, 38, 39, 40, 41, 42, 43, 44, 45])
 (.seq (.seq (.reg [⟨(some 46), .faddr 2 (.t 9), none, []⟩,
 ⟨(some 47), .load none (.t 46), none, [46]⟩])
 (.cond (.t 47) (.dreg [⟨0, ⟨(some 48), .mv (.t 0), none, []⟩, false, []⟩,
 ⟨1, ⟨(some 49), .nilc (.t 48), none, []⟩, false, []⟩,
 ⟨2, ⟨(some 50), .faddr 1 (.t 49), none, []⟩, false, []⟩,
 ⟨3, ⟨(some 51), .load none (.t 50), none, []⟩, false, []⟩,
 ⟨4, ⟨(some 52), .faddr 0 (.t 9), none, []⟩, false, []⟩,
 ⟨5, ⟨(some 53), .load none (.t 52), none, []⟩, false, []⟩,
 ⟨6, ⟨none, .delete none (.t 51) (.t 53), none, []⟩, true, []⟩] [48, 49, 50, 51, 52, 53])
 (.dreg [⟨0, ⟨(some 54), .mv (.t 0), none, []⟩, false, []⟩,
 ⟨1, ⟨(some 55), .nilc (.t 54), none, []⟩, false, []⟩,
 ⟨2, ⟨(some 56), .faddr 1 (.t 55), none, []⟩, false, []⟩,
 ⟨3, ⟨(some 57), .load none (.t 56), none, []⟩, false, []⟩,
 ⟨4, ⟨(some 58), .faddr 0 (.t 9), none, []⟩, false, []⟩,
 ⟨5, ⟨(some 59), .load none (.t 58), none, []⟩, false, []⟩,
 ⟨6, ⟨(some 60), .faddr 0 (.t 9), none, []⟩, false, []⟩,
 ⟨7, ⟨(some 61), .load none (.t 60), none, []⟩, false, []⟩,
 ⟨8, ⟨(some 62), .mv (.t 0), none, []⟩, false, []⟩,
 ⟨9, ⟨(some 63), .nilc (.t 62), none, []⟩, false, []⟩,
 ⟨10, ⟨(some 64), .faddr 0 (.t 63), none, []⟩, false, []⟩,
 ⟨11, ⟨(some 65), .load none (.t 64), none, []⟩, false, []⟩,
 ⟨12, ⟨(some 66), .faddr 1 (.t 9), none, []⟩, false, []⟩,
 ⟨13, ⟨(some 67), .load none (.t 66), none, []⟩, false, []⟩,
 ⟨14, ⟨(some 68), .bld [(.s []), (.i .i64 0), .nils] [(0, 1, (.t 61)), (1, 1, (.t 65)), (2, 1, (.t 67))], none, []⟩, false, []⟩,
 ⟨15, ⟨(some 69), .call 64 [(.t 68)], none, []⟩, true, [5, 3]⟩,
 ⟨16, ⟨none, .mupd none (.t 57) (.t 59) (.t 69), none, []⟩, true, []⟩] [54, 55, 56, 57, 58, 59, 60, 61, 62, 63, 64, 65, 66, 67, 68, 69])))
 (.dreg [⟨0, ⟨(some 70), .mv (.t 7), none, []⟩, false, []⟩,
 ⟨1, ⟨(some 71), .mv (.t 0), none, []⟩, false, []⟩,
 ⟨2, ⟨(some 72), .nilc (.t 71), none, []⟩, false, []⟩,
 ⟨3, ⟨(some 73), .faddr 0 (.t 72), none, []⟩, false, []⟩,
 ⟨4, ⟨(some 74), .load none (.t 73), none, []⟩, false, []⟩,
 ⟨5, ⟨(some 75), .faddr 0 (.t 9), none, []⟩, false, []⟩,
 ⟨6, ⟨(some 76), .load none (.t 75), none, []⟩, false, []⟩,
 ⟨7, ⟨(some 77), .faddr 1 (.t 9), none, []⟩, false, []⟩,
 ⟨8, ⟨(some 78), .load none (.t 77), none, []⟩, false, []⟩,
 ⟨9, ⟨(some 79), .faddr 2 (.t 9), none, []⟩, false, []⟩,
 ⟨10, ⟨(some 80), .load none (.t 79), none, []⟩, false, []⟩,
 ⟨11, ⟨(some 81), .bld [(.i .i64 0), (.s []), .nils, (.b false)] [(0, 1, (.t 74)), (1, 1, (.t 76)), (2, 1, (.t 78)), (3, 1, (.t 80))], none, []⟩, false, []⟩,
 ⟨12, ⟨(some 82), .bsl (.im false) 4 1 [(.i .i64 0), (.s []), .nils, (.b false)] [(0, (.t 81))], none, []⟩, true, []⟩,
 ⟨13, ⟨(some 83), .append (.im false) 4 56 (.t 70) (.t 82), none, []⟩, true, []⟩,
 ⟨14, ⟨(some 7), .asg (.t 83), none, []⟩, true, []⟩] [70, 71, 72, 73, 74, 9, 75, 76, 77, 78, 79, 80, 81, 82, 83])))))
 (.reg [⟨(some 84), .bin .add (.t 32) (.c (.i .i64 1)), none, [32]⟩,
 ⟨(some 32), .mv (.t 84), none, [84]⟩])))))))
 (.seq (.reg [⟨(some 85), .mv (.t 0), none, []⟩,
 ⟨(some 86), .nilc (.t 85), none, [85]⟩,
 ⟨(some 87), .faddr 3 (.t 86), none, [86]⟩,
 ⟨(some 88), .load none (.t 87), none, [87]⟩,
 ⟨(some 89), .mv (.t 7), none, [7]⟩,
 ⟨(some 90), .call 65 [(.t 88), (.t 89)], none, [88, 89, 90]⟩])
 (.seq (.reg [⟨(some 91), .mv (.t 0), none, [0]⟩,
 ⟨(some 92), .nilc (.t 91), none, [91]⟩,
 ⟨(some 93), .faddr 0 (.t 92), none, [92]⟩,
 ⟨(some 94), .load none (.t 93), none, [93]⟩,
 ⟨(some 4), .asg (.t 94), none, [94]⟩,
 ⟨(some 5), .asg (.c (.i .i64 0)), none, []⟩])
 .ret))))))))), [.t 4, .t 5]⟩
/-- ( interrex/elect.Elect).Told -/
def f23 : AFn := ⟨4, (.seq (.seq (.reg [⟨(some 8), .mv (.t 0), none, []⟩,
 ⟨(some 9), .eqn false (.t 8) (.c .nilp), none, [8]⟩,
 ⟨(some 10), .mv (.t 9), none, [9]⟩,
 ⟨(some 11), .mv (.t 0), (some (10, false)), []⟩,
 ⟨(some 12), .nilc (.t 11), (some (10, false)), [11]⟩,
 ⟨(some 13), .faddr 7 (.t 12), (some (10, false)), [12]⟩,
 ⟨(some 14), .load none (.t 13), (some (10, false)), [13]⟩,
 ⟨(some 15), .un .not (.t 14), (some (10, false)), [14]⟩,
 ⟨(some 16), .pick (.t 10) (.c (.b true)) (.t 15), none, [10, 15]⟩])
 (.cond (.t 16) .ret
 .skip))
 (.seq (.reg [⟨(some 17), .mv (.t 0), none, []⟩,
 ⟨(some 18), .nilc (.t 17), none, [17]⟩,
 ⟨(some 19), .faddr 7 (.t 18), none, [18]⟩,
 ⟨none, .store 1 (.t 19) (.c (.b false)), none, [19]⟩])
 (.seq (.reg [⟨(some 20), .mv (.t 3), none, [3]⟩])
 (.blk 0 (.seq (.reg [⟨(some 22), .bin .eql (.t 20) (.c (.i .i64 0)), none, []⟩,
 ⟨(some 21), .asg (.t 22), none, [22]⟩])
 (.cond (.t 21) (.seq (.reg [⟨(some 23), .mv (.t 0), none, []⟩,
 ⟨(some 24), .mv (.t 0), none, []⟩,
 ⟨(some 25), .mv (.t 2), none, []⟩,
 ⟨(some 26), .mv (.t 0), none, []⟩,
 ⟨(some 27), .nilc (.t 26), none, [26]⟩,
 ⟨(some 28), .faddr 8 (.t 27), none, [27]⟩,
 ⟨(some 29), .load none (.t 28), none, [28]⟩,
 ⟨(some 30), .nilc (.t 23), none, [23]⟩,
 ⟨(some 31), .faddr 9 (.t 30), none, [30]⟩,
 ⟨none, .store 1 (.t 31) (.t 25), none, [31, 25]⟩,
 ⟨(some 32), .nilc (.t 24), none, [24]⟩,
 ⟨(some 33), .faddr 10 (.t 32), none, [32]⟩,
 ⟨none, .store 1 (.t 33) (.t 29), none, [33, 29]⟩])
 (.seq (.reg [⟨(some 34), .mv (.t 0), none, []⟩,
 ⟨(some 35), .mv (.t 0), none, []⟩,
 ⟨(some 36), .mv (.t 0), none, []⟩,
 ⟨(some 37), .mv (.t 0), none, []⟩,
 ⟨(some 38), .mv (.t 2), none, [2]⟩,
 ⟨(some 39), .mv (.t 1), none, [1]⟩,
 ⟨(some 40), .nilc (.t 34), none, [34]⟩,
 ⟨(some 41), .faddr 1 (.t 40), none, [40]⟩,
 ⟨none, .store 1 (.t 41) (.c (.b true)), none, [41]⟩,
 ⟨(some 42), .nilc (.t 35), none, [35]⟩,
 ⟨(some 43), .faddr 2 (.t 42), none, [42]⟩,
 ⟨none, .store 1 (.t 43) (.c (.b true)), none, [43]⟩,
 ⟨(some 44), .nilc (.t 36), none, [36]⟩,
 ⟨(some 45), .faddr 3 (.t 44), none, [44]⟩,
 ⟨none, .store 1 (.t 45) (.t 38), none, [45, 38]⟩,
 ⟨(some 46), .nilc (.t 37), none, [37]⟩,
 ⟨(some 47), .faddr 6 (.t 46), none, [46]⟩,
 ⟨none, .store 1 (.t 47) (.t 39), none, [47, 39]⟩])
 (.reg [⟨(some 48), .mv (.t 0), none, []⟩,
 ⟨(some 49), .mv (.t 0), none, [0]⟩,
 ⟨(some 50), .nilc (.t 49), none, [49]⟩,
 ⟨(some 51), .faddr 0 (.t 50), none, [50]⟩,
 ⟨(some 52), .load none (.t 51), none, [51]⟩,
 ⟨(some 53), .bld [(.i .i64 0), (.i .i64 0)] [(0, 1, (.t 52)), (1, 1, (.c (.i .i64 1000)))], none, [52]⟩,
 ⟨(some 54), .nilc (.t 48), none, [48]⟩,
 ⟨(some 55), .faddr 4 (.t 54), none, [54]⟩,
 ⟨none, .store 2 (.t 55) (.t 53), none, [55, 53]⟩])))
 (.seq (.reg [⟨(some 57), .bin .eql (.t 20) (.c (.i .i64 6)), none, [20]⟩,
 ⟨(some 56), .asg (.t 57), none, [57]⟩])
 (.cond (.t 56) (.reg [⟨(some 58), .mv (.t 0), none, [0]⟩,
 ⟨(some 59), .call 58 [(.t 58)], none, [58, 59]⟩])
 .skip)))))))), []⟩
/-- ( interrex/elect.Elect).Leads -/
def f24 : AFn := ⟨2, (.seq (.reg [⟨(some 4), .asg (.c (.b false)), none, [4]⟩])
 (.seq (.reg [⟨(some 5), .mv (.t 0), none, []⟩,
 ⟨(some 6), .eqn true (.t 5) (.c .nilp), none, [5]⟩,
 ⟨(some 7), .mv (.t 6), none, [6]⟩,
 ⟨(some 8), .mv (.t 0), (some (7, true)), []⟩,
 ⟨(some 9), .nilc (.t 8), (some (7, true)), [8]⟩,
 ⟨(some 10), .faddr 9 (.t 9), (some (7, true)), [9]⟩,
 ⟨(some 11), .load none (.t 10), (some (7, true)), [10]⟩,
 ⟨(some 12), .bin .gtr (.t 11) (.c (.i .i64 0)), (some (7, true)), [11]⟩,
 ⟨(some 13), .pick (.t 7) (.t 12) (.c (.b false)), none, [7, 12]⟩,
 ⟨(some 14), .mv (.t 13), none, [13]⟩,
 ⟨(some 15), .mv (.t 1), (some (14, true)), [1]⟩,
 ⟨(some 16), .mv (.t 0), (some (14, true)), [0]⟩,
 ⟨(some 17), .nilc (.t 16), (some (14, true)), [16]⟩,
 ⟨(some 18), .faddr 10 (.t 17), (some (14, true)), [17]⟩,
 ⟨(some 19), .load none (.t 18), (some (14, true)), [18]⟩,
 ⟨(some 20), .call 66 [(.t 15), (.t 19)], (some (14, true)), [15, 19]⟩,
 ⟨(some 21), .pick (.t 14) (.t 20) (.c (.b false)), none, [14, 20]⟩,
 ⟨(some 4), .asg (.t 21), none, [21]⟩])
 .ret)), [.t 4]⟩
/-- ( interrex/store.Store).Get -/
def f25 : AFn := ⟨2, (.seq (.reg [⟨(some 4), .alloc false [(.s []), (.i .i64 0), .nils], none, []⟩,
 ⟨(some 5), .asg (.c (.b false)), none, [5]⟩])
 (.seq (.seq (.reg [⟨(some 8), .mv (.t 0), none, []⟩,
 ⟨(some 9), .eqn false (.t 8) (.c .nilp), none, [8]⟩])
 (.cond (.t 9) (.seq (.reg [⟨(some 10), .bld [(.s []), (.i .i64 0), .nils] [], none, []⟩,
 ⟨none, .store 3 (.t 4) (.t 10), none, [10]⟩,
 ⟨(some 5), .asg (.c (.b false)), none, []⟩])
 .ret)
 .skip))
 (.seq (.reg [⟨(some 11), .mv (.t 0), none, []⟩,
 ⟨(some 12), .nilc (.t 11), none, [11]⟩,
 ⟨(some 13), .faddr 4 (.t 12), none, [12]⟩,
 ⟨(some 14), .call 62 [(.t 13), (.c (.i .i64 1))], none, [13, 14]⟩])
 (.seq (.reg [⟨(some 16), .mv (.t 0), none, [0]⟩,
 ⟨(some 17), .nilc (.t 16), none, [16]⟩,
 ⟨(some 18), .faddr 1 (.t 17), none, [17]⟩,
 ⟨(some 19), .load none (.t 18), none, [18]⟩,
 ⟨(some 20), .mv (.t 1), none, [1]⟩,
 ⟨(some 21), .lkp none (.agg [(.s []), (.i .i64 0), .nils]) (.t 19) (.t 20) true, none, [19, 20]⟩,
 ⟨(some 15), .mv (.t 21), none, [21]⟩,
 ⟨(some 22), .ext (.t 15) 0, none, []⟩,
 ⟨(some 23), .ext (.t 15) 1, none, [15]⟩,
 ⟨(some 6), .alloc false [(.s []), (.i .i64 0), .nils], none, []⟩,
 ⟨none, .store 3 (.t 6) (.t 22), none, [22]⟩,
 ⟨(some 7), .asg (.t 23), none, [23]⟩])
 (.seq (.reg [⟨(some 24), .load (some 3) (.t 6), none, [6]⟩,
 ⟨(some 25), .call 64 [(.t 24)], none, [24]⟩,
 ⟨(some 26), .mv (.t 7), none, [7]⟩,
 ⟨none, .store 3 (.t 4) (.t 25), none, [25]⟩,
 ⟨(some 5), .asg (.t 26), none, [26]⟩])
 .ret))))), [.cell 4 (some 3), .t 5]⟩
/-- interrex/code.GetLease -/
def f26 : AFn := ⟨1, (.seq (.reg [⟨(some 2), .alloc false [(.i .i64 0), (.i .i64 0)], none, []⟩,
 ⟨(some 3), .asg (.c (.b false)), none, [3]⟩])
 (.seq (.reg [⟨(some 6), .mv (.t 0), none, []⟩,
 ⟨(some 7), .call 67 [(.t 6)], none, [6]⟩,
 ⟨(some 4), .asg (.t 7), none, [7]⟩])
 (.seq (.reg [⟨(some 8), .mv (.t 4), none, []⟩,
 ⟨(some 9), .call 68 [(.t 8), (.c (.i .i64 1))], none, [8, 9]⟩])
 (.seq (.reg [⟨(some 10), .mv (.t 4), none, []⟩,
 ⟨(some 11), .call 68 [(.t 10), (.c (.i .i64 1))], none, [10]⟩,
 ⟨(some 12), .mv (.t 4), none, []⟩,
 ⟨(some 13), .call 68 [(.t 12), (.c (.i .i64 8))], none, [12]⟩,
 ⟨(some 14), .bld [(.i .i64 0), (.i .i64 0)] [(0, 1, (.t 11)), (1, 1, (.t 13))], none, [11, 13]⟩,
 ⟨(some 5), .alloc false [(.i .i64 0), (.i .i64 0)], none, []⟩,
 ⟨none, .store 2 (.t 5) (.t 14), none, [14]⟩])
 (.seq (.seq (.reg [⟨(some 15), .mv (.t 4), none, [4]⟩,
 ⟨(some 16), .call 69 [(.t 15)], none, [15]⟩,
 ⟨(some 17), .un .not (.t 16), none, [16]⟩,
 ⟨(some 18), .mv (.t 17), none, [17]⟩,
 ⟨(some 19), .mv (.t 0), (some (18, false)), []⟩,
 ⟨(some 20), .lenL (.t 19), (some (18, false)), [19]⟩,
 ⟨(some 21), .bin .eql (.t 20) (.c (.i .i64 0)), (some (18, false)), [20]⟩,
 ⟨(some 22), .pick (.t 18) (.c (.b true)) (.t 21), none, [18, 21]⟩,
 ⟨(some 23), .mv (.t 22), none, [22]⟩,
 ⟨(some 24), .load (some 2) (.t 5), (some (23, false)), []⟩,
 ⟨(some 25), .call 44 [(.t 24)], (some (23, false)), [24]⟩,
 ⟨(some 26), .mv (.t 0), (some (23, false)), [0]⟩,
 ⟨(some 27), .call 70 [(.t 25), (.t 26)], (some (23, false)), [25, 26]⟩,
 ⟨(some 28), .un .not (.t 27), (some (23, false)), [27]⟩,
 ⟨(some 29), .pick (.t 23) (.c (.b true)) (.t 28), none, [23, 28]⟩])
 (.cond (.t 29) (.seq (.reg [⟨(some 30), .bld [(.i .i64 0), (.i .i64 0)] [], none, []⟩,
 ⟨none, .store 2 (.t 2) (.t 30), none, [30]⟩,
 ⟨(some 3), .asg (.c (.b false)), none, []⟩])
 .ret)
 .skip))
 (.seq (.reg [⟨(some 31), .load (some 2) (.t 5), none, [5]⟩,
 ⟨none, .store 2 (.t 2) (.t 31), none, [31]⟩,
 ⟨(some 3), .asg (.c (.b true)), none, []⟩])
 .ret)))))), [.cell 2 (some 2), .t 3]⟩
/-- ( interrex/elect.Elect).Term -/
def f27 : AFn := ⟨1, (.seq (.reg [⟨(some 2), .asg (.c (.i .i64 0)), none, [2]⟩])
 (.seq (.seq (.reg [⟨(some 3), .mv (.t 0), none, []⟩,
 ⟨(some 4), .eqn false (.t 3) (.c .nilp), none, [3]⟩])
 (.cond (.t 4) (.seq (.reg [⟨(some 2), .asg (.c (.i .i64 0)), none, []⟩])
 .ret)
 .skip))
 (.seq (.reg [⟨(some 5), .mv (.t 0), none, [0]⟩,
 ⟨(some 6), .nilc (.t 5), none, [5]⟩,
 ⟨(some 7), .faddr 9 (.t 6), none, [6]⟩,
 ⟨(some 8), .load none (.t 7), none, [7]⟩,
 ⟨(some 2), .asg (.t 8), none, [8]⟩])
 .ret))), [.t 2]⟩
/-- interrex/lease.Due -/
def f31 : AFn := ⟨2, (.seq (.reg [⟨(some 4), .asg (.c (.b false)), none, [4]⟩])
 (.seq (.reg [⟨(some 5), .mv (.t 0), none, [0]⟩,
 ⟨(some 6), .call 74 [(.t 5)], none, [5]⟩,
 ⟨(some 7), .mv (.t 1), none, [1]⟩,
 ⟨(some 8), .call 74 [(.t 7)], none, [7]⟩,
 ⟨(some 9), .bin .sub (.t 6) (.t 8), none, [6, 8]⟩,
 ⟨(some 10), .bin .geq (.t 9) (.c (.i .i64 300)), none, [9]⟩,
 ⟨(some 4), .asg (.t 10), none, [10]⟩])
 .ret)), [.t 4]⟩
/-- interrex/cache.New -/
def f32 : AFn := ⟨0, (.seq (.reg [⟨(some 0), .asg (.c .nilp), none, [0]⟩])
 (.seq (.reg [⟨(some 1), .bld [.nilm, (.i .i64 0)] [(1, 1, (.c (.i .i64 (-1))))], none, []⟩,
 ⟨(some 2), .box true (.t 1), none, [1]⟩,
 ⟨(some 0), .asg (.t 2), none, [2]⟩])
 .ret)), [.t 0]⟩
/-- ( interrex/cache.Cache).List -/
def f33 : AFn := ⟨3, (.seq (.reg [⟨(some 6), .asg (.c (.b false)), none, [6]⟩])
 (.seq (.seq (.reg [⟨(some 12), .mv (.t 0), none, []⟩,
 ⟨(some 13), .eqn false (.t 12) (.c .nilp), none, [12]⟩,
 ⟨(some 14), .mv (.t 13), none, [13]⟩,
 ⟨(some 15), .mv (.t 1), (some (14, false)), []⟩,
 ⟨(some 16), .bin .lss (.t 15) (.c (.i .i64 0)), (some (14, false)), [15]⟩,
 ⟨(some 17), .pick (.t 14) (.c (.b true)) (.t 16), none, [14, 16]⟩])
 (.cond (.t 17) (.seq (.reg [⟨(some 6), .asg (.c (.b false)), none, []⟩])
 .ret)
 .skip))
 (.seq (.reg [⟨(some 18), .mkmap true none, none, []⟩,
 ⟨(some 7), .asg (.t 18), none, [18]⟩])
 (.seq (.seq (.reg [⟨(some 19), .mv (.t 2), none, [2]⟩,
 ⟨(some 20), .lenL (.t 19), none, []⟩,
 ⟨(some 21), .mv (.c (.i .i64 0)), none, []⟩])
 (.blk 0 (.loop (.seq (.reg [⟨(some 22), .bin .lss (.t 21) (.t 20), none, []⟩])
 (.seq (.cond (.t 22) .skip
 (.exit 0))
 (.seq (.blk 1 (.seq (.reg [⟨(some 23), .iasl 3 (.t 19) (.t 21), none, []⟩,
 ⟨(some 24), .load (some 3) (.t 23), none, [23]⟩,
 ⟨(some 9), .alloc false [(.s []), (.i .i64 0), .nils], none, []⟩,
 ⟨none, .store 3 (.t 9) (.t 24), none, [24]⟩])
 (.seq (.seq (.reg [⟨(some 26), .mv (.t 7), none, []⟩,
 ⟨(some 27), .faddr 0 (.t 9), none, []⟩,
 ⟨(some 28), .load none (.t 27), none, [27]⟩,
 ⟨(some 29), .lkp none (.agg [(.s []), (.i .i64 0), .nils]) (.t 26) (.t 28) true, none, [26, 28]⟩,
 ⟨(some 25), .mv (.t 29), none, [29]⟩,
 ⟨(some 30), .ext (.t 25) 0, none, []⟩,
 ⟨(some 31), .ext (.t 25) 1, none, [25]⟩,
 ⟨(some 10), .alloc false [(.s []), (.i .i64 0), .nils], none, []⟩,
 ⟨none, .store 3 (.t 10) (.t 30), none, [10, 30]⟩,
 ⟨(some 11), .asg (.t 31), none, [31]⟩])
 (.seq (.reg [⟨(some 32), .mv (.t 11), none, [11]⟩,
 ⟨(some 33), .mv (.t 32), none, [32]⟩,
 ⟨(some 34), .faddr 0 (.t 9), (some (33, false)), []⟩,
 ⟨(some 35), .load none (.t 34), (some (33, false)), [34]⟩,
 ⟨(some 36), .bin .eql (.t 35) (.c (.s [])), (some (33, false)), [35]⟩,
 ⟨(some 37), .pick (.t 33) (.c (.b true)) (.t 36), none, [33, 36]⟩,
 ⟨(some 38), .mv (.t 37), none, [37]⟩,
 ⟨(some 39), .faddr 1 (.t 9), (some (38, false)), []⟩,
 ⟨(some 40), .load none (.t 39), (some (38, false)), [39]⟩,
 ⟨(some 41), .bin .lss (.t 40) (.c (.i .i64 1)), (some (38, false)), [40]⟩,
 ⟨(some 42), .pick (.t 38) (.c (.b true)) (.t 41), none, [38, 41]⟩,
 ⟨(some 43), .mv (.t 42), none, [42]⟩,
 ⟨(some 44), .faddr 1 (.t 9), (some (43, false)), []⟩,
 ⟨(some 45), .load none (.t 44), (some (43, false)), [44]⟩,
 ⟨(some 46), .mv (.t 1), (some (43, false)), []⟩,
 ⟨(some 47), .bin .gtr (.t 45) (.t 46), (some (43, false)), [45, 46]⟩,
 ⟨(some 48), .pick (.t 43) (.c (.b true)) (.t 47), none, [43, 47]⟩])
 (.cond (.t 48) (.seq (.reg [⟨(some 6), .asg (.c (.b false)), none, []⟩])
 .ret)
 .skip)))
 (.dreg [⟨0, ⟨(some 49), .mv (.t 7), none, []⟩, false, []⟩,
 ⟨1, ⟨(some 50), .faddr 0 (.t 9), none, []⟩, false, []⟩,
 ⟨2, ⟨(some 51), .load none (.t 50), none, []⟩, false, []⟩,
 ⟨3, ⟨(some 52), .load (some 3) (.t 9), none, []⟩, false, []⟩,
 ⟨4, ⟨(some 53), .call 75 [(.t 52)], none, []⟩, true, [2]⟩,
 ⟨5, ⟨none, .mupd none (.t 49) (.t 51) (.t 53), none, []⟩, true, []⟩] [49, 9, 50, 51, 52, 53]))))
 (.reg [⟨(some 54), .bin .add (.t 21) (.c (.i .i64 1)), none, [21]⟩,
 ⟨(some 21), .mv (.t 54), none, [54]⟩])))))))
 (.seq (.reg [⟨(some 55), .mv (.t 0), none, []⟩,
 ⟨(some 56), .mv (.t 0), none, [0]⟩,
 ⟨(some 57), .mv (.t 7), none, [7]⟩,
 ⟨(some 58), .mv (.t 1), none, [1]⟩,
 ⟨(some 59), .nilc (.t 55), none, [55]⟩,
 ⟨(some 60), .faddr 0 (.t 59), none, [59]⟩,
 ⟨none, .store 1 (.t 60) (.t 57), none, [60, 57]⟩,
 ⟨(some 61), .nilc (.t 56), none, [56]⟩,
 ⟨(some 62), .faddr 1 (.t 61), none, [61]⟩,
 ⟨none, .store 1 (.t 62) (.t 58), none, [62, 58]⟩])
 (.seq (.reg [⟨(some 6), .asg (.c (.b true)), none, []⟩])
 .ret)))))), [.t 6]⟩
/-- interrex/net.New -/
def f37 : AFn := ⟨1, (.seq (.reg [⟨(some 2), .asg (.c .nilp), none, [2]⟩])
 (.seq (.reg [⟨(some 3), .mv (.t 0), none, [0]⟩,
 ⟨(some 4), .mnmx true [(.t 3), (.c (.i .i64 1))], none, [3]⟩,
 ⟨(some 5), .mnmx false [(.t 4), (.c (.i .i64 1000))], none, [4]⟩,
 ⟨(some 6), .bld [.nils, (.i .i64 0)] [(1, 1, (.t 5))], none, [5]⟩,
 ⟨(some 7), .box true (.t 6), none, [6]⟩,
 ⟨(some 2), .asg (.t 7), none, [7]⟩])
 .ret)), [.t 2]⟩
/-- ( interrex/net.Net).Len -/
def f38 : AFn := ⟨1, (.seq (.reg [⟨(some 2), .asg (.c (.i .i64 0)), none, [2]⟩])
 (.seq (.seq (.reg [⟨(some 3), .mv (.t 0), none, []⟩,
 ⟨(some 4), .eqn false (.t 3) (.c .nilp), none, [3]⟩])
 (.cond (.t 4) (.seq (.reg [⟨(some 2), .asg (.c (.i .i64 0)), none, []⟩])
 .ret)
 .skip))
 (.seq (.reg [⟨(some 5), .mv (.t 0), none, [0]⟩,
 ⟨(some 6), .nilc (.t 5), none, [5]⟩,
 ⟨(some 7), .faddr 0 (.t 6), none, [6]⟩,
 ⟨(some 8), .load none (.t 7), none, [7]⟩,
 ⟨(some 9), .lenL (.t 8), none, [8]⟩,
 ⟨(some 2), .asg (.t 9), none, [9]⟩])
 .ret))), [.t 2]⟩
/-- ( interrex/net.Net).Send -/
def f39 : AFn := ⟨2, (.seq (.reg [⟨(some 3), .box false (.t 1), none, [1]⟩,
 ⟨(some 4), .asg (.c (.b false)), none, [4]⟩])
 (.seq (.seq (.dreg [⟨0, ⟨(some 5), .mv (.t 0), none, []⟩, false, []⟩,
 ⟨1, ⟨(some 6), .eqn false (.t 5) (.c .nilp), none, []⟩, true, []⟩,
 ⟨2, ⟨(some 7), .mv (.t 6), none, []⟩, false, []⟩,
 ⟨3, ⟨(some 8), .mv (.t 0), (some (7, false)), []⟩, false, []⟩,
 ⟨4, ⟨(some 9), .nilc (.t 8), (some (7, false)), []⟩, false, []⟩,
 ⟨5, ⟨(some 10), .faddr 0 (.t 9), (some (7, false)), []⟩, false, []⟩,
 ⟨6, ⟨(some 11), .load none (.t 10), (some (7, false)), []⟩, false, []⟩,
 ⟨7, ⟨(some 12), .lenL (.t 11), (some (7, false)), []⟩, false, []⟩,
 ⟨8, ⟨(some 13), .mv (.t 0), (some (7, false)), []⟩, false, []⟩,
 ⟨9, ⟨(some 14), .nilc (.t 13), (some (7, false)), []⟩, false, []⟩,
 ⟨10, ⟨(some 15), .faddr 1 (.t 14), (some (7, false)), []⟩, false, []⟩,
 ⟨11, ⟨(some 16), .load none (.t 15), (some (7, false)), []⟩, false, []⟩,
 ⟨12, ⟨(some 17), .bin .geq (.t 12) (.t 16), (some (7, false)), []⟩, false, []⟩,
 ⟨13, ⟨(some 18), .pick (.t 7) (.c (.b true)) (.t 17), none, []⟩, false, []⟩] [5, 6, 7, 8, 9, 10, 11, 12, 13, 14, 15, 16, 17])
 (.cond (.t 18) (.seq (.reg [⟨(some 4), .asg (.c (.b false)), none, []⟩])
 .ret)
 .skip))
 (.seq (.dreg [⟨0, ⟨(some 19), .mv (.t 0), none, []⟩, false, []⟩,
 ⟨1, ⟨(some 20), .mv (.t 0), none, []⟩, false, []⟩,
 ⟨2, ⟨(some 21), .nilc (.t 20), none, []⟩, false, []⟩,
 ⟨3, ⟨(some 22), .faddr 0 (.t 21), none, []⟩, false, []⟩,
 ⟨4, ⟨(some 23), .load none (.t 22), none, []⟩, false, []⟩,
 ⟨5, ⟨(some 24), .load (some 3) (.t 3), none, []⟩, false, []⟩,
 ⟨6, ⟨(some 25), .call 78 [(.t 24)], none, []⟩, true, [4]⟩,
 ⟨7, ⟨(some 26), .bsl (.mu true) 3 1 [(.b false), (.i .i64 0), .nils] [(0, (.t 25))], none, []⟩, true, [4]⟩,
 ⟨8, ⟨(some 27), .append (.mu true) 3 40 (.t 23) (.t 26), none, []⟩, true, []⟩,
 ⟨9, ⟨(some 28), .nilc (.t 19), none, []⟩, false, []⟩,
 ⟨10, ⟨(some 29), .faddr 0 (.t 28), none, []⟩, false, []⟩,
 ⟨11, ⟨none, .store 1 (.t 29) (.t 27), none, []⟩, true, []⟩] [0, 19, 20, 21, 22, 23, 3, 24, 25, 26, 27, 28, 29])
 (.seq (.reg [⟨(some 4), .asg (.c (.b true)), none, []⟩])
 .ret)))), [.t 4]⟩
/-- interrex/clock.New -/
def f41 : AFn := ⟨1, (.seq (.reg [⟨(some 2), .asg (.c .nilp), none, [2]⟩])
 (.seq (.reg [⟨(some 3), .mv (.t 0), none, [0]⟩,
 ⟨(some 4), .mnmx true [(.t 3), (.c (.i .i64 1))], none, [3]⟩,
 ⟨(some 5), .mnmx false [(.t 4), (.c (.i .i64 8))], none, [4]⟩,
 ⟨(some 6), .mksl (.mu true) 1 8 [(.i .i64 0)] (.t 5) (.t 5), none, [5]⟩,
 ⟨(some 7), .bld [.nils, (.i .i64 0), (.i .i64 0), (.i .i64 0), (.i .i64 0), (.i .i64 0), (.i .i64 0), (.i .i64 0), (.i .i64 0), (.i .i64 0), (.i .i64 0), (.i .i64 0), (.i .i64 0), (.i .i64 0), (.i .i64 0), (.i .i64 0), (.i .i64 0), (.i .i64 0), (.i .i64 0), (.i .i64 0), (.i .i64 0), (.i .i64 0), (.i .i64 0), (.i .i64 0), (.i .i64 0), (.i .i64 0), (.i .i64 0), (.i .i64 0), (.i .i64 0), (.i .i64 0), (.i .i64 0), (.i .i64 0), (.i .i64 0), (.i .i64 0), (.i .i64 0), (.i .i64 0), (.i .i64 0), (.i .i64 0), (.i .i64 0), (.i .i64 0), (.i .i64 0), (.i .i64 0), (.i .i64 0), (.i .i64 0), (.i .i64 0), (.i .i64 0), (.i .i64 0), (.i .i64 0), (.i .i64 0), (.i .i64 0), (.i .i64 0), (.i .i64 0), (.i .i64 0), (.i .i64 0), (.i .i64 0), (.i .i64 0), (.i .i64 0), (.i .i64 0), (.i .i64 0), (.i .i64 0), (.i .i64 0), (.i .i64 0), (.i .i64 0), (.i .i64 0), (.i .i64 0), (.i .i64 0), (.i .i64 0), (.i .i64 0), (.i .i64 0), (.i .i64 0), (.i .i64 0), (.i .i64 0), (.i .i64 0), (.i .i64 0), (.i .i64 0), (.i .i64 0), (.i .i64 0), (.i .i64 0), (.i .i64 0), (.i .i64 0), (.i .i64 0), (.i .i64 0), (.i .i64 0), (.i .i64 0), (.i .i64 0), (.i .i64 0), (.i .i64 0), (.i .i64 0), (.i .i64 0), (.i .i64 0), (.i .i64 0), (.i .i64 0), (.i .i64 0), (.i .i64 0), (.i .i64 0), (.i .i64 0), (.i .i64 0), (.i .i64 0), (.i .i64 0), (.i .i64 0), (.i .i64 0), (.i .i64 0), (.i .i64 0), (.i .i64 0), (.i .i64 0), (.i .i64 0), (.i .i64 0), (.i .i64 0), (.i .i64 0), (.i .i64 0), (.i .i64 0), (.i .i64 0), (.i .i64 0), (.i .i64 0), (.i .i64 0), (.i .i64 0), (.i .i64 0), (.i .i64 0), (.i .i64 0), (.i .i64 0), (.i .i64 0), (.i .i64 0), (.i .i64 0), (.i .i64 0), (.i .i64 0), (.i .i64 0), (.i .i64 0), (.i .i64 0), (.i .i64 0)] [(0, 1, (.t 6))], none, [6]⟩,
 ⟨(some 8), .box true (.t 7), none, [7]⟩,
 ⟨(some 2), .asg (.t 8), none, [8]⟩])
 .ret)), [.t 2]⟩
/-- interrex/assume.New -/
def f42 : AFn := ⟨0, (.seq (.reg [⟨(some 0), .asg (.c .nilp), none, [0]⟩])
 (.seq (.reg [⟨(some 1), .bld [.nils] [], none, []⟩,
 ⟨(some 2), .box true (.t 1), none, [1]⟩,
 ⟨(some 0), .asg (.t 2), none, [2]⟩])
 .ret)), [.t 0]⟩
/-- ( interrex/clock.Clocks).Tick -/
def f43 : AFn := ⟨2, (.seq (.reg [⟨(some 4), .asg (.c (.b false)), none, [4]⟩])
 (.seq (.seq (.reg [⟨(some 13), .mv (.t 0), none, []⟩,
 ⟨(some 14), .eqn false (.t 13) (.c .nilp), none, [13]⟩])
 (.cond (.t 14) (.seq (.reg [⟨(some 4), .asg (.c (.b false)), none, []⟩])
 .ret)
 .skip))
 (.seq (.reg [⟨(some 15), .mv (.t 1), none, []⟩,
 ⟨(some 16), .mv (.t 1), none, [1]⟩,
 ⟨(some 17), .lenL (.t 16), none, [16]⟩,
 ⟨(some 18), .mv (.t 0), none, []⟩,
 ⟨(some 19), .nilc (.t 18), none, [18]⟩,
 ⟨(some 20), .faddr 0 (.t 19), none, [19]⟩,
 ⟨(some 21), .load none (.t 20), none, [20]⟩,
 ⟨(some 22), .lenL (.t 21), none, [21]⟩,
 ⟨(some 23), .mnmx false [(.t 17), (.t 22)], none, [17, 22]⟩,
 ⟨(some 24), .slsl 1 (.t 15) none (some (.t 23)) none, none, [15, 23]⟩,
 ⟨(some 1), .asg (.t 24), none, [24]⟩])
 (.seq (.seq (.reg [⟨(some 25), .mv (.t 1), none, []⟩,
 ⟨(some 26), .lenL (.t 25), none, []⟩,
 ⟨(some 27), .mv (.c (.i .i64 0)), none, []⟩])
 (.blk 0 (.loop (.seq (.reg [⟨(some 28), .bin .lss (.t 27) (.t 26), none, []⟩])
 (.seq (.cond (.t 28) .skip
 (.exit 0))
 (.seq (.blk 1 (.seq (.reg [⟨(some 29), .mv (.t 27), none, []⟩,
 ⟨(some 30), .iasl 1 (.t 25) (.t 27), none, []⟩,
 ⟨(some 31), .load none (.t 30), none, [30]⟩,
 ⟨(some 5), .asg (.t 29), none, [29]⟩,
 ⟨(some 6), .asg (.t 31), none, [31]⟩])
 (.seq (.reg [⟨(some 32), .mv (.t 6), none, []⟩,
 ⟨(some 33), .bin .lss (.t 32) (.c (.i .i64 0)), none, [32]⟩,
 ⟨(some 34), .mv (.t 33), none, [33]⟩,
 ⟨(some 35), .mv (.t 6), (some (34, false)), []⟩,
 ⟨(some 36), .bin .gtr (.t 35) (.c (.i .i64 1000000)), (some (34, false)), [35]⟩,
 ⟨(some 37), .pick (.t 34) (.c (.b true)) (.t 36), none, [34, 36]⟩,
 ⟨(some 38), .mv (.t 37), none, [37]⟩,
 ⟨(some 39), .mv (.t 0), (some (38, false)), []⟩,
 ⟨(some 40), .nilc (.t 39), (some (38, false)), [39]⟩,
 ⟨(some 41), .faddr 0 (.t 40), (some (38, false)), [40]⟩,
 ⟨(some 42), .load none (.t 41), (some (38, false)), [41]⟩,
 ⟨(some 43), .mv (.t 5), (some (38, false)), [5]⟩,
 ⟨(some 44), .iasl 1 (.t 42) (.t 43), (some (38, false)), [42, 43]⟩,
 ⟨(some 45), .load none (.t 44), (some (38, false)), [44]⟩,
 ⟨(some 46), .mv (.t 6), (some (38, false)), [6]⟩,
 ⟨(some 47), .bin .add (.t 45) (.t 46), (some (38, false)), [45, 46]⟩,
 ⟨(some 48), .bin .gtr (.t 47) (.c (.i .i64 1125899906842624)), (some (38, false)), [47]⟩,
 ⟨(some 49), .pick (.t 38) (.c (.b true)) (.t 48), none, [38, 48]⟩])
 (.cond (.t 49) (.seq (.reg [⟨(some 4), .asg (.c (.b false)), none, []⟩])
 .ret)
 .skip))))
 (.reg [⟨(some 50), .bin .add (.t 27) (.c (.i .i64 1)), none, [27]⟩,
 ⟨(some 27), .mv (.t 50), none, [50]⟩])))))))
 (.seq (.seq (.reg [⟨(some 51), .mv (.t 1), none, [1]⟩,
 ⟨(some 52), .lenL (.t 51), none, []⟩,
 ⟨(some 53), .mv (.c (.i .i64 0)), none, []⟩])
 (.blk 2 (.loop (.seq (.reg [⟨(some 54), .bin .lss (.t 53) (.t 52), none, []⟩])
 (.seq (.cond (.t 54) .skip
 (.exit 2))
 (.seq (.blk 3 (.seq (.reg [⟨(some 55), .mv (.t 53), none, []⟩,
 ⟨(some 56), .iasl 1 (.t 51) (.t 53), none, []⟩,
 ⟨(some 57), .load none (.t 56), none, [56]⟩,
 ⟨(some 7), .asg (.t 55), none, [55]⟩,
 ⟨(some 8), .asg (.t 57), none, [57]⟩])
 (.reg [⟨(some 58), .mv (.t 0), none, []⟩,
 ⟨(some 59), .nilc (.t 58), none, [58]⟩,
 ⟨(some 60), .faddr 0 (.t 59), none, [59]⟩,
 ⟨(some 61), .load none (.t 60), none, [60]⟩,
 ⟨(some 62), .mv (.t 7), none, [7]⟩,
 ⟨(some 63), .iasl 1 (.t 61) (.t 62), none, []⟩,
 ⟨(some 64), .load none (.t 63), none, [63]⟩,
 ⟨(some 65), .mv (.t 8), none, [8]⟩,
 ⟨(some 66), .bin .add (.t 64) (.t 65), none, [64, 65]⟩,
 ⟨(some 67), .iasl 1 (.t 61) (.t 62), none, [61, 62]⟩,
 ⟨none, .store 1 (.t 67) (.t 66), none, [67, 66]⟩])))
 (.reg [⟨(some 68), .bin .add (.t 53) (.c (.i .i64 1)), none, [53]⟩,
 ⟨(some 53), .mv (.t 68), none, [68]⟩])))))))
 (.seq (.seq (.reg [⟨(some 69), .mv (.t 0), none, []⟩,
 ⟨(some 70), .nilc (.t 69), none, [69]⟩,
 ⟨(some 71), .faddr 0 (.t 70), none, [70]⟩,
 ⟨(some 72), .load none (.t 71), none, [71]⟩,
 ⟨(some 73), .lenL (.t 72), none, []⟩,
 ⟨(some 74), .mv (.c (.i .i64 0)), none, []⟩])
 (.blk 4 (.loop (.seq (.reg [⟨(some 75), .bin .lss (.t 74) (.t 73), none, []⟩])
 (.seq (.cond (.t 75) .skip
 (.exit 4))
 (.seq (.blk 5 (.seq (.reg [⟨(some 76), .mv (.t 74), none, []⟩,
 ⟨(some 77), .iasl 1 (.t 72) (.t 74), none, []⟩,
 ⟨(some 78), .load none (.t 77), none, [77]⟩,
 ⟨(some 9), .asg (.t 76), none, [76]⟩,
 ⟨(some 10), .asg (.t 78), none, [78]⟩])
 (.seq (.reg [⟨(some 79), .mv (.t 0), none, []⟩,
 ⟨(some 80), .nilc (.t 79), none, [79]⟩,
 ⟨(some 81), .faddr 0 (.t 80), none, [80]⟩,
 ⟨(some 82), .load none (.t 81), none, [81]⟩,
 ⟨(some 83), .lenL (.t 82), none, []⟩,
 ⟨(some 84), .mv (.c (.i .i64 0)), none, []⟩])
 (.blk 6 (.loop (.seq (.reg [⟨(some 85), .bin .lss (.t 84) (.t 83), none, []⟩])
 (.seq (.cond (.t 85) .skip
 (.exit 6))
 (.seq (.blk 7 (.seq (.reg [⟨(some 86), .mv (.t 84), none, []⟩,
 ⟨(some 87), .iasl 1 (.t 82) (.t 84), none, []⟩,
 ⟨(some 88), .load none (.t 87), none, [87]⟩,
 ⟨(some 11), .asg (.t 86), none, [86]⟩,
 ⟨(some 12), .asg (.t 88), none, [88]⟩])
 (.dreg [⟨0, ⟨(some 89), .mv (.t 0), none, []⟩, false, []⟩,
 ⟨1, ⟨(some 90), .mv (.t 9), none, []⟩, false, []⟩,
 ⟨2, ⟨(some 91), .mv (.t 11), none, []⟩, false, []⟩,
 ⟨3, ⟨(some 92), .mv (.t 0), none, []⟩, false, []⟩,
 ⟨4, ⟨(some 93), .mv (.t 9), none, []⟩, false, []⟩,
 ⟨5, ⟨(some 94), .mv (.t 11), none, []⟩, false, []⟩,
 ⟨6, ⟨(some 95), .mv (.t 0), none, []⟩, false, []⟩,
 ⟨7, ⟨(some 96), .mv (.t 9), none, []⟩, false, []⟩,
 ⟨8, ⟨(some 97), .mv (.t 11), none, []⟩, false, []⟩,
 ⟨9, ⟨(some 98), .nilc (.t 95), none, []⟩, false, []⟩,
 ⟨10, ⟨(some 99), .faddr 1 (.t 98), none, []⟩, false, []⟩,
 ⟨11, ⟨(some 100), .iaar 8 8 (.t 99) (.t 96), none, []⟩, false, []⟩,
 ⟨12, ⟨(some 101), .iaar 8 1 (.t 100) (.t 97), none, []⟩, false, []⟩,
 ⟨13, ⟨(some 102), .load none (.t 101), none, []⟩, false, []⟩,
 ⟨14, ⟨(some 103), .mv (.t 10), none, []⟩, false, []⟩,
 ⟨15, ⟨(some 104), .mv (.t 12), none, []⟩, false, []⟩,
 ⟨16, ⟨(some 105), .bin .sub (.t 103) (.t 104), none, []⟩, false, []⟩,
 ⟨17, ⟨(some 106), .mnmx false [(.t 102), (.t 105)], none, []⟩, false, []⟩,
 ⟨18, ⟨(some 107), .mv (.t 0), none, []⟩, false, []⟩,
 ⟨19, ⟨(some 108), .mv (.t 9), none, []⟩, false, []⟩,
 ⟨20, ⟨(some 109), .mv (.t 11), none, []⟩, false, []⟩,
 ⟨21, ⟨(some 110), .nilc (.t 107), none, []⟩, false, []⟩,
 ⟨22, ⟨(some 111), .faddr 65 (.t 110), none, []⟩, false, []⟩,
 ⟨23, ⟨(some 112), .iaar 8 8 (.t 111) (.t 108), none, []⟩, false, []⟩,
 ⟨24, ⟨(some 113), .iaar 8 1 (.t 112) (.t 109), none, []⟩, false, []⟩,
 ⟨25, ⟨(some 114), .load none (.t 113), none, []⟩, false, []⟩,
 ⟨26, ⟨(some 115), .mv (.t 10), none, []⟩, false, []⟩,
 ⟨27, ⟨(some 116), .mv (.t 12), none, []⟩, false, []⟩,
 ⟨28, ⟨(some 117), .bin .sub (.t 115) (.t 116), none, []⟩, false, []⟩,
 ⟨29, ⟨(some 118), .mnmx true [(.t 114), (.t 117)], none, []⟩, false, []⟩,
 ⟨30, ⟨(some 119), .nilc (.t 89), none, []⟩, false, []⟩,
 ⟨31, ⟨(some 120), .faddr 1 (.t 119), none, []⟩, false, []⟩,
 ⟨32, ⟨(some 121), .iaar 8 8 (.t 120) (.t 90), none, []⟩, false, []⟩,
 ⟨33, ⟨(some 122), .iaar 8 1 (.t 121) (.t 91), none, []⟩, false, []⟩,
 ⟨35, ⟨(some 123), .nilc (.t 92), none, []⟩, false, []⟩,
 ⟨36, ⟨(some 124), .faddr 65 (.t 123), none, []⟩, false, []⟩,
 ⟨37, ⟨(some 125), .iaar 8 8 (.t 124) (.t 93), none, []⟩, false, []⟩,
 ⟨34, ⟨none, .store 1 (.t 122) (.t 106), none, []⟩, true, []⟩,
 ⟨38, ⟨(some 126), .iaar 8 1 (.t 125) (.t 94), none, []⟩, false, []⟩,
 ⟨39, ⟨none, .store 1 (.t 126) (.t 118), none, []⟩, true, []⟩] [89, 90, 11, 91, 92, 93, 94, 95, 96, 97, 98, 99, 100, 101, 102, 103, 12, 104, 105, 106, 107, 108, 109, 110, 111, 112, 113, 114, 115, 116, 117, 118, 119, 120, 121, 122, 123, 124, 125, 126])))
 (.reg [⟨(some 127), .bin .add (.t 84) (.c (.i .i64 1)), none, [84]⟩,
 ⟨(some 84), .mv (.t 127), none, [127]⟩])))))))))
 (.reg [⟨(some 128), .bin .add (.t 74) (.c (.i .i64 1)), none, [74]⟩,
 ⟨(some 74), .mv (.t 128), none, [128]⟩])))))))
 (.seq (.reg [⟨(some 4), .asg (.c (.b true)), none, []⟩])
 .ret))))))), [.t 4]⟩
/-- interrex/code.PutLease -/
def f44 : AFn := ⟨1, (.seq (.reg [⟨(some 1), .box false (.t 0), none, [0]⟩,
 ⟨(some 2), .asg (.c .nils), none, [2]⟩])
 (.seq (.seq (.reg [⟨(some 4), .faddr 0 (.t 1), none, []⟩,
 ⟨(some 5), .load none (.t 4), none, [4]⟩,
 ⟨(some 6), .bin .lss (.t 5) (.c (.i .i64 0)), none, [5]⟩,
 ⟨(some 7), .mv (.t 6), none, [6]⟩,
 ⟨(some 8), .faddr 0 (.t 1), (some (7, false)), []⟩,
 ⟨(some 9), .load none (.t 8), (some (7, false)), [8]⟩,
 ⟨(some 10), .bin .gtr (.t 9) (.c (.i .i64 7)), (some (7, false)), [9]⟩,
 ⟨(some 11), .pick (.t 7) (.c (.b true)) (.t 10), none, [7, 10]⟩,
 ⟨(some 12), .mv (.t 11), none, [11]⟩,
 ⟨(some 13), .faddr 1 (.t 1), (some (12, false)), []⟩,
 ⟨(some 14), .load none (.t 13), (some (12, false)), [13]⟩,
 ⟨(some 15), .bin .lss (.t 14) (.c (.i .i64 1)), (some (12, false)), [14]⟩,
 ⟨(some 16), .pick (.t 12) (.c (.b true)) (.t 15), none, [12, 15]⟩,
 ⟨(some 17), .mv (.t 16), none, [16]⟩,
 ⟨(some 18), .faddr 1 (.t 1), (some (17, false)), []⟩,
 ⟨(some 19), .load none (.t 18), (some (17, false)), [18]⟩,
 ⟨(some 20), .bin .gtr (.t 19) (.c (.i .i64 1099511627776)), (some (17, false)), [19]⟩,
 ⟨(some 21), .pick (.t 17) (.c (.b true)) (.t 20), none, [17, 20]⟩])
 (.cond (.t 21) (.seq (.reg [⟨(some 2), .asg (.c .nils), none, []⟩])
 .ret)
 .skip))
 (.seq (.reg [⟨(some 3), .alloc true [(.i .u32 0), (.i .i32 0), (.i .u32 0), (.i .u64 0), (.i .u64 0), (.i .u64 0), (.i .u64 0), (.i .u64 0), (.i .u64 0), (.i .u64 0), (.i .u64 0), (.i .u64 0), (.i .u64 0), (.i .u64 0), (.i .u64 0), (.i .u64 0), (.i .u64 0), (.i .u64 0), (.i .u64 0), (.i .u64 0), (.i .u64 0), (.i .u64 0), (.i .u64 0), (.i .u64 0), (.i .u64 0), (.i .u64 0), (.i .u64 0), (.i .u64 0), (.i .u64 0), (.i .u64 0), (.i .u64 0), (.i .u64 0), (.i .u64 0), (.i .u64 0), (.i .u64 0), (.i .u64 0), (.i .u64 0), (.i .u64 0), (.i .u64 0), (.i .u64 0), (.i .u64 0), (.i .u64 0), (.i .u64 0), (.i .u64 0), (.i .u64 0), (.i .u64 0), (.i .u64 0), (.i .u64 0), (.i .u64 0), (.i .u64 0), (.i .u64 0), (.i .u64 0), (.i .u64 0), (.i .u64 0), (.i .u64 0), (.i .u64 0), (.i .u64 0), (.i .u64 0), (.i .u64 0), (.i .u64 0), (.i .u64 0), (.i .u64 0), (.i .u64 0), (.i .u64 0), (.i .u64 0), (.i .u64 0), (.i .u64 0), (.i .u64 0), (.i .u64 0), (.i .u64 0), (.i .u64 0), (.i .u64 0), (.i .u64 0), (.i .u64 0), (.i .u64 0), (.i .u64 0), (.i .u64 0), (.i .u64 0), (.i .u64 0), (.i .u64 0), (.i .u64 0), (.i .u64 0), (.i .u64 0), (.i .u64 0), (.i .u64 0), (.i .u64 0), (.i .u64 0), (.i .u64 0), (.i .u64 0), (.i .u64 0), (.i .u64 0), (.i .u64 0), (.i .u64 0), (.i .u64 0), (.i .u64 0), (.i .u64 0), (.i .u64 0), (.i .u64 0), (.i .u64 0), (.i .u64 0), (.i .u64 0), (.i .u64 0), (.i .u64 0), (.i .u64 0), (.i .u64 0), (.i .u64 0), (.i .u64 0), (.i .u64 0), (.i .u64 0), (.i .u64 0), (.i .u64 0), (.i .u64 0), (.i .u64 0), (.i .u64 0), (.i .u64 0), (.i .u64 0), (.i .u64 0), (.i .u64 0), (.i .u64 0), (.i .u64 0), (.i .u64 0), (.i .u64 0), (.i .u64 0), (.i .u64 0), (.i .u64 0), (.i .u64 0), (.i .u64 0), (.i .u64 0), (.i .u64 0), (.i .u64 0), (.i .u64 0), (.i .u64 0), (.i .u64 0), (.i .u64 0), (.i .u64 0), (.i .u64 0), (.i .u64 0), (.i .u64 0), (.i .u64 0), (.i .u64 0), (.i .u64 0), (.i .u64 0), (.i .u64 0), (.i .u64 0), (.i .u64 0), (.i .u64 0), (.i .u64 0), (.i .u64 0), (.i .u64 0), (.i .u64 0), (.i .u64 0), (.i .u64 0), (.i .u64 0), (.i .u64 0), (.i .u64 0), (.i .u64 0), (.i .u64 0), (.i .u64 0), (.i .u64 0), (.i .u64 0), (.i .u64 0), (.i .u64 0), (.i .u64 0), (.i .u64 0), (.i .u64 0), (.i .u64 0), (.i .u64 0), (.i .u64 0), (.i .u64 0), (.i .u64 0), (.i .u64 0), (.i .u64 0), (.i .u64 0), (.i .u64 0), (.i .u64 0), (.i .u64 0), (.i .u64 0), (.i .u64 0), (.i .u64 0), (.i .u64 0), (.i .u64 0), (.i .u64 0), (.i .u64 0), (.i .u64 0), (.i .u64 0), (.i .u64 0), (.i .u64 0), (.i .u64 0), (.i .u64 0), (.i .u64 0), (.i .u64 0), (.i .u64 0), (.i .u64 0), (.i .u64 0), (.i .u64 0), (.i .u64 0), (.i .u64 0), (.i .u64 0), (.i .u64 0), (.i .u64 0), (.i .u64 0), (.i .u64 0), (.i .u64 0), (.i .u64 0), (.i .u64 0), (.i .u64 0), (.i .u64 0), (.i .u64 0), (.i .u64 0), (.i .u64 0), (.i .u64 0), (.i .u64 0), (.i .u64 0), (.i .u64 0), (.i .u64 0), (.i .u64 0), (.i .u64 0), (.i .u64 0), (.i .u64 0), (.i .u64 0), (.i .u64 0), (.i .u64 0), (.i .u64 0), (.i .u64 0), (.i .u64 0), (.i .u64 0), (.i .u64 0), (.i .u64 0), (.i .u64 0), (.i .u64 0), (.i .u64 0), (.i .u64 0), (.i .u64 0), (.i .u64 0), (.i .u64 0), (.i .u64 0), (.i .u64 0), (.i .u64 0), (.i .u64 0), (.i .u64 0), (.i .u64 0), (.i .u64 0), (.i .u64 0), (.i .u64 0), (.i .u64 0), (.i .u64 0), (.i .u64 0), (.i .u64 0), (.i .u64 0), (.i .u64 0), (.i .u64 0), (.i .u64 0), (.i .u64 0), (.i .u64 0), (.i .u64 0), (.i .u64 0), (.i .u64 0), (.i .u64 0), (.i .u64 0), (.i .u8 0), (.i .u8 0), (.i .u8 0), (.i .u8 0), (.i .u8 0), (.i .u8 0), (.i .u8 0), (.i .u8 0), (.i .u8 0), (.i .u8 0), (.i .u8 0), (.i .u8 0), (.i .u8 0), (.i .u8 0), (.i .u8 0), (.i .u8 0), (.i .u8 0), (.i .u8 0), (.i .u8 0), (.i .u8 0), (.i .u8 0), (.i .u8 0), (.i .u8 0), (.i .u8 0), (.i .u8 0), (.i .u8 0), (.i .u8 0), (.i .u8 0), (.i .u8 0), (.i .u8 0), (.i .u8 0), (.i .u8 0), (.i .u8 0), (.i .u8 0), (.i .u8 0), (.i .u8 0), (.i .u8 0), (.i .u8 0), .nils], none, []⟩])
 (.seq (.reg [⟨(some 22), .call 80 [(.t 3), (.c (.i .i64 3)), (.c (.i .i64 1))], none, [22]⟩])
 (.seq (.reg [⟨(some 23), .faddr 0 (.t 1), none, []⟩,
 ⟨(some 24), .load none (.t 23), none, [23]⟩,
 ⟨(some 25), .call 80 [(.t 3), (.t 24), (.c (.i .i64 1))], none, [24, 25]⟩])
 (.seq (.reg [⟨(some 26), .faddr 1 (.t 1), none, [1]⟩,
 ⟨(some 27), .load none (.t 26), none, [26]⟩,
 ⟨(some 28), .call 80 [(.t 3), (.t 27), (.c (.i .i64 8))], none, [27, 28]⟩])
 (.seq (.reg [⟨(some 29), .call 81 [(.t 3)], none, [3]⟩,
 ⟨(some 2), .asg (.t 29), none, [29]⟩])
 .ret))))))), [.t 2]⟩
/-- ( interrex/assume.Assume).Put -/
def f45 : AFn := ⟨5, (.seq (.reg [⟨(some 6), .box false (.t 1), none, [1]⟩,
 ⟨(some 10), .asg (.c (.b false)), none, [10]⟩])
 (.seq (.seq (.reg [⟨(some 11), .mv (.t 0), none, []⟩,
 ⟨(some 12), .eqn false (.t 11) (.c .nilp), none, [11]⟩,
 ⟨(some 13), .mv (.t 12), none, [12]⟩,
 ⟨(some 14), .mv (.t 0), (some (13, false)), []⟩,
 ⟨(some 15), .nilc (.t 14), (some (13, false)), [14]⟩,
 ⟨(some 16), .faddr 0 (.t 15), (some (13, false)), [15]⟩,
 ⟨(some 17), .load none (.t 16), (some (13, false)), [16]⟩,
 ⟨(some 18), .lenL (.t 17), (some (13, false)), [17]⟩,
 ⟨(some 19), .bin .geq (.t 18) (.c (.i .i64 40)), (some (13, false)), [18]⟩,
 ⟨(some 20), .pick (.t 13) (.c (.b true)) (.t 19), none, [13, 19]⟩,
 ⟨(some 21), .mv (.t 20), none, [20]⟩,
 ⟨(some 22), .faddr 1 (.t 6), (some (21, false)), []⟩,
 ⟨(some 23), .load none (.t 22), (some (21, false)), [22]⟩,
 ⟨(some 24), .bin .eql (.t 23) (.c (.s [])), (some (21, false)), [23]⟩,
 ⟨(some 25), .pick (.t 21) (.c (.b true)) (.t 24), none, [21, 24]⟩,
 ⟨(some 26), .mv (.t 25), none, [25]⟩,
 ⟨(some 27), .mv (.t 0), (some (26, false)), []⟩,
 ⟨(some 28), .faddr 0 (.t 6), (some (26, false)), []⟩,
 ⟨(some 29), .load none (.t 28), (some (26, false)), [28]⟩,
 ⟨(some 30), .call 52 [(.t 27), (.t 29)], (some (26, false)), [27, 29]⟩,
 ⟨(some 31), .pick (.t 26) (.c (.b true)) (.t 30), none, [26, 30]⟩])
 (.cond (.t 31) (.seq (.reg [⟨(some 10), .asg (.c (.b false)), none, []⟩])
 .ret)
 .skip))
 (.seq (.dreg [⟨0, ⟨(some 32), .mv (.t 0), none, []⟩, false, []⟩,
 ⟨1, ⟨(some 33), .mv (.t 0), none, []⟩, false, []⟩,
 ⟨2, ⟨(some 34), .nilc (.t 33), none, []⟩, false, []⟩,
 ⟨3, ⟨(some 35), .faddr 0 (.t 34), none, []⟩, false, []⟩,
 ⟨4, ⟨(some 36), .load none (.t 35), none, []⟩, false, []⟩,
 ⟨5, ⟨(some 37), .load (some 3) (.t 6), none, []⟩, false, []⟩,
 ⟨7, ⟨(some 39), .mv (.t 2), none, []⟩, false, []⟩,
 ⟨8, ⟨(some 40), .mv (.t 3), none, []⟩, false, []⟩,
 ⟨9, ⟨(some 41), .mv (.t 4), none, []⟩, false, []⟩,
 ⟨6, ⟨(some 38), .call 82 [(.t 37)], none, []⟩, true, [4]⟩,
 ⟨10, ⟨(some 42), .bld [(.s []), (.s []), .nils, (.i .i64 0), (.i .i64 0), (.i .i64 0)] [(0, 3, (.t 38)), (3, 1, (.t 39)), (4, 1, (.t 40)), (5, 1, (.t 41))], none, []⟩, false, []⟩,
 ⟨11, ⟨(some 43), .bsl (.mu true) 6 1 [(.s []), (.s []), .nils, (.i .i64 0), (.i .i64 0), (.i .i64 0)] [(0, (.t 42))], none, []⟩, true, [4]⟩,
 ⟨12, ⟨(some 44), .append (.mu true) 6 80 (.t 36) (.t 43), none, []⟩, true, []⟩,
 ⟨13, ⟨(some 45), .nilc (.t 32), none, []⟩, false, []⟩,
 ⟨14, ⟨(some 46), .faddr 0 (.t 45), none, []⟩, false, []⟩,
 ⟨15, ⟨none, .store 1 (.t 46) (.t 44), none, []⟩, true, []⟩] [0, 32, 33, 34, 35, 36, 6, 37, 38, 2, 39, 3, 40, 4, 41, 42, 43, 44, 45, 46])
 (.seq (.reg [⟨(some 10), .asg (.c (.b true)), none, []⟩])
 .ret)))), [.t 10]⟩
/-- interrex/state.Of -/
def f46 : AFn := ⟨1, (.seq (.reg [⟨(some 2), .alloc false [.nils, .nils], none, []⟩,
 ⟨(some 3), .asg (.c (.b false)), none, [3]⟩])
 (.seq (.reg [⟨(some 4), .alloc false [.nils, .nils], none, []⟩])
 (.seq (.seq (.reg [⟨(some 12), .mv (.t 0), none, [0]⟩,
 ⟨(some 13), .lenL (.t 12), none, []⟩,
 ⟨(some 14), .mv (.c (.i .i64 0)), none, []⟩])
 (.blk 0 (.loop (.seq (.reg [⟨(some 15), .bin .lss (.t 14) (.t 13), none, []⟩])
 (.seq (.cond (.t 15) .skip
 (.exit 0))
 (.seq (.blk 1 (.seq (.reg [⟨(some 16), .iasl 3 (.t 12) (.t 14), none, []⟩,
 ⟨(some 17), .load (some 3) (.t 16), none, [16]⟩,
 ⟨(some 6), .alloc false [(.s []), (.i .i64 0), .nils], none, []⟩,
 ⟨none, .store 3 (.t 6) (.t 17), none, [17]⟩])
 (.seq (.reg [⟨(some 7), .asg (.c (.b true)), none, []⟩])
 (.seq (.seq (.reg [⟨(some 18), .faddr 0 (.t 6), none, []⟩,
 ⟨(some 19), .load none (.t 18), none, [18]⟩,
 ⟨(some 20), .call 83 [(.t 19)], none, [19]⟩])
 (.blk 2 (.seq (.reg [⟨(some 22), .bin .eql (.t 20) (.c (.i .i64 1)), none, []⟩,
 ⟨(some 21), .asg (.t 22), none, [22]⟩])
 (.cond (.t 21) (.seq (.reg [⟨(some 8), .alloc false [(.s []), (.i .i64 0), (.i .i64 0), (.i .i64 0), (.i .i64 0), (.i .i64 0), .nils, .nils, .nils, .nils, (.s []), .nils, (.i .i64 0), .nils, (.s []), (.i .i64 0)], none, []⟩])
 (.seq (.reg [⟨(some 24), .faddr 2 (.t 6), none, []⟩,
 ⟨(some 25), .load none (.t 24), none, [24]⟩,
 ⟨(some 26), .call 84 [(.t 25)], none, [25]⟩,
 ⟨(some 23), .mv (.t 26), none, [26]⟩,
 ⟨(some 27), .ext (.t 23) 0, none, []⟩,
 ⟨(some 28), .ext (.t 23) 1, none, [23]⟩,
 ⟨none, .store 16 (.t 8) (.t 27), none, [27]⟩,
 ⟨(some 7), .asg (.t 28), none, [28]⟩])
 (.seq (.dreg [⟨0, ⟨(some 29), .mv (.t 7), none, []⟩, false, []⟩,
 ⟨1, ⟨(some 30), .mv (.t 29), none, []⟩, false, []⟩,
 ⟨2, ⟨(some 31), .faddr 0 (.t 8), (some (30, true)), []⟩, false, []⟩,
 ⟨3, ⟨(some 32), .load none (.t 31), (some (30, true)), []⟩, false, []⟩,
 ⟨5, ⟨(some 34), .faddr 0 (.t 6), (some (30, true)), []⟩, false, []⟩,
 ⟨6, ⟨(some 35), .load none (.t 34), (some (30, true)), []⟩, false, []⟩,
 ⟨4, ⟨(some 33), .call 61 [(.c (.i .i64 1)), (.t 32)], (some (30, true)), []⟩, true, [6]⟩,
 ⟨7, ⟨(some 36), .bin .eql (.t 33) (.t 35), (some (30, true)), []⟩, false, []⟩,
 ⟨8, ⟨(some 37), .pick (.t 30) (.t 36) (.c (.b false)), none, []⟩, false, []⟩,
 ⟨9, ⟨(some 7), .asg (.t 37), none, []⟩, true, []⟩] [29, 30, 31, 32, 33, 6, 34, 35, 36, 37])
 (.reg [⟨(some 38), .faddr 1 (.t 4), none, []⟩,
 ⟨(some 39), .load none (.t 38), none, [38]⟩,
 ⟨(some 40), .load (some 16) (.t 8), none, [8]⟩,
 ⟨(some 41), .bsl (.mu true) 16 1 [(.s []), (.i .i64 0), (.i .i64 0), (.i .i64 0), (.i .i64 0), (.i .i64 0), .nils, .nils, .nils, .nils, (.s []), .nils, (.i .i64 0), .nils, (.s []), (.i .i64 0)] [(0, (.t 40))], none, [40]⟩,
 ⟨(some 42), .append (.mu true) 16 248 (.t 39) (.t 41), none, [39, 41]⟩,
 ⟨(some 43), .faddr 1 (.t 4), none, []⟩,
 ⟨none, .store 1 (.t 43) (.t 42), none, [43, 42]⟩]))))
 (.seq (.reg [⟨(some 45), .bin .eql (.t 20) (.c (.i .i64 2)), none, [20]⟩,
 ⟨(some 44), .asg (.t 45), none, [45]⟩])
 (.cond (.t 44) (.seq (.reg [⟨(some 9), .alloc false [(.s []), (.i .i64 0), (.i .i64 0), (.i .i64 0), .nils, .nils], none, []⟩])
 (.seq (.reg [⟨(some 47), .faddr 2 (.t 6), none, []⟩,
 ⟨(some 48), .load none (.t 47), none, [47]⟩,
 ⟨(some 49), .call 85 [(.t 48)], none, [48]⟩,
 ⟨(some 46), .mv (.t 49), none, [49]⟩,
 ⟨(some 50), .ext (.t 46) 0, none, []⟩,
 ⟨(some 51), .ext (.t 46) 1, none, [46]⟩,
 ⟨none, .store 6 (.t 9) (.t 50), none, [50]⟩,
 ⟨(some 7), .asg (.t 51), none, [51]⟩])
 (.seq (.dreg [⟨0, ⟨(some 52), .mv (.t 7), none, []⟩, false, []⟩,
 ⟨1, ⟨(some 53), .mv (.t 52), none, []⟩, false, []⟩,
 ⟨2, ⟨(some 54), .faddr 0 (.t 9), (some (53, true)), []⟩, false, []⟩,
 ⟨3, ⟨(some 55), .load none (.t 54), (some (53, true)), []⟩, false, []⟩,
 ⟨5, ⟨(some 57), .faddr 0 (.t 6), (some (53, true)), []⟩, false, []⟩,
 ⟨6, ⟨(some 58), .load none (.t 57), (some (53, true)), []⟩, false, []⟩,
 ⟨4, ⟨(some 56), .call 61 [(.c (.i .i64 2)), (.t 55)], (some (53, true)), []⟩, true, [6]⟩,
 ⟨7, ⟨(some 59), .bin .eql (.t 56) (.t 58), (some (53, true)), []⟩, false, []⟩,
 ⟨8, ⟨(some 60), .pick (.t 53) (.t 59) (.c (.b false)), none, []⟩, false, []⟩,
 ⟨9, ⟨(some 7), .asg (.t 60), none, []⟩, true, []⟩] [52, 53, 54, 55, 56, 6, 57, 58, 59, 60])
 (.reg [⟨(some 61), .faddr 0 (.t 4), none, []⟩,
 ⟨(some 62), .load none (.t 61), none, [61]⟩,
 ⟨(some 63), .load (some 6) (.t 9), none, [9]⟩,
 ⟨(some 64), .bsl (.mu true) 6 1 [(.s []), (.i .i64 0), (.i .i64 0), (.i .i64 0), .nils, .nils] [(0, (.t 63))], none, [63]⟩,
 ⟨(some 65), .append (.mu true) 6 88 (.t 62) (.t 64), none, [62, 64]⟩,
 ⟨(some 66), .faddr 0 (.t 4), none, []⟩,
 ⟨none, .store 1 (.t 66) (.t 65), none, [66, 65]⟩]))))
 .skip))))))
 (.seq (.reg [⟨(some 67), .mv (.t 7), none, [7]⟩,
 ⟨(some 68), .un .not (.t 67), none, [67]⟩])
 (.cond (.t 68) (.seq (.reg [⟨(some 69), .bld [.nils, .nils] [], none, []⟩,
 ⟨none, .store 2 (.t 2) (.t 69), none, [69]⟩,
 ⟨(some 3), .asg (.c (.b false)), none, []⟩])
 .ret)
 .skip))))))
 (.reg [⟨(some 70), .bin .add (.t 14) (.c (.i .i64 1)), none, [14]⟩,
 ⟨(some 14), .mv (.t 70), none, [70]⟩])))))))
 (.seq (.reg [⟨(some 71), .faddr 1 (.t 4), none, []⟩,
 ⟨(some 72), .load none (.t 71), none, [71]⟩,
 ⟨(some 73), .call 86 [(.t 72), (.c (.fn 87 [] []))], none, [72, 73]⟩])
 (.seq (.reg [⟨(some 74), .faddr 0 (.t 4), none, []⟩,
 ⟨(some 75), .load none (.t 74), none, [74]⟩,
 ⟨(some 76), .call 89 [(.t 75), (.c (.fn 90 [] []))], none, [75, 76]⟩])
 (.seq (.seq (.reg [⟨(some 10), .asg (.c (.i .i64 1)), none, []⟩])
 (.blk 3 (.loop (.seq (.seq (.reg [⟨(some 77), .mv (.t 10), none, []⟩,
 ⟨(some 78), .faddr 1 (.t 4), none, []⟩,
 ⟨(some 79), .load none (.t 78), none, [78]⟩,
 ⟨(some 80), .lenL (.t 79), none, [79]⟩,
 ⟨(some 81), .bin .lss (.t 77) (.t 80), none, [77, 80]⟩])
 (.cond (.t 81) .skip
 (.exit 3)))
 (.seq (.blk 4 (.seq (.dreg [⟨0, ⟨(some 84), .faddr 1 (.t 4), none, []⟩, false, []⟩,
 ⟨1, ⟨(some 85), .load none (.t 84), none, []⟩, false, []⟩,
 ⟨2, ⟨(some 86), .mv (.t 10), none, []⟩, false, []⟩,
 ⟨3, ⟨(some 87), .iasl 16 (.t 85) (.t 86), none, []⟩, false, []⟩,
 ⟨4, ⟨(some 88), .faddr 0 (.t 87), none, []⟩, false, []⟩,
 ⟨5, ⟨(some 89), .load none (.t 88), none, []⟩, false, []⟩,
 ⟨6, ⟨(some 90), .faddr 1 (.t 4), none, []⟩, false, []⟩,
 ⟨7, ⟨(some 91), .load none (.t 90), none, []⟩, false, []⟩,
 ⟨8, ⟨(some 92), .mv (.t 10), none, []⟩, false, []⟩,
 ⟨9, ⟨(some 93), .bin .sub (.t 92) (.c (.i .i64 1)), none, []⟩, false, []⟩,
 ⟨10, ⟨(some 94), .iasl 16 (.t 91) (.t 93), none, []⟩, false, []⟩,
 ⟨11, ⟨(some 95), .faddr 0 (.t 94), none, []⟩, false, []⟩,
 ⟨12, ⟨(some 96), .load none (.t 95), none, []⟩, false, []⟩,
 ⟨13, ⟨(some 97), .bin .eql (.t 89) (.t 96), none, []⟩, false, []⟩] [84, 85, 86, 87, 88, 89, 90, 91, 92, 93, 94, 95, 96])
 (.cond (.t 97) (.seq (.reg [⟨(some 98), .bld [.nils, .nils] [], none, []⟩,
 ⟨none, .store 2 (.t 2) (.t 98), none, [98]⟩,
 ⟨(some 3), .asg (.c (.b false)), none, []⟩])
 .ret)
 .skip)))
 (.reg [⟨(some 82), .mv (.t 10), none, [10]⟩,
 ⟨(some 83), .bin .add (.t 82) (.c (.i .i64 1)), none, [82]⟩,
 ⟨(some 10), .asg (.t 83), none, [83]⟩]))))))
 (.seq (.seq (.reg [⟨(some 11), .asg (.c (.i .i64 1)), none, []⟩])
 (.blk 5 (.loop (.seq (.seq (.reg [⟨(some 99), .mv (.t 11), none, []⟩,
 ⟨(some 100), .faddr 0 (.t 4), none, []⟩,
 ⟨(some 101), .load none (.t 100), none, [100]⟩,
 ⟨(some 102), .lenL (.t 101), none, [101]⟩,
 ⟨(some 103), .bin .lss (.t 99) (.t 102), none, [99, 102]⟩])
 (.cond (.t 103) .skip
 (.exit 5)))
 (.seq (.blk 6 (.seq (.dreg [⟨0, ⟨(some 106), .faddr 0 (.t 4), none, []⟩, false, []⟩,
 ⟨1, ⟨(some 107), .load none (.t 106), none, []⟩, false, []⟩,
 ⟨2, ⟨(some 108), .mv (.t 11), none, []⟩, false, []⟩,
 ⟨3, ⟨(some 109), .iasl 6 (.t 107) (.t 108), none, []⟩, false, []⟩,
 ⟨4, ⟨(some 110), .faddr 0 (.t 109), none, []⟩, false, []⟩,
 ⟨5, ⟨(some 111), .load none (.t 110), none, []⟩, false, []⟩,
 ⟨6, ⟨(some 112), .faddr 0 (.t 4), none, []⟩, false, []⟩,
 ⟨7, ⟨(some 113), .load none (.t 112), none, []⟩, false, []⟩,
 ⟨8, ⟨(some 114), .mv (.t 11), none, []⟩, false, []⟩,
 ⟨9, ⟨(some 115), .bin .sub (.t 114) (.c (.i .i64 1)), none, []⟩, false, []⟩,
 ⟨10, ⟨(some 116), .iasl 6 (.t 113) (.t 115), none, []⟩, false, []⟩,
 ⟨11, ⟨(some 117), .faddr 0 (.t 116), none, []⟩, false, []⟩,
 ⟨12, ⟨(some 118), .load none (.t 117), none, []⟩, false, []⟩,
 ⟨13, ⟨(some 119), .bin .eql (.t 111) (.t 118), none, []⟩, false, []⟩] [106, 107, 108, 109, 110, 111, 112, 113, 114, 115, 116, 117, 118])
 (.cond (.t 119) (.seq (.reg [⟨(some 120), .bld [.nils, .nils] [], none, []⟩,
 ⟨none, .store 2 (.t 2) (.t 120), none, [120]⟩,
 ⟨(some 3), .asg (.c (.b false)), none, []⟩])
 .ret)
 .skip)))
 (.reg [⟨(some 104), .mv (.t 11), none, [11]⟩,
 ⟨(some 105), .bin .add (.t 104) (.c (.i .i64 1)), none, [104]⟩,
 ⟨(some 11), .asg (.t 105), none, [105]⟩]))))))
 (.seq (.reg [⟨(some 121), .load (some 2) (.t 4), none, [4]⟩,
 ⟨none, .store 2 (.t 2) (.t 121), none, [121]⟩,
 ⟨(some 3), .asg (.c (.b true)), none, []⟩])
 .ret)))))))), [.cell 2 (some 2), .t 3]⟩
/-- interrex/code.PutPod -/
def f47 : AFn := ⟨1, (.seq (.reg [⟨(some 1), .box false (.t 0), none, [0]⟩,
 ⟨(some 2), .asg (.c .nils), none, [2]⟩])
 (.seq (.seq (.reg [⟨(some 8), .load (some 16) (.t 1), none, []⟩,
 ⟨(some 9), .call 91 [(.t 8)], none, [8]⟩,
 ⟨(some 10), .un .not (.t 9), none, [9]⟩])
 (.cond (.t 10) (.seq (.reg [⟨(some 2), .asg (.c .nils), none, []⟩])
 .ret)
 .skip))
 (.seq (.reg [⟨(some 3), .alloc true [(.i .u32 0), (.i .i32 0), (.i .u32 0), (.i .u64 0), (.i .u64 0), (.i .u64 0), (.i .u64 0), (.i .u64 0), (.i .u64 0), (.i .u64 0), (.i .u64 0), (.i .u64 0), (.i .u64 0), (.i .u64 0), (.i .u64 0), (.i .u64 0), (.i .u64 0), (.i .u64 0), (.i .u64 0), (.i .u64 0), (.i .u64 0), (.i .u64 0), (.i .u64 0), (.i .u64 0), (.i .u64 0), (.i .u64 0), (.i .u64 0), (.i .u64 0), (.i .u64 0), (.i .u64 0), (.i .u64 0), (.i .u64 0), (.i .u64 0), (.i .u64 0), (.i .u64 0), (.i .u64 0), (.i .u64 0), (.i .u64 0), (.i .u64 0), (.i .u64 0), (.i .u64 0), (.i .u64 0), (.i .u64 0), (.i .u64 0), (.i .u64 0), (.i .u64 0), (.i .u64 0), (.i .u64 0), (.i .u64 0), (.i .u64 0), (.i .u64 0), (.i .u64 0), (.i .u64 0), (.i .u64 0), (.i .u64 0), (.i .u64 0), (.i .u64 0), (.i .u64 0), (.i .u64 0), (.i .u64 0), (.i .u64 0), (.i .u64 0), (.i .u64 0), (.i .u64 0), (.i .u64 0), (.i .u64 0), (.i .u64 0), (.i .u64 0), (.i .u64 0), (.i .u64 0), (.i .u64 0), (.i .u64 0), (.i .u64 0), (.i .u64 0), (.i .u64 0), (.i .u64 0), (.i .u64 0), (.i .u64 0), (.i .u64 0), (.i .u64 0), (.i .u64 0), (.i .u64 0), (.i .u64 0), (.i .u64 0), (.i .u64 0), (.i .u64 0), (.i .u64 0), (.i .u64 0), (.i .u64 0), (.i .u64 0), (.i .u64 0), (.i .u64 0), (.i .u64 0), (.i .u64 0), (.i .u64 0), (.i .u64 0), (.i .u64 0), (.i .u64 0), (.i .u64 0), (.i .u64 0), (.i .u64 0), (.i .u64 0), (.i .u64 0), (.i .u64 0), (.i .u64 0), (.i .u64 0), (.i .u64 0), (.i .u64 0), (.i .u64 0), (.i .u64 0), (.i .u64 0), (.i .u64 0), (.i .u64 0), (.i .u64 0), (.i .u64 0), (.i .u64 0), (.i .u64 0), (.i .u64 0), (.i .u64 0), (.i .u64 0), (.i .u64 0), (.i .u64 0), (.i .u64 0), (.i .u64 0), (.i .u64 0), (.i .u64 0), (.i .u64 0), (.i .u64 0), (.i .u64 0), (.i .u64 0), (.i .u64 0), (.i .u64 0), (.i .u64 0), (.i .u64 0), (.i .u64 0), (.i .u64 0), (.i .u64 0), (.i .u64 0), (.i .u64 0), (.i .u64 0), (.i .u64 0), (.i .u64 0), (.i .u64 0), (.i .u64 0), (.i .u64 0), (.i .u64 0), (.i .u64 0), (.i .u64 0), (.i .u64 0), (.i .u64 0), (.i .u64 0), (.i .u64 0), (.i .u64 0), (.i .u64 0), (.i .u64 0), (.i .u64 0), (.i .u64 0), (.i .u64 0), (.i .u64 0), (.i .u64 0), (.i .u64 0), (.i .u64 0), (.i .u64 0), (.i .u64 0), (.i .u64 0), (.i .u64 0), (.i .u64 0), (.i .u64 0), (.i .u64 0), (.i .u64 0), (.i .u64 0), (.i .u64 0), (.i .u64 0), (.i .u64 0), (.i .u64 0), (.i .u64 0), (.i .u64 0), (.i .u64 0), (.i .u64 0), (.i .u64 0), (.i .u64 0), (.i .u64 0), (.i .u64 0), (.i .u64 0), (.i .u64 0), (.i .u64 0), (.i .u64 0), (.i .u64 0), (.i .u64 0), (.i .u64 0), (.i .u64 0), (.i .u64 0), (.i .u64 0), (.i .u64 0), (.i .u64 0), (.i .u64 0), (.i .u64 0), (.i .u64 0), (.i .u64 0), (.i .u64 0), (.i .u64 0), (.i .u64 0), (.i .u64 0), (.i .u64 0), (.i .u64 0), (.i .u64 0), (.i .u64 0), (.i .u64 0), (.i .u64 0), (.i .u64 0), (.i .u64 0), (.i .u64 0), (.i .u64 0), (.i .u64 0), (.i .u64 0), (.i .u64 0), (.i .u64 0), (.i .u64 0), (.i .u64 0), (.i .u64 0), (.i .u64 0), (.i .u64 0), (.i .u64 0), (.i .u64 0), (.i .u64 0), (.i .u64 0), (.i .u64 0), (.i .u64 0), (.i .u64 0), (.i .u64 0), (.i .u64 0), (.i .u64 0), (.i .u64 0), (.i .u64 0), (.i .u64 0), (.i .u64 0), (.i .u64 0), (.i .u64 0), (.i .u64 0), (.i .u64 0), (.i .u64 0), (.i .u64 0), (.i .u64 0), (.i .u64 0), (.i .u64 0), (.i .u64 0), (.i .u64 0), (.i .u64 0), (.i .u64 0), (.i .u64 0), (.i .u64 0), (.i .u64 0), (.i .u64 0), (.i .u64 0), (.i .u64 0), (.i .u64 0), (.i .u64 0), (.i .u64 0), (.i .u64 0), (.i .u8 0), (.i .u8 0), (.i .u8 0), (.i .u8 0), (.i .u8 0), (.i .u8 0), (.i .u8 0), (.i .u8 0), (.i .u8 0), (.i .u8 0), (.i .u8 0), (.i .u8 0), (.i .u8 0), (.i .u8 0), (.i .u8 0), (.i .u8 0), (.i .u8 0), (.i .u8 0), (.i .u8 0), (.i .u8 0), (.i .u8 0), (.i .u8 0), (.i .u8 0), (.i .u8 0), (.i .u8 0), (.i .u8 0), (.i .u8 0), (.i .u8 0), (.i .u8 0), (.i .u8 0), (.i .u8 0), (.i .u8 0), (.i .u8 0), (.i .u8 0), (.i .u8 0), (.i .u8 0), (.i .u8 0), (.i .u8 0), .nils], none, []⟩])
 (.seq (.reg [⟨(some 11), .call 80 [(.t 3), (.c (.i .i64 1)), (.c (.i .i64 1))], none, [11]⟩])
 (.seq (.reg [⟨(some 12), .faddr 0 (.t 1), none, []⟩,
 ⟨(some 13), .load none (.t 12), none, [12]⟩,
 ⟨(some 14), .call 92 [(.t 3), (.t 13)], none, [13, 14]⟩])
 (.seq (.reg [⟨(some 15), .faddr 1 (.t 1), none, []⟩,
 ⟨(some 16), .load none (.t 15), none, [15]⟩,
 ⟨(some 17), .call 80 [(.t 3), (.t 16), (.c (.i .i64 8))], none, [16, 17]⟩])
 (.seq (.reg [⟨(some 18), .faddr 2 (.t 1), none, []⟩,
 ⟨(some 19), .load none (.t 18), none, [18]⟩,
 ⟨(some 20), .call 80 [(.t 3), (.t 19), (.c (.i .i64 2))], none, [19, 20]⟩])
 (.seq (.reg [⟨(some 21), .faddr 3 (.t 1), none, []⟩,
 ⟨(some 22), .load (some 3) (.t 21), none, [21]⟩,
 ⟨(some 23), .call 93 [(.t 3), (.t 22)], none, [22, 23]⟩])
 (.seq (.reg [⟨(some 24), .faddr 6 (.t 1), none, []⟩,
 ⟨(some 25), .load none (.t 24), none, [24]⟩,
 ⟨(some 26), .lenL (.t 25), none, [25]⟩,
 ⟨(some 27), .call 80 [(.t 3), (.t 26), (.c (.i .i64 1))], none, [26, 27]⟩])
 (.seq (.seq (.reg [⟨(some 28), .faddr 6 (.t 1), none, []⟩,
 ⟨(some 29), .load none (.t 28), none, [28]⟩,
 ⟨(some 30), .lenL (.t 29), none, []⟩,
 ⟨(some 31), .mv (.c (.i .i64 0)), none, []⟩])
 (.blk 0 (.loop (.seq (.reg [⟨(some 32), .bin .lss (.t 31) (.t 30), none, []⟩])
 (.seq (.cond (.t 32) .skip
 (.exit 0))
 (.seq (.blk 1 (.seq (.reg [⟨(some 33), .iasl 1 (.t 29) (.t 31), none, []⟩,
 ⟨(some 34), .load none (.t 33), none, [33]⟩,
 ⟨(some 5), .asg (.t 34), none, [34]⟩])
 (.reg [⟨(some 35), .mv (.t 5), none, [5]⟩,
 ⟨(some 36), .call 80 [(.t 3), (.t 35), (.c (.i .i64 2))], none, [35, 36]⟩])))
 (.reg [⟨(some 37), .bin .add (.t 31) (.c (.i .i64 1)), none, [31]⟩,
 ⟨(some 31), .mv (.t 37), none, [37]⟩])))))))
 (.seq (.reg [⟨(some 38), .faddr 7 (.t 1), none, []⟩,
 ⟨(some 39), .load none (.t 38), none, [38]⟩,
 ⟨(some 40), .call 94 [(.t 3), (.t 39), (.c (.fn 95 [] []))], none, [39, 40]⟩])
 (.seq (.reg [⟨(some 41), .faddr 8 (.t 1), none, []⟩,
 ⟨(some 42), .load none (.t 41), none, [41]⟩,
 ⟨(some 43), .call 96 [(.t 3), (.t 42)], none, [42, 43]⟩])
 (.seq (.reg [⟨(some 44), .faddr 9 (.t 1), none, []⟩,
 ⟨(some 45), .load none (.t 44), none, [44]⟩,
 ⟨(some 46), .lenL (.t 45), none, [45]⟩,
 ⟨(some 47), .call 80 [(.t 3), (.t 46), (.c (.i .i64 1))], none, [46, 47]⟩])
 (.seq (.seq (.reg [⟨(some 48), .faddr 9 (.t 1), none, []⟩,
 ⟨(some 49), .load none (.t 48), none, [48]⟩,
 ⟨(some 50), .lenL (.t 49), none, []⟩,
 ⟨(some 51), .mv (.c (.i .i64 0)), none, []⟩])
 (.blk 2 (.loop (.seq (.reg [⟨(some 52), .bin .lss (.t 51) (.t 50), none, []⟩])
 (.seq (.cond (.t 52) .skip
 (.exit 2))
 (.seq (.blk 3 (.seq (.reg [⟨(some 53), .iasl 3 (.t 49) (.t 51), none, []⟩,
 ⟨(some 54), .load (some 3) (.t 53), none, [53]⟩,
 ⟨(some 7), .alloc false [(.s []), (.s []), (.b false)], none, []⟩,
 ⟨none, .store 3 (.t 7) (.t 54), none, [54]⟩])
 (.seq (.reg [⟨(some 55), .faddr 0 (.t 7), none, []⟩,
 ⟨(some 56), .load none (.t 55), none, [55]⟩,
 ⟨(some 57), .call 92 [(.t 3), (.t 56)], none, [56, 57]⟩])
 (.seq (.reg [⟨(some 58), .faddr 1 (.t 7), none, []⟩,
 ⟨(some 59), .load none (.t 58), none, [58]⟩,
 ⟨(some 60), .call 92 [(.t 3), (.t 59)], none, [59, 60]⟩])
 (.reg [⟨(some 61), .faddr 2 (.t 7), none, [7]⟩,
 ⟨(some 62), .load none (.t 61), none, [61]⟩,
 ⟨(some 63), .call 97 [(.t 3), (.t 62)], none, [62, 63]⟩])))))
 (.reg [⟨(some 64), .bin .add (.t 51) (.c (.i .i64 1)), none, [51]⟩,
 ⟨(some 51), .mv (.t 64), none, [64]⟩])))))))
 (.seq (.reg [⟨(some 65), .faddr 10 (.t 1), none, []⟩,
 ⟨(some 66), .load none (.t 65), none, [65]⟩,
 ⟨(some 67), .call 92 [(.t 3), (.t 66)], none, [66, 67]⟩])
 (.seq (.reg [⟨(some 68), .faddr 11 (.t 1), none, []⟩,
 ⟨(some 69), .load none (.t 68), none, [68]⟩,
 ⟨(some 70), .call 96 [(.t 3), (.t 69)], none, [69, 70]⟩])
 (.seq (.reg [⟨(some 71), .faddr 12 (.t 1), none, []⟩,
 ⟨(some 72), .load none (.t 71), none, [71]⟩,
 ⟨(some 73), .call 80 [(.t 3), (.t 72), (.c (.i .i64 1))], none, [72, 73]⟩])
 (.seq (.reg [⟨(some 74), .faddr 13 (.t 1), none, []⟩,
 ⟨(some 75), .load none (.t 74), none, [74]⟩,
 ⟨(some 76), .call 96 [(.t 3), (.t 75)], none, [75, 76]⟩])
 (.seq (.reg [⟨(some 77), .faddr 14 (.t 1), none, []⟩,
 ⟨(some 78), .load none (.t 77), none, [77]⟩,
 ⟨(some 79), .call 92 [(.t 3), (.t 78)], none, [78, 79]⟩])
 (.seq (.reg [⟨(some 80), .faddr 15 (.t 1), none, [1]⟩,
 ⟨(some 81), .load none (.t 80), none, [80]⟩,
 ⟨(some 82), .call 80 [(.t 3), (.t 81), (.c (.i .i64 8))], none, [81, 82]⟩])
 (.seq (.reg [⟨(some 83), .call 81 [(.t 3)], none, [3]⟩,
 ⟨(some 2), .asg (.t 83), none, [83]⟩])
 .ret))))))))))))))))))))), [.t 2]⟩
/-- interrex/interrexlaw1.Some -/
def f48 : AFn := ⟨0, (.seq (.reg [⟨(some 0), .alloc false [(.s []), (.i .i64 0), (.i .i64 0), (.i .i64 0), (.i .i64 0), (.i .i64 0), .nils, .nils, .nils, .nils, (.s []), .nils, (.i .i64 0), .nils, (.s []), (.i .i64 0)], none, []⟩])
 (.seq (.reg [⟨(some 1), .bld [(.i .i64 0), (.i .i64 0), (.i .i64 0)] [(0, 1, (.c (.i .i64 2))), (1, 1, (.c (.i .i64 3))), (2, 1, (.c (.i .i64 0)))], none, []⟩,
 ⟨(some 2), .bsl (.im false) 1 2 [(.i .i64 0)] [(0, (.c (.i .i64 80))), (1, (.c (.i .i64 443)))], none, []⟩,
 ⟨(some 3), .bld [(.s []), (.s [])] [(0, 1, (.c (.s [97, 112, 112]))), (1, 1, (.c (.s [120])))], none, []⟩,
 ⟨(some 4), .bsl (.im false) 2 1 [(.s []), (.s [])] [(0, (.t 3))], none, [3]⟩,
 ⟨(some 5), .bsl (.im false) 1 2 [(.s [])] [(0, (.c (.s [97]))), (1, (.c (.s [98])))], none, []⟩,
 ⟨(some 6), .bld [(.s []), (.i .i64 0), .nils] [(0, 1, (.c (.s [122, 111, 110, 101]))), (1, 1, (.c (.i .i64 1))), (2, 1, (.t 5))], none, [5]⟩,
 ⟨(some 7), .bsl (.im false) 3 1 [(.s []), (.i .i64 0), .nils] [(0, (.t 6))], none, [6]⟩,
 ⟨(some 8), .bld [(.s []), (.s []), (.b false)] [(2, 1, (.c (.b true)))], none, []⟩,
 ⟨(some 9), .bsl (.im false) 3 1 [(.s []), (.s []), (.b false)] [(0, (.t 8))], none, [8]⟩,
 ⟨(some 10), .bld [(.s []), (.i .i64 0), .nils] [(0, 1, (.c (.s [97, 112, 112]))), (1, 1, (.c (.i .i64 3)))], none, []⟩,
 ⟨(some 11), .bsl (.im false) 3 1 [(.s []), (.i .i64 0), .nils] [(0, (.t 10))], none, [10]⟩,
 ⟨(some 12), .bld [(.s []), (.i .i64 0), (.i .i64 0), (.i .i64 0), (.i .i64 0), (.i .i64 0), .nils, .nils, .nils, .nils, (.s []), .nils, (.i .i64 0), .nils, (.s []), (.i .i64 0)] [(0, 1, (.c (.s [97]))), (1, 1, (.c (.i .i64 7))), (2, 1, (.c (.i .i64 3))), (3, 3, (.t 1)), (6, 1, (.t 2)), (7, 1, (.t 4)), (8, 1, (.t 7)), (9, 1, (.t 9)), (10, 1, (.c (.s [122, 111, 110, 101]))), (11, 1, (.t 11)), (12, 1, (.c (.i .i64 2)))], none, [1, 2, 4, 7, 9, 11]⟩,
 ⟨none, .store 16 (.t 0) (.t 12), none, [12]⟩])
 .ret)), [.cell 0 (some 16)]⟩
/-- interrex/interrexlaw6.Begun -/
def f49 : AFn := ⟨0, (.seq (.reg [⟨(some 0), .asg (.c (.b false)), none, [0]⟩])
 (.seq (.reg [⟨(some 1), .call 98 [], none, []⟩,
 ⟨(some 0), .asg (.t 1), none, [1]⟩])
 .ret)), [.t 0]⟩
/-- ( interrex/clock.Clocks).Now -/
def f50 : AFn := ⟨2, (.seq (.reg [⟨(some 4), .asg (.c (.i .i64 0)), none, [4]⟩])
 (.seq (.seq (.reg [⟨(some 5), .mv (.t 0), none, []⟩,
 ⟨(some 6), .eqn false (.t 5) (.c .nilp), none, [5]⟩,
 ⟨(some 7), .mv (.t 6), none, [6]⟩,
 ⟨(some 8), .mv (.t 1), (some (7, false)), []⟩,
 ⟨(some 9), .bin .lss (.t 8) (.c (.i .i64 0)), (some (7, false)), [8]⟩,
 ⟨(some 10), .pick (.t 7) (.c (.b true)) (.t 9), none, [7, 9]⟩,
 ⟨(some 11), .mv (.t 10), none, [10]⟩,
 ⟨(some 12), .mv (.t 1), (some (11, false)), []⟩,
 ⟨(some 13), .mv (.t 0), (some (11, false)), []⟩,
 ⟨(some 14), .nilc (.t 13), (some (11, false)), [13]⟩,
 ⟨(some 15), .faddr 0 (.t 14), (some (11, false)), [14]⟩,
 ⟨(some 16), .load none (.t 15), (some (11, false)), [15]⟩,
 ⟨(some 17), .lenL (.t 16), (some (11, false)), [16]⟩,
 ⟨(some 18), .bin .geq (.t 12) (.t 17), (some (11, false)), [12, 17]⟩,
 ⟨(some 19), .pick (.t 11) (.c (.b true)) (.t 18), none, [11, 18]⟩])
 (.cond (.t 19) (.seq (.reg [⟨(some 4), .asg (.c (.i .i64 0)), none, []⟩])
 .ret)
 .skip))
 (.seq (.reg [⟨(some 20), .mv (.t 0), none, [0]⟩,
 ⟨(some 21), .nilc (.t 20), none, [20]⟩,
 ⟨(some 22), .faddr 0 (.t 21), none, [21]⟩,
 ⟨(some 23), .load none (.t 22), none, [22]⟩,
 ⟨(some 24), .mv (.t 1), none, [1]⟩,
 ⟨(some 25), .iasl 1 (.t 23) (.t 24), none, [23, 24]⟩,
 ⟨(some 26), .load none (.t 25), none, [25]⟩,
 ⟨(some 4), .asg (.t 26), none, [26]⟩])
 .ret))), [.t 4]⟩
/-- ( interrex/clock.Clocks).Drift -/
def f51 : AFn := ⟨1, (.seq (.reg [⟨(some 2), .asg (.c (.i .i64 0)), none, [2]⟩])
 (.seq (.reg [⟨(some 3), .asg (.c (.i .i64 0)), none, []⟩])
 (.seq (.seq (.reg [⟨(some 6), .mv (.t 0), none, []⟩,
 ⟨(some 7), .eqn true (.t 6) (.c .nilp), none, [6]⟩])
 (.cond (.t 7) (.seq (.reg [⟨(some 8), .mv (.t 0), none, []⟩,
 ⟨(some 9), .nilc (.t 8), none, [8]⟩,
 ⟨(some 10), .faddr 0 (.t 9), none, [9]⟩,
 ⟨(some 11), .load none (.t 10), none, [10]⟩,
 ⟨(some 12), .lenL (.t 11), none, [11]⟩,
 ⟨(some 13), .mv (.c (.i .i64 0)), none, []⟩])
 (.blk 0 (.loop (.seq (.reg [⟨(some 14), .bin .lss (.t 13) (.t 12), none, []⟩])
 (.seq (.cond (.t 14) .skip
 (.exit 0))
 (.seq (.blk 1 (.seq (.reg [⟨(some 15), .mv (.t 13), none, []⟩,
 ⟨(some 4), .asg (.t 15), none, [15]⟩])
 (.seq (.reg [⟨(some 16), .mv (.t 0), none, []⟩,
 ⟨(some 17), .nilc (.t 16), none, [16]⟩,
 ⟨(some 18), .faddr 0 (.t 17), none, [17]⟩,
 ⟨(some 19), .load none (.t 18), none, [18]⟩,
 ⟨(some 20), .lenL (.t 19), none, [19]⟩,
 ⟨(some 21), .mv (.c (.i .i64 0)), none, []⟩])
 (.blk 2 (.loop (.seq (.reg [⟨(some 22), .bin .lss (.t 21) (.t 20), none, []⟩])
 (.seq (.cond (.t 22) .skip
 (.exit 2))
 (.seq (.blk 3 (.seq (.reg [⟨(some 23), .mv (.t 21), none, []⟩,
 ⟨(some 5), .asg (.t 23), none, [23]⟩])
 (.dreg [⟨0, ⟨(some 24), .mv (.t 3), none, []⟩, false, []⟩,
 ⟨1, ⟨(some 25), .mv (.t 0), none, []⟩, false, []⟩,
 ⟨2, ⟨(some 26), .mv (.t 4), none, []⟩, false, []⟩,
 ⟨3, ⟨(some 27), .mv (.t 5), none, []⟩, false, []⟩,
 ⟨4, ⟨(some 28), .nilc (.t 25), none, []⟩, false, []⟩,
 ⟨5, ⟨(some 29), .faddr 65 (.t 28), none, []⟩, false, []⟩,
 ⟨6, ⟨(some 30), .iaar 8 8 (.t 29) (.t 26), none, []⟩, false, []⟩,
 ⟨7, ⟨(some 31), .iaar 8 1 (.t 30) (.t 27), none, []⟩, false, []⟩,
 ⟨8, ⟨(some 32), .load none (.t 31), none, []⟩, false, []⟩,
 ⟨9, ⟨(some 33), .mv (.t 0), none, []⟩, false, []⟩,
 ⟨10, ⟨(some 34), .mv (.t 4), none, []⟩, false, []⟩,
 ⟨11, ⟨(some 35), .mv (.t 5), none, []⟩, false, []⟩,
 ⟨12, ⟨(some 36), .nilc (.t 33), none, []⟩, false, []⟩,
 ⟨13, ⟨(some 37), .faddr 1 (.t 36), none, []⟩, false, []⟩,
 ⟨14, ⟨(some 38), .iaar 8 8 (.t 37) (.t 34), none, []⟩, false, []⟩,
 ⟨15, ⟨(some 39), .iaar 8 1 (.t 38) (.t 35), none, []⟩, false, []⟩,
 ⟨16, ⟨(some 40), .load none (.t 39), none, []⟩, false, []⟩,
 ⟨17, ⟨(some 41), .bin .sub (.t 32) (.t 40), none, []⟩, false, []⟩,
 ⟨18, ⟨(some 42), .mnmx true [(.t 24), (.t 41)], none, []⟩, false, []⟩,
 ⟨19, ⟨(some 3), .asg (.t 42), none, []⟩, true, []⟩] [24, 25, 26, 5, 27, 28, 29, 30, 31, 32, 33, 34, 35, 36, 37, 38, 39, 40, 41, 42])))
 (.reg [⟨(some 43), .bin .add (.t 21) (.c (.i .i64 1)), none, [21]⟩,
 ⟨(some 21), .mv (.t 43), none, [43]⟩])))))))))
 (.reg [⟨(some 44), .bin .add (.t 13) (.c (.i .i64 1)), none, [13]⟩,
 ⟨(some 13), .mv (.t 44), none, [44]⟩])))))))
 .skip))
 (.seq (.reg [⟨(some 45), .mv (.t 3), none, [3]⟩,
 ⟨(some 2), .asg (.t 45), none, [45]⟩])
 .ret)))), [.t 2]⟩
/-- ( interrex/assume.Assume).Has -/
def f52 : AFn := ⟨2, (.seq (.reg [⟨(some 3), .box true (.t 1), none, [1]⟩,
 ⟨(some 4), .asg (.c (.b false)), none, [4]⟩])
 (.seq (.reg [⟨(some 5), .mv (.t 0), none, []⟩,
 ⟨(some 6), .eqn true (.t 5) (.c .nilp), none, [5]⟩,
 ⟨(some 7), .mv (.t 6), none, [6]⟩,
 ⟨(some 8), .mv (.t 0), (some (7, true)), [0]⟩,
 ⟨(some 9), .nilc (.t 8), (some (7, true)), [8]⟩,
 ⟨(some 10), .faddr 0 (.t 9), (some (7, true)), [9]⟩,
 ⟨(some 11), .load none (.t 10), (some (7, true)), [10]⟩,
 ⟨(some 12), .mkfn 100 [(.t 3)], (some (7, true)), [3]⟩,
 ⟨(some 13), .call 99 [(.t 11), (.t 12)], (some (7, true)), [11, 12]⟩,
 ⟨(some 14), .pick (.t 7) (.t 13) (.c (.b false)), none, [7, 13]⟩,
 ⟨(some 4), .asg (.t 14), none, [14]⟩])
 .ret)), [.t 4]⟩
/-- interrex/lease.Until -/
def f53 : AFn := ⟨1, (.seq (.reg [⟨(some 2), .asg (.c (.i .i64 0)), none, [2]⟩])
 (.seq (.reg [⟨(some 3), .mv (.t 0), none, [0]⟩,
 ⟨(some 4), .call 74 [(.t 3)], none, [3]⟩,
 ⟨(some 5), .bin .add (.t 4) (.c (.i .i64 1000)), none, [4]⟩,
 ⟨(some 6), .bin .sub (.t 5) (.c (.i .i64 100)), none, [5]⟩,
 ⟨(some 2), .asg (.t 6), none, [6]⟩])
 .ret)), [.t 2]⟩
/-- interrex/relist.late -/
def f54 : AFn := ⟨2, (.seq (.reg [⟨(some 4), .asg (.c (.b false)), none, [4]⟩])
 (.seq (.reg [⟨(some 5), .mv (.t 0), none, []⟩,
 ⟨(some 6), .mv (.t 1), none, []⟩,
 ⟨(some 7), .bin .geq (.t 5) (.t 6), none, [5, 6]⟩,
 ⟨(some 8), .mv (.t 7), none, [7]⟩,
 ⟨(some 9), .mv (.t 0), (some (8, true)), [0]⟩,
 ⟨(some 10), .cvi .u64 (.t 9), (some (8, true)), [9]⟩,
 ⟨(some 11), .mv (.t 1), (some (8, true)), [1]⟩,
 ⟨(some 12), .cvi .u64 (.t 11), (some (8, true)), [11]⟩,
 ⟨(some 13), .bin .sub (.t 10) (.t 12), (some (8, true)), [10, 12]⟩,
 ⟨(some 14), .bin .geq (.t 13) (.c (.i .u64 200)), (some (8, true)), [13]⟩,
 ⟨(some 15), .pick (.t 8) (.t 14) (.c (.b false)), none, [8, 14]⟩,
 ⟨(some 4), .asg (.t 15), none, [15]⟩])
 .ret)), [.t 4]⟩
/-- ( interrex/cache.Cache).Apply -/
def f55 : AFn := ⟨4, (.seq (.reg [⟨(some 8), .asg (.c (.b false)), none, [8]⟩])
 (.seq (.seq (.reg [⟨(some 14), .mv (.t 0), none, []⟩,
 ⟨(some 15), .eqn false (.t 14) (.c .nilp), none, [14]⟩,
 ⟨(some 16), .mv (.t 15), none, [15]⟩,
 ⟨(some 17), .mv (.t 0), (some (16, false)), []⟩,
 ⟨(some 18), .nilc (.t 17), (some (16, false)), [17]⟩,
 ⟨(some 19), .faddr 1 (.t 18), (some (16, false)), [18]⟩,
 ⟨(some 20), .load none (.t 19), (some (16, false)), [19]⟩,
 ⟨(some 21), .bin .lss (.t 20) (.c (.i .i64 0)), (some (16, false)), [20]⟩,
 ⟨(some 22), .pick (.t 16) (.c (.b true)) (.t 21), none, [16, 21]⟩,
 ⟨(some 23), .mv (.t 22), none, [22]⟩,
 ⟨(some 24), .mv (.t 0), (some (23, false)), []⟩,
 ⟨(some 25), .nilc (.t 24), (some (23, false)), [24]⟩,
 ⟨(some 26), .faddr 1 (.t 25), (some (23, false)), [25]⟩,
 ⟨(some 27), .load none (.t 26), (some (23, false)), [26]⟩,
 ⟨(some 28), .mv (.t 1), (some (23, false)), []⟩,
 ⟨(some 29), .bin .neq (.t 27) (.t 28), (some (23, false)), [27, 28]⟩,
 ⟨(some 30), .pick (.t 23) (.c (.b true)) (.t 29), none, [23, 29]⟩,
 ⟨(some 31), .mv (.t 30), none, [30]⟩,
 ⟨(some 32), .mv (.t 2), (some (31, false)), []⟩,
 ⟨(some 33), .mv (.t 1), (some (31, false)), []⟩,
 ⟨(some 34), .bin .lss (.t 32) (.t 33), (some (31, false)), [32, 33]⟩,
 ⟨(some 35), .pick (.t 31) (.c (.b true)) (.t 34), none, [31, 34]⟩])
 (.cond (.t 35) (.seq (.reg [⟨(some 8), .asg (.c (.b false)), none, []⟩])
 .ret)
 .skip))
 (.seq (.reg [⟨(some 36), .mv (.t 1), none, []⟩,
 ⟨(some 9), .asg (.t 36), none, [36]⟩])
 (.seq (.seq (.reg [⟨(some 37), .mv (.t 3), none, []⟩,
 ⟨(some 38), .lenL (.t 37), none, []⟩,
 ⟨(some 39), .mv (.c (.i .i64 0)), none, []⟩])
 (.blk 0 (.loop (.seq (.reg [⟨(some 40), .bin .lss (.t 39) (.t 38), none, []⟩])
 (.seq (.cond (.t 40) .skip
 (.exit 0))
 (.seq (.blk 1 (.seq (.reg [⟨(some 41), .iasl 4 (.t 37) (.t 39), none, []⟩,
 ⟨(some 42), .load (some 4) (.t 41), none, [41]⟩,
 ⟨(some 11), .alloc false [(.i .i64 0), (.s []), .nils, (.b false)], none, []⟩,
 ⟨none, .store 4 (.t 11) (.t 42), none, [42]⟩])
 (.seq (.seq (.reg [⟨(some 43), .faddr 0 (.t 11), none, []⟩,
 ⟨(some 44), .load none (.t 43), none, [43]⟩,
 ⟨(some 45), .mv (.t 9), none, [9]⟩,
 ⟨(some 46), .bin .lss (.t 44) (.t 45), none, [44, 45]⟩,
 ⟨(some 47), .mv (.t 46), none, [46]⟩,
 ⟨(some 48), .faddr 0 (.t 11), (some (47, false)), []⟩,
 ⟨(some 49), .load none (.t 48), (some (47, false)), [48]⟩,
 ⟨(some 50), .mv (.t 1), (some (47, false)), []⟩,
 ⟨(some 51), .bin .leq (.t 49) (.t 50), (some (47, false)), [49, 50]⟩,
 ⟨(some 52), .pick (.t 47) (.c (.b true)) (.t 51), none, [47, 51]⟩,
 ⟨(some 53), .mv (.t 52), none, [52]⟩,
 ⟨(some 54), .faddr 0 (.t 11), (some (53, false)), []⟩,
 ⟨(some 55), .load none (.t 54), (some (53, false)), [54]⟩,
 ⟨(some 56), .mv (.t 2), (some (53, false)), []⟩,
 ⟨(some 57), .bin .gtr (.t 55) (.t 56), (some (53, false)), [55, 56]⟩,
 ⟨(some 58), .pick (.t 53) (.c (.b true)) (.t 57), none, [53, 57]⟩])
 (.cond (.t 58) (.seq (.reg [⟨(some 8), .asg (.c (.b false)), none, []⟩])
 .ret)
 .skip))
 (.reg [⟨(some 59), .faddr 0 (.t 11), none, [11]⟩,
 ⟨(some 60), .load none (.t 59), none, [59]⟩,
 ⟨(some 9), .asg (.t 60), none, [60]⟩]))))
 (.reg [⟨(some 61), .bin .add (.t 39) (.c (.i .i64 1)), none, [39]⟩,
 ⟨(some 39), .mv (.t 61), none, [61]⟩])))))))
 (.seq (.seq (.reg [⟨(some 62), .mv (.t 3), none, [3]⟩,
 ⟨(some 63), .lenL (.t 62), none, []⟩,
 ⟨(some 64), .mv (.c (.i .i64 0)), none, []⟩])
 (.blk 2 (.loop (.seq (.reg [⟨(some 65), .bin .lss (.t 64) (.t 63), none, []⟩])
 (.seq (.cond (.t 65) .skip
 (.exit 2))
 (.seq (.blk 3 (.seq (.reg [⟨(some 66), .iasl 4 (.t 62) (.t 64), none, []⟩,
 ⟨(some 67), .load (some 4) (.t 66), none, [66]⟩,
 ⟨(some 13), .alloc false [(.i .i64 0), (.s []), .nils, (.b false)], none, []⟩,
 ⟨none, .store 4 (.t 13) (.t 67), none, [67]⟩])
 (.seq (.reg [⟨(some 68), .faddr 3 (.t 13), none, []⟩,
 ⟨(some 69), .load none (.t 68), none, [68]⟩])
 (.cond (.t 69) (.dreg [⟨0, ⟨(some 70), .mv (.t 0), none, []⟩, false, []⟩,
 ⟨1, ⟨(some 71), .nilc (.t 70), none, []⟩, false, []⟩,
 ⟨2, ⟨(some 72), .faddr 0 (.t 71), none, []⟩, false, []⟩,
 ⟨3, ⟨(some 73), .load none (.t 72), none, []⟩, false, []⟩,
 ⟨4, ⟨(some 74), .faddr 1 (.t 13), none, []⟩, false, []⟩,
 ⟨5, ⟨(some 75), .load none (.t 74), none, []⟩, false, []⟩,
 ⟨6, ⟨none, .delete none (.t 73) (.t 75), none, []⟩, true, []⟩] [70, 71, 72, 73, 13, 74, 75])
 (.dreg [⟨0, ⟨(some 76), .mv (.t 0), none, []⟩, false, []⟩,
 ⟨1, ⟨(some 77), .nilc (.t 76), none, []⟩, false, []⟩,
 ⟨2, ⟨(some 78), .faddr 0 (.t 77), none, []⟩, false, []⟩,
 ⟨3, ⟨(some 79), .load none (.t 78), none, []⟩, false, []⟩,
 ⟨4, ⟨(some 80), .faddr 1 (.t 13), none, []⟩, false, []⟩,
 ⟨5, ⟨(some 81), .load none (.t 80), none, []⟩, false, []⟩,
 ⟨6, ⟨(some 82), .faddr 1 (.t 13), none, []⟩, false, []⟩,
 ⟨7, ⟨(some 83), .load none (.t 82), none, []⟩, false, []⟩,
 ⟨8, ⟨(some 84), .faddr 0 (.t 13), none, []⟩, false, []⟩,
 ⟨9, ⟨(some 85), .load none (.t 84), none, []⟩, false, []⟩,
 ⟨10, ⟨(some 86), .faddr 2 (.t 13), none, []⟩, false, []⟩,
 ⟨11, ⟨(some 87), .load none (.t 86), none, []⟩, false, []⟩,
 ⟨12, ⟨(some 88), .bld [(.s []), (.i .i64 0), .nils] [(0, 1, (.t 83)), (1, 1, (.t 85)), (2, 1, (.t 87))], none, []⟩, false, []⟩,
 ⟨13, ⟨(some 89), .call 75 [(.t 88)], none, []⟩, true, [5, 3]⟩,
 ⟨14, ⟨none, .mupd none (.t 79) (.t 81) (.t 89), none, []⟩, true, []⟩] [76, 77, 78, 79, 13, 80, 81, 82, 83, 84, 85, 86, 87, 88, 89])))))
 (.reg [⟨(some 90), .bin .add (.t 64) (.c (.i .i64 1)), none, [64]⟩,
 ⟨(some 64), .mv (.t 90), none, [90]⟩])))))))
 (.seq (.reg [⟨(some 91), .mv (.t 0), none, [0]⟩,
 ⟨(some 92), .mv (.t 2), none, [2]⟩,
 ⟨(some 93), .nilc (.t 91), none, [91]⟩,
 ⟨(some 94), .faddr 1 (.t 93), none, [93]⟩,
 ⟨none, .store 1 (.t 94) (.t 92), none, [94, 92]⟩])
 (.seq (.reg [⟨(some 8), .asg (.c (.b true)), none, []⟩])
 .ret))))))), [.t 8]⟩
/-- ( interrex/cache.Cache).Drop -/
def f56 : AFn := ⟨1, (.seq (.reg [⟨(some 2), .mv (.t 0), none, []⟩,
 ⟨(some 3), .eqn true (.t 2) (.c .nilp), none, [2]⟩])
 (.cond (.t 3) (.reg [⟨(some 4), .mv (.t 0), none, []⟩,
 ⟨(some 5), .mv (.t 0), none, [0]⟩,
 ⟨(some 6), .nilc (.t 4), none, [4]⟩,
 ⟨(some 7), .faddr 0 (.t 6), none, [6]⟩,
 ⟨none, .store 1 (.t 7) (.c .nilm), none, [7]⟩,
 ⟨(some 8), .nilc (.t 5), none, [5]⟩,
 ⟨(some 9), .faddr 1 (.t 8), none, [8]⟩,
 ⟨none, .store 1 (.t 9) (.c (.i .i64 (-1))), none, [9]⟩])
 .skip)), []⟩
/-- interrex/log.New -/
def f57 : AFn := ⟨1, (.seq (.reg [⟨(some 2), .asg (.c .nilp), none, [2]⟩])
 (.seq (.reg [⟨(some 3), .mv (.t 0), none, [0]⟩,
 ⟨(some 4), .mnmx true [(.t 3), (.c (.i .i64 1))], none, [3]⟩,
 ⟨(some 5), .mnmx false [(.t 4), (.c (.i .i64 1000))], none, [4]⟩,
 ⟨(some 6), .bld [.nils, (.i .i64 0), (.i .i64 0), (.i .i64 0)] [(1, 1, (.t 5))], none, [5]⟩,
 ⟨(some 7), .box true (.t 6), none, [6]⟩,
 ⟨(some 2), .asg (.t 7), none, [7]⟩])
 .ret)), [.t 2]⟩
/-- ( interrex/elect.Elect).Quit -/
def f58 : AFn := ⟨1, (.seq (.reg [⟨(some 2), .mv (.t 0), none, []⟩,
 ⟨(some 3), .eqn true (.t 2) (.c .nilp), none, [2]⟩])
 (.cond (.t 3) (.reg [⟨(some 4), .mv (.t 0), none, [0]⟩,
 ⟨(some 5), .nilc (.t 4), none, [4]⟩,
 ⟨(some 6), .faddr 9 (.t 5), none, [5]⟩,
 ⟨none, .store 1 (.t 6) (.c (.i .i64 0)), none, [6]⟩])
 .skip)), []⟩
/-- interrex/elect.late -/
def f59 : AFn := ⟨2, (.seq (.reg [⟨(some 4), .asg (.c (.b false)), none, [4]⟩])
 (.seq (.reg [⟨(some 5), .mv (.t 0), none, []⟩,
 ⟨(some 6), .mv (.t 1), none, []⟩,
 ⟨(some 7), .bin .geq (.t 5) (.t 6), none, [5, 6]⟩,
 ⟨(some 8), .mv (.t 7), none, [7]⟩,
 ⟨(some 9), .mv (.t 0), (some (8, true)), [0]⟩,
 ⟨(some 10), .cvi .u64 (.t 9), (some (8, true)), [9]⟩,
 ⟨(some 11), .mv (.t 1), (some (8, true)), [1]⟩,
 ⟨(some 12), .cvi .u64 (.t 11), (some (8, true)), [11]⟩,
 ⟨(some 13), .bin .sub (.t 10) (.t 12), (some (8, true)), [10, 12]⟩,
 ⟨(some 14), .bin .geq (.t 13) (.c (.i .u64 200)), (some (8, true)), [13]⟩,
 ⟨(some 15), .pick (.t 8) (.t 14) (.c (.b false)), none, [8, 14]⟩,
 ⟨(some 4), .asg (.t 15), none, [15]⟩])
 .ret)), [.t 4]⟩
/-- ( interrex/elect.Elect).wants -/
def f60 : AFn := ⟨2, (.seq (.reg [⟨(some 4), .asg (.c (.b false)), none, [4]⟩])
 (.seq (.blk 0 (.seq (.reg [⟨(some 6), .mv (.t 0), none, []⟩,
 ⟨(some 7), .nilc (.t 6), none, [6]⟩,
 ⟨(some 8), .faddr 1 (.t 7), none, [7]⟩,
 ⟨(some 9), .load none (.t 8), none, [8]⟩,
 ⟨(some 10), .un .not (.t 9), none, [9]⟩,
 ⟨(some 5), .asg (.t 10), none, [10]⟩])
 (.cond (.t 5) (.seq (.reg [⟨(some 4), .asg (.c (.b false)), none, []⟩])
 .ret)
 (.seq (.reg [⟨(some 12), .mv (.t 0), none, []⟩,
 ⟨(some 13), .mv (.t 1), none, []⟩,
 ⟨(some 14), .call 24 [(.t 12), (.t 13)], none, [12, 13]⟩,
 ⟨(some 11), .asg (.t 14), none, [14]⟩])
 (.cond (.t 11) (.seq (.reg [⟨(some 15), .mv (.t 1), none, [1]⟩,
 ⟨(some 16), .mv (.t 0), none, [0]⟩,
 ⟨(some 17), .nilc (.t 16), none, [16]⟩,
 ⟨(some 18), .faddr 10 (.t 17), none, [17]⟩,
 ⟨(some 19), .load none (.t 18), none, [18]⟩,
 ⟨(some 20), .call 31 [(.t 15), (.t 19)], none, [15, 19]⟩,
 ⟨(some 4), .asg (.t 20), none, [20]⟩])
 .ret)
 .skip)))))
 (.seq (.dreg [⟨0, ⟨(some 21), .mv (.t 0), none, []⟩, false, []⟩,
 ⟨1, ⟨(some 22), .nilc (.t 21), none, []⟩, false, []⟩,
 ⟨2, ⟨(some 23), .faddr 2 (.t 22), none, []⟩, false, []⟩,
 ⟨3, ⟨(some 24), .load none (.t 23), none, []⟩, false, []⟩,
 ⟨4, ⟨(some 25), .un .not (.t 24), none, []⟩, false, []⟩,
 ⟨5, ⟨(some 26), .mv (.t 25), none, []⟩, false, []⟩,
 ⟨6, ⟨(some 27), .mv (.t 0), (some (26, false)), []⟩, false, []⟩,
 ⟨7, ⟨(some 28), .nilc (.t 27), (some (26, false)), []⟩, false, []⟩,
 ⟨8, ⟨(some 29), .faddr 4 (.t 28), (some (26, false)), []⟩, false, []⟩,
 ⟨9, ⟨(some 30), .faddr 0 (.t 29), (some (26, false)), []⟩, false, []⟩,
 ⟨10, ⟨(some 31), .load none (.t 30), (some (26, false)), []⟩, false, []⟩,
 ⟨11, ⟨(some 32), .mv (.t 0), (some (26, false)), []⟩, false, []⟩,
 ⟨12, ⟨(some 33), .nilc (.t 32), (some (26, false)), []⟩, false, []⟩,
 ⟨13, ⟨(some 34), .faddr 0 (.t 33), (some (26, false)), []⟩, false, []⟩,
 ⟨14, ⟨(some 35), .load none (.t 34), (some (26, false)), []⟩, false, []⟩,
 ⟨15, ⟨(some 36), .bin .eql (.t 31) (.t 35), (some (26, false)), []⟩, false, []⟩,
 ⟨16, ⟨(some 37), .pick (.t 26) (.c (.b true)) (.t 36), none, []⟩, false, []⟩,
 ⟨17, ⟨(some 38), .mv (.t 37), none, []⟩, false, []⟩,
 ⟨18, ⟨(some 39), .mv (.t 1), (some (38, false)), []⟩, false, []⟩,
 ⟨19, ⟨(some 40), .mv (.t 0), (some (38, false)), []⟩, false, []⟩,
 ⟨20, ⟨(some 41), .nilc (.t 40), (some (38, false)), []⟩, false, []⟩,
 ⟨21, ⟨(some 42), .faddr 6 (.t 41), (some (38, false)), []⟩, false, []⟩,
 ⟨22, ⟨(some 43), .load none (.t 42), (some (38, false)), []⟩, false, []⟩,
 ⟨23, ⟨(some 44), .mv (.t 0), (some (38, false)), []⟩, false, []⟩,
 ⟨24, ⟨(some 45), .nilc (.t 44), (some (38, false)), []⟩, false, []⟩,
 ⟨25, ⟨(some 46), .faddr 4 (.t 45), (some (38, false)), []⟩, false, []⟩,
 ⟨26, ⟨(some 47), .faddr 1 (.t 46), (some (38, false)), []⟩, false, []⟩,
 ⟨27, ⟨(some 48), .load none (.t 47), (some (38, false)), []⟩, false, []⟩,
 ⟨28, ⟨(some 49), .call 101 [(.t 39), (.t 43), (.t 48)], (some (38, false)), []⟩, true, []⟩,
 ⟨29, ⟨(some 50), .pick (.t 38) (.c (.b true)) (.t 49), none, []⟩, false, []⟩,
 ⟨30, ⟨(some 4), .asg (.t 50), none, []⟩, false, []⟩] [0, 21, 22, 23, 24, 25, 26, 27, 28, 29, 30, 31, 32, 33, 34, 35, 36, 37, 38, 1, 39, 40, 41, 42, 43, 44, 45, 46, 47, 48, 49, 50])
 .ret))), [.t 4]⟩
/-- interrex/code.Key -/
def f61 : AFn := ⟨2, (.seq (.reg [⟨(some 4), .asg (.c (.s [])), none, [4]⟩])
 (.seq (.blk 0 (.seq (.reg [⟨(some 6), .mv (.t 0), none, []⟩,
 ⟨(some 7), .bin .eql (.t 6) (.c (.i .i64 3)), none, [6]⟩,
 ⟨(some 5), .asg (.t 7), none, [7]⟩])
 (.cond (.t 5) (.seq (.reg [⟨(some 4), .asg (.c (.s [108])), none, []⟩])
 .ret)
 (.seq (.reg [⟨(some 9), .mv (.t 0), none, []⟩,
 ⟨(some 10), .bin .eql (.t 9) (.c (.i .i64 1)), none, [9]⟩,
 ⟨(some 11), .mv (.t 10), none, [10]⟩,
 ⟨(some 12), .mv (.t 1), (some (11, true)), []⟩,
 ⟨(some 13), .call 102 [(.t 12)], (some (11, true)), [12]⟩,
 ⟨(some 14), .pick (.t 11) (.t 13) (.c (.b false)), none, [11, 13]⟩,
 ⟨(some 8), .asg (.t 14), none, [14]⟩])
 (.cond (.t 8) (.seq (.reg [⟨(some 15), .mv (.t 1), none, [1]⟩,
 ⟨(some 16), .bin .add (.c (.s [112, 47])) (.t 15), none, [15]⟩,
 ⟨(some 4), .asg (.t 16), none, [16]⟩])
 .ret)
 (.seq (.reg [⟨(some 18), .mv (.t 0), none, [0]⟩,
 ⟨(some 19), .bin .eql (.t 18) (.c (.i .i64 2)), none, [18]⟩,
 ⟨(some 20), .mv (.t 19), none, [19]⟩,
 ⟨(some 21), .mv (.t 1), (some (20, true)), []⟩,
 ⟨(some 22), .call 102 [(.t 21)], (some (20, true)), [21]⟩,
 ⟨(some 23), .pick (.t 20) (.t 22) (.c (.b false)), none, [20, 22]⟩,
 ⟨(some 17), .asg (.t 23), none, [23]⟩])
 (.cond (.t 17) (.seq (.reg [⟨(some 24), .mv (.t 1), none, [1]⟩,
 ⟨(some 25), .bin .add (.c (.s [110, 47])) (.t 24), none, [24]⟩,
 ⟨(some 4), .asg (.t 25), none, [25]⟩])
 .ret)
 .skip)))))))
 (.seq (.reg [⟨(some 4), .asg (.c (.s [])), none, []⟩])
 .ret))), [.t 4]⟩
/-- ( interrex/store.Store).can -/
def f63 : AFn := ⟨2, (.seq (.reg [⟨(some 3), .box false (.t 1), none, [1]⟩,
 ⟨(some 4), .asg (.c (.i .i64 0)), none, [4]⟩])
 (.seq (.seq (.reg [⟨(some 11), .load (some 2) (.t 3), none, []⟩,
 ⟨(some 12), .call 104 [(.t 11)], none, [11]⟩,
 ⟨(some 13), .un .not (.t 12), none, [12]⟩])
 (.cond (.t 13) (.seq (.reg [⟨(some 4), .asg (.c (.i .i64 1)), none, []⟩])
 .ret)
 .skip))
 (.seq (.seq (.reg [⟨(some 14), .faddr 0 (.t 3), none, []⟩,
 ⟨(some 15), .load none (.t 14), none, [14]⟩,
 ⟨(some 16), .lenL (.t 15), none, []⟩,
 ⟨(some 17), .mv (.c (.i .i64 0)), none, []⟩])
 (.blk 0 (.loop (.seq (.reg [⟨(some 18), .bin .lss (.t 17) (.t 16), none, []⟩])
 (.seq (.cond (.t 18) .skip
 (.exit 0))
 (.seq (.blk 1 (.seq (.reg [⟨(some 19), .iasl 3 (.t 15) (.t 17), none, []⟩,
 ⟨(some 20), .load (some 3) (.t 19), none, [19]⟩,
 ⟨(some 6), .alloc false [(.s []), (.i .i64 0), (.b false)], none, []⟩,
 ⟨none, .store 3 (.t 6) (.t 20), none, [20]⟩])
 (.seq (.reg [⟨(some 21), .mv (.t 0), none, []⟩,
 ⟨(some 22), .load (some 3) (.t 6), none, [6]⟩,
 ⟨(some 23), .call 105 [(.t 21), (.t 22)], none, [21, 22]⟩,
 ⟨(some 24), .un .not (.t 23), none, [23]⟩])
 (.cond (.t 24) (.seq (.reg [⟨(some 4), .asg (.c (.i .i64 6)), none, []⟩])
 .ret)
 .skip))))
 (.reg [⟨(some 25), .bin .add (.t 17) (.c (.i .i64 1)), none, [17]⟩,
 ⟨(some 17), .mv (.t 25), none, [25]⟩])))))))
 (.seq (.seq (.reg [⟨(some 26), .faddr 1 (.t 3), none, [3]⟩,
 ⟨(some 27), .load none (.t 26), none, [26]⟩,
 ⟨(some 28), .lenL (.t 27), none, []⟩,
 ⟨(some 29), .mv (.c (.i .i64 0)), none, []⟩])
 (.blk 2 (.loop (.seq (.reg [⟨(some 30), .bin .lss (.t 29) (.t 28), none, []⟩])
 (.seq (.cond (.t 30) .skip
 (.exit 2))
 (.seq (.blk 3 (.seq (.reg [⟨(some 31), .iasl 3 (.t 27) (.t 29), none, []⟩,
 ⟨(some 32), .load (some 3) (.t 31), none, [31]⟩,
 ⟨(some 8), .alloc false [(.s []), .nils, (.b false)], none, []⟩,
 ⟨none, .store 3 (.t 8) (.t 32), none, [32]⟩])
 (.seq (.dreg [⟨0, ⟨(some 34), .mv (.t 0), none, []⟩, false, []⟩,
 ⟨1, ⟨(some 35), .nilc (.t 34), none, []⟩, false, []⟩,
 ⟨2, ⟨(some 36), .faddr 1 (.t 35), none, []⟩, false, []⟩,
 ⟨3, ⟨(some 37), .load none (.t 36), none, []⟩, false, []⟩,
 ⟨4, ⟨(some 38), .faddr 0 (.t 8), none, []⟩, false, []⟩,
 ⟨5, ⟨(some 39), .load none (.t 38), none, []⟩, false, []⟩,
 ⟨6, ⟨(some 40), .lkp none (.agg [(.s []), (.i .i64 0), .nils]) (.t 37) (.t 39) true, none, []⟩, false, []⟩,
 ⟨7, ⟨(some 33), .mv (.t 40), none, []⟩, false, []⟩,
 ⟨8, ⟨(some 41), .ext (.t 33) 0, none, []⟩, false, []⟩,
 ⟨9, ⟨(some 42), .ext (.t 33) 1, none, []⟩, false, []⟩,
 ⟨10, ⟨(some 9), .alloc false [(.s []), (.i .i64 0), .nils], none, []⟩, true, [6, 5, 3]⟩,
 ⟨11, ⟨none, .store 3 (.t 9) (.t 41), none, []⟩, true, []⟩,
 ⟨12, ⟨(some 10), .asg (.t 42), none, []⟩, false, []⟩] [34, 35, 36, 37, 38, 39, 40, 33, 41, 42, 9])
 (.seq (.reg [⟨(some 43), .faddr 2 (.t 8), none, [8]⟩,
 ⟨(some 44), .load none (.t 43), none, [43]⟩,
 ⟨(some 45), .mv (.t 44), none, [44]⟩,
 ⟨(some 46), .mv (.t 10), (some (45, true)), [10]⟩,
 ⟨(some 47), .un .not (.t 46), (some (45, true)), [46]⟩,
 ⟨(some 48), .pick (.t 45) (.t 47) (.c (.b false)), none, [45, 47]⟩])
 (.cond (.t 48) (.seq (.reg [⟨(some 4), .asg (.c (.i .i64 3)), none, []⟩])
 .ret)
 .skip)))))
 (.reg [⟨(some 49), .bin .add (.t 29) (.c (.i .i64 1)), none, [29]⟩,
 ⟨(some 29), .mv (.t 49), none, [49]⟩])))))))
 (.seq (.reg [⟨(some 4), .asg (.c (.i .i64 0)), none, []⟩])
 .ret))))), [.t 4]⟩
/-- interrex/store.copied -/
def f64 : AFn := ⟨1, (.seq (.reg [⟨(some 1), .box false (.t 0), none, [0]⟩,
 ⟨(some 2), .alloc false [(.s []), (.i .i64 0), .nils], none, []⟩])
 (.seq (.reg [⟨(some 3), .faddr 2 (.t 1), none, []⟩,
 ⟨(some 4), .load none (.t 3), none, [3]⟩,
 ⟨(some 5), .call 106 [(.t 4)], none, [4]⟩,
 ⟨(some 6), .faddr 2 (.t 1), none, []⟩,
 ⟨none, .store 1 (.t 6) (.t 5), none, [6, 5]⟩])
 (.seq (.reg [⟨(some 7), .load (some 3) (.t 1), none, [1]⟩,
 ⟨none, .store 3 (.t 2) (.t 7), none, [7]⟩])
 .ret))), [.cell 2 (some 3)]⟩
/-- ( interrex/log.Log).Add -/
def f65 : AFn := ⟨2, (.seq (.reg [⟨(some 4), .asg (.c (.b false)), none, [4]⟩])
 (.seq (.seq (.dreg [⟨0, ⟨(some 8), .mv (.t 0), none, []⟩, false, []⟩,
 ⟨1, ⟨(some 9), .eqn false (.t 8) (.c .nilp), none, []⟩, true, []⟩,
 ⟨2, ⟨(some 10), .mv (.t 9), none, []⟩, false, []⟩,
 ⟨3, ⟨(some 11), .mv (.t 1), (some (10, false)), []⟩, false, []⟩,
 ⟨4, ⟨(some 12), .lenL (.t 11), (some (10, false)), []⟩, false, []⟩,
 ⟨5, ⟨(some 13), .bin .eql (.t 12) (.c (.i .i64 0)), (some (10, false)), []⟩, false, []⟩,
 ⟨6, ⟨(some 14), .pick (.t 10) (.c (.b true)) (.t 13), none, []⟩, false, []⟩,
 ⟨7, ⟨(some 15), .mv (.t 14), none, []⟩, false, []⟩,
 ⟨8, ⟨(some 16), .mv (.t 1), (some (15, false)), []⟩, false, []⟩,
 ⟨9, ⟨(some 17), .iasl 4 (.t 16) (.c (.i .i64 0)), (some (15, false)), []⟩, false, []⟩,
 ⟨10, ⟨(some 18), .faddr 0 (.t 17), (some (15, false)), []⟩, false, []⟩,
 ⟨11, ⟨(some 19), .load none (.t 18), (some (15, false)), []⟩, false, []⟩,
 ⟨12, ⟨(some 20), .mv (.t 0), (some (15, false)), []⟩, false, []⟩,
 ⟨13, ⟨(some 21), .nilc (.t 20), (some (15, false)), []⟩, false, []⟩,
 ⟨14, ⟨(some 22), .faddr 3 (.t 21), (some (15, false)), []⟩, false, []⟩,
 ⟨15, ⟨(some 23), .load none (.t 22), (some (15, false)), []⟩, false, []⟩,
 ⟨16, ⟨(some 24), .bin .leq (.t 19) (.t 23), (some (15, false)), []⟩, false, []⟩,
 ⟨17, ⟨(some 25), .pick (.t 15) (.c (.b true)) (.t 24), none, []⟩, false, []⟩] [8, 9, 10, 11, 12, 13, 14, 15, 16, 17, 18, 19, 20, 21, 22, 23, 24])
 (.cond (.t 25) (.seq (.reg [⟨(some 4), .asg (.c (.b false)), none, []⟩])
 .ret)
 .skip))
 (.seq (.seq (.reg [⟨(some 26), .mv (.t 1), none, []⟩,
 ⟨(some 27), .lenL (.t 26), none, [26]⟩,
 ⟨(some 28), .mv (.c (.i .i64 0)), none, []⟩])
 (.blk 0 (.loop (.seq (.reg [⟨(some 29), .bin .lss (.t 28) (.t 27), none, []⟩])
 (.seq (.cond (.t 29) .skip
 (.exit 0))
 (.seq (.blk 1 (.seq (.reg [⟨(some 30), .mv (.t 28), none, []⟩,
 ⟨(some 5), .asg (.t 30), none, [30]⟩])
 (.seq (.dreg [⟨0, ⟨(some 31), .mv (.t 5), none, []⟩, false, []⟩,
 ⟨1, ⟨(some 32), .bin .gtr (.t 31) (.c (.i .i64 0)), none, []⟩, false, []⟩,
 ⟨2, ⟨(some 33), .mv (.t 32), none, []⟩, false, []⟩,
 ⟨3, ⟨(some 34), .mv (.t 1), (some (33, true)), []⟩, false, []⟩,
 ⟨4, ⟨(some 35), .mv (.t 5), (some (33, true)), []⟩, false, []⟩,
 ⟨5, ⟨(some 36), .iasl 4 (.t 34) (.t 35), (some (33, true)), []⟩, false, []⟩,
 ⟨6, ⟨(some 37), .faddr 0 (.t 36), (some (33, true)), []⟩, false, []⟩,
 ⟨7, ⟨(some 38), .load none (.t 37), (some (33, true)), []⟩, false, []⟩,
 ⟨8, ⟨(some 39), .mv (.t 1), (some (33, true)), []⟩, false, []⟩,
 ⟨9, ⟨(some 40), .mv (.t 5), (some (33, true)), []⟩, false, []⟩,
 ⟨10, ⟨(some 41), .bin .sub (.t 40) (.c (.i .i64 1)), (some (33, true)), []⟩, false, []⟩,
 ⟨11, ⟨(some 42), .iasl 4 (.t 39) (.t 41), (some (33, true)), []⟩, false, []⟩,
 ⟨12, ⟨(some 43), .faddr 0 (.t 42), (some (33, true)), []⟩, false, []⟩,
 ⟨13, ⟨(some 44), .load none (.t 43), (some (33, true)), []⟩, false, []⟩,
 ⟨14, ⟨(some 45), .bin .lss (.t 38) (.t 44), (some (33, true)), []⟩, false, []⟩,
 ⟨15, ⟨(some 46), .pick (.t 33) (.t 45) (.c (.b false)), none, []⟩, false, []⟩] [5, 31, 32, 33, 34, 35, 36, 37, 38, 39, 40, 41, 42, 43, 44, 45])
 (.cond (.t 46) (.seq (.reg [⟨(some 4), .asg (.c (.b false)), none, []⟩])
 .ret)
 .skip))))
 (.reg [⟨(some 47), .bin .add (.t 28) (.c (.i .i64 1)), none, [28]⟩,
 ⟨(some 28), .mv (.t 47), none, [47]⟩])))))))
 (.seq (.seq (.reg [⟨(some 48), .mv (.t 1), none, []⟩,
 ⟨(some 49), .lenL (.t 48), none, []⟩,
 ⟨(some 50), .mv (.c (.i .i64 0)), none, []⟩])
 (.blk 2 (.loop (.seq (.reg [⟨(some 51), .bin .lss (.t 50) (.t 49), none, []⟩])
 (.seq (.cond (.t 51) .skip
 (.exit 2))
 (.seq (.blk 3 (.seq (.reg [⟨(some 52), .iasl 4 (.t 48) (.t 50), none, []⟩,
 ⟨(some 53), .load (some 4) (.t 52), none, [52]⟩,
 ⟨(some 7), .alloc false [(.i .i64 0), (.s []), .nils, (.b false)], none, []⟩,
 ⟨none, .store 4 (.t 7) (.t 53), none, [53]⟩])
 (.dreg [⟨0, ⟨(some 54), .mv (.t 0), none, []⟩, false, []⟩,
 ⟨1, ⟨(some 55), .mv (.t 0), none, []⟩, false, []⟩,
 ⟨2, ⟨(some 56), .nilc (.t 55), none, []⟩, false, []⟩,
 ⟨3, ⟨(some 57), .faddr 0 (.t 56), none, []⟩, false, []⟩,
 ⟨4, ⟨(some 58), .load none (.t 57), none, []⟩, false, []⟩,
 ⟨5, ⟨(some 59), .load (some 4) (.t 7), none, []⟩, false, []⟩,
 ⟨6, ⟨(some 60), .call 107 [(.t 59)], none, []⟩, true, [4]⟩,
 ⟨7, ⟨(some 61), .bsl (.mu true) 4 1 [(.i .i64 0), (.s []), .nils, (.b false)] [(0, (.t 60))], none, []⟩, true, [4]⟩,
 ⟨8, ⟨(some 62), .append (.mu true) 4 56 (.t 58) (.t 61), none, []⟩, true, []⟩,
 ⟨9, ⟨(some 63), .nilc (.t 54), none, []⟩, false, []⟩,
 ⟨10, ⟨(some 64), .faddr 0 (.t 63), none, []⟩, false, []⟩,
 ⟨11, ⟨none, .store 1 (.t 64) (.t 62), none, []⟩, true, []⟩] [54, 55, 56, 57, 58, 7, 59, 60, 61, 62, 63, 64])))
 (.reg [⟨(some 65), .bin .add (.t 50) (.c (.i .i64 1)), none, [50]⟩,
 ⟨(some 50), .mv (.t 65), none, [65]⟩])))))))
 (.seq (.reg [⟨(some 66), .mv (.t 0), none, []⟩,
 ⟨(some 67), .mv (.t 1), none, []⟩,
 ⟨(some 68), .mv (.t 1), none, [1]⟩,
 ⟨(some 69), .lenL (.t 68), none, [68]⟩,
 ⟨(some 70), .bin .sub (.t 69) (.c (.i .i64 1)), none, [69]⟩,
 ⟨(some 71), .iasl 4 (.t 67) (.t 70), none, [67, 70]⟩,
 ⟨(some 72), .faddr 0 (.t 71), none, [71]⟩,
 ⟨(some 73), .load none (.t 72), none, [72]⟩,
 ⟨(some 74), .nilc (.t 66), none, [66]⟩,
 ⟨(some 75), .faddr 3 (.t 74), none, [74]⟩,
 ⟨none, .store 1 (.t 75) (.t 73), none, [75, 73]⟩])
 (.seq (.blk 4 (.loop (.seq (.seq (.dreg [⟨0, ⟨(some 76), .mv (.t 0), none, []⟩, false, []⟩,
 ⟨1, ⟨(some 77), .nilc (.t 76), none, []⟩, false, []⟩,
 ⟨2, ⟨(some 78), .faddr 0 (.t 77), none, []⟩, false, []⟩,
 ⟨3, ⟨(some 79), .load none (.t 78), none, []⟩, false, []⟩,
 ⟨4, ⟨(some 80), .lenL (.t 79), none, []⟩, false, []⟩,
 ⟨5, ⟨(some 81), .mv (.t 0), none, []⟩, false, []⟩,
 ⟨6, ⟨(some 82), .nilc (.t 81), none, []⟩, false, []⟩,
 ⟨7, ⟨(some 83), .faddr 1 (.t 82), none, []⟩, false, []⟩,
 ⟨8, ⟨(some 84), .load none (.t 83), none, []⟩, false, []⟩,
 ⟨9, ⟨(some 85), .bin .gtr (.t 80) (.t 84), none, []⟩, false, []⟩] [76, 77, 78, 79, 80, 81, 82, 83, 84])
 (.cond (.t 85) .skip
 (.exit 4)))
 (.blk 5 (.reg [⟨(some 86), .mv (.t 0), none, []⟩,
 ⟨(some 87), .mv (.t 0), none, []⟩,
 ⟨(some 88), .nilc (.t 87), none, [87]⟩,
 ⟨(some 89), .faddr 0 (.t 88), none, [88]⟩,
 ⟨(some 90), .load none (.t 89), none, [89]⟩,
 ⟨(some 91), .iasl 4 (.t 90) (.c (.i .i64 0)), none, [90]⟩,
 ⟨(some 92), .faddr 0 (.t 91), none, [91]⟩,
 ⟨(some 93), .load none (.t 92), none, [92]⟩,
 ⟨(some 94), .call 108 [(.t 86), (.t 93)], none, [86, 93, 94]⟩])))))
 (.seq (.reg [⟨(some 4), .asg (.c (.b true)), none, []⟩])
 .ret))))))), [.t 4]⟩
/-- interrex/lease.Leads -/
def f66 : AFn := ⟨2, (.seq (.reg [⟨(some 4), .asg (.c (.b false)), none, [4]⟩])
 (.seq (.reg [⟨(some 5), .mv (.t 0), none, [0]⟩,
 ⟨(some 6), .call 74 [(.t 5)], none, [5]⟩,
 ⟨(some 7), .mv (.t 1), none, [1]⟩,
 ⟨(some 8), .call 53 [(.t 7)], none, [7]⟩,
 ⟨(some 9), .bin .lss (.t 6) (.t 8), none, [6, 8]⟩,
 ⟨(some 4), .asg (.t 9), none, [9]⟩])
 .ret)), [.t 4]⟩
/-- interrex/wire.NewReader -/
def f67 : AFn := ⟨1, (.seq (.reg [⟨(some 2), .asg (.c .nilp), none, [2]⟩])
 (.seq (.reg [⟨(some 3), .mv (.t 0), none, [0]⟩,
 ⟨(some 4), .call 106 [(.t 3)], none, [3]⟩,
 ⟨(some 5), .bld [(.i .u32 0), (.i .i32 0), (.i .u32 0), (.i .u64 0), (.i .u64 0), (.i .u64 0), (.i .u64 0), (.i .u64 0), (.i .u64 0), (.i .u64 0), (.i .u64 0), (.i .u64 0), (.i .u64 0), (.i .u64 0), (.i .u64 0), (.i .u64 0), (.i .u64 0), (.i .u64 0), (.i .u64 0), (.i .u64 0), (.i .u64 0), (.i .u64 0), (.i .u64 0), (.i .u64 0), (.i .u64 0), (.i .u64 0), (.i .u64 0), (.i .u64 0), (.i .u64 0), (.i .u64 0), (.i .u64 0), (.i .u64 0), (.i .u64 0), (.i .u64 0), (.i .u64 0), (.i .u64 0), (.i .u64 0), (.i .u64 0), (.i .u64 0), (.i .u64 0), (.i .u64 0), (.i .u64 0), (.i .u64 0), (.i .u64 0), (.i .u64 0), (.i .u64 0), (.i .u64 0), (.i .u64 0), (.i .u64 0), (.i .u64 0), (.i .u64 0), (.i .u64 0), (.i .u64 0), (.i .u64 0), (.i .u64 0), (.i .u64 0), (.i .u64 0), (.i .u64 0), (.i .u64 0), (.i .u64 0), (.i .u64 0), (.i .u64 0), (.i .u64 0), (.i .u64 0), (.i .u64 0), (.i .u64 0), (.i .u64 0), (.i .u64 0), (.i .u64 0), (.i .u64 0), (.i .u64 0), (.i .u64 0), (.i .u64 0), (.i .u64 0), (.i .u64 0), (.i .u64 0), (.i .u64 0), (.i .u64 0), (.i .u64 0), (.i .u64 0), (.i .u64 0), (.i .u64 0), (.i .u64 0), (.i .u64 0), (.i .u64 0), (.i .u64 0), (.i .u64 0), (.i .u64 0), (.i .u64 0), (.i .u64 0), (.i .u64 0), (.i .u64 0), (.i .u64 0), (.i .u64 0), (.i .u64 0), (.i .u64 0), (.i .u64 0), (.i .u64 0), (.i .u64 0), (.i .u64 0), (.i .u64 0), (.i .u64 0), (.i .u64 0), (.i .u64 0), (.i .u64 0), (.i .u64 0), (.i .u64 0), (.i .u64 0), (.i .u64 0), (.i .u64 0), (.i .u64 0), (.i .u64 0), (.i .u64 0), (.i .u64 0), (.i .u64 0), (.i .u64 0), (.i .u64 0), (.i .u64 0), (.i .u64 0), (.i .u64 0), (.i .u64 0), (.i .u64 0), (.i .u64 0), (.i .u64 0), (.i .u64 0), (.i .u64 0), (.i .u64 0), (.i .u64 0), (.i .u64 0), (.i .u64 0), (.i .u64 0), (.i .u64 0), (.i .u64 0), (.i .u64 0), (.i .u64 0), (.i .u64 0), (.i .u64 0), (.i .u64 0), (.i .u64 0), (.i .u64 0), (.i .u64 0), (.i .u64 0), (.i .u64 0), (.i .u64 0), (.i .u64 0), (.i .u64 0), (.i .u64 0), (.i .u64 0), (.i .u64 0), (.i .u64 0), (.i .u64 0), (.i .u64 0), (.i .u64 0), (.i .u64 0), (.i .u64 0), (.i .u64 0), (.i .u64 0), (.i .u64 0), (.i .u64 0), (.i .u64 0), (.i .u64 0), (.i .u64 0), (.i .u64 0), (.i .u64 0), (.i .u64 0), (.i .u64 0), (.i .u64 0), (.i .u64 0), (.i .u64 0), (.i .u64 0), (.i .u64 0), (.i .u64 0), (.i .u64 0), (.i .u64 0), (.i .u64 0), (.i .u64 0), (.i .u64 0), (.i .u64 0), (.i .u64 0), (.i .u64 0), (.i .u64 0), (.i .u64 0), (.i .u64 0), (.i .u64 0), (.i .u64 0), (.i .u64 0), (.i .u64 0), (.i .u64 0), (.i .u64 0), (.i .u64 0), (.i .u64 0), (.i .u64 0), (.i .u64 0), (.i .u64 0), (.i .u64 0), (.i .u64 0), (.i .u64 0), (.i .u64 0), (.i .u64 0), (.i .u64 0), (.i .u64 0), (.i .u64 0), (.i .u64 0), (.i .u64 0), (.i .u64 0), (.i .u64 0), (.i .u64 0), (.i .u64 0), (.i .u64 0), (.i .u64 0), (.i .u64 0), (.i .u64 0), (.i .u64 0), (.i .u64 0), (.i .u64 0), (.i .u64 0), (.i .u64 0), (.i .u64 0), (.i .u64 0), (.i .u64 0), (.i .u64 0), (.i .u64 0), (.i .u64 0), (.i .u64 0), (.i .u64 0), (.i .u64 0), (.i .u64 0), (.i .u64 0), (.i .u64 0), (.i .u64 0), (.i .u64 0), (.i .u64 0), (.i .u64 0), (.i .u64 0), (.i .u64 0), (.i .u64 0), (.i .u64 0), (.i .u64 0), (.i .u64 0), (.i .u64 0), (.i .u64 0), (.i .u64 0), (.i .u64 0), (.i .u64 0), (.i .u64 0), (.i .u64 0), (.i .u64 0), (.i .u64 0), (.i .u64 0), (.i .u64 0), (.i .u64 0), (.i .u64 0), (.i .u64 0), (.i .u64 0), (.i .u64 0), (.i .u64 0), (.i .u64 0), (.i .u64 0), (.i .u64 0), (.i .u8 0), (.i .u8 0), (.i .u8 0), (.i .u8 0), (.i .u8 0), (.i .u8 0), (.i .u8 0), (.i .u8 0), (.i .u8 0), (.i .u8 0), (.i .u8 0), (.i .u8 0), (.i .u8 0), (.i .u8 0), (.i .u8 0), (.i .u8 0), (.i .u8 0), (.i .u8 0), (.i .u8 0), (.i .u8 0), (.i .u8 0), (.i .u8 0), (.i .u8 0), (.i .u8 0), (.i .u8 0), (.i .u8 0), (.i .u8 0), (.i .u8 0), (.i .u8 0), (.i .u8 0), (.i .u8 0), (.i .u8 0), (.i .u8 0), (.i .u8 0), (.i .u8 0), (.i .u8 0), (.i .u8 0), (.i .u8 0), .nils, (.b false)] [(297, 1, (.t 4))], none, [4]⟩,
 ⟨(some 6), .box true (.t 5), none, [5]⟩,
 ⟨(some 2), .asg (.t 6), none, [6]⟩])
 .ret)), [.t 2]⟩
/-- ( interrex/wire.Reader).Num -/
def f68 : AFn := ⟨2, (.seq (.reg [⟨(some 4), .asg (.c (.i .i64 0)), none, [4]⟩])
 (.seq (.seq (.reg [⟨(some 8), .mv (.t 0), none, []⟩,
 ⟨(some 9), .nilc (.t 8), none, [8]⟩,
 ⟨(some 10), .faddr 297 (.t 9), none, [9]⟩,
 ⟨(some 11), .load none (.t 10), none, [10]⟩,
 ⟨(some 12), .lenL (.t 11), none, [11]⟩,
 ⟨(some 13), .mv (.t 1), none, []⟩,
 ⟨(some 14), .bin .lss (.t 12) (.t 13), none, [12, 13]⟩])
 (.cond (.t 14) (.seq (.reg [⟨(some 15), .mv (.t 0), none, []⟩,
 ⟨(some 16), .mv (.t 0), none, [0]⟩,
 ⟨(some 17), .nilc (.t 15), none, [15]⟩,
 ⟨(some 18), .faddr 298 (.t 17), none, [17]⟩,
 ⟨none, .store 1 (.t 18) (.c (.b true)), none, [18]⟩,
 ⟨(some 19), .nilc (.t 16), none, [16]⟩,
 ⟨(some 20), .faddr 297 (.t 19), none, [19]⟩,
 ⟨none, .store 1 (.t 20) (.c .nils), none, [20]⟩])
 (.seq (.reg [⟨(some 4), .asg (.c (.i .i64 0)), none, []⟩])
 .ret))
 .skip))
 (.seq (.reg [⟨(some 5), .asg (.c (.i .i64 0)), none, []⟩])
 (.seq (.seq (.reg [⟨(some 21), .mv (.t 0), none, []⟩,
 ⟨(some 22), .nilc (.t 21), none, [21]⟩,
 ⟨(some 23), .faddr 297 (.t 22), none, [22]⟩,
 ⟨(some 24), .load none (.t 23), none, [23]⟩,
 ⟨(some 25), .mv (.t 1), none, []⟩,
 ⟨(some 26), .slsl 1 (.t 24) none (some (.t 25)) none, none, [24, 25]⟩,
 ⟨(some 27), .lenL (.t 26), none, []⟩,
 ⟨(some 28), .mv (.c (.i .i64 0)), none, []⟩])
 (.blk 0 (.loop (.seq (.reg [⟨(some 29), .bin .lss (.t 28) (.t 27), none, []⟩])
 (.seq (.cond (.t 29) .skip
 (.exit 0))
 (.seq (.blk 1 (.seq (.reg [⟨(some 30), .iasl 1 (.t 26) (.t 28), none, []⟩,
 ⟨(some 31), .load none (.t 30), none, [30]⟩,
 ⟨(some 7), .asg (.t 31), none, [31]⟩])
 (.reg [⟨(some 32), .mv (.t 5), none, [5]⟩,
 ⟨(some 33), .bin .shl (.t 32) (.c (.i .u64 8)), none, [32]⟩,
 ⟨(some 34), .mv (.t 7), none, [7]⟩,
 ⟨(some 35), .cvi .i64 (.t 34), none, [34]⟩,
 ⟨(some 36), .bin .or (.t 33) (.t 35), none, [33, 35]⟩,
 ⟨(some 5), .asg (.t 36), none, [36]⟩])))
 (.reg [⟨(some 37), .bin .add (.t 28) (.c (.i .i64 1)), none, [28]⟩,
 ⟨(some 28), .mv (.t 37), none, [37]⟩])))))))
 (.seq (.reg [⟨(some 38), .mv (.t 0), none, []⟩,
 ⟨(some 39), .mv (.t 0), none, [0]⟩,
 ⟨(some 40), .nilc (.t 39), none, [39]⟩,
 ⟨(some 41), .faddr 297 (.t 40), none, [40]⟩,
 ⟨(some 42), .load none (.t 41), none, [41]⟩,
 ⟨(some 43), .mv (.t 1), none, [1]⟩,
 ⟨(some 44), .slsl 1 (.t 42) (some (.t 43)) none none, none, [42, 43]⟩,
 ⟨(some 45), .nilc (.t 38), none, [38]⟩,
 ⟨(some 46), .faddr 297 (.t 45), none, [45]⟩,
 ⟨none, .store 1 (.t 46) (.t 44), none, [46, 44]⟩])
 (.seq (.reg [⟨(some 47), .mv (.t 5), none, [5]⟩,
 ⟨(some 4), .asg (.t 47), none, [47]⟩])
 .ret)))))), [.t 4]⟩
/-- ( interrex/wire.Reader).End -/
def f69 : AFn := ⟨1, (.seq (.reg [⟨(some 2), .asg (.c (.b false)), none, [2]⟩])
 (.seq (.reg [⟨(some 3), .mv (.t 0), none, []⟩,
 ⟨(some 4), .nilc (.t 3), none, [3]⟩,
 ⟨(some 5), .faddr 298 (.t 4), none, [4]⟩,
 ⟨(some 6), .load none (.t 5), none, [5]⟩,
 ⟨(some 7), .un .not (.t 6), none, [6]⟩,
 ⟨(some 8), .mv (.t 7), none, [7]⟩,
 ⟨(some 9), .mv (.t 0), (some (8, true)), [0]⟩,
 ⟨(some 10), .nilc (.t 9), (some (8, true)), [9]⟩,
 ⟨(some 11), .faddr 297 (.t 10), (some (8, true)), [10]⟩,
 ⟨(some 12), .load none (.t 11), (some (8, true)), [11]⟩,
 ⟨(some 13), .lenL (.t 12), (some (8, true)), [12]⟩,
 ⟨(some 14), .bin .eql (.t 13) (.c (.i .i64 0)), (some (8, true)), [13]⟩,
 ⟨(some 15), .pick (.t 8) (.t 14) (.c (.b false)), none, [8, 14]⟩,
 ⟨(some 2), .asg (.t 15), none, [15]⟩])
 .ret)), [.t 2]⟩
/-- bytes.Equal -/
def f70 : AFn := ⟨2, (.seq (.reg [⟨(some 4), .asg (.c (.b false)), none, [4]⟩])
 (.seq (.reg [⟨(some 5), .mv (.t 0), none, [0]⟩,
 ⟨(some 6), .b2s (.t 5), none, [5]⟩,
 ⟨(some 7), .mv (.t 1), none, [1]⟩,
 ⟨(some 8), .b2s (.t 7), none, [7]⟩,
 ⟨(some 9), .bin .eql (.t 6) (.t 8), none, [6, 8]⟩,
 ⟨(some 4), .asg (.t 9), none, [9]⟩])
 .ret)), [.t 4]⟩
/-- interrex/lease.bring -/
def f74 : AFn := ⟨1, (.seq (.reg [⟨(some 2), .asg (.c (.i .i64 0)), none, [2]⟩])
 (.seq (.reg [⟨(some 3), .mv (.t 0), none, [0]⟩,
 ⟨(some 4), .mnmx true [(.t 3), (.c (.i .i64 0))], none, [3]⟩,
 ⟨(some 5), .mnmx false [(.t 4), (.c (.i .i64 1152921504606846976))], none, [4]⟩,
 ⟨(some 2), .asg (.t 5), none, [5]⟩])
 .ret)), [.t 2]⟩
/-- interrex/cache.copied -/
def f75 : AFn := ⟨1, (.seq (.reg [⟨(some 1), .box false (.t 0), none, [0]⟩,
 ⟨(some 2), .alloc false [(.s []), (.i .i64 0), .nils], none, []⟩])
 (.seq (.reg [⟨(some 3), .faddr 2 (.t 1), none, []⟩,
 ⟨(some 4), .load none (.t 3), none, [3]⟩,
 ⟨(some 5), .call 106 [(.t 4)], none, [4]⟩,
 ⟨(some 6), .faddr 2 (.t 1), none, []⟩,
 ⟨none, .store 1 (.t 6) (.t 5), none, [6, 5]⟩])
 (.seq (.reg [⟨(some 7), .load (some 3) (.t 1), none, [1]⟩,
 ⟨none, .store 3 (.t 2) (.t 7), none, [7]⟩])
 .ret))), [.cell 2 (some 3)]⟩
/-- maps.Keys map string interrex/api.Entry string interrex/api.Entry  -/
def f77 : AFn := ⟨1, (.seq (.reg [⟨(some 1), .box true (.t 0), none, [0]⟩,
 ⟨(some 2), .asg (.c .nilf), none, [2]⟩])
 (.seq (.reg [⟨(some 3), .mkfn 113 [(.t 1)], none, [1]⟩,
 ⟨(some 2), .asg (.t 3), none, [3]⟩])
 .ret)), [.t 2]⟩
/-- interrex/net.copied -/
def f78 : AFn := ⟨1, (.seq (.reg [⟨(some 1), .box false (.t 0), none, [0]⟩,
 ⟨(some 2), .alloc false [(.b false), (.i .i64 0), .nils], none, []⟩])
 (.seq (.reg [⟨(some 3), .faddr 2 (.t 1), none, []⟩,
 ⟨(some 4), .load none (.t 3), none, [3]⟩,
 ⟨(some 5), .call 106 [(.t 4)], none, [4]⟩,
 ⟨(some 6), .faddr 2 (.t 1), none, []⟩,
 ⟨none, .store 1 (.t 6) (.t 5), none, [6, 5]⟩])
 (.seq (.reg [⟨(some 7), .load (some 3) (.t 1), none, [1]⟩,
 ⟨none, .store 3 (.t 2) (.t 7), none, [7]⟩])
 .ret))), [.cell 2 (some 3)]⟩
/-- ( interrex/wire.Writer).Num -/
def f80 : AFn := ⟨3, (.seq (.reg [⟨(some 7), .mv (.t 2), none, []⟩,
 ⟨(some 8), .mv (.c (.i .i64 0)), none, []⟩])
 (.blk 0 (.loop (.seq (.reg [⟨(some 9), .bin .lss (.t 8) (.t 7), none, []⟩])
 (.seq (.cond (.t 9) .skip
 (.exit 0))
 (.seq (.blk 1 (.seq (.reg [⟨(some 10), .mv (.t 8), none, []⟩,
 ⟨(some 6), .asg (.t 10), none, [10]⟩])
 (.dreg [⟨0, ⟨(some 11), .mv (.t 0), none, []⟩, false, []⟩,
 ⟨1, ⟨(some 12), .mv (.t 0), none, []⟩, false, []⟩,
 ⟨2, ⟨(some 13), .nilc (.t 12), none, []⟩, false, []⟩,
 ⟨3, ⟨(some 14), .faddr 297 (.t 13), none, []⟩, false, []⟩,
 ⟨4, ⟨(some 15), .load none (.t 14), none, []⟩, false, []⟩,
 ⟨5, ⟨(some 16), .mv (.t 1), none, []⟩, false, []⟩,
 ⟨6, ⟨(some 17), .mv (.t 2), none, []⟩, false, []⟩,
 ⟨7, ⟨(some 18), .bin .sub (.t 17) (.c (.i .i64 1)), none, []⟩, false, []⟩,
 ⟨8, ⟨(some 19), .mv (.t 6), none, []⟩, false, []⟩,
 ⟨9, ⟨(some 20), .bin .sub (.t 18) (.t 19), none, []⟩, false, []⟩,
 ⟨10, ⟨(some 21), .bin .mul (.c (.i .i64 8)) (.t 20), none, []⟩, false, []⟩,
 ⟨11, ⟨(some 22), .bin .shr (.t 16) (.t 21), none, []⟩, false, []⟩,
 ⟨12, ⟨(some 23), .cvi .u8 (.t 22), none, []⟩, false, []⟩,
 ⟨13, ⟨(some 24), .bsl (.im true) 1 1 [(.i .u8 0)] [(0, (.t 23))], none, []⟩, true, [4]⟩,
 ⟨14, ⟨(some 25), .append (.im true) 1 1 (.t 15) (.t 24), none, []⟩, true, []⟩,
 ⟨15, ⟨(some 26), .nilc (.t 11), none, []⟩, false, []⟩,
 ⟨16, ⟨(some 27), .faddr 297 (.t 26), none, []⟩, false, []⟩,
 ⟨17, ⟨none, .store 1 (.t 27) (.t 25), none, []⟩, true, []⟩] [11, 12, 13, 14, 15, 16, 17, 18, 6, 19, 20, 21, 22, 23, 24, 25, 26, 27])))
 (.reg [⟨(some 28), .bin .add (.t 8) (.c (.i .i64 1)), none, [8]⟩,
 ⟨(some 8), .mv (.t 28), none, [28]⟩]))))))), []⟩
/-- ( interrex/wire.Writer).Bytes -/
def f81 : AFn := ⟨1, (.seq (.reg [⟨(some 2), .asg (.c .nils), none, [2]⟩])
 (.seq (.reg [⟨(some 3), .mv (.t 0), none, [0]⟩,
 ⟨(some 4), .nilc (.t 3), none, [3]⟩,
 ⟨(some 5), .faddr 297 (.t 4), none, [4]⟩,
 ⟨(some 6), .load none (.t 5), none, [5]⟩,
 ⟨(some 7), .call 106 [(.t 6)], none, [6]⟩,
 ⟨(some 2), .asg (.t 7), none, [7]⟩])
 .ret)), [.t 2]⟩
/-- interrex/assume.copied -/
def f82 : AFn := ⟨1, (.seq (.reg [⟨(some 1), .box false (.t 0), none, [0]⟩,
 ⟨(some 2), .alloc false [(.s []), (.s []), .nils], none, []⟩])
 (.seq (.reg [⟨(some 3), .faddr 2 (.t 1), none, []⟩,
 ⟨(some 4), .load none (.t 3), none, [3]⟩,
 ⟨(some 5), .call 114 [(.t 4)], none, [4]⟩,
 ⟨(some 6), .faddr 2 (.t 1), none, []⟩,
 ⟨none, .store 1 (.t 6) (.t 5), none, [6, 5]⟩])
 (.seq (.reg [⟨(some 7), .load (some 3) (.t 1), none, [1]⟩,
 ⟨none, .store 3 (.t 2) (.t 7), none, [7]⟩])
 .ret))), [.cell 2 (some 3)]⟩
/-- interrex/code.Kind -/
def f83 : AFn := ⟨1, (.seq (.reg [⟨(some 2), .asg (.c (.i .i64 0)), none, [2]⟩])
 (.seq (.blk 0 (.seq (.reg [⟨(some 4), .mv (.t 0), none, []⟩,
 ⟨(some 5), .bin .eql (.t 4) (.c (.s [108])), none, [4]⟩,
 ⟨(some 3), .asg (.t 5), none, [5]⟩])
 (.cond (.t 3) (.seq (.reg [⟨(some 2), .asg (.c (.i .i64 3)), none, []⟩])
 .ret)
 (.seq (.reg [⟨(some 7), .mv (.t 0), none, []⟩,
 ⟨(some 8), .lenS (.t 7), none, [7]⟩,
 ⟨(some 9), .bin .gtr (.t 8) (.c (.i .i64 2)), none, [8]⟩,
 ⟨(some 10), .mv (.t 9), none, [9]⟩,
 ⟨(some 11), .mv (.t 0), (some (10, true)), []⟩,
 ⟨(some 12), .slstr (.t 11) none (some (.c (.i .i64 2))), (some (10, true)), [11]⟩,
 ⟨(some 13), .bin .eql (.t 12) (.c (.s [112, 47])), (some (10, true)), [12]⟩,
 ⟨(some 14), .pick (.t 10) (.t 13) (.c (.b false)), none, [10, 13]⟩,
 ⟨(some 15), .mv (.t 14), none, [14]⟩,
 ⟨(some 16), .mv (.t 0), (some (15, true)), []⟩,
 ⟨(some 17), .slstr (.t 16) (some (.c (.i .i64 2))) none, (some (15, true)), [16]⟩,
 ⟨(some 18), .call 102 [(.t 17)], (some (15, true)), [17]⟩,
 ⟨(some 19), .pick (.t 15) (.t 18) (.c (.b false)), none, [15, 18]⟩,
 ⟨(some 6), .asg (.t 19), none, [19]⟩])
 (.cond (.t 6) (.seq (.reg [⟨(some 2), .asg (.c (.i .i64 1)), none, []⟩])
 .ret)
 (.seq (.reg [⟨(some 21), .mv (.t 0), none, []⟩,
 ⟨(some 22), .lenS (.t 21), none, [21]⟩,
 ⟨(some 23), .bin .gtr (.t 22) (.c (.i .i64 2)), none, [22]⟩,
 ⟨(some 24), .mv (.t 23), none, [23]⟩,
 ⟨(some 25), .mv (.t 0), (some (24, true)), []⟩,
 ⟨(some 26), .slstr (.t 25) none (some (.c (.i .i64 2))), (some (24, true)), [25]⟩,
 ⟨(some 27), .bin .eql (.t 26) (.c (.s [110, 47])), (some (24, true)), [26]⟩,
 ⟨(some 28), .pick (.t 24) (.t 27) (.c (.b false)), none, [24, 27]⟩,
 ⟨(some 29), .mv (.t 28), none, [28]⟩,
 ⟨(some 30), .mv (.t 0), (some (29, true)), [0]⟩,
 ⟨(some 31), .slstr (.t 30) (some (.c (.i .i64 2))) none, (some (29, true)), [30]⟩,
 ⟨(some 32), .call 102 [(.t 31)], (some (29, true)), [31]⟩,
 ⟨(some 33), .pick (.t 29) (.t 32) (.c (.b false)), none, [29, 32]⟩,
 ⟨(some 20), .asg (.t 33), none, [33]⟩])
 (.cond (.t 20) (.seq (.reg [⟨(some 2), .asg (.c (.i .i64 2)), none, []⟩])
 .ret)
 .skip)))))))
 (.seq (.reg [⟨(some 2), .asg (.c (.i .i64 0)), none, []⟩])
 .ret))), [.t 2]⟩
/-- interrex/code.GetPod -/
def f84 : AFn := ⟨1, (.seq (.reg [⟨(some 2), .alloc false [(.s []), (.i .i64 0), (.i .i64 0), (.i .i64 0), (.i .i64 0), (.i .i64 0), .nils, .nils, .nils, .nils, (.s []), .nils, (.i .i64 0), .nils, (.s []), (.i .i64 0)], none, []⟩,
 ⟨(some 3), .asg (.c (.b false)), none, [3]⟩])
 (.seq (.reg [⟨(some 6), .mv (.t 0), none, []⟩,
 ⟨(some 7), .call 67 [(.t 6)], none, [6]⟩,
 ⟨(some 4), .asg (.t 7), none, [7]⟩])
 (.seq (.reg [⟨(some 8), .mv (.t 4), none, []⟩,
 ⟨(some 9), .call 68 [(.t 8), (.c (.i .i64 1))], none, [8, 9]⟩])
 (.seq (.reg [⟨(some 10), .mv (.t 4), none, []⟩,
 ⟨(some 11), .call 115 [(.t 10)], none, [10]⟩,
 ⟨(some 12), .mv (.t 4), none, []⟩,
 ⟨(some 13), .call 68 [(.t 12), (.c (.i .i64 8))], none, [12]⟩,
 ⟨(some 14), .mv (.t 4), none, []⟩,
 ⟨(some 15), .call 68 [(.t 14), (.c (.i .i64 2))], none, [14]⟩,
 ⟨(some 16), .mv (.t 4), none, []⟩,
 ⟨(some 17), .call 116 [(.t 16)], none, [16]⟩,
 ⟨(some 18), .bld [(.s []), (.i .i64 0), (.i .i64 0), (.i .i64 0), (.i .i64 0), (.i .i64 0), .nils, .nils, .nils, .nils, (.s []), .nils, (.i .i64 0), .nils, (.s []), (.i .i64 0)] [(0, 1, (.t 11)), (1, 1, (.t 13)), (2, 1, (.t 15)), (3, 3, (.t 17))], none, [11, 13, 15, 17]⟩,
 ⟨(some 5), .alloc false [(.s []), (.i .i64 0), (.i .i64 0), (.i .i64 0), (.i .i64 0), (.i .i64 0), .nils, .nils, .nils, .nils, (.s []), .nils, (.i .i64 0), .nils, (.s []), (.i .i64 0)], none, []⟩,
 ⟨none, .store 16 (.t 5) (.t 18), none, [18]⟩])
 (.seq (.seq (.reg [⟨(some 19), .mv (.t 4), none, []⟩,
 ⟨(some 20), .call 117 [(.t 19), (.c (.i .i64 1))], none, [19]⟩,
 ⟨(some 21), .mv (.c (.i .i64 0)), none, []⟩])
 (.blk 0 (.loop (.seq (.reg [⟨(some 22), .bin .lss (.t 21) (.t 20), none, []⟩])
 (.seq (.cond (.t 22) .skip
 (.exit 0))
 (.seq (.blk 1 (.dreg [⟨0, ⟨(some 23), .faddr 6 (.t 5), none, []⟩, false, []⟩,
 ⟨1, ⟨(some 24), .load none (.t 23), none, []⟩, false, []⟩,
 ⟨2, ⟨(some 25), .mv (.t 4), none, []⟩, false, []⟩,
 ⟨3, ⟨(some 26), .call 68 [(.t 25), (.c (.i .i64 2))], none, []⟩, true, [1]⟩,
 ⟨4, ⟨(some 27), .bsl (.im false) 1 1 [(.i .i64 0)] [(0, (.t 26))], none, []⟩, true, [1]⟩,
 ⟨5, ⟨(some 28), .append (.im false) 1 8 (.t 24) (.t 27), none, []⟩, true, []⟩,
 ⟨6, ⟨(some 29), .faddr 6 (.t 5), none, []⟩, false, []⟩,
 ⟨7, ⟨none, .store 1 (.t 29) (.t 28), none, []⟩, true, []⟩] [23, 24, 25, 26, 27, 28, 29]))
 (.reg [⟨(some 30), .bin .add (.t 21) (.c (.i .i64 1)), none, [21]⟩,
 ⟨(some 21), .mv (.t 30), none, [30]⟩])))))))
 (.seq (.reg [⟨(some 31), .mv (.t 4), none, []⟩,
 ⟨(some 32), .call 118 [(.t 31), (.c (.fn 119 [] []))], none, [31]⟩,
 ⟨(some 33), .faddr 7 (.t 5), none, []⟩,
 ⟨none, .store 1 (.t 33) (.t 32), none, [33, 32]⟩])
 (.seq (.reg [⟨(some 34), .mv (.t 4), none, []⟩,
 ⟨(some 35), .call 120 [(.t 34)], none, [34]⟩,
 ⟨(some 36), .faddr 8 (.t 5), none, []⟩,
 ⟨none, .store 1 (.t 36) (.t 35), none, [36, 35]⟩])
 (.seq (.seq (.reg [⟨(some 37), .mv (.t 4), none, []⟩,
 ⟨(some 38), .call 117 [(.t 37), (.c (.i .i64 1))], none, [37]⟩,
 ⟨(some 39), .mv (.c (.i .i64 0)), none, []⟩])
 (.blk 2 (.loop (.seq (.reg [⟨(some 40), .bin .lss (.t 39) (.t 38), none, []⟩])
 (.seq (.cond (.t 40) .skip
 (.exit 2))
 (.seq (.blk 3 (.dreg [⟨0, ⟨(some 41), .faddr 9 (.t 5), none, []⟩, false, []⟩,
 ⟨1, ⟨(some 42), .load none (.t 41), none, []⟩, false, []⟩,
 ⟨2, ⟨(some 43), .mv (.t 4), none, []⟩, false, []⟩,
 ⟨4, ⟨(some 45), .mv (.t 4), none, []⟩, false, []⟩,
 ⟨6, ⟨(some 47), .mv (.t 4), none, []⟩, false, []⟩,
 ⟨3, ⟨(some 44), .call 115 [(.t 43)], none, []⟩, true, [1]⟩,
 ⟨5, ⟨(some 46), .call 115 [(.t 45)], none, []⟩, true, [1]⟩,
 ⟨7, ⟨(some 48), .call 121 [(.t 47)], none, []⟩, true, [1]⟩,
 ⟨8, ⟨(some 49), .bld [(.s []), (.s []), (.b false)] [(0, 1, (.t 44)), (1, 1, (.t 46)), (2, 1, (.t 48))], none, []⟩, false, []⟩,
 ⟨9, ⟨(some 50), .bsl (.im false) 3 1 [(.s []), (.s []), (.b false)] [(0, (.t 49))], none, []⟩, true, [1]⟩,
 ⟨10, ⟨(some 51), .append (.im false) 3 40 (.t 42) (.t 50), none, []⟩, true, []⟩,
 ⟨11, ⟨(some 52), .faddr 9 (.t 5), none, []⟩, false, []⟩,
 ⟨12, ⟨none, .store 1 (.t 52) (.t 51), none, []⟩, true, []⟩] [41, 42, 43, 44, 45, 46, 47, 48, 49, 50, 51, 52]))
 (.reg [⟨(some 53), .bin .add (.t 39) (.c (.i .i64 1)), none, [39]⟩,
 ⟨(some 39), .mv (.t 53), none, [53]⟩])))))))
 (.seq (.reg [⟨(some 54), .mv (.t 4), none, []⟩,
 ⟨(some 55), .call 115 [(.t 54)], none, [54]⟩,
 ⟨(some 56), .faddr 10 (.t 5), none, []⟩,
 ⟨none, .store 1 (.t 56) (.t 55), none, [56, 55]⟩])
 (.seq (.reg [⟨(some 57), .mv (.t 4), none, []⟩,
 ⟨(some 58), .call 120 [(.t 57)], none, [57]⟩,
 ⟨(some 59), .faddr 11 (.t 5), none, []⟩,
 ⟨none, .store 1 (.t 59) (.t 58), none, [59, 58]⟩])
 (.seq (.reg [⟨(some 60), .mv (.t 4), none, []⟩,
 ⟨(some 61), .call 68 [(.t 60), (.c (.i .i64 1))], none, [60]⟩,
 ⟨(some 62), .faddr 12 (.t 5), none, []⟩,
 ⟨none, .store 1 (.t 62) (.t 61), none, [62, 61]⟩])
 (.seq (.reg [⟨(some 63), .mv (.t 4), none, []⟩,
 ⟨(some 64), .call 120 [(.t 63)], none, [63]⟩,
 ⟨(some 65), .faddr 13 (.t 5), none, []⟩,
 ⟨none, .store 1 (.t 65) (.t 64), none, [65, 64]⟩])
 (.seq (.reg [⟨(some 66), .mv (.t 4), none, []⟩,
 ⟨(some 67), .call 115 [(.t 66)], none, [66]⟩,
 ⟨(some 68), .faddr 14 (.t 5), none, []⟩,
 ⟨none, .store 1 (.t 68) (.t 67), none, [68, 67]⟩])
 (.seq (.reg [⟨(some 69), .mv (.t 4), none, []⟩,
 ⟨(some 70), .call 68 [(.t 69), (.c (.i .i64 8))], none, [69]⟩,
 ⟨(some 71), .faddr 15 (.t 5), none, []⟩,
 ⟨none, .store 1 (.t 71) (.t 70), none, [71, 70]⟩])
 (.seq (.seq (.reg [⟨(some 72), .mv (.t 4), none, [4]⟩,
 ⟨(some 73), .call 69 [(.t 72)], none, [72]⟩,
 ⟨(some 74), .un .not (.t 73), none, [73]⟩,
 ⟨(some 75), .mv (.t 74), none, [74]⟩,
 ⟨(some 76), .mv (.t 0), (some (75, false)), []⟩,
 ⟨(some 77), .lenL (.t 76), (some (75, false)), [76]⟩,
 ⟨(some 78), .bin .eql (.t 77) (.c (.i .i64 0)), (some (75, false)), [77]⟩,
 ⟨(some 79), .pick (.t 75) (.c (.b true)) (.t 78), none, [75, 78]⟩,
 ⟨(some 80), .mv (.t 79), none, [79]⟩,
 ⟨(some 81), .load (some 16) (.t 5), (some (80, false)), []⟩,
 ⟨(some 82), .call 47 [(.t 81)], (some (80, false)), [81]⟩,
 ⟨(some 83), .mv (.t 0), (some (80, false)), [0]⟩,
 ⟨(some 84), .call 70 [(.t 82), (.t 83)], (some (80, false)), [82, 83]⟩,
 ⟨(some 85), .un .not (.t 84), (some (80, false)), [84]⟩,
 ⟨(some 86), .pick (.t 80) (.c (.b true)) (.t 85), none, [80, 85]⟩])
 (.cond (.t 86) (.seq (.reg [⟨(some 87), .bld [(.s []), (.i .i64 0), (.i .i64 0), (.i .i64 0), (.i .i64 0), (.i .i64 0), .nils, .nils, .nils, .nils, (.s []), .nils, (.i .i64 0), .nils, (.s []), (.i .i64 0)] [], none, []⟩,
 ⟨none, .store 16 (.t 2) (.t 87), none, [87]⟩,
 ⟨(some 3), .asg (.c (.b false)), none, []⟩])
 .ret)
 .skip))
 (.seq (.reg [⟨(some 88), .load (some 16) (.t 5), none, [5]⟩,
 ⟨none, .store 16 (.t 2) (.t 88), none, [88]⟩,
 ⟨(some 3), .asg (.c (.b true)), none, []⟩])
 .ret)))))))))))))))), [.cell 2 (some 16), .t 3]⟩
/-- interrex/code.GetNode -/
def f85 : AFn := ⟨1, (.seq (.reg [⟨(some 2), .alloc false [(.s []), (.i .i64 0), (.i .i64 0), (.i .i64 0), .nils, .nils], none, []⟩,
 ⟨(some 3), .asg (.c (.b false)), none, [3]⟩])
 (.seq (.reg [⟨(some 6), .mv (.t 0), none, []⟩,
 ⟨(some 7), .call 67 [(.t 6)], none, [6]⟩,
 ⟨(some 4), .asg (.t 7), none, [7]⟩])
 (.seq (.reg [⟨(some 8), .mv (.t 4), none, []⟩,
 ⟨(some 9), .call 68 [(.t 8), (.c (.i .i64 1))], none, [8, 9]⟩])
 (.seq (.reg [⟨(some 10), .mv (.t 4), none, []⟩,
 ⟨(some 11), .call 115 [(.t 10)], none, [10]⟩,
 ⟨(some 12), .mv (.t 4), none, []⟩,
 ⟨(some 13), .call 116 [(.t 12)], none, [12]⟩,
 ⟨(some 14), .bld [(.s []), (.i .i64 0), (.i .i64 0), (.i .i64 0), .nils, .nils] [(0, 1, (.t 11)), (1, 3, (.t 13))], none, [11, 13]⟩,
 ⟨(some 5), .alloc false [(.s []), (.i .i64 0), (.i .i64 0), (.i .i64 0), .nils, .nils], none, []⟩,
 ⟨none, .store 6 (.t 5) (.t 14), none, [14]⟩])
 (.seq (.reg [⟨(some 15), .mv (.t 4), none, []⟩,
 ⟨(some 16), .call 118 [(.t 15), (.c (.fn 119 [] []))], none, [15]⟩,
 ⟨(some 17), .faddr 4 (.t 5), none, []⟩,
 ⟨none, .store 1 (.t 17) (.t 16), none, [17, 16]⟩])
 (.seq (.reg [⟨(some 18), .mv (.t 4), none, []⟩,
 ⟨(some 19), .call 122 [(.t 18), (.c (.fn 123 [] []))], none, [18]⟩,
 ⟨(some 20), .faddr 5 (.t 5), none, []⟩,
 ⟨none, .store 1 (.t 20) (.t 19), none, [20, 19]⟩])
 (.seq (.seq (.reg [⟨(some 21), .mv (.t 4), none, [4]⟩,
 ⟨(some 22), .call 69 [(.t 21)], none, [21]⟩,
 ⟨(some 23), .un .not (.t 22), none, [22]⟩,
 ⟨(some 24), .mv (.t 23), none, [23]⟩,
 ⟨(some 25), .mv (.t 0), (some (24, false)), []⟩,
 ⟨(some 26), .lenL (.t 25), (some (24, false)), [25]⟩,
 ⟨(some 27), .bin .eql (.t 26) (.c (.i .i64 0)), (some (24, false)), [26]⟩,
 ⟨(some 28), .pick (.t 24) (.c (.b true)) (.t 27), none, [24, 27]⟩,
 ⟨(some 29), .mv (.t 28), none, [28]⟩,
 ⟨(some 30), .load (some 6) (.t 5), (some (29, false)), []⟩,
 ⟨(some 31), .call 124 [(.t 30)], (some (29, false)), [30]⟩,
 ⟨(some 32), .mv (.t 0), (some (29, false)), [0]⟩,
 ⟨(some 33), .call 70 [(.t 31), (.t 32)], (some (29, false)), [31, 32]⟩,
 ⟨(some 34), .un .not (.t 33), (some (29, false)), [33]⟩,
 ⟨(some 35), .pick (.t 29) (.c (.b true)) (.t 34), none, [29, 34]⟩])
 (.cond (.t 35) (.seq (.reg [⟨(some 36), .bld [(.s []), (.i .i64 0), (.i .i64 0), (.i .i64 0), .nils, .nils] [], none, []⟩,
 ⟨none, .store 6 (.t 2) (.t 36), none, [36]⟩,
 ⟨(some 3), .asg (.c (.b false)), none, []⟩])
 .ret)
 .skip))
 (.seq (.reg [⟨(some 37), .load (some 6) (.t 5), none, [5]⟩,
 ⟨none, .store 6 (.t 2) (.t 37), none, [37]⟩,
 ⟨(some 3), .asg (.c (.b true)), none, []⟩])
 .ret)))))))), [.cell 2 (some 6), .t 3]⟩
/-- slices.SortFunc   interrex/api.Pod interrex/api.Pod  -/
def f86 : AFn := ⟨2, (.seq (.reg [⟨(some 5), .mv (.t 0), none, []⟩,
 ⟨(some 6), .lenL (.t 5), none, [5]⟩,
 ⟨(some 4), .asg (.t 6), none, [6]⟩])
 (.reg [⟨(some 7), .mv (.t 0), none, [0]⟩,
 ⟨(some 8), .mv (.t 4), none, []⟩,
 ⟨(some 9), .mv (.t 4), none, [4]⟩,
 ⟨(some 10), .cvi .u64 (.t 9), none, [9]⟩,
 ⟨(some 11), .call 126 [(.t 10)], none, [10]⟩,
 ⟨(some 12), .mv (.t 1), none, [1]⟩,
 ⟨(some 13), .call 125 [(.t 7), (.c (.i .i64 0)), (.t 8), (.t 11), (.t 12)], none, [7, 8, 11, 12, 13]⟩])), []⟩
/-- interrex/state.Of 1 -/
def f87 : AFn := ⟨2, (.seq (.reg [⟨(some 2), .box false (.t 0), none, [0]⟩,
 ⟨(some 3), .box false (.t 1), none, [1]⟩,
 ⟨(some 4), .asg (.c (.i .i64 0)), none, [4]⟩])
 (.seq (.reg [⟨(some 5), .faddr 0 (.t 2), none, [2]⟩,
 ⟨(some 6), .load none (.t 5), none, [5]⟩,
 ⟨(some 7), .faddr 0 (.t 3), none, [3]⟩,
 ⟨(some 8), .load none (.t 7), none, [7]⟩,
 ⟨(some 9), .call 88 [(.t 6), (.t 8)], none, [6, 8]⟩,
 ⟨(some 4), .asg (.t 9), none, [9]⟩])
 .ret)), [.t 4]⟩
/-- strings.Compare -/
def f88 : AFn := ⟨2, (.seq (.reg [⟨(some 4), .asg (.c (.i .i64 0)), none, [4]⟩])
 (.seq (.reg [⟨(some 5), .mv (.t 0), none, [0]⟩,
 ⟨(some 6), .mv (.t 1), none, [1]⟩,
 ⟨(some 7), .call 127 [(.t 5), (.t 6)], none, [5, 6]⟩,
 ⟨(some 4), .asg (.t 7), none, [7]⟩])
 .ret)), [.t 4]⟩
/-- slices.SortFunc   interrex/api.Node interrex/api.Node  -/
def f89 : AFn := ⟨2, (.seq (.reg [⟨(some 5), .mv (.t 0), none, []⟩,
 ⟨(some 6), .lenL (.t 5), none, [5]⟩,
 ⟨(some 4), .asg (.t 6), none, [6]⟩])
 (.reg [⟨(some 7), .mv (.t 0), none, [0]⟩,
 ⟨(some 8), .mv (.t 4), none, []⟩,
 ⟨(some 9), .mv (.t 4), none, [4]⟩,
 ⟨(some 10), .cvi .u64 (.t 9), none, [9]⟩,
 ⟨(some 11), .call 126 [(.t 10)], none, [10]⟩,
 ⟨(some 12), .mv (.t 1), none, [1]⟩,
 ⟨(some 13), .call 128 [(.t 7), (.c (.i .i64 0)), (.t 8), (.t 11), (.t 12)], none, [7, 8, 11, 12, 13]⟩])), []⟩
/-- interrex/state.Of 2 -/
def f90 : AFn := ⟨2, (.seq (.reg [⟨(some 2), .box false (.t 0), none, [0]⟩,
 ⟨(some 3), .box false (.t 1), none, [1]⟩,
 ⟨(some 4), .asg (.c (.i .i64 0)), none, [4]⟩])
 (.seq (.reg [⟨(some 5), .faddr 0 (.t 2), none, [2]⟩,
 ⟨(some 6), .load none (.t 5), none, [5]⟩,
 ⟨(some 7), .faddr 0 (.t 3), none, [3]⟩,
 ⟨(some 8), .load none (.t 7), none, [7]⟩,
 ⟨(some 9), .call 88 [(.t 6), (.t 8)], none, [6, 8]⟩,
 ⟨(some 4), .asg (.t 9), none, [9]⟩])
 .ret)), [.t 4]⟩
/-- interrex/obj.MayPod -/
def f91 : AFn := ⟨1, (.seq (.reg [⟨(some 1), .box false (.t 0), none, [0]⟩,
 ⟨(some 2), .asg (.c (.b false)), none, [2]⟩])
 (.seq (.seq (.reg [⟨(some 3), .faddr 0 (.t 1), none, []⟩,
 ⟨(some 4), .load none (.t 3), none, [3]⟩,
 ⟨(some 5), .call 102 [(.t 4)], none, [4]⟩,
 ⟨(some 6), .un .not (.t 5), none, [5]⟩,
 ⟨(some 7), .mv (.t 6), none, [6]⟩,
 ⟨(some 8), .faddr 1 (.t 1), (some (7, false)), []⟩,
 ⟨(some 9), .load none (.t 8), (some (7, false)), [8]⟩,
 ⟨(some 10), .bin .lss (.t 9) (.c (.i .i64 1)), (some (7, false)), [9]⟩,
 ⟨(some 11), .pick (.t 7) (.c (.b true)) (.t 10), none, [7, 10]⟩,
 ⟨(some 12), .mv (.t 11), none, [11]⟩,
 ⟨(some 13), .faddr 1 (.t 1), (some (12, false)), []⟩,
 ⟨(some 14), .load none (.t 13), (some (12, false)), [13]⟩,
 ⟨(some 15), .bin .gtr (.t 14) (.c (.i .i64 1099511627776)), (some (12, false)), [14]⟩,
 ⟨(some 16), .pick (.t 12) (.c (.b true)) (.t 15), none, [12, 15]⟩,
 ⟨(some 17), .mv (.t 16), none, [16]⟩,
 ⟨(some 18), .faddr 2 (.t 1), (some (17, false)), []⟩,
 ⟨(some 19), .load none (.t 18), (some (17, false)), [18]⟩,
 ⟨(some 20), .bin .lss (.t 19) (.c (.i .i64 0)), (some (17, false)), [19]⟩,
 ⟨(some 21), .pick (.t 17) (.c (.b true)) (.t 20), none, [17, 20]⟩,
 ⟨(some 22), .mv (.t 21), none, [21]⟩,
 ⟨(some 23), .faddr 2 (.t 1), (some (22, false)), []⟩,
 ⟨(some 24), .load none (.t 23), (some (22, false)), [23]⟩,
 ⟨(some 25), .bin .gtr (.t 24) (.c (.i .i64 1000)), (some (22, false)), [24]⟩,
 ⟨(some 26), .pick (.t 22) (.c (.b true)) (.t 25), none, [22, 25]⟩,
 ⟨(some 27), .mv (.t 26), none, [26]⟩,
 ⟨(some 28), .faddr 3 (.t 1), (some (27, false)), []⟩,
 ⟨(some 29), .load (some 3) (.t 28), (some (27, false)), [28]⟩,
 ⟨(some 30), .call 129 [(.t 29)], (some (27, false)), [29]⟩,
 ⟨(some 31), .un .not (.t 30), (some (27, false)), [30]⟩,
 ⟨(some 32), .pick (.t 27) (.c (.b true)) (.t 31), none, [27, 31]⟩,
 ⟨(some 33), .mv (.t 32), none, [32]⟩,
 ⟨(some 34), .faddr 6 (.t 1), (some (33, false)), []⟩,
 ⟨(some 35), .load none (.t 34), (some (33, false)), [34]⟩,
 ⟨(some 36), .call 130 [(.t 35)], (some (33, false)), [35]⟩,
 ⟨(some 37), .un .not (.t 36), (some (33, false)), [36]⟩,
 ⟨(some 38), .pick (.t 33) (.c (.b true)) (.t 37), none, [33, 37]⟩])
 (.cond (.t 38) (.seq (.reg [⟨(some 2), .asg (.c (.b false)), none, []⟩])
 .ret)
 .skip))
 (.seq (.seq (.reg [⟨(some 39), .faddr 7 (.t 1), none, []⟩,
 ⟨(some 40), .load none (.t 39), none, [39]⟩,
 ⟨(some 41), .call 131 [(.t 40)], none, [40]⟩,
 ⟨(some 42), .un .not (.t 41), none, [41]⟩,
 ⟨(some 43), .mv (.t 42), none, [42]⟩,
 ⟨(some 44), .faddr 8 (.t 1), (some (43, false)), []⟩,
 ⟨(some 45), .load none (.t 44), (some (43, false)), [44]⟩,
 ⟨(some 46), .call 132 [(.t 45)], (some (43, false)), [45]⟩,
 ⟨(some 47), .un .not (.t 46), (some (43, false)), [46]⟩,
 ⟨(some 48), .pick (.t 43) (.c (.b true)) (.t 47), none, [43, 47]⟩,
 ⟨(some 49), .mv (.t 48), none, [48]⟩,
 ⟨(some 50), .faddr 9 (.t 1), (some (49, false)), []⟩,
 ⟨(some 51), .load none (.t 50), (some (49, false)), [50]⟩,
 ⟨(some 52), .call 133 [(.t 51)], (some (49, false)), [51]⟩,
 ⟨(some 53), .un .not (.t 52), (some (49, false)), [52]⟩,
 ⟨(some 54), .pick (.t 49) (.c (.b true)) (.t 53), none, [49, 53]⟩,
 ⟨(some 55), .mv (.t 54), none, [54]⟩,
 ⟨(some 56), .load (some 16) (.t 1), (some (55, false)), []⟩,
 ⟨(some 57), .call 134 [(.t 56)], (some (55, false)), [56]⟩,
 ⟨(some 58), .un .not (.t 57), (some (55, false)), [57]⟩,
 ⟨(some 59), .pick (.t 55) (.c (.b true)) (.t 58), none, [55, 58]⟩])
 (.cond (.t 59) (.seq (.reg [⟨(some 2), .asg (.c (.b false)), none, []⟩])
 .ret)
 .skip))
 (.seq (.reg [⟨(some 60), .faddr 14 (.t 1), none, []⟩,
 ⟨(some 61), .load none (.t 60), none, [60]⟩,
 ⟨(some 62), .call 102 [(.t 61)], none, [61]⟩,
 ⟨(some 63), .mv (.t 62), none, [62]⟩,
 ⟨(some 64), .faddr 15 (.t 1), (some (63, true)), []⟩,
 ⟨(some 65), .load none (.t 64), (some (63, true)), [64]⟩,
 ⟨(some 66), .bin .gtr (.t 65) (.c (.i .i64 0)), (some (63, true)), [65]⟩,
 ⟨(some 67), .pick (.t 63) (.t 66) (.c (.b false)), none, [63, 66]⟩,
 ⟨(some 68), .mv (.t 67), none, [67]⟩,
 ⟨(some 69), .faddr 14 (.t 1), (some (68, false)), []⟩,
 ⟨(some 70), .load none (.t 69), (some (68, false)), [69]⟩,
 ⟨(some 71), .bin .eql (.t 70) (.c (.s [])), (some (68, false)), [70]⟩,
 ⟨(some 72), .mv (.t 71), (some (68, false)), [71]⟩,
 ⟨(some 73), .faddr 15 (.t 1), (some (72, true)), [1]⟩,
 ⟨(some 74), .load none (.t 73), (some (72, true)), [73]⟩,
 ⟨(some 75), .bin .eql (.t 74) (.c (.i .i64 0)), (some (72, true)), [74]⟩,
 ⟨(some 76), .pick (.t 72) (.t 75) (.c (.b false)), (some (68, false)), [72, 75]⟩,
 ⟨(some 77), .pick (.t 68) (.c (.b true)) (.t 76), none, [68, 76]⟩,
 ⟨(some 2), .asg (.t 77), none, [77]⟩])
 .ret)))), [.t 2]⟩
/-- ( interrex/wire.Writer).Name -/
def f92 : AFn := ⟨2, (.seq (.reg [⟨(some 6), .mv (.t 0), none, []⟩,
 ⟨(some 7), .nilc (.t 6), none, [6]⟩,
 ⟨(some 8), .faddr 0 (.t 7), none, [7]⟩,
 ⟨(some 9), .call 135 [(.t 8)], none, [8, 9]⟩])
 (.seq (.reg [⟨(some 4), .asg (.c (.i .u64 0)), none, []⟩])
 (.seq (.seq (.reg [⟨(some 10), .mv (.c (.i .i64 0)), none, []⟩])
 (.blk 0 (.loop (.seq (.reg [⟨(some 11), .bin .lss (.t 10) (.c (.i .i64 12)), none, []⟩])
 (.seq (.cond (.t 11) .skip
 (.exit 0))
 (.seq (.blk 1 (.seq (.reg [⟨(some 12), .mv (.t 10), none, []⟩,
 ⟨(some 5), .asg (.t 12), none, [12]⟩])
 (.seq (.reg [⟨(some 13), .mv (.t 4), none, [4]⟩,
 ⟨(some 14), .bin .mul (.t 13) (.c (.i .u64 38)), none, [13]⟩,
 ⟨(some 4), .asg (.t 14), none, [14]⟩])
 (.seq (.reg [⟨(some 15), .mv (.t 5), none, []⟩,
 ⟨(some 16), .mv (.t 1), none, []⟩,
 ⟨(some 17), .lenS (.t 16), none, [16]⟩,
 ⟨(some 18), .bin .lss (.t 15) (.t 17), none, [15, 17]⟩])
 (.cond (.t 18) (.dreg [⟨0, ⟨(some 19), .mv (.t 4), none, []⟩, false, []⟩,
 ⟨1, ⟨(some 20), .mv (.t 0), none, []⟩, false, []⟩,
 ⟨2, ⟨(some 21), .mv (.t 1), none, []⟩, false, []⟩,
 ⟨3, ⟨(some 22), .mv (.t 5), none, []⟩, false, []⟩,
 ⟨4, ⟨(some 23), .ixs (.t 21) (.t 22), none, []⟩, false, []⟩,
 ⟨5, ⟨(some 24), .nilc (.t 20), none, []⟩, false, []⟩,
 ⟨6, ⟨(some 25), .faddr 0 (.t 24), none, []⟩, false, []⟩,
 ⟨7, ⟨(some 26), .faddr 3 (.t 25), none, []⟩, false, []⟩,
 ⟨8, ⟨(some 27), .iaar 256 1 (.t 26) (.t 23), none, []⟩, false, []⟩,
 ⟨9, ⟨(some 28), .load none (.t 27), none, []⟩, false, []⟩,
 ⟨10, ⟨(some 29), .bin .add (.t 19) (.t 28), none, []⟩, false, []⟩,
 ⟨11, ⟨(some 4), .asg (.t 29), none, []⟩, true, []⟩] [19, 20, 21, 5, 22, 23, 24, 25, 26, 27, 28, 29])
 .skip)))))
 (.reg [⟨(some 30), .bin .add (.t 10) (.c (.i .i64 1)), none, [10]⟩,
 ⟨(some 10), .mv (.t 30), none, [30]⟩])))))))
 (.reg [⟨(some 31), .mv (.t 0), none, [0]⟩,
 ⟨(some 32), .mv (.t 4), none, [4]⟩,
 ⟨(some 33), .cvi .i64 (.t 32), none, [32]⟩,
 ⟨(some 34), .call 80 [(.t 31), (.t 33), (.c (.i .i64 8))], none, [31, 33, 34]⟩])))), []⟩
/-- interrex/code.putRes -/
def f93 : AFn := ⟨2, (.seq (.reg [⟨(some 3), .box false (.t 1), none, [1]⟩])
 (.seq (.reg [⟨(some 6), .load (some 3) (.t 3), none, [3]⟩,
 ⟨(some 7), .mv (.c (.i .i64 0)), none, []⟩])
 (.blk 0 (.loop (.seq (.reg [⟨(some 8), .bin .lss (.t 7) (.c (.i .i64 3)), none, []⟩])
 (.seq (.cond (.t 8) .skip
 (.exit 0))
 (.seq (.blk 1 (.seq (.reg [⟨(some 9), .ixa 3 1 none (.t 6) (.t 7), none, []⟩,
 ⟨(some 5), .asg (.t 9), none, [9]⟩])
 (.reg [⟨(some 10), .mv (.t 0), none, []⟩,
 ⟨(some 11), .mv (.t 5), none, [5]⟩,
 ⟨(some 12), .call 80 [(.t 10), (.t 11), (.c (.i .i64 4))], none, [10, 11, 12]⟩])))
 (.reg [⟨(some 13), .bin .add (.t 7) (.c (.i .i64 1)), none, [7]⟩,
 ⟨(some 7), .mv (.t 13), none, [13]⟩])))))))), []⟩
/-- interrex/code.putPairs interrex/api.Pair  -/
def f94 : AFn := ⟨3, (.seq (.reg [⟨(some 10), .mv (.t 0), none, []⟩,
 ⟨(some 11), .mv (.t 1), none, []⟩,
 ⟨(some 12), .lenL (.t 11), none, [11]⟩,
 ⟨(some 13), .call 80 [(.t 10), (.t 12), (.c (.i .i64 1))], none, [10, 12, 13]⟩])
 (.seq (.reg [⟨(some 14), .mv (.t 1), none, [1]⟩,
 ⟨(some 15), .lenL (.t 14), none, []⟩,
 ⟨(some 16), .mv (.c (.i .i64 0)), none, []⟩])
 (.blk 0 (.loop (.seq (.reg [⟨(some 17), .bin .lss (.t 16) (.t 15), none, []⟩])
 (.seq (.cond (.t 17) .skip
 (.exit 0))
 (.seq (.blk 1 (.seq (.reg [⟨(some 18), .iasl 2 (.t 14) (.t 16), none, []⟩,
 ⟨(some 19), .load (some 2) (.t 18), none, [18]⟩,
 ⟨(some 7), .alloc false [(.s []), (.s [])], none, []⟩,
 ⟨none, .store 2 (.t 7) (.t 19), none, [19]⟩])
 (.seq (.reg [⟨(some 21), .mv (.t 2), none, []⟩,
 ⟨(some 22), .load (some 2) (.t 7), none, [7]⟩,
 ⟨(some 23), .callv (.t 21) [(.t 22)], none, [21, 22]⟩,
 ⟨(some 20), .mv (.t 23), none, [23]⟩,
 ⟨(some 24), .ext (.t 20) 0, none, []⟩,
 ⟨(some 25), .ext (.t 20) 1, none, [20]⟩,
 ⟨(some 8), .asg (.t 24), none, [24]⟩,
 ⟨(some 9), .asg (.t 25), none, [25]⟩])
 (.seq (.reg [⟨(some 26), .mv (.t 0), none, []⟩,
 ⟨(some 27), .mv (.t 8), none, [8]⟩,
 ⟨(some 28), .call 92 [(.t 26), (.t 27)], none, [26, 27, 28]⟩])
 (.reg [⟨(some 29), .mv (.t 0), none, []⟩,
 ⟨(some 30), .mv (.t 9), none, [9]⟩,
 ⟨(some 31), .call 92 [(.t 29), (.t 30)], none, [29, 30, 31]⟩])))))
 (.reg [⟨(some 32), .bin .add (.t 16) (.c (.i .i64 1)), none, [16]⟩,
 ⟨(some 16), .mv (.t 32), none, [32]⟩])))))))), []⟩
/-- interrex/code.ofPair -/
def f95 : AFn := ⟨1, (.seq (.reg [⟨(some 1), .box false (.t 0), none, [0]⟩,
 ⟨(some 2), .asg (.c (.s [])), none, [2]⟩,
 ⟨(some 3), .asg (.c (.s [])), none, [3]⟩])
 (.seq (.dreg [⟨0, ⟨(some 4), .faddr 0 (.t 1), none, []⟩, false, []⟩,
 ⟨1, ⟨(some 5), .load none (.t 4), none, []⟩, false, []⟩,
 ⟨2, ⟨(some 6), .faddr 1 (.t 1), none, []⟩, false, []⟩,
 ⟨3, ⟨(some 7), .load none (.t 6), none, []⟩, false, []⟩,
 ⟨4, ⟨(some 2), .asg (.t 5), none, []⟩, false, []⟩,
 ⟨5, ⟨(some 3), .asg (.t 7), none, []⟩, false, []⟩] [1, 4, 5, 6, 7])
 .ret)), [.t 2, .t 3]⟩
/-- interrex/code.putTerms -/
def f96 : AFn := ⟨2, (.seq (.reg [⟨(some 8), .mv (.t 0), none, []⟩,
 ⟨(some 9), .mv (.t 1), none, []⟩,
 ⟨(some 10), .lenL (.t 9), none, [9]⟩,
 ⟨(some 11), .call 80 [(.t 8), (.t 10), (.c (.i .i64 1))], none, [8, 10, 11]⟩])
 (.seq (.reg [⟨(some 12), .mv (.t 1), none, [1]⟩,
 ⟨(some 13), .lenL (.t 12), none, []⟩,
 ⟨(some 14), .mv (.c (.i .i64 0)), none, []⟩])
 (.blk 0 (.loop (.seq (.reg [⟨(some 15), .bin .lss (.t 14) (.t 13), none, []⟩])
 (.seq (.cond (.t 15) .skip
 (.exit 0))
 (.seq (.blk 1 (.seq (.reg [⟨(some 16), .iasl 3 (.t 12) (.t 14), none, []⟩,
 ⟨(some 17), .load (some 3) (.t 16), none, [16]⟩,
 ⟨(some 5), .alloc false [(.s []), (.i .i64 0), .nils], none, []⟩,
 ⟨none, .store 3 (.t 5) (.t 17), none, [17]⟩])
 (.seq (.reg [⟨(some 18), .mv (.t 0), none, []⟩,
 ⟨(some 19), .faddr 0 (.t 5), none, []⟩,
 ⟨(some 20), .load none (.t 19), none, [19]⟩,
 ⟨(some 21), .call 92 [(.t 18), (.t 20)], none, [18, 20, 21]⟩])
 (.seq (.reg [⟨(some 22), .mv (.t 0), none, []⟩,
 ⟨(some 23), .faddr 1 (.t 5), none, []⟩,
 ⟨(some 24), .load none (.t 23), none, [23]⟩,
 ⟨(some 25), .call 80 [(.t 22), (.t 24), (.c (.i .i64 1))], none, [22, 24, 25]⟩])
 (.seq (.reg [⟨(some 26), .mv (.t 0), none, []⟩,
 ⟨(some 27), .faddr 2 (.t 5), none, []⟩,
 ⟨(some 28), .load none (.t 27), none, [27]⟩,
 ⟨(some 29), .lenL (.t 28), none, [28]⟩,
 ⟨(some 30), .call 80 [(.t 26), (.t 29), (.c (.i .i64 1))], none, [26, 29, 30]⟩])
 (.seq (.reg [⟨(some 31), .faddr 2 (.t 5), none, [5]⟩,
 ⟨(some 32), .load none (.t 31), none, [31]⟩,
 ⟨(some 33), .lenL (.t 32), none, []⟩,
 ⟨(some 34), .mv (.c (.i .i64 0)), none, []⟩])
 (.blk 2 (.loop (.seq (.reg [⟨(some 35), .bin .lss (.t 34) (.t 33), none, []⟩])
 (.seq (.cond (.t 35) .skip
 (.exit 2))
 (.seq (.blk 3 (.seq (.reg [⟨(some 36), .iasl 1 (.t 32) (.t 34), none, []⟩,
 ⟨(some 37), .load none (.t 36), none, [36]⟩,
 ⟨(some 7), .asg (.t 37), none, [37]⟩])
 (.reg [⟨(some 38), .mv (.t 0), none, []⟩,
 ⟨(some 39), .mv (.t 7), none, [7]⟩,
 ⟨(some 40), .call 92 [(.t 38), (.t 39)], none, [38, 39, 40]⟩])))
 (.reg [⟨(some 41), .bin .add (.t 34) (.c (.i .i64 1)), none, [34]⟩,
 ⟨(some 34), .mv (.t 41), none, [41]⟩]))))))))))))
 (.reg [⟨(some 42), .bin .add (.t 14) (.c (.i .i64 1)), none, [14]⟩,
 ⟨(some 14), .mv (.t 42), none, [42]⟩])))))))), []⟩
/-- ( interrex/wire.Writer).Bool -/
def f97 : AFn := ⟨2, (.seq (.reg [⟨(some 4), .asg (.c (.i .i64 0)), none, []⟩])
 (.seq (.seq (.reg [⟨(some 5), .mv (.t 1), none, [1]⟩])
 (.cond (.t 5) (.reg [⟨(some 4), .asg (.c (.i .i64 1)), none, []⟩])
 .skip))
 (.reg [⟨(some 6), .mv (.t 0), none, [0]⟩,
 ⟨(some 7), .mv (.t 4), none, [4]⟩,
 ⟨(some 8), .call 80 [(.t 6), (.t 7), (.c (.i .i64 1))], none, [6, 7, 8]⟩]))), []⟩
/-- interrex/interrexlaw6.begun -/
def f98 : AFn := ⟨0, (.seq (.reg [⟨(some 0), .asg (.c (.b false)), none, [0]⟩])
 (.seq (.reg [⟨(some 18), .call 57 [(.c (.i .i64 3))], none, []⟩,
 ⟨(some 19), .call 18 [], none, []⟩,
 ⟨(some 1), .asg (.t 18), none, [18]⟩,
 ⟨(some 2), .asg (.t 19), none, [19]⟩])
 (.seq (.seq (.reg [⟨(some 20), .mv (.t 1), none, []⟩,
 ⟨(some 21), .eqn false (.t 20) (.c .nilp), none, [20]⟩,
 ⟨(some 22), .mv (.t 21), none, [21]⟩,
 ⟨(some 23), .mv (.t 2), (some (22, false)), []⟩,
 ⟨(some 24), .eqn false (.t 23) (.c .nilp), (some (22, false)), [23]⟩,
 ⟨(some 25), .pick (.t 22) (.c (.b true)) (.t 24), none, [22, 24]⟩])
 (.cond (.t 25) (.seq (.reg [⟨(some 0), .asg (.c (.b false)), none, []⟩])
 .ret)
 .skip))
 (.seq (.reg [⟨(some 26), .mv (.t 1), none, []⟩,
 ⟨(some 27), .bld [(.i .i64 0), (.s []), .nils, (.b false)] [(0, 1, (.c (.i .i64 4))), (1, 1, (.c (.s [107])))], none, []⟩,
 ⟨(some 28), .bsl (.im false) 4 1 [(.i .i64 0), (.s []), .nils, (.b false)] [(0, (.t 27))], none, [27]⟩,
 ⟨(some 29), .call 65 [(.t 26), (.t 28)], none, [26, 28]⟩,
 ⟨(some 3), .asg (.t 29), none, [29]⟩])
 (.seq (.reg [⟨(some 31), .mv (.t 1), none, [1]⟩,
 ⟨(some 32), .call 136 [(.t 31), (.c (.i .i64 0))], none, [31]⟩,
 ⟨(some 30), .mv (.t 32), none, [32]⟩,
 ⟨(some 33), .ext (.t 30) 0, none, []⟩,
 ⟨(some 34), .ext (.t 30) 1, none, [30]⟩,
 ⟨(some 4), .asg (.t 33), none, [33]⟩,
 ⟨(some 5), .asg (.t 34), none, [34]⟩])
 (.seq (.reg [⟨(some 36), .mv (.t 2), none, []⟩,
 ⟨(some 37), .bld [(.s []), (.i .i64 0), (.b false)] [(0, 1, (.c (.s [97])))], none, []⟩,
 ⟨(some 38), .bsl (.im false) 3 1 [(.s []), (.i .i64 0), (.b false)] [(0, (.t 37))], none, [37]⟩,
 ⟨(some 39), .bsl (.im false) 1 1 [(.i .u8 0)] [(0, (.c (.i .u8 120)))], none, []⟩,
 ⟨(some 40), .mkb (.t 39), none, [39]⟩,
 ⟨(some 41), .bld [(.s []), .nils, (.b false)] [(0, 1, (.c (.s [97]))), (1, 1, (.t 40))], none, [40]⟩,
 ⟨(some 42), .bsl (.im false) 3 1 [(.s []), .nils, (.b false)] [(0, (.t 41))], none, [41]⟩,
 ⟨(some 43), .bld [.nils, .nils] [(0, 1, (.t 38)), (1, 1, (.t 42))], none, [38, 42]⟩,
 ⟨(some 44), .call 22 [(.t 36), (.t 43)], none, [36, 43]⟩,
 ⟨(some 35), .mv (.t 44), none, [44]⟩,
 ⟨(some 45), .ext (.t 35) 0, none, []⟩,
 ⟨(some 46), .ext (.t 35) 1, none, [35]⟩,
 ⟨(some 6), .asg (.t 45), none, [45]⟩,
 ⟨(some 7), .asg (.t 46), none, [46]⟩])
 (.seq (.reg [⟨(some 48), .mv (.t 2), none, []⟩,
 ⟨(some 49), .bld [(.s []), (.i .i64 0), (.b false)] [(0, 1, (.c (.s [97])))], none, []⟩,
 ⟨(some 50), .bsl (.im false) 3 1 [(.s []), (.i .i64 0), (.b false)] [(0, (.t 49))], none, [49]⟩,
 ⟨(some 51), .bsl (.im false) 1 1 [(.i .u8 0)] [(0, (.c (.i .u8 121)))], none, []⟩,
 ⟨(some 52), .mkb (.t 51), none, [51]⟩,
 ⟨(some 53), .bld [(.s []), .nils, (.b false)] [(0, 1, (.c (.s [97]))), (1, 1, (.t 52))], none, [52]⟩,
 ⟨(some 54), .bsl (.im false) 3 1 [(.s []), .nils, (.b false)] [(0, (.t 53))], none, [53]⟩,
 ⟨(some 55), .bld [.nils, .nils] [(0, 1, (.t 50)), (1, 1, (.t 54))], none, [50, 54]⟩,
 ⟨(some 56), .call 22 [(.t 48), (.t 55)], none, [48, 55]⟩,
 ⟨(some 47), .mv (.t 56), none, [56]⟩,
 ⟨(some 57), .ext (.t 47) 0, none, []⟩,
 ⟨(some 58), .ext (.t 47) 1, none, [47]⟩,
 ⟨(some 8), .asg (.t 57), none, [57, 8]⟩,
 ⟨(some 9), .asg (.t 58), none, [58]⟩])
 (.seq (.reg [⟨(some 60), .mv (.t 2), none, []⟩,
 ⟨(some 61), .call 25 [(.t 60), (.c (.s [97]))], none, [60]⟩,
 ⟨(some 59), .mv (.t 61), none, [61]⟩,
 ⟨(some 62), .ext (.t 59) 0, none, []⟩,
 ⟨(some 63), .ext (.t 59) 1, none, [59]⟩,
 ⟨(some 10), .alloc false [(.s []), (.i .i64 0), .nils], none, []⟩,
 ⟨none, .store 3 (.t 10) (.t 62), none, [62]⟩,
 ⟨(some 11), .asg (.t 63), none, [63]⟩])
 (.seq (.reg [⟨(some 64), .bld [(.i .i64 0), (.i .i64 0), (.i .i64 0), (.s []), (.i .i64 0), .nils, .nils] [(0, 1, (.c (.i .i64 1))), (1, 1, (.c (.i .i64 5))), (2, 1, (.c (.i .i64 2)))], none, []⟩,
 ⟨(some 12), .alloc false [(.i .i64 0), (.i .i64 0), (.i .i64 0), (.s []), (.i .i64 0), .nils, .nils], none, []⟩,
 ⟨none, .store 7 (.t 12) (.t 64), none, [64]⟩])
 (.seq (.reg [⟨(some 66), .load (some 7) (.t 12), none, []⟩,
 ⟨(some 67), .call 138 [(.t 66)], none, [66]⟩,
 ⟨(some 68), .call 137 [(.t 67)], none, [67]⟩,
 ⟨(some 65), .mv (.t 68), none, [68]⟩,
 ⟨(some 69), .ext (.t 65) 0, none, []⟩,
 ⟨(some 70), .ext (.t 65) 1, none, [65]⟩,
 ⟨(some 13), .alloc false [(.i .i64 0), (.i .i64 0), (.i .i64 0), (.s []), (.i .i64 0), .nils, .nils], none, []⟩,
 ⟨none, .store 7 (.t 13) (.t 69), none, [69]⟩,
 ⟨(some 14), .asg (.t 70), none, [70]⟩])
 (.seq (.reg [⟨(some 71), .mv (.t 2), none, [2]⟩,
 ⟨(some 72), .load (some 7) (.t 12), none, []⟩,
 ⟨(some 73), .call 139 [(.t 71), (.t 72)], none, [71, 72]⟩,
 ⟨(some 15), .alloc false [(.i .i64 0), (.i .i64 0), (.i .i64 0), (.i .i64 0), (.i .i64 0), .nils, .nils], none, []⟩,
 ⟨none, .store 7 (.t 15) (.t 73), none, [73]⟩])
 (.seq (.reg [⟨(some 75), .load (some 7) (.t 15), none, []⟩,
 ⟨(some 76), .call 141 [(.t 75)], none, [75]⟩,
 ⟨(some 77), .call 140 [(.t 76)], none, [76]⟩,
 ⟨(some 74), .mv (.t 77), none, [77]⟩,
 ⟨(some 78), .ext (.t 74) 0, none, []⟩,
 ⟨(some 79), .ext (.t 74) 1, none, [74]⟩,
 ⟨(some 16), .alloc false [(.i .i64 0), (.i .i64 0), (.i .i64 0), (.i .i64 0), (.i .i64 0), .nils, .nils], none, []⟩,
 ⟨none, .store 7 (.t 16) (.t 78), none, [78]⟩,
 ⟨(some 17), .asg (.t 79), none, [79]⟩])
 (.seq (.reg [⟨(some 80), .call 142 [], none, []⟩,
 ⟨(some 81), .mv (.t 80), none, [80]⟩,
 ⟨(some 82), .mv (.t 3), (some (81, true)), [3]⟩,
 ⟨(some 83), .pick (.t 81) (.t 82) (.c (.b false)), none, [81, 82]⟩,
 ⟨(some 84), .mv (.t 83), none, [83]⟩,
 ⟨(some 85), .mv (.t 5), (some (84, true)), [5]⟩,
 ⟨(some 86), .bin .eql (.t 85) (.c (.i .i64 0)), (some (84, true)), [85]⟩,
 ⟨(some 87), .pick (.t 84) (.t 86) (.c (.b false)), none, [84, 86]⟩,
 ⟨(some 88), .mv (.t 87), none, [87]⟩,
 ⟨(some 89), .mv (.t 4), (some (88, true)), [4]⟩,
 ⟨(some 90), .lenL (.t 89), (some (88, true)), [89]⟩,
 ⟨(some 91), .bin .eql (.t 90) (.c (.i .i64 1)), (some (88, true)), [90]⟩,
 ⟨(some 92), .pick (.t 88) (.t 91) (.c (.b false)), none, [88, 91]⟩,
 ⟨(some 93), .mv (.t 92), none, [92]⟩,
 ⟨(some 94), .mv (.t 6), (some (93, true)), [6]⟩,
 ⟨(some 95), .bin .eql (.t 94) (.c (.i .i64 1)), (some (93, true)), [94]⟩,
 ⟨(some 96), .pick (.t 93) (.t 95) (.c (.b false)), none, [93, 95]⟩,
 ⟨(some 97), .mv (.t 96), none, [96]⟩,
 ⟨(some 98), .mv (.t 7), (some (97, true)), [7]⟩,
 ⟨(some 99), .bin .eql (.t 98) (.c (.i .i64 0)), (some (97, true)), [98]⟩,
 ⟨(some 100), .pick (.t 97) (.t 99) (.c (.b false)), none, [97, 99]⟩,
 ⟨(some 101), .mv (.t 100), none, [100]⟩,
 ⟨(some 102), .mv (.t 9), (some (101, true)), [9]⟩,
 ⟨(some 103), .bin .eql (.t 102) (.c (.i .i64 6)), (some (101, true)), [102]⟩,
 ⟨(some 104), .pick (.t 101) (.t 103) (.c (.b false)), none, [101, 103]⟩,
 ⟨(some 105), .mv (.t 104), none, [104]⟩,
 ⟨(some 106), .mv (.t 11), (some (105, true)), [11]⟩,
 ⟨(some 107), .pick (.t 105) (.t 106) (.c (.b false)), none, [105, 106]⟩,
 ⟨(some 108), .mv (.t 107), none, [107]⟩,
 ⟨(some 109), .faddr 2 (.t 10), (some (108, true)), []⟩,
 ⟨(some 110), .load none (.t 109), (some (108, true)), [109]⟩,
 ⟨(some 111), .b2s (.t 110), (some (108, true)), [110]⟩,
 ⟨(some 112), .bin .eql (.t 111) (.c (.s [120])), (some (108, true)), [111]⟩,
 ⟨(some 113), .pick (.t 108) (.t 112) (.c (.b false)), none, [108, 112]⟩,
 ⟨(some 114), .mv (.t 113), none, [113]⟩,
 ⟨(some 115), .faddr 1 (.t 10), (some (114, true)), [10]⟩,
 ⟨(some 116), .load none (.t 115), (some (114, true)), [115]⟩,
 ⟨(some 117), .bin .eql (.t 116) (.c (.i .i64 1)), (some (114, true)), [116]⟩,
 ⟨(some 118), .pick (.t 114) (.t 117) (.c (.b false)), none, [114, 117]⟩,
 ⟨(some 119), .mv (.t 118), none, [118]⟩,
 ⟨(some 120), .mv (.t 14), (some (119, true)), [14]⟩,
 ⟨(some 121), .pick (.t 119) (.t 120) (.c (.b false)), none, [119, 120]⟩,
 ⟨(some 122), .mv (.t 121), none, [121]⟩,
 ⟨(some 123), .load (some 7) (.t 12), (some (122, true)), [12]⟩,
 ⟨(some 124), .load (some 7) (.t 13), (some (122, true)), [13]⟩,
 ⟨(some 125), .call 143 [(.t 123), (.t 124)], (some (122, true)), [123, 124]⟩,
 ⟨(some 126), .pick (.t 122) (.t 125) (.c (.b false)), none, [122, 125]⟩,
 ⟨(some 127), .mv (.t 126), none, [126]⟩,
 ⟨(some 128), .mv (.t 17), (some (127, true)), [17]⟩,
 ⟨(some 129), .pick (.t 127) (.t 128) (.c (.b false)), none, [127, 128]⟩,
 ⟨(some 130), .mv (.t 129), none, [129]⟩,
 ⟨(some 131), .load (some 7) (.t 15), (some (130, true)), [15]⟩,
 ⟨(some 132), .load (some 7) (.t 16), (some (130, true)), []⟩,
 ⟨(some 133), .call 144 [(.t 131), (.t 132)], (some (130, true)), [131, 132]⟩,
 ⟨(some 134), .pick (.t 130) (.t 133) (.c (.b false)), none, [130, 133]⟩,
 ⟨(some 135), .mv (.t 134), none, [134]⟩,
 ⟨(some 136), .faddr 5 (.t 16), (some (135, true)), []⟩,
 ⟨(some 137), .load none (.t 136), (some (135, true)), [136]⟩,
 ⟨(some 138), .lenL (.t 137), (some (135, true)), [137]⟩,
 ⟨(some 139), .bin .eql (.t 138) (.c (.i .i64 1)), (some (135, true)), [138]⟩,
 ⟨(some 140), .pick (.t 135) (.t 139) (.c (.b false)), none, [135, 139]⟩,
 ⟨(some 141), .mv (.t 140), none, [140]⟩,
 ⟨(some 142), .faddr 4 (.t 16), (some (141, true)), []⟩,
 ⟨(some 143), .load none (.t 142), (some (141, true)), [142]⟩,
 ⟨(some 144), .bin .eql (.t 143) (.c (.i .i64 1)), (some (141, true)), [143]⟩,
 ⟨(some 145), .pick (.t 141) (.t 144) (.c (.b false)), none, [141, 144]⟩,
 ⟨(some 146), .mv (.t 145), none, [145]⟩,
 ⟨(some 147), .faddr 0 (.t 16), (some (146, true)), [16]⟩,
 ⟨(some 148), .load none (.t 147), (some (146, true)), [147]⟩,
 ⟨(some 149), .bin .eql (.t 148) (.c (.i .i64 1)), (some (146, true)), [148]⟩,
 ⟨(some 150), .pick (.t 146) (.t 149) (.c (.b false)), none, [146, 149]⟩,
 ⟨(some 0), .asg (.t 150), none, [150]⟩])
 .ret))))))))))))), [.t 0]⟩
/-- slices.ContainsFunc   interrex/assume.one interrex/assume.one  -/
def f99 : AFn := ⟨2, (.seq (.reg [⟨(some 4), .asg (.c (.b false)), none, [4]⟩])
 (.seq (.reg [⟨(some 5), .mv (.t 0), none, [0]⟩,
 ⟨(some 6), .mv (.t 1), none, [1]⟩,
 ⟨(some 7), .call 145 [(.t 5), (.t 6)], none, [5, 6]⟩,
 ⟨(some 8), .bin .geq (.t 7) (.c (.i .i64 0)), none, [7]⟩,
 ⟨(some 4), .asg (.t 8), none, [8]⟩])
 .ret)), [.t 4]⟩
/-- ( interrex/assume.Assume).Has 1 -/
def f100 : AFn := ⟨2, (.seq (.reg [⟨(some 2), .box false (.t 0), none, [0]⟩,
 ⟨(some 3), .asg (.c (.b false)), none, [3]⟩])
 (.seq (.reg [⟨(some 4), .faddr 0 (.t 2), none, [2]⟩,
 ⟨(some 5), .faddr 0 (.t 4), none, [4]⟩,
 ⟨(some 6), .load none (.t 5), none, [5]⟩,
 ⟨(some 7), .load none (.t 1), none, [1]⟩,
 ⟨(some 8), .bin .eql (.t 6) (.t 7), none, [6, 7]⟩,
 ⟨(some 3), .asg (.t 8), none, [8]⟩])
 .ret)), [.t 3]⟩
/-- interrex/lease.Free -/
def f101 : AFn := ⟨3, (.seq (.reg [⟨(some 6), .asg (.c (.b false)), none, [6]⟩])
 (.seq (.reg [⟨(some 7), .mv (.t 2), none, []⟩,
 ⟨(some 8), .bin .geq (.t 7) (.c (.i .i64 1)), none, [7]⟩,
 ⟨(some 9), .mv (.t 8), none, [8]⟩,
 ⟨(some 10), .mv (.t 2), (some (9, true)), []⟩,
 ⟨(some 11), .bin .leq (.t 10) (.c (.i .i64 1099511627776)), (some (9, true)), [10]⟩,
 ⟨(some 12), .pick (.t 9) (.t 11) (.c (.b false)), none, [9, 11]⟩,
 ⟨(some 13), .mv (.t 12), none, [12]⟩,
 ⟨(some 14), .mv (.t 0), (some (13, true)), [0]⟩,
 ⟨(some 15), .call 74 [(.t 14)], (some (13, true)), [14]⟩,
 ⟨(some 16), .mv (.t 1), (some (13, true)), [1]⟩,
 ⟨(some 17), .call 74 [(.t 16)], (some (13, true)), [16]⟩,
 ⟨(some 18), .bin .sub (.t 15) (.t 17), (some (13, true)), [15, 17]⟩,
 ⟨(some 19), .mv (.t 2), (some (13, true)), [2]⟩,
 ⟨(some 20), .bin .geq (.t 18) (.t 19), (some (13, true)), [18, 19]⟩,
 ⟨(some 21), .pick (.t 13) (.t 20) (.c (.b false)), none, [13, 20]⟩,
 ⟨(some 6), .asg (.t 21), none, [21]⟩])
 .ret)), [.t 6]⟩
/-- interrex/label.Name -/
def f102 : AFn := ⟨1, (.seq (.reg [⟨(some 2), .asg (.c (.b false)), none, [2]⟩])
 (.seq (.seq (.reg [⟨(some 4), .mv (.t 0), none, []⟩,
 ⟨(some 5), .lenS (.t 4), none, [4]⟩,
 ⟨(some 6), .bin .lss (.t 5) (.c (.i .i64 1)), none, [5]⟩,
 ⟨(some 7), .mv (.t 6), none, [6]⟩,
 ⟨(some 8), .mv (.t 0), (some (7, false)), []⟩,
 ⟨(some 9), .lenS (.t 8), (some (7, false)), [8]⟩,
 ⟨(some 10), .bin .gtr (.t 9) (.c (.i .i64 12)), (some (7, false)), [9]⟩,
 ⟨(some 11), .pick (.t 7) (.c (.b true)) (.t 10), none, [7, 10]⟩])
 (.cond (.t 11) (.seq (.reg [⟨(some 2), .asg (.c (.b false)), none, []⟩])
 .ret)
 .skip))
 (.seq (.seq (.reg [⟨(some 12), .mv (.t 0), none, []⟩,
 ⟨(some 13), .lenS (.t 12), none, [12]⟩,
 ⟨(some 14), .mv (.c (.i .i64 0)), none, []⟩])
 (.blk 0 (.loop (.seq (.reg [⟨(some 15), .bin .lss (.t 14) (.t 13), none, []⟩])
 (.seq (.cond (.t 15) .skip
 (.exit 0))
 (.seq (.blk 1 (.seq (.reg [⟨(some 16), .mv (.t 14), none, []⟩,
 ⟨(some 3), .asg (.t 16), none, [16]⟩])
 (.seq (.reg [⟨(some 17), .mv (.t 0), none, []⟩,
 ⟨(some 18), .mv (.t 3), none, [3]⟩,
 ⟨(some 19), .ixs (.t 17) (.t 18), none, [17, 18]⟩,
 ⟨(some 20), .call 146 [(.t 19)], none, [19]⟩,
 ⟨(some 21), .un .not (.t 20), none, [20]⟩])
 (.cond (.t 21) (.seq (.reg [⟨(some 2), .asg (.c (.b false)), none, []⟩])
 .ret)
 .skip))))
 (.reg [⟨(some 22), .bin .add (.t 14) (.c (.i .i64 1)), none, [14]⟩,
 ⟨(some 14), .mv (.t 22), none, [22]⟩])))))))
 (.seq (.reg [⟨(some 2), .asg (.c (.b true)), none, []⟩])
 .ret)))), [.t 2]⟩
/-- interrex/store.may -/
def f104 : AFn := ⟨1, (.seq (.reg [⟨(some 1), .box false (.t 0), none, [0]⟩,
 ⟨(some 2), .asg (.c (.b false)), none, [2]⟩])
 (.seq (.seq (.reg [⟨(some 8), .faddr 0 (.t 1), none, []⟩,
 ⟨(some 9), .load none (.t 8), none, [8]⟩,
 ⟨(some 10), .lenL (.t 9), none, [9]⟩,
 ⟨(some 11), .bin .gtr (.t 10) (.c (.i .i64 20)), none, [10]⟩,
 ⟨(some 12), .mv (.t 11), none, [11]⟩,
 ⟨(some 13), .faddr 1 (.t 1), (some (12, false)), []⟩,
 ⟨(some 14), .load none (.t 13), (some (12, false)), [13]⟩,
 ⟨(some 15), .lenL (.t 14), (some (12, false)), [14]⟩,
 ⟨(some 16), .bin .lss (.t 15) (.c (.i .i64 1)), (some (12, false)), [15]⟩,
 ⟨(some 17), .pick (.t 12) (.c (.b true)) (.t 16), none, [12, 16]⟩,
 ⟨(some 18), .mv (.t 17), none, [17]⟩,
 ⟨(some 19), .faddr 1 (.t 1), (some (18, false)), []⟩,
 ⟨(some 20), .load none (.t 19), (some (18, false)), [19]⟩,
 ⟨(some 21), .lenL (.t 20), (some (18, false)), [20]⟩,
 ⟨(some 22), .bin .gtr (.t 21) (.c (.i .i64 64)), (some (18, false)), [21]⟩,
 ⟨(some 23), .pick (.t 18) (.c (.b true)) (.t 22), none, [18, 22]⟩])
 (.cond (.t 23) (.seq (.reg [⟨(some 2), .asg (.c (.b false)), none, []⟩])
 .ret)
 .skip))
 (.seq (.seq (.reg [⟨(some 24), .faddr 0 (.t 1), none, []⟩,
 ⟨(some 25), .load none (.t 24), none, [24]⟩,
 ⟨(some 26), .lenL (.t 25), none, []⟩,
 ⟨(some 27), .mv (.c (.i .i64 0)), none, []⟩])
 (.blk 0 (.loop (.seq (.reg [⟨(some 28), .bin .lss (.t 27) (.t 26), none, []⟩])
 (.seq (.cond (.t 28) .skip
 (.exit 0))
 (.seq (.blk 1 (.seq (.reg [⟨(some 29), .iasl 3 (.t 25) (.t 27), none, []⟩,
 ⟨(some 30), .load (some 3) (.t 29), none, [29]⟩,
 ⟨(some 4), .alloc false [(.s []), (.i .i64 0), (.b false)], none, []⟩,
 ⟨none, .store 3 (.t 4) (.t 30), none, [30]⟩])
 (.seq (.reg [⟨(some 31), .faddr 0 (.t 4), none, []⟩,
 ⟨(some 32), .load none (.t 31), none, [31]⟩,
 ⟨(some 33), .call 147 [(.t 32)], none, [32]⟩,
 ⟨(some 34), .un .not (.t 33), none, [33]⟩,
 ⟨(some 35), .mv (.t 34), none, [34]⟩,
 ⟨(some 36), .faddr 1 (.t 4), (some (35, false)), [4]⟩,
 ⟨(some 37), .load none (.t 36), (some (35, false)), [36]⟩,
 ⟨(some 38), .bin .lss (.t 37) (.c (.i .i64 0)), (some (35, false)), [37]⟩,
 ⟨(some 39), .pick (.t 35) (.c (.b true)) (.t 38), none, [35, 38]⟩])
 (.cond (.t 39) (.seq (.reg [⟨(some 2), .asg (.c (.b false)), none, []⟩])
 .ret)
 .skip))))
 (.reg [⟨(some 40), .bin .add (.t 27) (.c (.i .i64 1)), none, [27]⟩,
 ⟨(some 27), .mv (.t 40), none, [40]⟩])))))))
 (.seq (.reg [⟨(some 41), .mkmap true none, none, []⟩,
 ⟨(some 5), .asg (.t 41), none, [41]⟩])
 (.seq (.seq (.reg [⟨(some 42), .faddr 1 (.t 1), none, [1]⟩,
 ⟨(some 43), .load none (.t 42), none, [42]⟩,
 ⟨(some 44), .lenL (.t 43), none, []⟩,
 ⟨(some 45), .mv (.c (.i .i64 0)), none, []⟩])
 (.blk 2 (.loop (.seq (.reg [⟨(some 46), .bin .lss (.t 45) (.t 44), none, []⟩])
 (.seq (.cond (.t 46) .skip
 (.exit 2))
 (.seq (.blk 3 (.seq (.reg [⟨(some 47), .iasl 3 (.t 43) (.t 45), none, []⟩,
 ⟨(some 48), .load (some 3) (.t 47), none, [47]⟩,
 ⟨(some 7), .alloc false [(.s []), .nils, (.b false)], none, []⟩,
 ⟨none, .store 3 (.t 7) (.t 48), none, [48]⟩])
 (.seq (.seq (.reg [⟨(some 49), .faddr 0 (.t 7), none, []⟩,
 ⟨(some 50), .load none (.t 49), none, [49]⟩,
 ⟨(some 51), .call 147 [(.t 50)], none, [50]⟩,
 ⟨(some 52), .un .not (.t 51), none, [51]⟩,
 ⟨(some 53), .mv (.t 52), none, [52]⟩,
 ⟨(some 54), .mv (.t 5), (some (53, false)), []⟩,
 ⟨(some 55), .faddr 0 (.t 7), (some (53, false)), []⟩,
 ⟨(some 56), .load none (.t 55), (some (53, false)), [55]⟩,
 ⟨(some 57), .lkp none (.b false) (.t 54) (.t 56) false, (some (53, false)), [54, 56]⟩,
 ⟨(some 58), .pick (.t 53) (.c (.b true)) (.t 57), none, [53, 57]⟩,
 ⟨(some 59), .mv (.t 58), none, [58]⟩,
 ⟨(some 60), .faddr 2 (.t 7), (some (59, false)), []⟩,
 ⟨(some 61), .load none (.t 60), (some (59, false)), [60]⟩,
 ⟨(some 62), .mv (.t 61), (some (59, false)), [61]⟩,
 ⟨(some 63), .faddr 1 (.t 7), (some (62, true)), []⟩,
 ⟨(some 64), .load none (.t 63), (some (62, true)), [63]⟩,
 ⟨(some 65), .lenL (.t 64), (some (62, true)), [64]⟩,
 ⟨(some 66), .bin .gtr (.t 65) (.c (.i .i64 0)), (some (62, true)), [65]⟩,
 ⟨(some 67), .pick (.t 62) (.t 66) (.c (.b false)), (some (59, false)), [62, 66]⟩,
 ⟨(some 68), .pick (.t 59) (.c (.b true)) (.t 67), none, [59, 67]⟩,
 ⟨(some 69), .mv (.t 68), none, [68]⟩,
 ⟨(some 70), .faddr 1 (.t 7), (some (69, false)), []⟩,
 ⟨(some 71), .load none (.t 70), (some (69, false)), [70]⟩,
 ⟨(some 72), .lenL (.t 71), (some (69, false)), [71]⟩,
 ⟨(some 73), .bin .gtr (.t 72) (.c (.i .i64 4000)), (some (69, false)), [72]⟩,
 ⟨(some 74), .pick (.t 69) (.c (.b true)) (.t 73), none, [69, 73]⟩])
 (.cond (.t 74) (.seq (.reg [⟨(some 2), .asg (.c (.b false)), none, []⟩])
 .ret)
 .skip))
 (.reg [⟨(some 75), .mv (.t 5), none, []⟩,
 ⟨(some 76), .faddr 0 (.t 7), none, [7]⟩,
 ⟨(some 77), .load none (.t 76), none, [76]⟩,
 ⟨none, .mupd none (.t 75) (.t 77) (.c (.b true)), none, [75, 77]⟩]))))
 (.reg [⟨(some 78), .bin .add (.t 45) (.c (.i .i64 1)), none, [45]⟩,
 ⟨(some 45), .mv (.t 78), none, [78]⟩])))))))
 (.seq (.reg [⟨(some 2), .asg (.c (.b true)), none, []⟩])
 .ret)))))), [.t 2]⟩
/-- ( interrex/store.Store).holds -/
def f105 : AFn := ⟨2, (.seq (.reg [⟨(some 3), .box false (.t 1), none, [1]⟩,
 ⟨(some 4), .asg (.c (.b false)), none, [4]⟩])
 (.seq (.seq (.reg [⟨(some 7), .faddr 2 (.t 3), none, []⟩,
 ⟨(some 8), .load none (.t 7), none, [7]⟩,
 ⟨(some 9), .un .not (.t 8), none, [8]⟩])
 (.cond (.t 9) (.seq (.dreg [⟨0, ⟨(some 10), .mv (.t 0), none, []⟩, false, []⟩,
 ⟨1, ⟨(some 11), .nilc (.t 10), none, []⟩, false, []⟩,
 ⟨2, ⟨(some 12), .faddr 1 (.t 11), none, []⟩, false, []⟩,
 ⟨3, ⟨(some 13), .load none (.t 12), none, []⟩, false, []⟩,
 ⟨4, ⟨(some 14), .faddr 0 (.t 3), none, []⟩, false, []⟩,
 ⟨5, ⟨(some 15), .load none (.t 14), none, []⟩, false, []⟩,
 ⟨6, ⟨(some 16), .lkp none (.agg [(.s []), (.i .i64 0), .nils]) (.t 13) (.t 15) false, none, []⟩, false, []⟩,
 ⟨7, ⟨(some 17), .fld 1 none (.t 16), none, []⟩, false, []⟩,
 ⟨8, ⟨(some 18), .faddr 1 (.t 3), none, []⟩, false, []⟩,
 ⟨9, ⟨(some 19), .load none (.t 18), none, []⟩, false, []⟩,
 ⟨10, ⟨(some 20), .bin .eql (.t 17) (.t 19), none, []⟩, false, []⟩,
 ⟨11, ⟨(some 4), .asg (.t 20), none, []⟩, false, []⟩] [0, 10, 11, 12, 13, 3, 14, 15, 16, 17, 18, 19, 20])
 .ret)
 .skip))
 (.seq (.seq (.reg [⟨(some 21), .mv (.t 0), none, [0]⟩,
 ⟨(some 22), .nilc (.t 21), none, [21]⟩,
 ⟨(some 23), .faddr 2 (.t 22), none, [22]⟩,
 ⟨(some 24), .load none (.t 23), none, [23]⟩,
 ⟨(some 25), .no, none, [24]⟩])
 (.blk 0 (.loop (.seq (.reg [⟨(some 26), .no, none, []⟩,
 ⟨(some 27), .ext (.t 26) 0, none, [26]⟩])
 (.seq (.cond (.t 27) .skip
 (.exit 0))
 (.blk 1 (.seq (.reg [⟨(some 28), .no, none, []⟩,
 ⟨(some 29), .ext (.t 28) 0, none, []⟩,
 ⟨(some 30), .ext (.t 28) 1, none, [28]⟩,
 ⟨(some 5), .asg (.t 29), none, [29]⟩,
 ⟨(some 6), .asg (.t 30), none, [30]⟩])
 (.seq (.reg [⟨(some 31), .mv (.t 6), none, [6]⟩,
 ⟨(some 32), .faddr 1 (.t 3), none, []⟩,
 ⟨(some 33), .load none (.t 32), none, [32]⟩,
 ⟨(some 34), .bin .gtr (.t 31) (.t 33), none, [31, 33]⟩,
 ⟨(some 35), .mv (.t 34), none, [34]⟩,
 ⟨(some 36), .mv (.t 5), (some (35, true)), [5]⟩,
 ⟨(some 37), .faddr 0 (.t 3), (some (35, true)), []⟩,
 ⟨(some 38), .load none (.t 37), (some (35, true)), [37]⟩,
 ⟨(some 39), .call 148 [(.t 36), (.t 38)], (some (35, true)), [36, 38]⟩,
 ⟨(some 40), .pick (.t 35) (.t 39) (.c (.b false)), none, [35, 39]⟩])
 (.cond (.t 40) (.seq (.reg [⟨(some 4), .asg (.c (.b false)), none, []⟩])
 .ret)
 .skip)))))))))
 (.seq (.reg [⟨(some 4), .asg (.c (.b true)), none, []⟩])
 .ret)))), [.t 4]⟩
/-- slices.Clone   byte byte  -/
def f106 : AFn := ⟨1, (.seq (.reg [⟨(some 2), .asg (.c .nils), none, [2]⟩])
 (.seq (.seq (.reg [⟨(some 3), .mv (.t 0), none, []⟩,
 ⟨(some 4), .eqn false (.t 3) (.c .nils), none, [3]⟩])
 (.cond (.t 4) (.seq (.reg [⟨(some 2), .asg (.c .nils), none, []⟩])
 .ret)
 .skip))
 (.seq (.reg [⟨(some 5), .bsl (.im false) 1 0 [(.i .u8 0)] [], none, []⟩,
 ⟨(some 6), .mv (.t 0), none, [0]⟩,
 ⟨(some 7), .append (.im false) 1 1 (.t 5) (.t 6), none, [5, 6]⟩,
 ⟨(some 2), .asg (.t 7), none, [7]⟩])
 .ret))), [.t 2]⟩
/-- interrex/log.copied -/
def f107 : AFn := ⟨1, (.seq (.reg [⟨(some 1), .box false (.t 0), none, [0]⟩,
 ⟨(some 2), .alloc false [(.i .i64 0), (.s []), .nils, (.b false)], none, []⟩])
 (.seq (.reg [⟨(some 3), .faddr 2 (.t 1), none, []⟩,
 ⟨(some 4), .load none (.t 3), none, [3]⟩,
 ⟨(some 5), .call 106 [(.t 4)], none, [4]⟩,
 ⟨(some 6), .faddr 2 (.t 1), none, []⟩,
 ⟨none, .store 1 (.t 6) (.t 5), none, [6, 5]⟩])
 (.seq (.reg [⟨(some 7), .load (some 4) (.t 1), none, [1]⟩,
 ⟨none, .store 4 (.t 2) (.t 7), none, [7]⟩])
 .ret))), [.cell 2 (some 4)]⟩
/-- ( interrex/log.Log).Cut -/
def f108 : AFn := ⟨2, (.seq (.reg [⟨(some 3), .box true (.t 1), none, [1]⟩])
 (.seq (.seq (.reg [⟨(some 4), .mv (.t 0), none, []⟩,
 ⟨(some 5), .eqn false (.t 4) (.c .nilp), none, [4]⟩])
 (.cond (.t 5) .ret
 .skip))
 (.seq (.reg [⟨(some 6), .mv (.t 0), none, []⟩,
 ⟨(some 7), .mv (.t 0), none, []⟩,
 ⟨(some 8), .nilc (.t 7), none, [7]⟩,
 ⟨(some 9), .faddr 0 (.t 8), none, [8]⟩,
 ⟨(some 10), .load none (.t 9), none, [9]⟩,
 ⟨(some 11), .mkfn 150 [(.t 3)], none, []⟩,
 ⟨(some 12), .call 149 [(.t 10), (.t 11)], none, [10, 11]⟩,
 ⟨(some 13), .nilc (.t 6), none, [6]⟩,
 ⟨(some 14), .faddr 0 (.t 13), none, [13]⟩,
 ⟨none, .store 1 (.t 14) (.t 12), none, [14, 12]⟩])
 (.dreg [⟨0, ⟨(some 15), .mv (.t 0), none, []⟩, false, []⟩,
 ⟨1, ⟨(some 16), .mv (.t 0), none, []⟩, false, []⟩,
 ⟨2, ⟨(some 17), .nilc (.t 16), none, []⟩, false, []⟩,
 ⟨3, ⟨(some 18), .faddr 2 (.t 17), none, []⟩, false, []⟩,
 ⟨4, ⟨(some 19), .load none (.t 18), none, []⟩, false, []⟩,
 ⟨5, ⟨(some 20), .load none (.t 3), none, []⟩, false, []⟩,
 ⟨6, ⟨(some 21), .mv (.t 0), none, []⟩, false, []⟩,
 ⟨7, ⟨(some 22), .nilc (.t 21), none, []⟩, false, []⟩,
 ⟨8, ⟨(some 23), .faddr 3 (.t 22), none, []⟩, false, []⟩,
 ⟨9, ⟨(some 24), .load none (.t 23), none, []⟩, false, []⟩,
 ⟨10, ⟨(some 25), .mnmx false [(.t 20), (.t 24)], none, []⟩, false, []⟩,
 ⟨11, ⟨(some 26), .mnmx true [(.t 19), (.t 25)], none, []⟩, false, []⟩,
 ⟨12, ⟨(some 27), .nilc (.t 15), none, []⟩, false, []⟩,
 ⟨13, ⟨(some 28), .faddr 2 (.t 27), none, []⟩, false, []⟩,
 ⟨14, ⟨none, .store 1 (.t 28) (.t 26), none, []⟩, true, []⟩] [0, 15, 16, 17, 18, 19, 3, 20, 21, 22, 23, 24, 25, 26, 27, 28])))), []⟩
/-- maps.Keys map string interrex/api.Entry string interrex/api.Entry  1 -/
def f113 : AFn := ⟨2, (.seq (.reg [⟨(some 4), .load none (.t 1), none, [1]⟩,
 ⟨(some 5), .no, none, [4]⟩])
 (.blk 0 (.loop (.seq (.reg [⟨(some 6), .no, none, []⟩,
 ⟨(some 7), .ext (.t 6) 0, none, [6]⟩])
 (.seq (.cond (.t 7) .skip
 (.exit 0))
 (.blk 1 (.seq (.reg [⟨(some 8), .no, none, []⟩,
 ⟨(some 9), .ext (.t 8) 0, none, [8]⟩,
 ⟨(some 3), .asg (.t 9), none, [9]⟩])
 (.seq (.reg [⟨(some 10), .mv (.t 0), none, []⟩,
 ⟨(some 11), .mv (.t 3), none, [3]⟩,
 ⟨(some 12), .callv (.t 10) [(.t 11)], none, [10, 11]⟩,
 ⟨(some 13), .un .not (.t 12), none, [12]⟩])
 (.cond (.t 13) .ret
 .skip))))))))), []⟩
/-- slices.Clone   string string  -/
def f114 : AFn := ⟨1, (.seq (.reg [⟨(some 2), .asg (.c .nils), none, [2]⟩])
 (.seq (.seq (.reg [⟨(some 3), .mv (.t 0), none, []⟩,
 ⟨(some 4), .eqn false (.t 3) (.c .nils), none, [3]⟩])
 (.cond (.t 4) (.seq (.reg [⟨(some 2), .asg (.c .nils), none, []⟩])
 .ret)
 .skip))
 (.seq (.reg [⟨(some 5), .bsl (.im false) 1 0 [(.s [])] [], none, []⟩,
 ⟨(some 6), .mv (.t 0), none, [0]⟩,
 ⟨(some 7), .append (.im false) 1 16 (.t 5) (.t 6), none, [5, 6]⟩,
 ⟨(some 2), .asg (.t 7), none, [7]⟩])
 .ret))), [.t 2]⟩
/-- ( interrex/wire.Reader).Name -/
def f115 : AFn := ⟨1, (.seq (.reg [⟨(some 2), .asg (.c (.s [])), none, [2]⟩])
 (.seq (.reg [⟨(some 6), .mv (.t 0), none, []⟩,
 ⟨(some 7), .nilc (.t 6), none, [6]⟩,
 ⟨(some 8), .faddr 0 (.t 7), none, [7]⟩,
 ⟨(some 9), .call 135 [(.t 8)], none, [8, 9]⟩])
 (.seq (.reg [⟨(some 10), .mv (.t 0), none, []⟩,
 ⟨(some 11), .call 68 [(.t 10), (.c (.i .i64 8))], none, [10]⟩,
 ⟨(some 12), .cvi .u64 (.t 11), none, [11]⟩,
 ⟨(some 3), .asg (.t 12), none, [12]⟩])
 (.seq (.reg [⟨(some 4), .asg (.c .nils), none, []⟩])
 (.seq (.seq (.reg [⟨(some 13), .mv (.c (.i .i64 0)), none, []⟩])
 (.blk 0 (.loop (.seq (.reg [⟨(some 14), .bin .lss (.t 13) (.c (.i .i64 12)), none, []⟩])
 (.seq (.cond (.t 14) .skip
 (.exit 0))
 (.seq (.blk 1 (.seq (.seq (.reg [⟨(some 15), .mv (.t 3), none, []⟩,
 ⟨(some 16), .bin .rem (.t 15) (.c (.i .u64 38)), none, [15]⟩,
 ⟨(some 5), .asg (.t 16), none, [16]⟩])
 (.seq (.reg [⟨(some 17), .mv (.t 5), none, []⟩,
 ⟨(some 18), .bin .gtr (.t 17) (.c (.i .u64 0)), none, [17]⟩])
 (.cond (.t 18) (.reg [⟨(some 19), .mv (.t 4), none, [4]⟩,
 ⟨(some 20), .mv (.t 0), none, []⟩,
 ⟨(some 21), .mv (.t 5), none, [5]⟩,
 ⟨(some 22), .nilc (.t 20), none, [20]⟩,
 ⟨(some 23), .faddr 0 (.t 22), none, [22]⟩,
 ⟨(some 24), .faddr 259 (.t 23), none, [23]⟩,
 ⟨(some 25), .iaar 38 1 (.t 24) (.t 21), none, [24, 21]⟩,
 ⟨(some 26), .load none (.t 25), none, [25]⟩,
 ⟨(some 27), .bsl (.mu true) 1 1 [(.i .u8 0)] [(0, (.t 26))], none, [26]⟩,
 ⟨(some 28), .append (.mu true) 1 1 (.t 19) (.t 27), none, [19, 27]⟩,
 ⟨(some 4), .asg (.t 28), none, [28]⟩])
 .skip)))
 (.reg [⟨(some 29), .mv (.t 3), none, [3]⟩,
 ⟨(some 30), .bin .quo (.t 29) (.c (.i .u64 38)), none, [29]⟩,
 ⟨(some 3), .asg (.t 30), none, [30]⟩])))
 (.reg [⟨(some 31), .bin .add (.t 13) (.c (.i .i64 1)), none, [13]⟩,
 ⟨(some 13), .mv (.t 31), none, [31]⟩])))))))
 (.seq (.reg [⟨(some 32), .mv (.t 4), none, []⟩,
 ⟨(some 33), .call 154 [(.t 32)], none, [32, 33]⟩])
 (.seq (.reg [⟨(some 34), .mv (.t 4), none, [4]⟩,
 ⟨(some 35), .b2s (.t 34), none, [34]⟩,
 ⟨(some 2), .asg (.t 35), none, [35]⟩])
 .ret))))))), [.t 2]⟩
/-- interrex/code.getRes -/
def f116 : AFn := ⟨1, (.seq (.reg [⟨(some 2), .alloc false [(.i .i64 0), (.i .i64 0), (.i .i64 0)], none, []⟩])
 (.seq (.reg [⟨(some 3), .alloc false [(.i .i64 0), (.i .i64 0), (.i .i64 0)], none, []⟩])
 (.seq (.seq (.reg [⟨(some 5), .mv (.c (.i .i64 0)), none, []⟩])
 (.blk 0 (.loop (.seq (.reg [⟨(some 6), .bin .lss (.t 5) (.c (.i .i64 3)), none, []⟩])
 (.seq (.cond (.t 6) .skip
 (.exit 0))
 (.seq (.blk 1 (.seq (.reg [⟨(some 7), .mv (.t 5), none, []⟩,
 ⟨(some 4), .asg (.t 7), none, [7]⟩])
 (.reg [⟨(some 8), .mv (.t 4), none, [4]⟩,
 ⟨(some 9), .mv (.t 0), none, []⟩,
 ⟨(some 10), .call 68 [(.t 9), (.c (.i .i64 4))], none, [9]⟩,
 ⟨(some 11), .iaar 3 1 (.t 3) (.t 8), none, [8]⟩,
 ⟨none, .store 1 (.t 11) (.t 10), none, [11, 10]⟩])))
 (.reg [⟨(some 12), .bin .add (.t 5) (.c (.i .i64 1)), none, [5]⟩,
 ⟨(some 5), .mv (.t 12), none, [12]⟩])))))))
 (.seq (.reg [⟨(some 13), .load (some 3) (.t 3), none, [3]⟩,
 ⟨none, .store 3 (.t 2) (.t 13), none, [13]⟩])
 .ret)))), [.cell 2 (some 3)]⟩
/-- ( interrex/wire.Reader).Count -/
def f117 : AFn := ⟨2, (.seq (.reg [⟨(some 4), .asg (.c (.i .i64 0)), none, [4]⟩])
 (.seq (.reg [⟨(some 6), .mv (.t 0), none, []⟩,
 ⟨(some 7), .mv (.t 1), none, [1]⟩,
 ⟨(some 8), .call 68 [(.t 6), (.t 7)], none, [6, 7]⟩,
 ⟨(some 5), .asg (.t 8), none, [8]⟩])
 (.seq (.seq (.reg [⟨(some 9), .mv (.t 5), none, []⟩,
 ⟨(some 10), .mv (.t 0), none, []⟩,
 ⟨(some 11), .nilc (.t 10), none, [10]⟩,
 ⟨(some 12), .faddr 297 (.t 11), none, [11]⟩,
 ⟨(some 13), .load none (.t 12), none, [12]⟩,
 ⟨(some 14), .lenL (.t 13), none, [13]⟩,
 ⟨(some 15), .bin .gtr (.t 9) (.t 14), none, [9, 14]⟩])
 (.cond (.t 15) (.seq (.reg [⟨(some 16), .mv (.t 0), none, []⟩,
 ⟨(some 17), .mv (.t 0), none, [0]⟩,
 ⟨(some 18), .nilc (.t 16), none, [16]⟩,
 ⟨(some 19), .faddr 298 (.t 18), none, [18]⟩,
 ⟨none, .store 1 (.t 19) (.c (.b true)), none, [19]⟩,
 ⟨(some 20), .nilc (.t 17), none, [17]⟩,
 ⟨(some 21), .faddr 297 (.t 20), none, [20]⟩,
 ⟨none, .store 1 (.t 21) (.c .nils), none, [21]⟩])
 (.seq (.reg [⟨(some 4), .asg (.c (.i .i64 0)), none, []⟩])
 .ret))
 .skip))
 (.seq (.reg [⟨(some 22), .mv (.t 5), none, [5]⟩,
 ⟨(some 4), .asg (.t 22), none, [22]⟩])
 .ret)))), [.t 4]⟩
/-- interrex/code.getPairs interrex/api.Pair  -/
def f118 : AFn := ⟨2, (.seq (.reg [⟨(some 4), .asg (.c .nils), none, [4]⟩])
 (.seq (.reg [⟨(some 5), .asg (.c .nils), none, []⟩])
 (.seq (.seq (.reg [⟨(some 8), .mv (.t 0), none, []⟩,
 ⟨(some 9), .call 117 [(.t 8), (.c (.i .i64 1))], none, [8]⟩,
 ⟨(some 10), .mv (.c (.i .i64 0)), none, []⟩])
 (.blk 0 (.loop (.seq (.reg [⟨(some 11), .bin .lss (.t 10) (.t 9), none, []⟩])
 (.seq (.cond (.t 11) .skip
 (.exit 0))
 (.seq (.blk 1 (.seq (.reg [⟨(some 12), .mv (.t 0), none, []⟩,
 ⟨(some 13), .call 115 [(.t 12)], none, [12]⟩,
 ⟨(some 14), .mv (.t 0), none, []⟩,
 ⟨(some 15), .call 115 [(.t 14)], none, [14]⟩,
 ⟨(some 6), .asg (.t 13), none, [13]⟩,
 ⟨(some 7), .asg (.t 15), none, [15]⟩])
 (.reg [⟨(some 16), .mv (.t 5), none, [5]⟩,
 ⟨(some 17), .mv (.t 1), none, []⟩,
 ⟨(some 18), .mv (.t 6), none, [6]⟩,
 ⟨(some 19), .mv (.t 7), none, [7]⟩,
 ⟨(some 20), .callv (.t 17) [(.t 18), (.t 19)], none, [17, 18, 19]⟩,
 ⟨(some 21), .bsl (.im false) 2 1 [(.s []), (.s [])] [(0, (.t 20))], none, [20]⟩,
 ⟨(some 22), .append (.im false) 2 32 (.t 16) (.t 21), none, [16, 21]⟩,
 ⟨(some 5), .asg (.t 22), none, [22]⟩])))
 (.reg [⟨(some 23), .bin .add (.t 10) (.c (.i .i64 1)), none, [10]⟩,
 ⟨(some 10), .mv (.t 23), none, [23]⟩])))))))
 (.seq (.reg [⟨(some 24), .mv (.t 5), none, [5]⟩,
 ⟨(some 4), .asg (.t 24), none, [24]⟩])
 .ret)))), [.t 4]⟩
/-- interrex/code.toPair -/
def f119 : AFn := ⟨2, (.seq (.reg [⟨(some 4), .alloc false [(.s []), (.s [])], none, []⟩])
 (.seq (.reg [⟨(some 5), .mv (.t 0), none, [0]⟩,
 ⟨(some 6), .mv (.t 1), none, [1]⟩,
 ⟨(some 7), .bld [(.s []), (.s [])] [(0, 1, (.t 5)), (1, 1, (.t 6))], none, [5, 6]⟩,
 ⟨none, .store 2 (.t 4) (.t 7), none, [7]⟩])
 .ret)), [.cell 4 (some 2)]⟩
/-- interrex/code.getTerms -/
def f120 : AFn := ⟨1, (.seq (.reg [⟨(some 2), .asg (.c .nils), none, [2]⟩])
 (.seq (.reg [⟨(some 3), .asg (.c .nils), none, []⟩])
 (.seq (.seq (.reg [⟨(some 5), .mv (.t 0), none, []⟩,
 ⟨(some 6), .call 117 [(.t 5), (.c (.i .i64 1))], none, [5]⟩,
 ⟨(some 7), .mv (.c (.i .i64 0)), none, []⟩])
 (.blk 0 (.loop (.seq (.reg [⟨(some 8), .bin .lss (.t 7) (.t 6), none, []⟩])
 (.seq (.cond (.t 8) .skip
 (.exit 0))
 (.seq (.blk 1 (.seq (.reg [⟨(some 9), .mv (.t 0), none, []⟩,
 ⟨(some 10), .call 115 [(.t 9)], none, [9]⟩,
 ⟨(some 11), .mv (.t 0), none, []⟩,
 ⟨(some 12), .call 68 [(.t 11), (.c (.i .i64 1))], none, [11]⟩,
 ⟨(some 13), .bld [(.s []), (.i .i64 0), .nils] [(0, 1, (.t 10)), (1, 1, (.t 12))], none, [10, 12]⟩,
 ⟨(some 4), .alloc false [(.s []), (.i .i64 0), .nils], none, []⟩,
 ⟨none, .store 3 (.t 4) (.t 13), none, [13]⟩])
 (.seq (.seq (.reg [⟨(some 14), .mv (.t 0), none, []⟩,
 ⟨(some 15), .call 117 [(.t 14), (.c (.i .i64 1))], none, [14]⟩,
 ⟨(some 16), .mv (.c (.i .i64 0)), none, []⟩])
 (.blk 2 (.loop (.seq (.reg [⟨(some 17), .bin .lss (.t 16) (.t 15), none, []⟩])
 (.seq (.cond (.t 17) .skip
 (.exit 2))
 (.seq (.blk 3 (.dreg [⟨0, ⟨(some 18), .faddr 2 (.t 4), none, []⟩, false, []⟩,
 ⟨1, ⟨(some 19), .load none (.t 18), none, []⟩, false, []⟩,
 ⟨2, ⟨(some 20), .mv (.t 0), none, []⟩, false, []⟩,
 ⟨3, ⟨(some 21), .call 115 [(.t 20)], none, []⟩, true, [1]⟩,
 ⟨4, ⟨(some 22), .bsl (.im false) 1 1 [(.s [])] [(0, (.t 21))], none, []⟩, true, [1]⟩,
 ⟨5, ⟨(some 23), .append (.im false) 1 16 (.t 19) (.t 22), none, []⟩, true, []⟩,
 ⟨6, ⟨(some 24), .faddr 2 (.t 4), none, []⟩, false, []⟩,
 ⟨7, ⟨none, .store 1 (.t 24) (.t 23), none, []⟩, true, []⟩] [18, 19, 20, 21, 22, 23, 24]))
 (.reg [⟨(some 25), .bin .add (.t 16) (.c (.i .i64 1)), none, [16]⟩,
 ⟨(some 16), .mv (.t 25), none, [25]⟩])))))))
 (.reg [⟨(some 26), .mv (.t 3), none, [3]⟩,
 ⟨(some 27), .load (some 3) (.t 4), none, [4]⟩,
 ⟨(some 28), .bsl (.im false) 3 1 [(.s []), (.i .i64 0), .nils] [(0, (.t 27))], none, [27]⟩,
 ⟨(some 29), .append (.im false) 3 48 (.t 26) (.t 28), none, [26, 28]⟩,
 ⟨(some 3), .asg (.t 29), none, [29]⟩]))))
 (.reg [⟨(some 30), .bin .add (.t 7) (.c (.i .i64 1)), none, [7]⟩,
 ⟨(some 7), .mv (.t 30), none, [30]⟩])))))))
 (.seq (.reg [⟨(some 31), .mv (.t 3), none, [3]⟩,
 ⟨(some 2), .asg (.t 31), none, [31]⟩])
 .ret)))), [.t 2]⟩
/-- ( interrex/wire.Reader).Bool -/
def f121 : AFn := ⟨1, (.seq (.reg [⟨(some 2), .asg (.c (.b false)), none, [2]⟩])
 (.seq (.reg [⟨(some 3), .mv (.t 0), none, [0]⟩,
 ⟨(some 4), .call 68 [(.t 3), (.c (.i .i64 1))], none, [3]⟩,
 ⟨(some 5), .bin .eql (.t 4) (.c (.i .i64 1)), none, [4]⟩,
 ⟨(some 2), .asg (.t 5), none, [5]⟩])
 .ret)), [.t 2]⟩
/-- interrex/code.getPairs interrex/api.Taint  -/
def f122 : AFn := ⟨2, (.seq (.reg [⟨(some 4), .asg (.c .nils), none, [4]⟩])
 (.seq (.reg [⟨(some 5), .asg (.c .nils), none, []⟩])
 (.seq (.seq (.reg [⟨(some 8), .mv (.t 0), none, []⟩,
 ⟨(some 9), .call 117 [(.t 8), (.c (.i .i64 1))], none, [8]⟩,
 ⟨(some 10), .mv (.c (.i .i64 0)), none, []⟩])
 (.blk 0 (.loop (.seq (.reg [⟨(some 11), .bin .lss (.t 10) (.t 9), none, []⟩])
 (.seq (.cond (.t 11) .skip
 (.exit 0))
 (.seq (.blk 1 (.seq (.reg [⟨(some 12), .mv (.t 0), none, []⟩,
 ⟨(some 13), .call 115 [(.t 12)], none, [12]⟩,
 ⟨(some 14), .mv (.t 0), none, []⟩,
 ⟨(some 15), .call 115 [(.t 14)], none, [14]⟩,
 ⟨(some 6), .asg (.t 13), none, [13]⟩,
 ⟨(some 7), .asg (.t 15), none, [15]⟩])
 (.reg [⟨(some 16), .mv (.t 5), none, [5]⟩,
 ⟨(some 17), .mv (.t 1), none, []⟩,
 ⟨(some 18), .mv (.t 6), none, [6]⟩,
 ⟨(some 19), .mv (.t 7), none, [7]⟩,
 ⟨(some 20), .callv (.t 17) [(.t 18), (.t 19)], none, [17, 18, 19]⟩,
 ⟨(some 21), .bsl (.im false) 2 1 [(.s []), (.s [])] [(0, (.t 20))], none, [20]⟩,
 ⟨(some 22), .append (.im false) 2 32 (.t 16) (.t 21), none, [16, 21]⟩,
 ⟨(some 5), .asg (.t 22), none, [22]⟩])))
 (.reg [⟨(some 23), .bin .add (.t 10) (.c (.i .i64 1)), none, [10]⟩,
 ⟨(some 10), .mv (.t 23), none, [23]⟩])))))))
 (.seq (.reg [⟨(some 24), .mv (.t 5), none, [5]⟩,
 ⟨(some 4), .asg (.t 24), none, [24]⟩])
 .ret)))), [.t 4]⟩
/-- interrex/code.toTaint -/
def f123 : AFn := ⟨2, (.seq (.reg [⟨(some 4), .alloc false [(.s []), (.s [])], none, []⟩])
 (.seq (.reg [⟨(some 5), .mv (.t 0), none, [0]⟩,
 ⟨(some 6), .mv (.t 1), none, [1]⟩,
 ⟨(some 7), .bld [(.s []), (.s [])] [(0, 1, (.t 5)), (1, 1, (.t 6))], none, [5, 6]⟩,
 ⟨none, .store 2 (.t 4) (.t 7), none, [7]⟩])
 .ret)), [.cell 4 (some 2)]⟩
/-- interrex/code.PutNode -/
def f124 : AFn := ⟨1, (.seq (.reg [⟨(some 1), .box false (.t 0), none, [0]⟩,
 ⟨(some 2), .asg (.c .nils), none, [2]⟩])
 (.seq (.seq (.reg [⟨(some 4), .load (some 6) (.t 1), none, []⟩,
 ⟨(some 5), .call 155 [(.t 4)], none, [4]⟩,
 ⟨(some 6), .un .not (.t 5), none, [5]⟩])
 (.cond (.t 6) (.seq (.reg [⟨(some 2), .asg (.c .nils), none, []⟩])
 .ret)
 .skip))
 (.seq (.reg [⟨(some 3), .alloc true [(.i .u32 0), (.i .i32 0), (.i .u32 0), (.i .u64 0), (.i .u64 0), (.i .u64 0), (.i .u64 0), (.i .u64 0), (.i .u64 0), (.i .u64 0), (.i .u64 0), (.i .u64 0), (.i .u64 0), (.i .u64 0), (.i .u64 0), (.i .u64 0), (.i .u64 0), (.i .u64 0), (.i .u64 0), (.i .u64 0), (.i .u64 0), (.i .u64 0), (.i .u64 0), (.i .u64 0), (.i .u64 0), (.i .u64 0), (.i .u64 0), (.i .u64 0), (.i .u64 0), (.i .u64 0), (.i .u64 0), (.i .u64 0), (.i .u64 0), (.i .u64 0), (.i .u64 0), (.i .u64 0), (.i .u64 0), (.i .u64 0), (.i .u64 0), (.i .u64 0), (.i .u64 0), (.i .u64 0), (.i .u64 0), (.i .u64 0), (.i .u64 0), (.i .u64 0), (.i .u64 0), (.i .u64 0), (.i .u64 0), (.i .u64 0), (.i .u64 0), (.i .u64 0), (.i .u64 0), (.i .u64 0), (.i .u64 0), (.i .u64 0), (.i .u64 0), (.i .u64 0), (.i .u64 0), (.i .u64 0), (.i .u64 0), (.i .u64 0), (.i .u64 0), (.i .u64 0), (.i .u64 0), (.i .u64 0), (.i .u64 0), (.i .u64 0), (.i .u64 0), (.i .u64 0), (.i .u64 0), (.i .u64 0), (.i .u64 0), (.i .u64 0), (.i .u64 0), (.i .u64 0), (.i .u64 0), (.i .u64 0), (.i .u64 0), (.i .u64 0), (.i .u64 0), (.i .u64 0), (.i .u64 0), (.i .u64 0), (.i .u64 0), (.i .u64 0), (.i .u64 0), (.i .u64 0), (.i .u64 0), (.i .u64 0), (.i .u64 0), (.i .u64 0), (.i .u64 0), (.i .u64 0), (.i .u64 0), (.i .u64 0), (.i .u64 0), (.i .u64 0), (.i .u64 0), (.i .u64 0), (.i .u64 0), (.i .u64 0), (.i .u64 0), (.i .u64 0), (.i .u64 0), (.i .u64 0), (.i .u64 0), (.i .u64 0), (.i .u64 0), (.i .u64 0), (.i .u64 0), (.i .u64 0), (.i .u64 0), (.i .u64 0), (.i .u64 0), (.i .u64 0), (.i .u64 0), (.i .u64 0), (.i .u64 0), (.i .u64 0), (.i .u64 0), (.i .u64 0), (.i .u64 0), (.i .u64 0), (.i .u64 0), (.i .u64 0), (.i .u64 0), (.i .u64 0), (.i .u64 0), (.i .u64 0), (.i .u64 0), (.i .u64 0), (.i .u64 0), (.i .u64 0), (.i .u64 0), (.i .u64 0), (.i .u64 0), (.i .u64 0), (.i .u64 0), (.i .u64 0), (.i .u64 0), (.i .u64 0), (.i .u64 0), (.i .u64 0), (.i .u64 0), (.i .u64 0), (.i .u64 0), (.i .u64 0), (.i .u64 0), (.i .u64 0), (.i .u64 0), (.i .u64 0), (.i .u64 0), (.i .u64 0), (.i .u64 0), (.i .u64 0), (.i .u64 0), (.i .u64 0), (.i .u64 0), (.i .u64 0), (.i .u64 0), (.i .u64 0), (.i .u64 0), (.i .u64 0), (.i .u64 0), (.i .u64 0), (.i .u64 0), (.i .u64 0), (.i .u64 0), (.i .u64 0), (.i .u64 0), (.i .u64 0), (.i .u64 0), (.i .u64 0), (.i .u64 0), (.i .u64 0), (.i .u64 0), (.i .u64 0), (.i .u64 0), (.i .u64 0), (.i .u64 0), (.i .u64 0), (.i .u64 0), (.i .u64 0), (.i .u64 0), (.i .u64 0), (.i .u64 0), (.i .u64 0), (.i .u64 0), (.i .u64 0), (.i .u64 0), (.i .u64 0), (.i .u64 0), (.i .u64 0), (.i .u64 0), (.i .u64 0), (.i .u64 0), (.i .u64 0), (.i .u64 0), (.i .u64 0), (.i .u64 0), (.i .u64 0), (.i .u64 0), (.i .u64 0), (.i .u64 0), (.i .u64 0), (.i .u64 0), (.i .u64 0), (.i .u64 0), (.i .u64 0), (.i .u64 0), (.i .u64 0), (.i .u64 0), (.i .u64 0), (.i .u64 0), (.i .u64 0), (.i .u64 0), (.i .u64 0), (.i .u64 0), (.i .u64 0), (.i .u64 0), (.i .u64 0), (.i .u64 0), (.i .u64 0), (.i .u64 0), (.i .u64 0), (.i .u64 0), (.i .u64 0), (.i .u64 0), (.i .u64 0), (.i .u64 0), (.i .u64 0), (.i .u64 0), (.i .u64 0), (.i .u64 0), (.i .u64 0), (.i .u64 0), (.i .u64 0), (.i .u64 0), (.i .u64 0), (.i .u64 0), (.i .u64 0), (.i .u64 0), (.i .u64 0), (.i .u64 0), (.i .u64 0), (.i .u64 0), (.i .u64 0), (.i .u64 0), (.i .u64 0), (.i .u64 0), (.i .u64 0), (.i .u64 0), (.i .u64 0), (.i .u64 0), (.i .u64 0), (.i .u64 0), (.i .u64 0), (.i .u64 0), (.i .u8 0), (.i .u8 0), (.i .u8 0), (.i .u8 0), (.i .u8 0), (.i .u8 0), (.i .u8 0), (.i .u8 0), (.i .u8 0), (.i .u8 0), (.i .u8 0), (.i .u8 0), (.i .u8 0), (.i .u8 0), (.i .u8 0), (.i .u8 0), (.i .u8 0), (.i .u8 0), (.i .u8 0), (.i .u8 0), (.i .u8 0), (.i .u8 0), (.i .u8 0), (.i .u8 0), (.i .u8 0), (.i .u8 0), (.i .u8 0), (.i .u8 0), (.i .u8 0), (.i .u8 0), (.i .u8 0), (.i .u8 0), (.i .u8 0), (.i .u8 0), (.i .u8 0), (.i .u8 0), (.i .u8 0), (.i .u8 0), .nils], none, []⟩])
 (.seq (.reg [⟨(some 7), .call 80 [(.t 3), (.c (.i .i64 2)), (.c (.i .i64 1))], none, [7]⟩])
 (.seq (.reg [⟨(some 8), .faddr 0 (.t 1), none, []⟩,
 ⟨(some 9), .load none (.t 8), none, [8]⟩,
 ⟨(some 10), .call 92 [(.t 3), (.t 9)], none, [9, 10]⟩])
 (.seq (.reg [⟨(some 11), .faddr 1 (.t 1), none, []⟩,
 ⟨(some 12), .load (some 3) (.t 11), none, [11]⟩,
 ⟨(some 13), .call 93 [(.t 3), (.t 12)], none, [12, 13]⟩])
 (.seq (.reg [⟨(some 14), .faddr 4 (.t 1), none, []⟩,
 ⟨(some 15), .load none (.t 14), none, [14]⟩,
 ⟨(some 16), .call 94 [(.t 3), (.t 15), (.c (.fn 95 [] []))], none, [15, 16]⟩])
 (.seq (.reg [⟨(some 17), .faddr 5 (.t 1), none, [1]⟩,
 ⟨(some 18), .load none (.t 17), none, [17]⟩,
 ⟨(some 19), .call 156 [(.t 3), (.t 18), (.c (.fn 157 [] []))], none, [18, 19]⟩])
 (.seq (.reg [⟨(some 20), .call 81 [(.t 3)], none, [3]⟩,
 ⟨(some 2), .asg (.t 20), none, [20]⟩])
 .ret))))))))), [.t 2]⟩
/-- slices.pdqsortCmpFunc interrex/api.Pod  -/
def f125 : AFn := ⟨5, (.seq (.reg [⟨(some 10), .asg (.c (.b true)), none, []⟩])
 (.seq (.reg [⟨(some 11), .asg (.c (.b true)), none, []⟩])
 (.blk 0 (.loop (.blk 1 (.seq (.reg [⟨(some 21), .mv (.t 2), none, []⟩,
 ⟨(some 22), .mv (.t 1), none, []⟩,
 ⟨(some 23), .bin .sub (.t 21) (.t 22), none, [21, 22]⟩,
 ⟨(some 12), .asg (.t 23), none, [23]⟩])
 (.seq (.seq (.reg [⟨(some 24), .mv (.t 12), none, []⟩,
 ⟨(some 25), .bin .leq (.t 24) (.c (.i .i64 12)), none, [24]⟩])
 (.cond (.t 25) (.seq (.reg [⟨(some 26), .mv (.t 0), none, [0]⟩,
 ⟨(some 27), .mv (.t 1), none, [1]⟩,
 ⟨(some 28), .mv (.t 2), none, [2]⟩,
 ⟨(some 29), .mv (.t 4), none, [4]⟩,
 ⟨(some 30), .call 158 [(.t 26), (.t 27), (.t 28), (.t 29)], none, [26, 27, 28, 29, 30]⟩])
 .ret)
 .skip))
 (.seq (.seq (.reg [⟨(some 31), .mv (.t 3), none, []⟩,
 ⟨(some 32), .bin .eql (.t 31) (.c (.i .i64 0)), none, [31]⟩])
 (.cond (.t 32) (.seq (.reg [⟨(some 33), .mv (.t 0), none, [0]⟩,
 ⟨(some 34), .mv (.t 1), none, [1]⟩,
 ⟨(some 35), .mv (.t 2), none, [2]⟩,
 ⟨(some 36), .mv (.t 4), none, [4]⟩,
 ⟨(some 37), .call 159 [(.t 33), (.t 34), (.t 35), (.t 36)], none, [33, 34, 35, 36, 37]⟩])
 .ret)
 .skip))
 (.seq (.seq (.reg [⟨(some 38), .mv (.t 10), none, []⟩,
 ⟨(some 39), .un .not (.t 38), none, [38]⟩])
 (.cond (.t 39) (.seq (.reg [⟨(some 40), .mv (.t 0), none, []⟩,
 ⟨(some 41), .mv (.t 1), none, []⟩,
 ⟨(some 42), .mv (.t 2), none, []⟩,
 ⟨(some 43), .mv (.t 4), none, []⟩,
 ⟨(some 44), .call 160 [(.t 40), (.t 41), (.t 42), (.t 43)], none, [40, 41, 42, 43, 44]⟩])
 (.reg [⟨(some 45), .mv (.t 3), none, [3]⟩,
 ⟨(some 46), .bin .sub (.t 45) (.c (.i .i64 1)), none, [45]⟩,
 ⟨(some 3), .asg (.t 46), none, [46]⟩]))
 .skip))
 (.seq (.reg [⟨(some 48), .mv (.t 0), none, []⟩,
 ⟨(some 49), .mv (.t 1), none, []⟩,
 ⟨(some 50), .mv (.t 2), none, []⟩,
 ⟨(some 51), .mv (.t 4), none, []⟩,
 ⟨(some 52), .call 161 [(.t 48), (.t 49), (.t 50), (.t 51)], none, [48, 49, 50, 51]⟩,
 ⟨(some 47), .mv (.t 52), none, [52]⟩,
 ⟨(some 53), .ext (.t 47) 0, none, []⟩,
 ⟨(some 54), .ext (.t 47) 1, none, [47]⟩,
 ⟨(some 13), .asg (.t 53), none, [53]⟩,
 ⟨(some 14), .asg (.t 54), none, [54]⟩])
 (.seq (.seq (.reg [⟨(some 55), .mv (.t 14), none, []⟩,
 ⟨(some 56), .bin .eql (.t 55) (.c (.i .i64 2)), none, [55]⟩])
 (.cond (.t 56) (.seq (.reg [⟨(some 57), .mv (.t 0), none, []⟩,
 ⟨(some 58), .mv (.t 1), none, []⟩,
 ⟨(some 59), .mv (.t 2), none, []⟩,
 ⟨(some 60), .mv (.t 4), none, []⟩,
 ⟨(some 61), .call 162 [(.t 57), (.t 58), (.t 59), (.t 60)], none, [57, 58, 59, 60, 61]⟩])
 (.seq (.reg [⟨(some 62), .mv (.t 2), none, []⟩,
 ⟨(some 63), .bin .sub (.t 62) (.c (.i .i64 1)), none, [62]⟩,
 ⟨(some 64), .mv (.t 13), none, [13]⟩,
 ⟨(some 65), .mv (.t 1), none, []⟩,
 ⟨(some 66), .bin .sub (.t 64) (.t 65), none, [64, 65]⟩,
 ⟨(some 67), .bin .sub (.t 63) (.t 66), none, [63, 66]⟩,
 ⟨(some 13), .asg (.t 67), none, [67]⟩])
 (.reg [⟨(some 14), .asg (.c (.i .i64 1)), none, []⟩])))
 .skip))
 (.seq (.seq (.reg [⟨(some 68), .mv (.t 10), none, []⟩,
 ⟨(some 69), .mv (.t 68), none, [68]⟩,
 ⟨(some 70), .mv (.t 11), (some (69, true)), []⟩,
 ⟨(some 71), .pick (.t 69) (.t 70) (.c (.b false)), none, [69, 70]⟩,
 ⟨(some 72), .mv (.t 71), none, [71]⟩,
 ⟨(some 73), .mv (.t 14), (some (72, true)), [14]⟩,
 ⟨(some 74), .bin .eql (.t 73) (.c (.i .i64 1)), (some (72, true)), [73]⟩,
 ⟨(some 75), .pick (.t 72) (.t 74) (.c (.b false)), none, [72, 74]⟩])
 (.cond (.t 75) (.seq (.reg [⟨(some 76), .mv (.t 0), none, []⟩,
 ⟨(some 77), .mv (.t 1), none, []⟩,
 ⟨(some 78), .mv (.t 2), none, []⟩,
 ⟨(some 79), .mv (.t 4), none, []⟩,
 ⟨(some 80), .call 163 [(.t 76), (.t 77), (.t 78), (.t 79)], none, [76, 77, 78, 79]⟩])
 (.cond (.t 80) .ret
 .skip))
 .skip))
 (.seq (.seq (.dreg [⟨0, ⟨(some 81), .mv (.t 1), none, []⟩, false, []⟩,
 ⟨1, ⟨(some 82), .bin .gtr (.t 81) (.c (.i .i64 0)), none, []⟩, false, []⟩,
 ⟨2, ⟨(some 83), .mv (.t 82), none, []⟩, false, []⟩,
 ⟨3, ⟨(some 84), .mv (.t 4), (some (83, true)), []⟩, false, []⟩,
 ⟨4, ⟨(some 85), .mv (.t 0), (some (83, true)), []⟩, false, []⟩,
 ⟨5, ⟨(some 86), .mv (.t 1), (some (83, true)), []⟩, false, []⟩,
 ⟨6, ⟨(some 87), .bin .sub (.t 86) (.c (.i .i64 1)), (some (83, true)), []⟩, false, []⟩,
 ⟨7, ⟨(some 88), .iasl 16 (.t 85) (.t 87), (some (83, true)), []⟩, false, []⟩,
 ⟨8, ⟨(some 89), .load (some 16) (.t 88), (some (83, true)), []⟩, false, []⟩,
 ⟨9, ⟨(some 90), .mv (.t 0), (some (83, true)), []⟩, false, []⟩,
 ⟨10, ⟨(some 91), .mv (.t 13), (some (83, true)), []⟩, false, []⟩,
 ⟨11, ⟨(some 92), .iasl 16 (.t 90) (.t 91), (some (83, true)), []⟩, false, []⟩,
 ⟨12, ⟨(some 93), .load (some 16) (.t 92), (some (83, true)), []⟩, false, []⟩,
 ⟨13, ⟨(some 94), .callv (.t 84) [(.t 89), (.t 93)], (some (83, true)), []⟩, true, []⟩,
 ⟨14, ⟨(some 95), .bin .lss (.t 94) (.c (.i .i64 0)), (some (83, true)), []⟩, false, []⟩,
 ⟨15, ⟨(some 96), .un .not (.t 95), (some (83, true)), []⟩, false, []⟩,
 ⟨16, ⟨(some 97), .pick (.t 83) (.t 96) (.c (.b false)), none, []⟩, false, []⟩] [81, 82, 83, 84, 85, 86, 87, 88, 89, 90, 91, 92, 93, 94, 95, 96])
 (.cond (.t 97) (.seq (.reg [⟨(some 98), .mv (.t 0), none, []⟩,
 ⟨(some 99), .mv (.t 1), none, [1]⟩,
 ⟨(some 100), .mv (.t 2), none, []⟩,
 ⟨(some 101), .mv (.t 13), none, [13]⟩,
 ⟨(some 102), .mv (.t 4), none, []⟩,
 ⟨(some 103), .call 164 [(.t 98), (.t 99), (.t 100), (.t 101), (.t 102)], none, [98, 99, 100, 101, 102]⟩,
 ⟨(some 15), .asg (.t 103), none, [103]⟩])
 (.seq (.reg [⟨(some 104), .mv (.t 15), none, [15]⟩,
 ⟨(some 1), .asg (.t 104), none, [104]⟩])
 (.exit 1)))
 .skip))
 (.seq (.reg [⟨(some 106), .mv (.t 0), none, []⟩,
 ⟨(some 107), .mv (.t 1), none, []⟩,
 ⟨(some 108), .mv (.t 2), none, []⟩,
 ⟨(some 109), .mv (.t 13), none, [13]⟩,
 ⟨(some 110), .mv (.t 4), none, []⟩,
 ⟨(some 111), .call 165 [(.t 106), (.t 107), (.t 108), (.t 109), (.t 110)], none, [106, 107, 108, 109, 110]⟩,
 ⟨(some 105), .mv (.t 111), none, [111]⟩,
 ⟨(some 112), .ext (.t 105) 0, none, []⟩,
 ⟨(some 113), .ext (.t 105) 1, none, [105]⟩,
 ⟨(some 16), .asg (.t 112), none, [112]⟩,
 ⟨(some 17), .asg (.t 113), none, [113]⟩])
 (.seq (.reg [⟨(some 114), .mv (.t 17), none, [17]⟩,
 ⟨(some 11), .asg (.t 114), none, [114]⟩])
 (.seq (.reg [⟨(some 115), .mv (.t 16), none, []⟩,
 ⟨(some 116), .mv (.t 1), none, []⟩,
 ⟨(some 117), .bin .sub (.t 115) (.t 116), none, [115, 116]⟩,
 ⟨(some 118), .mv (.t 2), none, []⟩,
 ⟨(some 119), .mv (.t 16), none, []⟩,
 ⟨(some 120), .bin .sub (.t 118) (.t 119), none, [118, 119]⟩,
 ⟨(some 18), .asg (.t 117), none, [117]⟩,
 ⟨(some 19), .asg (.t 120), none, [120]⟩])
 (.seq (.reg [⟨(some 121), .mv (.t 12), none, [12]⟩,
 ⟨(some 122), .bin .quo (.t 121) (.c (.i .i64 8)), none, [121]⟩,
 ⟨(some 20), .asg (.t 122), none, [122]⟩])
 (.seq (.reg [⟨(some 123), .mv (.t 18), none, []⟩,
 ⟨(some 124), .mv (.t 19), none, []⟩,
 ⟨(some 125), .bin .lss (.t 123) (.t 124), none, [123, 124]⟩])
 (.cond (.t 125) (.seq (.reg [⟨(some 126), .mv (.t 18), none, [18]⟩,
 ⟨(some 127), .mv (.t 20), none, [20]⟩,
 ⟨(some 128), .bin .geq (.t 126) (.t 127), none, [126, 127]⟩,
 ⟨(some 10), .asg (.t 128), none, [128]⟩])
 (.seq (.reg [⟨(some 129), .mv (.t 0), none, []⟩,
 ⟨(some 130), .mv (.t 1), none, [1]⟩,
 ⟨(some 131), .mv (.t 16), none, []⟩,
 ⟨(some 132), .mv (.t 3), none, []⟩,
 ⟨(some 133), .mv (.t 4), none, []⟩,
 ⟨(some 134), .call 125 [(.t 129), (.t 130), (.t 131), (.t 132), (.t 133)], none, [129, 130, 131, 132, 133, 134]⟩])
 (.reg [⟨(some 135), .mv (.t 16), none, [16]⟩,
 ⟨(some 136), .bin .add (.t 135) (.c (.i .i64 1)), none, [135]⟩,
 ⟨(some 1), .asg (.t 136), none, [136]⟩])))
 (.seq (.reg [⟨(some 137), .mv (.t 19), none, [19]⟩,
 ⟨(some 138), .mv (.t 20), none, [20]⟩,
 ⟨(some 139), .bin .geq (.t 137) (.t 138), none, [137, 138]⟩,
 ⟨(some 10), .asg (.t 139), none, [139]⟩])
 (.seq (.reg [⟨(some 140), .mv (.t 0), none, []⟩,
 ⟨(some 141), .mv (.t 16), none, []⟩,
 ⟨(some 142), .bin .add (.t 141) (.c (.i .i64 1)), none, [141]⟩,
 ⟨(some 143), .mv (.t 2), none, [2]⟩,
 ⟨(some 144), .mv (.t 3), none, []⟩,
 ⟨(some 145), .mv (.t 4), none, []⟩,
 ⟨(some 146), .call 125 [(.t 140), (.t 142), (.t 143), (.t 144), (.t 145)], none, [140, 142, 143, 144, 145, 146]⟩])
 (.reg [⟨(some 147), .mv (.t 16), none, [16]⟩,
 ⟨(some 2), .asg (.t 147), none, [147]⟩])))))))))))))))))))))), []⟩
/-- math/bits.Len -/
def f126 : AFn := ⟨1, (.seq (.reg [⟨(some 2), .asg (.c (.i .i64 0)), none, [2]⟩])
 (.seq (.cond (.c (.b false)) (.seq (.reg [⟨(some 3), .mv (.t 0), none, [0]⟩,
 ⟨(some 4), .cvi .u32 (.t 3), none, [3]⟩,
 ⟨(some 5), .call 166 [(.t 4)], none, [4]⟩,
 ⟨(some 2), .asg (.t 5), none, [5]⟩])
 .ret)
 .skip)
 (.seq (.reg [⟨(some 6), .mv (.t 0), none, [0]⟩,
 ⟨(some 7), .call 167 [(.t 6)], none, [6]⟩,
 ⟨(some 2), .asg (.t 7), none, [7]⟩])
 .ret))), [.t 2]⟩
/-- internal/bytealg.CompareString -/
def f127 : AFn := ⟨2, (.seq (.reg [⟨(some 4), .asg (.c (.i .i64 0)), none, [4]⟩])
 (.seq (.reg [⟨(some 5), .mv (.t 0), none, [0]⟩,
 ⟨(some 6), .mv (.t 1), none, [1]⟩,
 ⟨(some 7), .call 168 [(.t 5), (.t 6)], none, [5, 6]⟩,
 ⟨(some 4), .asg (.t 7), none, [7]⟩])
 .ret)), [.t 4]⟩
/-- slices.pdqsortCmpFunc interrex/api.Node  -/
def f128 : AFn := ⟨5, (.seq (.reg [⟨(some 10), .asg (.c (.b true)), none, []⟩])
 (.seq (.reg [⟨(some 11), .asg (.c (.b true)), none, []⟩])
 (.blk 0 (.loop (.blk 1 (.seq (.reg [⟨(some 21), .mv (.t 2), none, []⟩,
 ⟨(some 22), .mv (.t 1), none, []⟩,
 ⟨(some 23), .bin .sub (.t 21) (.t 22), none, [21, 22]⟩,
 ⟨(some 12), .asg (.t 23), none, [23]⟩])
 (.seq (.seq (.reg [⟨(some 24), .mv (.t 12), none, []⟩,
 ⟨(some 25), .bin .leq (.t 24) (.c (.i .i64 12)), none, [24]⟩])
 (.cond (.t 25) (.seq (.reg [⟨(some 26), .mv (.t 0), none, [0]⟩,
 ⟨(some 27), .mv (.t 1), none, [1]⟩,
 ⟨(some 28), .mv (.t 2), none, [2]⟩,
 ⟨(some 29), .mv (.t 4), none, [4]⟩,
 ⟨(some 30), .call 169 [(.t 26), (.t 27), (.t 28), (.t 29)], none, [26, 27, 28, 29, 30]⟩])
 .ret)
 .skip))
 (.seq (.seq (.reg [⟨(some 31), .mv (.t 3), none, []⟩,
 ⟨(some 32), .bin .eql (.t 31) (.c (.i .i64 0)), none, [31]⟩])
 (.cond (.t 32) (.seq (.reg [⟨(some 33), .mv (.t 0), none, [0]⟩,
 ⟨(some 34), .mv (.t 1), none, [1]⟩,
 ⟨(some 35), .mv (.t 2), none, [2]⟩,
 ⟨(some 36), .mv (.t 4), none, [4]⟩,
 ⟨(some 37), .call 170 [(.t 33), (.t 34), (.t 35), (.t 36)], none, [33, 34, 35, 36, 37]⟩])
 .ret)
 .skip))
 (.seq (.seq (.reg [⟨(some 38), .mv (.t 10), none, []⟩,
 ⟨(some 39), .un .not (.t 38), none, [38]⟩])
 (.cond (.t 39) (.seq (.reg [⟨(some 40), .mv (.t 0), none, []⟩,
 ⟨(some 41), .mv (.t 1), none, []⟩,
 ⟨(some 42), .mv (.t 2), none, []⟩,
 ⟨(some 43), .mv (.t 4), none, []⟩,
 ⟨(some 44), .call 171 [(.t 40), (.t 41), (.t 42), (.t 43)], none, [40, 41, 42, 43, 44]⟩])
 (.reg [⟨(some 45), .mv (.t 3), none, [3]⟩,
 ⟨(some 46), .bin .sub (.t 45) (.c (.i .i64 1)), none, [45]⟩,
 ⟨(some 3), .asg (.t 46), none, [46]⟩]))
 .skip))
 (.seq (.reg [⟨(some 48), .mv (.t 0), none, []⟩,
 ⟨(some 49), .mv (.t 1), none, []⟩,
 ⟨(some 50), .mv (.t 2), none, []⟩,
 ⟨(some 51), .mv (.t 4), none, []⟩,
 ⟨(some 52), .call 172 [(.t 48), (.t 49), (.t 50), (.t 51)], none, [48, 49, 50, 51]⟩,
 ⟨(some 47), .mv (.t 52), none, [52]⟩,
 ⟨(some 53), .ext (.t 47) 0, none, []⟩,
 ⟨(some 54), .ext (.t 47) 1, none, [47]⟩,
 ⟨(some 13), .asg (.t 53), none, [53]⟩,
 ⟨(some 14), .asg (.t 54), none, [54]⟩])
 (.seq (.seq (.reg [⟨(some 55), .mv (.t 14), none, []⟩,
 ⟨(some 56), .bin .eql (.t 55) (.c (.i .i64 2)), none, [55]⟩])
 (.cond (.t 56) (.seq (.reg [⟨(some 57), .mv (.t 0), none, []⟩,
 ⟨(some 58), .mv (.t 1), none, []⟩,
 ⟨(some 59), .mv (.t 2), none, []⟩,
 ⟨(some 60), .mv (.t 4), none, []⟩,
 ⟨(some 61), .call 173 [(.t 57), (.t 58), (.t 59), (.t 60)], none, [57, 58, 59, 60, 61]⟩])
 (.seq (.reg [⟨(some 62), .mv (.t 2), none, []⟩,
 ⟨(some 63), .bin .sub (.t 62) (.c (.i .i64 1)), none, [62]⟩,
 ⟨(some 64), .mv (.t 13), none, [13]⟩,
 ⟨(some 65), .mv (.t 1), none, []⟩,
 ⟨(some 66), .bin .sub (.t 64) (.t 65), none, [64, 65]⟩,
 ⟨(some 67), .bin .sub (.t 63) (.t 66), none, [63, 66]⟩,
 ⟨(some 13), .asg (.t 67), none, [67]⟩])
 (.reg [⟨(some 14), .asg (.c (.i .i64 1)), none, []⟩])))
 .skip))
 (.seq (.seq (.reg [⟨(some 68), .mv (.t 10), none, []⟩,
 ⟨(some 69), .mv (.t 68), none, [68]⟩,
 ⟨(some 70), .mv (.t 11), (some (69, true)), []⟩,
 ⟨(some 71), .pick (.t 69) (.t 70) (.c (.b false)), none, [69, 70]⟩,
 ⟨(some 72), .mv (.t 71), none, [71]⟩,
 ⟨(some 73), .mv (.t 14), (some (72, true)), [14]⟩,
 ⟨(some 74), .bin .eql (.t 73) (.c (.i .i64 1)), (some (72, true)), [73]⟩,
 ⟨(some 75), .pick (.t 72) (.t 74) (.c (.b false)), none, [72, 74]⟩])
 (.cond (.t 75) (.seq (.reg [⟨(some 76), .mv (.t 0), none, []⟩,
 ⟨(some 77), .mv (.t 1), none, []⟩,
 ⟨(some 78), .mv (.t 2), none, []⟩,
 ⟨(some 79), .mv (.t 4), none, []⟩,
 ⟨(some 80), .call 174 [(.t 76), (.t 77), (.t 78), (.t 79)], none, [76, 77, 78, 79]⟩])
 (.cond (.t 80) .ret
 .skip))
 .skip))
 (.seq (.seq (.dreg [⟨0, ⟨(some 81), .mv (.t 1), none, []⟩, false, []⟩,
 ⟨1, ⟨(some 82), .bin .gtr (.t 81) (.c (.i .i64 0)), none, []⟩, false, []⟩,
 ⟨2, ⟨(some 83), .mv (.t 82), none, []⟩, false, []⟩,
 ⟨3, ⟨(some 84), .mv (.t 4), (some (83, true)), []⟩, false, []⟩,
 ⟨4, ⟨(some 85), .mv (.t 0), (some (83, true)), []⟩, false, []⟩,
 ⟨5, ⟨(some 86), .mv (.t 1), (some (83, true)), []⟩, false, []⟩,
 ⟨6, ⟨(some 87), .bin .sub (.t 86) (.c (.i .i64 1)), (some (83, true)), []⟩, false, []⟩,
 ⟨7, ⟨(some 88), .iasl 6 (.t 85) (.t 87), (some (83, true)), []⟩, false, []⟩,
 ⟨8, ⟨(some 89), .load (some 6) (.t 88), (some (83, true)), []⟩, false, []⟩,
 ⟨9, ⟨(some 90), .mv (.t 0), (some (83, true)), []⟩, false, []⟩,
 ⟨10, ⟨(some 91), .mv (.t 13), (some (83, true)), []⟩, false, []⟩,
 ⟨11, ⟨(some 92), .iasl 6 (.t 90) (.t 91), (some (83, true)), []⟩, false, []⟩,
 ⟨12, ⟨(some 93), .load (some 6) (.t 92), (some (83, true)), []⟩, false, []⟩,
 ⟨13, ⟨(some 94), .callv (.t 84) [(.t 89), (.t 93)], (some (83, true)), []⟩, true, []⟩,
 ⟨14, ⟨(some 95), .bin .lss (.t 94) (.c (.i .i64 0)), (some (83, true)), []⟩, false, []⟩,
 ⟨15, ⟨(some 96), .un .not (.t 95), (some (83, true)), []⟩, false, []⟩,
 ⟨16, ⟨(some 97), .pick (.t 83) (.t 96) (.c (.b false)), none, []⟩, false, []⟩] [81, 82, 83, 84, 85, 86, 87, 88, 89, 90, 91, 92, 93, 94, 95, 96])
 (.cond (.t 97) (.seq (.reg [⟨(some 98), .mv (.t 0), none, []⟩,
 ⟨(some 99), .mv (.t 1), none, [1]⟩,
 ⟨(some 100), .mv (.t 2), none, []⟩,
 ⟨(some 101), .mv (.t 13), none, [13]⟩,
 ⟨(some 102), .mv (.t 4), none, []⟩,
 ⟨(some 103), .call 175 [(.t 98), (.t 99), (.t 100), (.t 101), (.t 102)], none, [98, 99, 100, 101, 102]⟩,
 ⟨(some 15), .asg (.t 103), none, [103]⟩])
 (.seq (.reg [⟨(some 104), .mv (.t 15), none, [15]⟩,
 ⟨(some 1), .asg (.t 104), none, [104]⟩])
 (.exit 1)))
 .skip))
 (.seq (.reg [⟨(some 106), .mv (.t 0), none, []⟩,
 ⟨(some 107), .mv (.t 1), none, []⟩,
 ⟨(some 108), .mv (.t 2), none, []⟩,
 ⟨(some 109), .mv (.t 13), none, [13]⟩,
 ⟨(some 110), .mv (.t 4), none, []⟩,
 ⟨(some 111), .call 176 [(.t 106), (.t 107), (.t 108), (.t 109), (.t 110)], none, [106, 107, 108, 109, 110]⟩,
 ⟨(some 105), .mv (.t 111), none, [111]⟩,
 ⟨(some 112), .ext (.t 105) 0, none, []⟩,
 ⟨(some 113), .ext (.t 105) 1, none, [105]⟩,
 ⟨(some 16), .asg (.t 112), none, [112]⟩,
 ⟨(some 17), .asg (.t 113), none, [113]⟩])
 (.seq (.reg [⟨(some 114), .mv (.t 17), none, [17]⟩,
 ⟨(some 11), .asg (.t 114), none, [114]⟩])
 (.seq (.reg [⟨(some 115), .mv (.t 16), none, []⟩,
 ⟨(some 116), .mv (.t 1), none, []⟩,
 ⟨(some 117), .bin .sub (.t 115) (.t 116), none, [115, 116]⟩,
 ⟨(some 118), .mv (.t 2), none, []⟩,
 ⟨(some 119), .mv (.t 16), none, []⟩,
 ⟨(some 120), .bin .sub (.t 118) (.t 119), none, [118, 119]⟩,
 ⟨(some 18), .asg (.t 117), none, [117]⟩,
 ⟨(some 19), .asg (.t 120), none, [120]⟩])
 (.seq (.reg [⟨(some 121), .mv (.t 12), none, [12]⟩,
 ⟨(some 122), .bin .quo (.t 121) (.c (.i .i64 8)), none, [121]⟩,
 ⟨(some 20), .asg (.t 122), none, [122]⟩])
 (.seq (.reg [⟨(some 123), .mv (.t 18), none, []⟩,
 ⟨(some 124), .mv (.t 19), none, []⟩,
 ⟨(some 125), .bin .lss (.t 123) (.t 124), none, [123, 124]⟩])
 (.cond (.t 125) (.seq (.reg [⟨(some 126), .mv (.t 18), none, [18]⟩,
 ⟨(some 127), .mv (.t 20), none, [20]⟩,
 ⟨(some 128), .bin .geq (.t 126) (.t 127), none, [126, 127]⟩,
 ⟨(some 10), .asg (.t 128), none, [128]⟩])
 (.seq (.reg [⟨(some 129), .mv (.t 0), none, []⟩,
 ⟨(some 130), .mv (.t 1), none, [1]⟩,
 ⟨(some 131), .mv (.t 16), none, []⟩,
 ⟨(some 132), .mv (.t 3), none, []⟩,
 ⟨(some 133), .mv (.t 4), none, []⟩,
 ⟨(some 134), .call 128 [(.t 129), (.t 130), (.t 131), (.t 132), (.t 133)], none, [129, 130, 131, 132, 133, 134]⟩])
 (.reg [⟨(some 135), .mv (.t 16), none, [16]⟩,
 ⟨(some 136), .bin .add (.t 135) (.c (.i .i64 1)), none, [135]⟩,
 ⟨(some 1), .asg (.t 136), none, [136]⟩])))
 (.seq (.reg [⟨(some 137), .mv (.t 19), none, [19]⟩,
 ⟨(some 138), .mv (.t 20), none, [20]⟩,
 ⟨(some 139), .bin .geq (.t 137) (.t 138), none, [137, 138]⟩,
 ⟨(some 10), .asg (.t 139), none, [139]⟩])
 (.seq (.reg [⟨(some 140), .mv (.t 0), none, []⟩,
 ⟨(some 141), .mv (.t 16), none, []⟩,
 ⟨(some 142), .bin .add (.t 141) (.c (.i .i64 1)), none, [141]⟩,
 ⟨(some 143), .mv (.t 2), none, [2]⟩,
 ⟨(some 144), .mv (.t 3), none, []⟩,
 ⟨(some 145), .mv (.t 4), none, []⟩,
 ⟨(some 146), .call 128 [(.t 140), (.t 142), (.t 143), (.t 144), (.t 145)], none, [140, 142, 143, 144, 145, 146]⟩])
 (.reg [⟨(some 147), .mv (.t 16), none, [16]⟩,
 ⟨(some 2), .asg (.t 147), none, [147]⟩])))))))))))))))))))))), []⟩
/-- interrex/qty.May -/
def f129 : AFn := ⟨1, (.seq (.reg [⟨(some 1), .box false (.t 0), none, [0]⟩,
 ⟨(some 2), .asg (.c (.b false)), none, [2]⟩])
 (.seq (.seq (.reg [⟨(some 5), .load (some 3) (.t 1), none, [1]⟩,
 ⟨(some 6), .mv (.c (.i .i64 0)), none, []⟩])
 (.blk 0 (.loop (.seq (.reg [⟨(some 7), .bin .lss (.t 6) (.c (.i .i64 3)), none, []⟩])
 (.seq (.cond (.t 7) .skip
 (.exit 0))
 (.seq (.blk 1 (.seq (.reg [⟨(some 8), .ixa 3 1 none (.t 5) (.t 6), none, []⟩,
 ⟨(some 4), .asg (.t 8), none, [8]⟩])
 (.seq (.reg [⟨(some 9), .mv (.t 4), none, []⟩,
 ⟨(some 10), .bin .lss (.t 9) (.c (.i .i64 0)), none, [9]⟩,
 ⟨(some 11), .mv (.t 10), none, [10]⟩,
 ⟨(some 12), .mv (.t 4), (some (11, false)), [4]⟩,
 ⟨(some 13), .bin .gtr (.t 12) (.c (.i .i64 1000000000)), (some (11, false)), [12]⟩,
 ⟨(some 14), .pick (.t 11) (.c (.b true)) (.t 13), none, [11, 13]⟩])
 (.cond (.t 14) (.seq (.reg [⟨(some 2), .asg (.c (.b false)), none, []⟩])
 .ret)
 .skip))))
 (.reg [⟨(some 15), .bin .add (.t 6) (.c (.i .i64 1)), none, [6]⟩,
 ⟨(some 6), .mv (.t 15), none, [15]⟩])))))))
 (.seq (.reg [⟨(some 2), .asg (.c (.b true)), none, []⟩])
 .ret))), [.t 2]⟩
/-- interrex/obj.mayPorts -/
def f130 : AFn := ⟨1, (.seq (.reg [⟨(some 2), .asg (.c (.b false)), none, [2]⟩])
 (.seq (.seq (.reg [⟨(some 5), .mv (.t 0), none, []⟩,
 ⟨(some 6), .lenL (.t 5), none, []⟩,
 ⟨(some 7), .mv (.c (.i .i64 0)), none, []⟩])
 (.blk 0 (.loop (.seq (.reg [⟨(some 8), .bin .lss (.t 7) (.t 6), none, []⟩])
 (.seq (.cond (.t 8) .skip
 (.exit 0))
 (.seq (.blk 1 (.seq (.reg [⟨(some 9), .mv (.t 7), none, []⟩,
 ⟨(some 10), .iasl 1 (.t 5) (.t 7), none, []⟩,
 ⟨(some 11), .load none (.t 10), none, [10]⟩,
 ⟨(some 3), .asg (.t 9), none, [9]⟩,
 ⟨(some 4), .asg (.t 11), none, [11]⟩])
 (.seq (.reg [⟨(some 12), .mv (.t 4), none, []⟩,
 ⟨(some 13), .bin .lss (.t 12) (.c (.i .i64 1)), none, [12]⟩,
 ⟨(some 14), .mv (.t 13), none, [13]⟩,
 ⟨(some 15), .mv (.t 4), (some (14, false)), []⟩,
 ⟨(some 16), .bin .gtr (.t 15) (.c (.i .i64 65535)), (some (14, false)), [15]⟩,
 ⟨(some 17), .pick (.t 14) (.c (.b true)) (.t 16), none, [14, 16]⟩,
 ⟨(some 18), .mv (.t 17), none, [17]⟩,
 ⟨(some 19), .mv (.t 3), (some (18, false)), []⟩,
 ⟨(some 20), .bin .gtr (.t 19) (.c (.i .i64 0)), (some (18, false)), [19]⟩,
 ⟨(some 21), .mv (.t 20), (some (18, false)), [20]⟩,
 ⟨(some 22), .mv (.t 0), (some (21, true)), []⟩,
 ⟨(some 23), .mv (.t 3), (some (21, true)), [3]⟩,
 ⟨(some 24), .bin .sub (.t 23) (.c (.i .i64 1)), (some (21, true)), [23]⟩,
 ⟨(some 25), .iasl 1 (.t 22) (.t 24), (some (21, true)), [22, 24]⟩,
 ⟨(some 26), .load none (.t 25), (some (21, true)), [25]⟩,
 ⟨(some 27), .mv (.t 4), (some (21, true)), [4]⟩,
 ⟨(some 28), .bin .geq (.t 26) (.t 27), (some (21, true)), [26, 27]⟩,
 ⟨(some 29), .pick (.t 21) (.t 28) (.c (.b false)), (some (18, false)), [21, 28]⟩,
 ⟨(some 30), .pick (.t 18) (.c (.b true)) (.t 29), none, [18, 29]⟩])
 (.cond (.t 30) (.seq (.reg [⟨(some 2), .asg (.c (.b false)), none, []⟩])
 .ret)
 .skip))))
 (.reg [⟨(some 31), .bin .add (.t 7) (.c (.i .i64 1)), none, [7]⟩,
 ⟨(some 7), .mv (.t 31), none, [31]⟩])))))))
 (.seq (.reg [⟨(some 32), .mv (.t 0), none, [0]⟩,
 ⟨(some 33), .lenL (.t 32), none, [32]⟩,
 ⟨(some 34), .bin .leq (.t 33) (.c (.i .i64 6)), none, [33]⟩,
 ⟨(some 2), .asg (.t 34), none, [34]⟩])
 .ret))), [.t 2]⟩
/-- interrex/label.May -/
def f131 : AFn := ⟨1, (.seq (.reg [⟨(some 2), .asg (.c (.b false)), none, [2]⟩])
 (.seq (.seq (.reg [⟨(some 5), .mv (.t 0), none, []⟩,
 ⟨(some 6), .lenL (.t 5), none, []⟩,
 ⟨(some 7), .mv (.c (.i .i64 0)), none, []⟩])
 (.blk 0 (.loop (.seq (.reg [⟨(some 8), .bin .lss (.t 7) (.t 6), none, []⟩])
 (.seq (.cond (.t 8) .skip
 (.exit 0))
 (.seq (.blk 1 (.seq (.reg [⟨(some 9), .mv (.t 7), none, []⟩,
 ⟨(some 10), .iasl 2 (.t 5) (.t 7), none, []⟩,
 ⟨(some 11), .load (some 2) (.t 10), none, [10]⟩,
 ⟨(some 4), .alloc false [(.s []), (.s [])], none, []⟩,
 ⟨(some 3), .asg (.t 9), none, [9]⟩,
 ⟨none, .store 2 (.t 4) (.t 11), none, [11]⟩])
 (.seq (.dreg [⟨0, ⟨(some 12), .faddr 0 (.t 4), none, []⟩, false, []⟩,
 ⟨1, ⟨(some 13), .load none (.t 12), none, []⟩, false, []⟩,
 ⟨2, ⟨(some 14), .call 102 [(.t 13)], none, []⟩, true, []⟩,
 ⟨3, ⟨(some 15), .un .not (.t 14), none, []⟩, false, []⟩,
 ⟨4, ⟨(some 16), .mv (.t 15), none, []⟩, false, []⟩,
 ⟨5, ⟨(some 17), .faddr 1 (.t 4), (some (16, false)), []⟩, false, []⟩,
 ⟨6, ⟨(some 18), .load none (.t 17), (some (16, false)), []⟩, false, []⟩,
 ⟨7, ⟨(some 19), .call 102 [(.t 18)], (some (16, false)), []⟩, true, []⟩,
 ⟨8, ⟨(some 20), .un .not (.t 19), (some (16, false)), []⟩, false, []⟩,
 ⟨9, ⟨(some 21), .pick (.t 16) (.c (.b true)) (.t 20), none, []⟩, false, []⟩,
 ⟨10, ⟨(some 22), .mv (.t 21), none, []⟩, false, []⟩,
 ⟨11, ⟨(some 23), .mv (.t 3), (some (22, false)), []⟩, false, []⟩,
 ⟨12, ⟨(some 24), .bin .gtr (.t 23) (.c (.i .i64 0)), (some (22, false)), []⟩, false, []⟩,
 ⟨13, ⟨(some 25), .mv (.t 24), (some (22, false)), []⟩, false, []⟩,
 ⟨14, ⟨(some 26), .mv (.t 0), (some (25, true)), []⟩, false, []⟩,
 ⟨15, ⟨(some 27), .mv (.t 3), (some (25, true)), []⟩, false, []⟩,
 ⟨16, ⟨(some 28), .bin .sub (.t 27) (.c (.i .i64 1)), (some (25, true)), []⟩, false, []⟩,
 ⟨17, ⟨(some 29), .iasl 2 (.t 26) (.t 28), (some (25, true)), []⟩, false, []⟩,
 ⟨18, ⟨(some 30), .faddr 0 (.t 29), (some (25, true)), []⟩, false, []⟩,
 ⟨19, ⟨(some 31), .load none (.t 30), (some (25, true)), []⟩, false, []⟩,
 ⟨20, ⟨(some 32), .faddr 0 (.t 4), (some (25, true)), []⟩, false, []⟩,
 ⟨21, ⟨(some 33), .load none (.t 32), (some (25, true)), []⟩, false, []⟩,
 ⟨22, ⟨(some 34), .bin .geq (.t 31) (.t 33), (some (25, true)), []⟩, false, []⟩,
 ⟨23, ⟨(some 35), .pick (.t 25) (.t 34) (.c (.b false)), (some (22, false)), []⟩, false, []⟩,
 ⟨24, ⟨(some 36), .pick (.t 22) (.c (.b true)) (.t 35), none, []⟩, false, []⟩] [4, 12, 13, 14, 15, 16, 17, 18, 19, 20, 21, 22, 3, 23, 24, 25, 26, 27, 28, 29, 30, 31, 32, 33, 34, 35])
 (.cond (.t 36) (.seq (.reg [⟨(some 2), .asg (.c (.b false)), none, []⟩])
 .ret)
 .skip))))
 (.reg [⟨(some 37), .bin .add (.t 7) (.c (.i .i64 1)), none, [7]⟩,
 ⟨(some 7), .mv (.t 37), none, [37]⟩])))))))
 (.seq (.reg [⟨(some 38), .mv (.t 0), none, [0]⟩,
 ⟨(some 39), .lenL (.t 38), none, [38]⟩,
 ⟨(some 40), .bin .leq (.t 39) (.c (.i .i64 6)), none, [39]⟩,
 ⟨(some 2), .asg (.t 40), none, [40]⟩])
 .ret))), [.t 2]⟩
end Go.Eng.AF
