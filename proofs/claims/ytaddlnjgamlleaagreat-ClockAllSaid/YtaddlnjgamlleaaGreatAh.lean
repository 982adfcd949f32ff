/-
Functions' abstract texts, beyond those of begun.
-/
import Derived.Test.YtaddlnjgamlleaaGreatEngExec
set_option maxRecDepth 100000
namespace Go.Eng.AF
open Go Go.Eng
/-- interrex/interrexlaw10.ClockLike -/
def f6 : AFn := ⟨3, (.seq (.reg [⟨(some 6), .asg (.c (.b false)), none, [6]⟩])
 (.seq (.reg [⟨(some 14), .call 20 [], none, []⟩,
 ⟨(some 7), .asg (.t 14), none, [14]⟩])
 (.seq (.seq (.reg [⟨(some 15), .mv (.t 7), none, [7]⟩,
 ⟨(some 16), .un .not (.t 15), none, [15]⟩])
 (.cond (.t 16) (.seq (.reg [⟨(some 6), .asg (.c (.b false)), none, []⟩])
 .ret)
 .skip))
 (.seq (.reg [⟨(some 17), .mv (.t 0), none, [0]⟩,
 ⟨(some 18), .bin .rem (.t 17) (.c (.i .i64 8)), none, [17]⟩,
 ⟨(some 19), .bin .add (.t 18) (.c (.i .i64 8)), none, [18]⟩,
 ⟨(some 20), .bin .rem (.t 19) (.c (.i .i64 8)), none, [19]⟩,
 ⟨(some 21), .bin .add (.c (.i .i64 1)) (.t 20), none, [20]⟩,
 ⟨(some 0), .asg (.t 21), none, [21]⟩])
 (.seq (.reg [⟨(some 22), .mv (.t 0), none, []⟩,
 ⟨(some 23), .call 50 [(.t 22)], none, [22]⟩,
 ⟨(some 8), .asg (.t 23), none, [23]⟩])
 (.seq (.reg [⟨(some 9), .asg (.c (.i .i64 0)), none, []⟩])
 (.seq (.reg [⟨(some 24), .mv (.t 2), none, [2]⟩,
 ⟨(some 25), .mnmx false [(.t 24), (.c (.i .i64 1000))], none, [24]⟩,
 ⟨(some 26), .mnmx true [(.c (.i .i64 0)), (.t 25)], none, [25]⟩,
 ⟨(some 2), .asg (.t 26), none, [26]⟩])
 (.seq (.seq (.reg [⟨(some 10), .asg (.c (.i .i64 0)), none, []⟩])
 (.blk 0 (.loop (.seq (.seq (.reg [⟨(some 27), .mv (.t 10), none, []⟩,
 ⟨(some 28), .mv (.t 1), none, []⟩,
 ⟨(some 29), .lenL (.t 28), none, [28]⟩,
 ⟨(some 30), .bin .lss (.t 27) (.t 29), none, [27, 29]⟩,
 ⟨(some 31), .mv (.t 30), none, [30]⟩,
 ⟨(some 32), .mv (.t 10), (some (31, true)), []⟩,
 ⟨(some 33), .bin .lss (.t 32) (.c (.i .i64 30)), (some (31, true)), [32]⟩,
 ⟨(some 34), .pick (.t 31) (.t 33) (.c (.b false)), none, [31, 33]⟩])
 (.cond (.t 34) .skip
 (.exit 0)))
 (.seq (.blk 1 (.seq (.reg [⟨(some 37), .mv (.t 1), none, []⟩,
 ⟨(some 38), .mv (.t 10), none, []⟩,
 ⟨(some 39), .iasl 1 (.t 37) (.t 38), none, [37, 38]⟩,
 ⟨(some 40), .load none (.t 39), none, [39]⟩,
 ⟨(some 41), .mnmx false [(.t 40), (.c (.i .i64 100000))], none, [40]⟩,
 ⟨(some 42), .mnmx true [(.c (.i .i64 0)), (.t 41)], none, [41]⟩,
 ⟨(some 11), .asg (.t 42), none, [42]⟩])
 (.seq (.reg [⟨(some 43), .mv (.t 0), none, []⟩,
 ⟨(some 44), .mksl (.mu true) 1 8 [(.i .i64 0)] (.t 43) (.t 43), none, [43]⟩,
 ⟨(some 12), .asg (.t 44), none, [44]⟩])
 (.seq (.seq (.reg [⟨(some 45), .mv (.t 12), none, []⟩,
 ⟨(some 46), .lenL (.t 45), none, [45]⟩,
 ⟨(some 47), .mv (.c (.i .i64 0)), none, []⟩])
 (.blk 2 (.loop (.seq (.reg [⟨(some 48), .bin .lss (.t 47) (.t 46), none, []⟩])
 (.seq (.cond (.t 48) .skip
 (.exit 2))
 (.seq (.blk 3 (.seq (.reg [⟨(some 49), .mv (.t 47), none, []⟩,
 ⟨(some 13), .asg (.t 49), none, [49]⟩])
 (.reg [⟨(some 50), .mv (.t 12), none, []⟩,
 ⟨(some 51), .mv (.t 13), none, [13]⟩,
 ⟨(some 52), .mv (.t 11), none, []⟩,
 ⟨(some 53), .iasl 1 (.t 50) (.t 51), none, [50, 51]⟩,
 ⟨none, .store 1 (.t 53) (.t 52), none, [53, 52]⟩])))
 (.reg [⟨(some 54), .bin .add (.t 47) (.c (.i .i64 1)), none, [47]⟩,
 ⟨(some 47), .mv (.t 54), none, [54]⟩])))))))
 (.seq (.seq (.reg [⟨(some 55), .mv (.t 8), none, []⟩,
 ⟨(some 56), .mv (.t 12), none, [12]⟩,
 ⟨(some 57), .call 21 [(.t 55), (.t 56)], none, [55, 56]⟩,
 ⟨(some 58), .un .not (.t 57), none, [57]⟩,
 ⟨(some 59), .mv (.t 58), none, [58]⟩,
 ⟨(some 60), .mv (.t 8), (some (59, false)), []⟩,
 ⟨(some 61), .call 23 [(.t 60)], (some (59, false)), [60]⟩,
 ⟨(some 62), .mv (.t 9), (some (59, false)), []⟩,
 ⟨(some 63), .bin .neq (.t 61) (.t 62), (some (59, false)), [61, 62]⟩,
 ⟨(some 64), .pick (.t 59) (.c (.b true)) (.t 63), none, [59, 63]⟩])
 (.cond (.t 64) (.seq (.reg [⟨(some 6), .asg (.c (.b false)), none, []⟩])
 .ret)
 .skip))
 (.seq (.reg [⟨(some 65), .mv (.t 10), none, []⟩,
 ⟨(some 66), .bin .rem (.t 65) (.c (.i .i64 7)), none, [65]⟩,
 ⟨(some 67), .bin .eql (.t 66) (.c (.i .i64 3)), none, [66]⟩])
 (.cond (.t 67) (.seq (.reg [⟨(some 68), .mv (.t 0), none, []⟩,
 ⟨(some 69), .mksl (.mu true) 1 8 [(.i .i64 0)] (.t 68) (.t 68), none, [68]⟩,
 ⟨(some 12), .asg (.t 69), none, [69]⟩])
 (.seq (.reg [⟨(some 70), .mv (.t 12), none, []⟩,
 ⟨(some 71), .mv (.t 2), none, []⟩,
 ⟨(some 72), .iasl 1 (.t 70) (.c (.i .i64 0)), none, [70]⟩,
 ⟨none, .store 1 (.t 72) (.t 71), none, [72, 71]⟩])
 (.seq (.seq (.reg [⟨(some 73), .mv (.t 8), none, []⟩,
 ⟨(some 74), .mv (.t 12), none, [12]⟩,
 ⟨(some 75), .call 21 [(.t 73), (.t 74)], none, [73, 74]⟩,
 ⟨(some 76), .un .not (.t 75), none, [75]⟩])
 (.cond (.t 76) (.seq (.reg [⟨(some 6), .asg (.c (.b false)), none, []⟩])
 .ret)
 .skip))
 (.seq (.seq (.reg [⟨(some 77), .mv (.t 0), none, []⟩,
 ⟨(some 78), .bin .gtr (.t 77) (.c (.i .i64 1)), none, [77]⟩])
 (.cond (.t 78) (.reg [⟨(some 79), .mv (.t 9), none, [9]⟩,
 ⟨(some 80), .mv (.t 2), none, []⟩,
 ⟨(some 81), .bin .add (.t 79) (.t 80), none, [79, 80]⟩,
 ⟨(some 9), .asg (.t 81), none, [81]⟩])
 .skip))
 (.seq (.reg [⟨(some 82), .mv (.t 8), none, []⟩,
 ⟨(some 83), .call 23 [(.t 82)], none, [82]⟩,
 ⟨(some 84), .mv (.t 9), none, []⟩,
 ⟨(some 85), .bin .neq (.t 83) (.t 84), none, [83, 84]⟩])
 (.cond (.t 85) (.seq (.reg [⟨(some 6), .asg (.c (.b false)), none, []⟩])
 .ret)
 .skip))))))
 .skip)))))))
 (.reg [⟨(some 35), .mv (.t 10), none, [10]⟩,
 ⟨(some 36), .bin .add (.t 35) (.c (.i .i64 1)), none, [35]⟩,
 ⟨(some 10), .asg (.t 36), none, [36]⟩]))))))
 (.seq (.reg [⟨(some 6), .asg (.c (.b true)), none, []⟩])
 .ret))))))))), [.t 6]⟩
/-- interrex/interrexlaw10.ClockBad -/
def f7 : AFn := ⟨3, (.seq (.reg [⟨(some 6), .asg (.c (.b false)), none, [6]⟩])
 (.seq (.reg [⟨(some 15), .call 20 [], none, []⟩,
 ⟨(some 7), .asg (.t 15), none, [15]⟩])
 (.seq (.seq (.reg [⟨(some 16), .mv (.t 7), none, [7]⟩,
 ⟨(some 17), .un .not (.t 16), none, [16]⟩])
 (.cond (.t 17) (.seq (.reg [⟨(some 6), .asg (.c (.b false)), none, []⟩])
 .ret)
 .skip))
 (.seq (.reg [⟨(some 18), .mv (.t 0), none, [0]⟩,
 ⟨(some 19), .bin .rem (.t 18) (.c (.i .i64 8)), none, [18]⟩,
 ⟨(some 20), .bin .add (.t 19) (.c (.i .i64 8)), none, [19]⟩,
 ⟨(some 21), .bin .rem (.t 20) (.c (.i .i64 8)), none, [20]⟩,
 ⟨(some 22), .bin .add (.c (.i .i64 1)) (.t 21), none, [21]⟩,
 ⟨(some 0), .asg (.t 22), none, [22]⟩])
 (.seq (.reg [⟨(some 23), .mv (.t 0), none, []⟩,
 ⟨(some 24), .call 50 [(.t 23)], none, [23]⟩,
 ⟨(some 8), .asg (.t 24), none, [24]⟩])
 (.seq (.reg [⟨(some 25), .mv (.t 0), none, []⟩,
 ⟨(some 26), .mksl (.mu true) 1 8 [(.i .i64 0)] (.t 25) (.t 25), none, [25]⟩,
 ⟨(some 9), .asg (.t 26), none, [26]⟩])
 (.seq (.seq (.reg [⟨(some 27), .mv (.t 9), none, []⟩,
 ⟨(some 28), .lenL (.t 27), none, [27]⟩,
 ⟨(some 29), .mv (.c (.i .i64 0)), none, []⟩])
 (.blk 0 (.loop (.seq (.reg [⟨(some 30), .bin .lss (.t 29) (.t 28), none, []⟩])
 (.seq (.cond (.t 30) .skip
 (.exit 0))
 (.seq (.blk 1 (.seq (.reg [⟨(some 31), .mv (.t 29), none, []⟩,
 ⟨(some 10), .asg (.t 31), none, [31]⟩])
 (.seq (.reg [⟨(some 32), .mv (.t 10), none, []⟩,
 ⟨(some 33), .mv (.t 2), none, []⟩,
 ⟨(some 34), .lenL (.t 33), none, [33]⟩,
 ⟨(some 35), .bin .lss (.t 32) (.t 34), none, [32, 34]⟩])
 (.cond (.t 35) (.reg [⟨(some 36), .mv (.t 9), none, []⟩,
 ⟨(some 37), .mv (.t 10), none, []⟩,
 ⟨(some 38), .mv (.t 2), none, []⟩,
 ⟨(some 39), .mv (.t 10), none, [10]⟩,
 ⟨(some 40), .iasl 1 (.t 38) (.t 39), none, [38, 39]⟩,
 ⟨(some 41), .load none (.t 40), none, [40]⟩,
 ⟨(some 42), .mnmx false [(.t 41), (.c (.i .i64 1000000))], none, [41]⟩,
 ⟨(some 43), .mnmx true [(.c (.i .i64 0)), (.t 42)], none, [42]⟩,
 ⟨(some 44), .iasl 1 (.t 36) (.t 37), none, [36, 37]⟩,
 ⟨none, .store 1 (.t 44) (.t 43), none, [44, 43]⟩])
 .skip))))
 (.reg [⟨(some 45), .bin .add (.t 29) (.c (.i .i64 1)), none, [29]⟩,
 ⟨(some 29), .mv (.t 45), none, [45]⟩])))))))
 (.seq (.seq (.reg [⟨(some 46), .mv (.t 8), none, []⟩,
 ⟨(some 47), .mv (.t 9), none, []⟩,
 ⟨(some 48), .call 21 [(.t 46), (.t 47)], none, [46, 47]⟩,
 ⟨(some 49), .un .not (.t 48), none, [48]⟩])
 (.cond (.t 49) (.seq (.reg [⟨(some 6), .asg (.c (.b false)), none, []⟩])
 .ret)
 .skip))
 (.seq (.reg [⟨(some 50), .mv (.t 1), none, []⟩,
 ⟨(some 51), .mv (.t 1), none, [1]⟩,
 ⟨(some 52), .lenL (.t 51), none, [51]⟩,
 ⟨(some 53), .mnmx false [(.t 52), (.c (.i .i64 10))], none, [52]⟩,
 ⟨(some 54), .slsl 1 (.t 50) none (some (.t 53)) none, none, [50, 53]⟩,
 ⟨(some 1), .asg (.t 54), none, [54]⟩])
 (.seq (.reg [⟨(some 11), .asg (.c (.b true)), none, []⟩])
 (.seq (.seq (.reg [⟨(some 12), .asg (.c (.i .i64 0)), none, []⟩])
 (.blk 2 (.loop (.seq (.seq (.reg [⟨(some 55), .mv (.t 12), none, []⟩,
 ⟨(some 56), .mv (.t 0), none, []⟩,
 ⟨(some 57), .bin .lss (.t 55) (.t 56), none, [55, 56]⟩,
 ⟨(some 58), .mv (.t 57), none, [57]⟩,
 ⟨(some 59), .mv (.t 12), (some (58, true)), []⟩,
 ⟨(some 60), .mv (.t 1), (some (58, true)), []⟩,
 ⟨(some 61), .lenL (.t 60), (some (58, true)), [60]⟩,
 ⟨(some 62), .bin .lss (.t 59) (.t 61), (some (58, true)), [59, 61]⟩,
 ⟨(some 63), .pick (.t 58) (.t 62) (.c (.b false)), none, [58, 62]⟩])
 (.cond (.t 63) .skip
 (.exit 2)))
 (.seq (.blk 3 (.reg [⟨(some 66), .mv (.t 11), none, [11]⟩,
 ⟨(some 67), .mv (.t 66), none, [66]⟩,
 ⟨(some 68), .mv (.t 1), (some (67, true)), []⟩,
 ⟨(some 69), .mv (.t 12), (some (67, true)), []⟩,
 ⟨(some 70), .iasl 1 (.t 68) (.t 69), (some (67, true)), [68, 69]⟩,
 ⟨(some 71), .load none (.t 70), (some (67, true)), [70]⟩,
 ⟨(some 72), .bin .geq (.t 71) (.c (.i .i64 0)), (some (67, true)), [71]⟩,
 ⟨(some 73), .pick (.t 67) (.t 72) (.c (.b false)), none, [67, 72]⟩,
 ⟨(some 74), .mv (.t 73), none, [73]⟩,
 ⟨(some 75), .mv (.t 1), (some (74, true)), []⟩,
 ⟨(some 76), .mv (.t 12), (some (74, true)), []⟩,
 ⟨(some 77), .iasl 1 (.t 75) (.t 76), (some (74, true)), [75, 76]⟩,
 ⟨(some 78), .load none (.t 77), (some (74, true)), [77]⟩,
 ⟨(some 79), .bin .leq (.t 78) (.c (.i .i64 1000000)), (some (74, true)), [78]⟩,
 ⟨(some 80), .pick (.t 74) (.t 79) (.c (.b false)), none, [74, 79]⟩,
 ⟨(some 11), .asg (.t 80), none, [80]⟩]))
 (.reg [⟨(some 64), .mv (.t 12), none, [12]⟩,
 ⟨(some 65), .bin .add (.t 64) (.c (.i .i64 1)), none, [64]⟩,
 ⟨(some 12), .asg (.t 65), none, [65]⟩]))))))
 (.seq (.seq (.reg [⟨(some 81), .mv (.t 8), none, []⟩,
 ⟨(some 82), .mv (.t 1), none, []⟩,
 ⟨(some 83), .call 21 [(.t 81), (.t 82)], none, [81, 82]⟩,
 ⟨(some 84), .mv (.t 11), none, []⟩,
 ⟨(some 85), .eqc false [.b] true (.t 83) (.t 84), none, [83, 84]⟩])
 (.cond (.t 85) (.seq (.reg [⟨(some 6), .asg (.c (.b false)), none, []⟩])
 .ret)
 .skip))
 (.seq (.seq (.reg [⟨(some 86), .mv (.t 9), none, []⟩,
 ⟨(some 87), .lenL (.t 86), none, [86]⟩,
 ⟨(some 88), .mv (.c (.i .i64 0)), none, []⟩])
 (.blk 4 (.loop (.seq (.reg [⟨(some 89), .bin .lss (.t 88) (.t 87), none, []⟩])
 (.seq (.cond (.t 89) .skip
 (.exit 4))
 (.seq (.blk 5 (.seq (.reg [⟨(some 90), .mv (.t 88), none, []⟩,
 ⟨(some 13), .asg (.t 90), none, [90]⟩])
 (.seq (.reg [⟨(some 91), .mv (.t 9), none, []⟩,
 ⟨(some 92), .mv (.t 13), none, []⟩,
 ⟨(some 93), .iasl 1 (.t 91) (.t 92), none, [91, 92]⟩,
 ⟨(some 94), .load none (.t 93), none, [93]⟩,
 ⟨(some 14), .asg (.t 94), none, [94]⟩])
 (.seq (.seq (.reg [⟨(some 95), .mv (.t 11), none, []⟩,
 ⟨(some 96), .mv (.t 95), none, [95]⟩,
 ⟨(some 97), .mv (.t 13), (some (96, true)), []⟩,
 ⟨(some 98), .mv (.t 1), (some (96, true)), []⟩,
 ⟨(some 99), .lenL (.t 98), (some (96, true)), [98]⟩,
 ⟨(some 100), .bin .lss (.t 97) (.t 99), (some (96, true)), [97, 99]⟩,
 ⟨(some 101), .pick (.t 96) (.t 100) (.c (.b false)), none, [96, 100]⟩])
 (.cond (.t 101) (.reg [⟨(some 102), .mv (.t 14), none, [14]⟩,
 ⟨(some 103), .mv (.t 1), none, []⟩,
 ⟨(some 104), .mv (.t 13), none, []⟩,
 ⟨(some 105), .iasl 1 (.t 103) (.t 104), none, [103, 104]⟩,
 ⟨(some 106), .load none (.t 105), none, [105]⟩,
 ⟨(some 107), .bin .add (.t 102) (.t 106), none, [102, 106]⟩,
 ⟨(some 14), .asg (.t 107), none, [107]⟩])
 .skip))
 (.seq (.reg [⟨(some 108), .mv (.t 8), none, []⟩,
 ⟨(some 109), .mv (.t 13), none, [13]⟩,
 ⟨(some 110), .call 22 [(.t 108), (.t 109)], none, [108, 109]⟩,
 ⟨(some 111), .mv (.t 14), none, [14]⟩,
 ⟨(some 112), .bin .neq (.t 110) (.t 111), none, [110, 111]⟩])
 (.cond (.t 112) (.seq (.reg [⟨(some 6), .asg (.c (.b false)), none, []⟩])
 .ret)
 .skip))))))
 (.reg [⟨(some 113), .bin .add (.t 88) (.c (.i .i64 1)), none, [88]⟩,
 ⟨(some 88), .mv (.t 113), none, [113]⟩])))))))
 (.seq (.reg [⟨(some 114), .mv (.t 8), none, []⟩,
 ⟨(some 115), .call 22 [(.t 114), (.c (.i .i64 (-1)))], none, [114]⟩,
 ⟨(some 116), .bin .eql (.t 115) (.c (.i .i64 0)), none, [115]⟩,
 ⟨(some 117), .mv (.t 116), none, [116]⟩,
 ⟨(some 118), .mv (.t 8), (some (117, true)), [8]⟩,
 ⟨(some 119), .mv (.t 0), (some (117, true)), [0]⟩,
 ⟨(some 120), .call 22 [(.t 118), (.t 119)], (some (117, true)), [118, 119]⟩,
 ⟨(some 121), .bin .eql (.t 120) (.c (.i .i64 0)), (some (117, true)), [120]⟩,
 ⟨(some 122), .pick (.t 117) (.t 121) (.c (.b false)), none, [117, 121]⟩,
 ⟨(some 6), .asg (.t 122), none, [122]⟩])
 .ret)))))))))))))), [.t 6]⟩
/-- interrex/interrexlaw10.ClockSpan -/
def f8 : AFn := ⟨1, (.seq (.reg [⟨(some 2), .asg (.c (.b false)), none, [2]⟩])
 (.seq (.reg [⟨(some 14), .call 20 [], none, []⟩,
 ⟨(some 3), .asg (.t 14), none, [14]⟩])
 (.seq (.seq (.reg [⟨(some 15), .mv (.t 3), none, [3]⟩,
 ⟨(some 16), .un .not (.t 15), none, [15]⟩])
 (.cond (.t 16) (.seq (.reg [⟨(some 2), .asg (.c (.b false)), none, []⟩])
 .ret)
 .skip))
 (.seq (.reg [⟨(some 17), .call 50 [(.c (.i .i64 3))], none, []⟩,
 ⟨(some 4), .asg (.t 17), none, [17]⟩])
 (.seq (.reg [⟨(some 18), .bld [(.i .i64 0), (.i .i64 0), (.i .i64 0)] [], none, []⟩,
 ⟨(some 19), .bsl (.im false) 3 1 [(.i .i64 0), (.i .i64 0), (.i .i64 0)] [(0, (.t 18))], none, [18]⟩,
 ⟨(some 5), .asg (.t 19), none, [19]⟩])
 (.seq (.seq (.reg [⟨(some 6), .asg (.c (.i .i64 0)), none, []⟩])
 (.blk 0 (.loop (.seq (.seq (.reg [⟨(some 20), .mv (.t 6), none, []⟩,
 ⟨(some 21), .mv (.t 0), none, []⟩,
 ⟨(some 22), .lenL (.t 21), none, [21]⟩,
 ⟨(some 23), .bin .lss (.t 20) (.t 22), none, [20, 22]⟩,
 ⟨(some 24), .mv (.t 23), none, [23]⟩,
 ⟨(some 25), .mv (.t 6), (some (24, true)), []⟩,
 ⟨(some 26), .bin .lss (.t 25) (.c (.i .i64 20)), (some (24, true)), [25]⟩,
 ⟨(some 27), .pick (.t 24) (.t 26) (.c (.b false)), none, [24, 26]⟩])
 (.cond (.t 27) .skip
 (.exit 0)))
 (.seq (.blk 1 (.seq (.dreg [⟨0, ⟨(some 30), .mv (.t 0), none, []⟩, false, []⟩,
 ⟨1, ⟨(some 31), .mv (.t 6), none, []⟩, false, []⟩,
 ⟨2, ⟨(some 32), .iasl 1 (.t 30) (.t 31), none, []⟩, false, []⟩,
 ⟨3, ⟨(some 33), .load none (.t 32), none, []⟩, false, []⟩,
 ⟨4, ⟨(some 34), .mv (.t 0), none, []⟩, false, []⟩,
 ⟨5, ⟨(some 35), .mv (.t 6), none, []⟩, false, []⟩,
 ⟨6, ⟨(some 36), .iasl 1 (.t 34) (.t 35), none, []⟩, false, []⟩,
 ⟨7, ⟨(some 37), .load none (.t 36), none, []⟩, false, []⟩,
 ⟨8, ⟨(some 38), .lenL (.t 37), none, []⟩, false, []⟩,
 ⟨9, ⟨(some 39), .mnmx false [(.t 38), (.c (.i .i64 3))], none, []⟩, false, []⟩,
 ⟨10, ⟨(some 40), .slsl 1 (.t 33) none (some (.t 39)) none, none, []⟩, false, []⟩,
 ⟨11, ⟨(some 7), .asg (.t 40), none, []⟩, false, []⟩] [30, 31, 32, 33, 34, 35, 36, 37, 38, 39, 40])
 (.seq (.seq (.reg [⟨(some 41), .mv (.t 7), none, []⟩,
 ⟨(some 42), .lenL (.t 41), none, [41]⟩,
 ⟨(some 43), .mv (.c (.i .i64 0)), none, []⟩])
 (.blk 2 (.loop (.seq (.reg [⟨(some 44), .bin .lss (.t 43) (.t 42), none, []⟩])
 (.seq (.cond (.t 44) .skip
 (.exit 2))
 (.seq (.blk 3 (.seq (.reg [⟨(some 45), .mv (.t 43), none, []⟩,
 ⟨(some 8), .asg (.t 45), none, [45]⟩])
 (.seq (.reg [⟨(some 46), .mv (.t 7), none, []⟩,
 ⟨(some 47), .mv (.t 8), none, []⟩,
 ⟨(some 48), .iasl 1 (.t 46) (.t 47), none, [46, 47]⟩,
 ⟨(some 49), .load none (.t 48), none, [48]⟩,
 ⟨(some 50), .bin .lss (.t 49) (.c (.i .i64 0)), none, [49]⟩,
 ⟨(some 51), .mv (.t 50), none, [50]⟩,
 ⟨(some 52), .mv (.t 7), (some (51, false)), []⟩,
 ⟨(some 53), .mv (.t 8), (some (51, false)), [8]⟩,
 ⟨(some 54), .iasl 1 (.t 52) (.t 53), (some (51, false)), [52, 53]⟩,
 ⟨(some 55), .load none (.t 54), (some (51, false)), [54]⟩,
 ⟨(some 56), .bin .gtr (.t 55) (.c (.i .i64 1000000)), (some (51, false)), [55]⟩,
 ⟨(some 57), .pick (.t 51) (.c (.b true)) (.t 56), none, [51, 56]⟩])
 (.cond (.t 57) (.seq (.reg [⟨(some 7), .asg (.c .nils), none, []⟩])
 (.exit 2))
 .skip))))
 (.reg [⟨(some 58), .bin .add (.t 43) (.c (.i .i64 1)), none, [43]⟩,
 ⟨(some 43), .mv (.t 58), none, [58]⟩])))))))
 (.seq (.seq (.reg [⟨(some 59), .mv (.t 4), none, []⟩,
 ⟨(some 60), .mv (.t 7), none, [7]⟩,
 ⟨(some 61), .call 21 [(.t 59), (.t 60)], none, [59, 60]⟩,
 ⟨(some 62), .un .not (.t 61), none, [61]⟩])
 (.cond (.t 62) (.seq (.reg [⟨(some 2), .asg (.c (.b false)), none, []⟩])
 .ret)
 .skip))
 (.reg [⟨(some 63), .mv (.t 5), none, [5]⟩,
 ⟨(some 64), .mv (.t 4), none, []⟩,
 ⟨(some 65), .call 22 [(.t 64), (.c (.i .i64 0))], none, [64]⟩,
 ⟨(some 66), .mv (.t 4), none, []⟩,
 ⟨(some 67), .call 22 [(.t 66), (.c (.i .i64 1))], none, [66]⟩,
 ⟨(some 68), .mv (.t 4), none, []⟩,
 ⟨(some 69), .call 22 [(.t 68), (.c (.i .i64 2))], none, [68]⟩,
 ⟨(some 70), .bld [(.i .i64 0), (.i .i64 0), (.i .i64 0)] [(0, 1, (.t 65)), (1, 1, (.t 67)), (2, 1, (.t 69))], none, [65, 67, 69]⟩,
 ⟨(some 71), .bsl (.im false) 3 1 [(.i .i64 0), (.i .i64 0), (.i .i64 0)] [(0, (.t 70))], none, [70]⟩,
 ⟨(some 72), .append (.im false) 3 24 (.t 63) (.t 71), none, [63, 71]⟩,
 ⟨(some 5), .asg (.t 72), none, [72]⟩])))))
 (.reg [⟨(some 28), .mv (.t 6), none, [6]⟩,
 ⟨(some 29), .bin .add (.t 28) (.c (.i .i64 1)), none, [28]⟩,
 ⟨(some 6), .asg (.t 29), none, [29]⟩]))))))
 (.seq (.reg [⟨(some 9), .asg (.c (.i .i64 0)), none, []⟩])
 (.seq (.seq (.reg [⟨(some 73), .mv (.t 5), none, []⟩,
 ⟨(some 74), .lenL (.t 73), none, [73]⟩,
 ⟨(some 75), .mv (.c (.i .i64 0)), none, []⟩])
 (.blk 4 (.loop (.seq (.reg [⟨(some 76), .bin .lss (.t 75) (.t 74), none, []⟩])
 (.seq (.cond (.t 76) .skip
 (.exit 4))
 (.seq (.blk 5 (.seq (.reg [⟨(some 77), .mv (.t 75), none, []⟩,
 ⟨(some 10), .asg (.t 77), none, [77]⟩])
 (.seq (.reg [⟨(some 11), .asg (.c (.i .i64 0)), none, []⟩])
 (.blk 6 (.loop (.seq (.seq (.reg [⟨(some 78), .mv (.t 11), none, []⟩,
 ⟨(some 79), .mv (.t 10), none, []⟩,
 ⟨(some 80), .bin .lss (.t 78) (.t 79), none, [78, 79]⟩])
 (.cond (.t 80) .skip
 (.exit 6)))
 (.seq (.blk 7 (.seq (.reg [⟨(some 12), .asg (.c (.i .i64 0)), none, []⟩])
 (.blk 8 (.loop (.seq (.seq (.reg [⟨(some 83), .mv (.t 12), none, []⟩,
 ⟨(some 84), .bin .lss (.t 83) (.c (.i .i64 3)), none, [83]⟩])
 (.cond (.t 84) .skip
 (.exit 8)))
 (.seq (.blk 9 (.seq (.reg [⟨(some 13), .asg (.c (.i .i64 0)), none, []⟩])
 (.blk 10 (.loop (.seq (.seq (.reg [⟨(some 87), .mv (.t 13), none, []⟩,
 ⟨(some 88), .bin .lss (.t 87) (.c (.i .i64 3)), none, [87]⟩])
 (.cond (.t 88) .skip
 (.exit 10)))
 (.seq (.blk 11 (.dreg [⟨0, ⟨(some 91), .mv (.t 9), none, []⟩, false, []⟩,
 ⟨1, ⟨(some 92), .mv (.t 5), none, []⟩, false, []⟩,
 ⟨2, ⟨(some 93), .mv (.t 10), none, []⟩, false, []⟩,
 ⟨3, ⟨(some 94), .mv (.t 12), none, []⟩, false, []⟩,
 ⟨4, ⟨(some 95), .iasl 3 (.t 92) (.t 93), none, []⟩, false, []⟩,
 ⟨5, ⟨(some 96), .iaar 3 1 (.t 95) (.t 94), none, []⟩, false, []⟩,
 ⟨6, ⟨(some 97), .load none (.t 96), none, []⟩, false, []⟩,
 ⟨7, ⟨(some 98), .mv (.t 5), none, []⟩, false, []⟩,
 ⟨8, ⟨(some 99), .mv (.t 11), none, []⟩, false, []⟩,
 ⟨9, ⟨(some 100), .mv (.t 12), none, []⟩, false, []⟩,
 ⟨10, ⟨(some 101), .iasl 3 (.t 98) (.t 99), none, []⟩, false, []⟩,
 ⟨11, ⟨(some 102), .iaar 3 1 (.t 101) (.t 100), none, []⟩, false, []⟩,
 ⟨12, ⟨(some 103), .load none (.t 102), none, []⟩, false, []⟩,
 ⟨13, ⟨(some 104), .bin .sub (.t 97) (.t 103), none, []⟩, false, []⟩,
 ⟨14, ⟨(some 105), .mv (.t 5), none, []⟩, false, []⟩,
 ⟨15, ⟨(some 106), .mv (.t 10), none, []⟩, false, []⟩,
 ⟨16, ⟨(some 107), .mv (.t 13), none, []⟩, false, []⟩,
 ⟨17, ⟨(some 108), .iasl 3 (.t 105) (.t 106), none, []⟩, false, []⟩,
 ⟨18, ⟨(some 109), .iaar 3 1 (.t 108) (.t 107), none, []⟩, false, []⟩,
 ⟨19, ⟨(some 110), .load none (.t 109), none, []⟩, false, []⟩,
 ⟨20, ⟨(some 111), .mv (.t 5), none, []⟩, false, []⟩,
 ⟨21, ⟨(some 112), .mv (.t 11), none, []⟩, false, []⟩,
 ⟨22, ⟨(some 113), .mv (.t 13), none, []⟩, false, []⟩,
 ⟨23, ⟨(some 114), .iasl 3 (.t 111) (.t 112), none, []⟩, false, []⟩,
 ⟨24, ⟨(some 115), .iaar 3 1 (.t 114) (.t 113), none, []⟩, false, []⟩,
 ⟨25, ⟨(some 116), .load none (.t 115), none, []⟩, false, []⟩,
 ⟨26, ⟨(some 117), .bin .sub (.t 110) (.t 116), none, []⟩, false, []⟩,
 ⟨27, ⟨(some 118), .bin .sub (.t 104) (.t 117), none, []⟩, false, []⟩,
 ⟨28, ⟨(some 119), .mnmx true [(.t 91), (.t 118)], none, []⟩, false, []⟩,
 ⟨29, ⟨(some 9), .asg (.t 119), none, []⟩, true, []⟩] [91, 92, 93, 94, 95, 96, 97, 98, 99, 100, 101, 102, 103, 104, 105, 106, 107, 108, 109, 110, 111, 112, 113, 114, 115, 116, 117, 118, 119]))
 (.reg [⟨(some 89), .mv (.t 13), none, [13]⟩,
 ⟨(some 90), .bin .add (.t 89) (.c (.i .i64 1)), none, [89]⟩,
 ⟨(some 13), .asg (.t 90), none, [90]⟩])))))))
 (.reg [⟨(some 85), .mv (.t 12), none, [12]⟩,
 ⟨(some 86), .bin .add (.t 85) (.c (.i .i64 1)), none, [85]⟩,
 ⟨(some 12), .asg (.t 86), none, [86]⟩])))))))
 (.reg [⟨(some 81), .mv (.t 11), none, [11]⟩,
 ⟨(some 82), .bin .add (.t 81) (.c (.i .i64 1)), none, [81]⟩,
 ⟨(some 11), .asg (.t 82), none, [82]⟩]))))))))
 (.reg [⟨(some 120), .bin .add (.t 75) (.c (.i .i64 1)), none, [75]⟩,
 ⟨(some 75), .mv (.t 120), none, [120]⟩])))))))
 (.seq (.reg [⟨(some 121), .mv (.t 4), none, [4]⟩,
 ⟨(some 122), .call 23 [(.t 121)], none, [121]⟩,
 ⟨(some 123), .mv (.t 9), none, [9]⟩,
 ⟨(some 124), .bin .eql (.t 122) (.t 123), none, [122, 123]⟩,
 ⟨(some 2), .asg (.t 124), none, [124]⟩])
 .ret))))))))), [.t 2]⟩
/-- interrex/interrexlaw10.ClockAll -/
def f9 : AFn := ⟨2, (.seq (.reg [⟨(some 4), .asg (.c (.b false)), none, [4]⟩])
 (.seq (.reg [⟨(some 11), .call 20 [], none, []⟩,
 ⟨(some 5), .asg (.t 11), none, [11]⟩])
 (.seq (.seq (.reg [⟨(some 12), .mv (.t 5), none, [5]⟩,
 ⟨(some 13), .un .not (.t 12), none, [12]⟩])
 (.cond (.t 13) (.seq (.reg [⟨(some 4), .asg (.c (.b false)), none, []⟩])
 .ret)
 .skip))
 (.seq (.reg [⟨(some 14), .mv (.t 0), none, []⟩,
 ⟨(some 15), .call 50 [(.t 14)], none, [14]⟩,
 ⟨(some 16), .mv (.t 0), none, [0]⟩,
 ⟨(some 17), .call 51 [(.t 16)], none, [16]⟩,
 ⟨(some 6), .asg (.t 15), none, [15]⟩,
 ⟨(some 7), .asg (.t 17), none, [17]⟩])
 (.seq (.seq (.reg [⟨(some 8), .asg (.c (.i .i64 0)), none, []⟩])
 (.blk 0 (.loop (.seq (.seq (.reg [⟨(some 18), .mv (.t 8), none, []⟩,
 ⟨(some 19), .mv (.t 1), none, []⟩,
 ⟨(some 20), .lenL (.t 19), none, [19]⟩,
 ⟨(some 21), .bin .lss (.t 18) (.t 20), none, [18, 20]⟩,
 ⟨(some 22), .mv (.t 21), none, [21]⟩,
 ⟨(some 23), .mv (.t 8), (some (22, true)), []⟩,
 ⟨(some 24), .bin .lss (.t 23) (.c (.i .i64 20)), (some (22, true)), [23]⟩,
 ⟨(some 25), .pick (.t 22) (.t 24) (.c (.b false)), none, [22, 24]⟩])
 (.cond (.t 25) .skip
 (.exit 0)))
 (.seq (.blk 1 (.seq (.dreg [⟨0, ⟨(some 28), .mv (.t 1), none, []⟩, false, []⟩,
 ⟨1, ⟨(some 29), .mv (.t 8), none, []⟩, false, []⟩,
 ⟨2, ⟨(some 30), .iasl 1 (.t 28) (.t 29), none, []⟩, false, []⟩,
 ⟨3, ⟨(some 31), .load none (.t 30), none, []⟩, false, []⟩,
 ⟨4, ⟨(some 32), .mv (.t 1), none, []⟩, false, []⟩,
 ⟨5, ⟨(some 33), .mv (.t 8), none, []⟩, false, []⟩,
 ⟨6, ⟨(some 34), .iasl 1 (.t 32) (.t 33), none, []⟩, false, []⟩,
 ⟨7, ⟨(some 35), .load none (.t 34), none, []⟩, false, []⟩,
 ⟨8, ⟨(some 36), .lenL (.t 35), none, []⟩, false, []⟩,
 ⟨9, ⟨(some 37), .mnmx false [(.t 36), (.c (.i .i64 10))], none, []⟩, false, []⟩,
 ⟨10, ⟨(some 38), .slsl 1 (.t 31) none (some (.t 37)) none, none, []⟩, false, []⟩,
 ⟨11, ⟨(some 9), .asg (.t 38), none, []⟩, false, []⟩] [28, 29, 30, 31, 32, 33, 34, 35, 36, 37, 38])
 (.seq (.seq (.reg [⟨(some 39), .mv (.t 6), none, []⟩,
 ⟨(some 40), .mv (.t 9), none, []⟩,
 ⟨(some 41), .call 21 [(.t 39), (.t 40)], none, [39, 40]⟩,
 ⟨(some 42), .mv (.t 7), none, []⟩,
 ⟨(some 43), .mv (.t 9), none, [9]⟩,
 ⟨(some 44), .call 52 [(.t 42), (.t 43)], none, [42, 43]⟩,
 ⟨(some 45), .eqc false [.b] true (.t 41) (.t 44), none, [41, 44]⟩,
 ⟨(some 46), .mv (.t 45), none, [45]⟩,
 ⟨(some 47), .mv (.t 6), (some (46, false)), []⟩,
 ⟨(some 48), .call 23 [(.t 47)], (some (46, false)), [47]⟩,
 ⟨(some 49), .mv (.t 7), (some (46, false)), []⟩,
 ⟨(some 50), .call 53 [(.t 49)], (some (46, false)), [49]⟩,
 ⟨(some 51), .bin .neq (.t 48) (.t 50), (some (46, false)), [48, 50]⟩,
 ⟨(some 52), .pick (.t 46) (.c (.b true)) (.t 51), none, [46, 51]⟩])
 (.cond (.t 52) (.seq (.reg [⟨(some 4), .asg (.c (.b false)), none, []⟩])
 .ret)
 .skip))
 (.seq (.reg [⟨(some 10), .asg (.c (.i .i64 (-1))), none, []⟩])
 (.blk 2 (.loop (.seq (.seq (.reg [⟨(some 53), .mv (.t 10), none, []⟩,
 ⟨(some 54), .bin .leq (.t 53) (.c (.i .i64 8)), none, [53]⟩])
 (.cond (.t 54) .skip
 (.exit 2)))
 (.seq (.blk 3 (.seq (.reg [⟨(some 57), .mv (.t 6), none, []⟩,
 ⟨(some 58), .mv (.t 10), none, []⟩,
 ⟨(some 59), .call 22 [(.t 57), (.t 58)], none, [57, 58]⟩,
 ⟨(some 60), .mv (.t 7), none, []⟩,
 ⟨(some 61), .mv (.t 10), none, []⟩,
 ⟨(some 62), .call 54 [(.t 60), (.t 61)], none, [60, 61]⟩,
 ⟨(some 63), .bin .neq (.t 59) (.t 62), none, [59, 62]⟩])
 (.cond (.t 63) (.seq (.reg [⟨(some 4), .asg (.c (.b false)), none, []⟩])
 .ret)
 .skip)))
 (.reg [⟨(some 55), .mv (.t 10), none, [10]⟩,
 ⟨(some 56), .bin .add (.t 55) (.c (.i .i64 1)), none, [55]⟩,
 ⟨(some 10), .asg (.t 56), none, [56]⟩])))))))))
 (.reg [⟨(some 26), .mv (.t 8), none, [8]⟩,
 ⟨(some 27), .bin .add (.t 26) (.c (.i .i64 1)), none, [26]⟩,
 ⟨(some 8), .asg (.t 27), none, [27]⟩]))))))
 (.seq (.reg [⟨(some 4), .asg (.c (.b true)), none, []⟩])
 .ret)))))), [.t 4]⟩
/-- interrex/interrexref1.NewClocks -/
def f51 : AFn := ⟨1, (.seq (.reg [⟨(some 2), .asg (.c .nilp), none, [2]⟩])
 (.seq (.reg [⟨(some 3), .mv (.t 0), none, [0]⟩,
 ⟨(some 4), .mnmx false [(.t 3), (.c (.i .i64 8))], none, [3]⟩,
 ⟨(some 5), .mnmx true [(.c (.i .i64 1)), (.t 4)], none, [4]⟩,
 ⟨(some 0), .asg (.t 5), none, [5]⟩])
 (.seq (.reg [⟨(some 6), .mv (.t 0), none, []⟩,
 ⟨(some 7), .mv (.t 0), none, [0]⟩,
 ⟨(some 8), .mksl (.mu true) 1 8 [(.i .i64 0)] (.t 7) (.t 7), none, [7]⟩,
 ⟨(some 9), .bsl (.mu true) 1 1 [.nils] [(0, (.t 8))], none, [8]⟩,
 ⟨(some 10), .bld [(.i .i64 0), .nils] [(0, 1, (.t 6)), (1, 1, (.t 9))], none, [6, 9]⟩,
 ⟨(some 11), .box true (.t 10), none, [10]⟩,
 ⟨(some 2), .asg (.t 11), none, [11]⟩])
 .ret))), [.t 2]⟩
/-- ( interrex/interrexref1.Clocks).Tick -/
def f52 : AFn := ⟨2, (.seq (.reg [⟨(some 4), .asg (.c (.b false)), none, [4]⟩])
 (.seq (.dreg [⟨0, ⟨(some 7), .mv (.t 0), none, []⟩, false, []⟩,
 ⟨1, ⟨(some 8), .nilc (.t 7), none, []⟩, false, []⟩,
 ⟨2, ⟨(some 9), .faddr 1 (.t 8), none, []⟩, false, []⟩,
 ⟨3, ⟨(some 10), .load none (.t 9), none, []⟩, false, []⟩,
 ⟨4, ⟨(some 11), .mv (.t 0), none, []⟩, false, []⟩,
 ⟨5, ⟨(some 12), .nilc (.t 11), none, []⟩, false, []⟩,
 ⟨6, ⟨(some 13), .faddr 1 (.t 12), none, []⟩, false, []⟩,
 ⟨7, ⟨(some 14), .load none (.t 13), none, []⟩, false, []⟩,
 ⟨8, ⟨(some 15), .lenL (.t 14), none, []⟩, false, []⟩,
 ⟨9, ⟨(some 16), .bin .sub (.t 15) (.c (.i .i64 1)), none, []⟩, false, []⟩,
 ⟨10, ⟨(some 17), .iasl 1 (.t 10) (.t 16), none, []⟩, false, []⟩,
 ⟨11, ⟨(some 18), .load none (.t 17), none, []⟩, false, []⟩,
 ⟨12, ⟨(some 19), .append (.mu true) 1 8 (.c .nils) (.t 18), none, []⟩, true, []⟩,
 ⟨13, ⟨(some 5), .asg (.t 19), none, []⟩, false, []⟩] [7, 8, 9, 10, 11, 12, 13, 14, 15, 16, 17, 18, 19])
 (.seq (.seq (.reg [⟨(some 6), .asg (.c (.i .i64 0)), none, []⟩])
 (.blk 0 (.loop (.seq (.seq (.reg [⟨(some 20), .mv (.t 6), none, []⟩,
 ⟨(some 21), .mv (.t 0), none, []⟩,
 ⟨(some 22), .nilc (.t 21), none, [21]⟩,
 ⟨(some 23), .faddr 0 (.t 22), none, [22]⟩,
 ⟨(some 24), .load none (.t 23), none, [23]⟩,
 ⟨(some 25), .bin .lss (.t 20) (.t 24), none, [20, 24]⟩,
 ⟨(some 26), .mv (.t 25), none, [25]⟩,
 ⟨(some 27), .mv (.t 6), (some (26, true)), []⟩,
 ⟨(some 28), .mv (.t 1), (some (26, true)), []⟩,
 ⟨(some 29), .lenL (.t 28), (some (26, true)), [28]⟩,
 ⟨(some 30), .bin .lss (.t 27) (.t 29), (some (26, true)), [27, 29]⟩,
 ⟨(some 31), .pick (.t 26) (.t 30) (.c (.b false)), none, [26, 30]⟩])
 (.cond (.t 31) .skip
 (.exit 0)))
 (.seq (.blk 1 (.seq (.seq (.dreg [⟨0, ⟨(some 34), .mv (.t 1), none, []⟩, false, []⟩,
 ⟨1, ⟨(some 35), .mv (.t 6), none, []⟩, false, []⟩,
 ⟨2, ⟨(some 36), .iasl 1 (.t 34) (.t 35), none, []⟩, false, []⟩,
 ⟨3, ⟨(some 37), .load none (.t 36), none, []⟩, false, []⟩,
 ⟨4, ⟨(some 38), .bin .lss (.t 37) (.c (.i .i64 0)), none, []⟩, false, []⟩,
 ⟨5, ⟨(some 39), .mv (.t 38), none, []⟩, false, []⟩,
 ⟨6, ⟨(some 40), .mv (.t 1), (some (39, false)), []⟩, false, []⟩,
 ⟨7, ⟨(some 41), .mv (.t 6), (some (39, false)), []⟩, false, []⟩,
 ⟨8, ⟨(some 42), .iasl 1 (.t 40) (.t 41), (some (39, false)), []⟩, false, []⟩,
 ⟨9, ⟨(some 43), .load none (.t 42), (some (39, false)), []⟩, false, []⟩,
 ⟨10, ⟨(some 44), .bin .gtr (.t 43) (.c (.i .i64 1000000)), (some (39, false)), []⟩, false, []⟩,
 ⟨11, ⟨(some 45), .pick (.t 39) (.c (.b true)) (.t 44), none, []⟩, false, []⟩,
 ⟨12, ⟨(some 46), .mv (.t 45), none, []⟩, false, []⟩,
 ⟨13, ⟨(some 47), .mv (.t 5), (some (46, false)), []⟩, false, []⟩,
 ⟨14, ⟨(some 48), .mv (.t 6), (some (46, false)), []⟩, false, []⟩,
 ⟨15, ⟨(some 49), .iasl 1 (.t 47) (.t 48), (some (46, false)), []⟩, false, []⟩,
 ⟨16, ⟨(some 50), .load none (.t 49), (some (46, false)), []⟩, false, []⟩,
 ⟨17, ⟨(some 51), .mv (.t 1), (some (46, false)), []⟩, false, []⟩,
 ⟨18, ⟨(some 52), .mv (.t 6), (some (46, false)), []⟩, false, []⟩,
 ⟨19, ⟨(some 53), .iasl 1 (.t 51) (.t 52), (some (46, false)), []⟩, false, []⟩,
 ⟨20, ⟨(some 54), .load none (.t 53), (some (46, false)), []⟩, false, []⟩,
 ⟨21, ⟨(some 55), .bin .sub (.c (.i .i64 1125899906842624)) (.t 54), (some (46, false)), []⟩, false, []⟩,
 ⟨22, ⟨(some 56), .bin .gtr (.t 50) (.t 55), (some (46, false)), []⟩, false, []⟩,
 ⟨23, ⟨(some 57), .pick (.t 46) (.c (.b true)) (.t 56), none, []⟩, false, []⟩] [34, 35, 36, 37, 38, 39, 40, 41, 42, 43, 44, 45, 46, 47, 48, 49, 50, 51, 52, 53, 54, 55, 56])
 (.cond (.t 57) (.seq (.reg [⟨(some 4), .asg (.c (.b false)), none, []⟩])
 .ret)
 .skip))
 (.dreg [⟨0, ⟨(some 58), .mv (.t 5), none, []⟩, false, []⟩,
 ⟨1, ⟨(some 59), .mv (.t 6), none, []⟩, false, []⟩,
 ⟨2, ⟨(some 60), .iasl 1 (.t 58) (.t 59), none, []⟩, false, []⟩,
 ⟨3, ⟨(some 61), .load none (.t 60), none, []⟩, false, []⟩,
 ⟨4, ⟨(some 62), .mv (.t 1), none, []⟩, false, []⟩,
 ⟨5, ⟨(some 63), .mv (.t 6), none, []⟩, false, []⟩,
 ⟨6, ⟨(some 64), .iasl 1 (.t 62) (.t 63), none, []⟩, false, []⟩,
 ⟨7, ⟨(some 65), .load none (.t 64), none, []⟩, false, []⟩,
 ⟨8, ⟨(some 66), .bin .add (.t 61) (.t 65), none, []⟩, false, []⟩,
 ⟨9, ⟨(some 67), .iasl 1 (.t 58) (.t 59), none, []⟩, false, []⟩,
 ⟨10, ⟨none, .store 1 (.t 67) (.t 66), none, []⟩, true, []⟩] [58, 59, 60, 61, 62, 63, 64, 65, 66, 67])))
 (.reg [⟨(some 32), .mv (.t 6), none, [6]⟩,
 ⟨(some 33), .bin .add (.t 32) (.c (.i .i64 1)), none, [32]⟩,
 ⟨(some 6), .asg (.t 33), none, [33]⟩]))))))
 (.seq (.reg [⟨(some 68), .mv (.t 0), none, []⟩,
 ⟨(some 69), .mv (.t 0), none, [0]⟩,
 ⟨(some 70), .nilc (.t 69), none, [69]⟩,
 ⟨(some 71), .faddr 1 (.t 70), none, [70]⟩,
 ⟨(some 72), .load none (.t 71), none, [71]⟩,
 ⟨(some 73), .mv (.t 5), none, [5]⟩,
 ⟨(some 74), .bsl (.mu true) 1 1 [.nils] [(0, (.t 73))], none, [73]⟩,
 ⟨(some 75), .append (.mu true) 1 24 (.t 72) (.t 74), none, [72, 74]⟩,
 ⟨(some 76), .nilc (.t 68), none, [68]⟩,
 ⟨(some 77), .faddr 1 (.t 76), none, [76]⟩,
 ⟨none, .store 1 (.t 77) (.t 75), none, [77, 75]⟩])
 (.seq (.reg [⟨(some 4), .asg (.c (.b true)), none, []⟩])
 .ret))))), [.t 4]⟩
/-- ( interrex/interrexref1.Clocks).Drift -/
def f53 : AFn := ⟨1, (.seq (.reg [⟨(some 2), .asg (.c (.i .i64 0)), none, [2]⟩])
 (.seq (.reg [⟨(some 3), .asg (.c (.i .i64 0)), none, []⟩])
 (.seq (.seq (.reg [⟨(some 8), .mv (.t 0), none, []⟩,
 ⟨(some 9), .nilc (.t 8), none, [8]⟩,
 ⟨(some 10), .faddr 1 (.t 9), none, [9]⟩,
 ⟨(some 11), .load none (.t 10), none, [10]⟩,
 ⟨(some 12), .lenL (.t 11), none, [11]⟩,
 ⟨(some 13), .mv (.c (.i .i64 0)), none, []⟩])
 (.blk 0 (.loop (.seq (.reg [⟨(some 14), .bin .lss (.t 13) (.t 12), none, []⟩])
 (.seq (.cond (.t 14) .skip
 (.exit 0))
 (.seq (.blk 1 (.seq (.reg [⟨(some 15), .mv (.t 13), none, []⟩,
 ⟨(some 4), .asg (.t 15), none, [15]⟩])
 (.seq (.reg [⟨(some 5), .asg (.c (.i .i64 0)), none, []⟩])
 (.blk 2 (.loop (.seq (.seq (.reg [⟨(some 16), .mv (.t 5), none, []⟩,
 ⟨(some 17), .mv (.t 4), none, []⟩,
 ⟨(some 18), .bin .lss (.t 16) (.t 17), none, [16, 17]⟩])
 (.cond (.t 18) .skip
 (.exit 2)))
 (.seq (.blk 3 (.seq (.reg [⟨(some 6), .asg (.c (.i .i64 0)), none, []⟩])
 (.blk 4 (.loop (.seq (.seq (.reg [⟨(some 21), .mv (.t 6), none, []⟩,
 ⟨(some 22), .mv (.t 0), none, []⟩,
 ⟨(some 23), .nilc (.t 22), none, [22]⟩,
 ⟨(some 24), .faddr 0 (.t 23), none, [23]⟩,
 ⟨(some 25), .load none (.t 24), none, [24]⟩,
 ⟨(some 26), .bin .lss (.t 21) (.t 25), none, [21, 25]⟩])
 (.cond (.t 26) .skip
 (.exit 4)))
 (.seq (.blk 5 (.seq (.reg [⟨(some 7), .asg (.c (.i .i64 0)), none, []⟩])
 (.blk 6 (.loop (.seq (.seq (.reg [⟨(some 29), .mv (.t 7), none, []⟩,
 ⟨(some 30), .mv (.t 0), none, []⟩,
 ⟨(some 31), .nilc (.t 30), none, [30]⟩,
 ⟨(some 32), .faddr 0 (.t 31), none, [31]⟩,
 ⟨(some 33), .load none (.t 32), none, [32]⟩,
 ⟨(some 34), .bin .lss (.t 29) (.t 33), none, [29, 33]⟩])
 (.cond (.t 34) .skip
 (.exit 6)))
 (.seq (.blk 7 (.dreg [⟨0, ⟨(some 37), .mv (.t 3), none, []⟩, false, []⟩,
 ⟨1, ⟨(some 38), .mv (.t 0), none, []⟩, false, []⟩,
 ⟨2, ⟨(some 39), .nilc (.t 38), none, []⟩, false, []⟩,
 ⟨3, ⟨(some 40), .faddr 1 (.t 39), none, []⟩, false, []⟩,
 ⟨4, ⟨(some 41), .load none (.t 40), none, []⟩, false, []⟩,
 ⟨5, ⟨(some 42), .mv (.t 4), none, []⟩, false, []⟩,
 ⟨6, ⟨(some 43), .iasl 1 (.t 41) (.t 42), none, []⟩, false, []⟩,
 ⟨7, ⟨(some 44), .load none (.t 43), none, []⟩, false, []⟩,
 ⟨8, ⟨(some 45), .mv (.t 6), none, []⟩, false, []⟩,
 ⟨9, ⟨(some 46), .iasl 1 (.t 44) (.t 45), none, []⟩, false, []⟩,
 ⟨10, ⟨(some 47), .load none (.t 46), none, []⟩, false, []⟩,
 ⟨11, ⟨(some 48), .mv (.t 0), none, []⟩, false, []⟩,
 ⟨12, ⟨(some 49), .nilc (.t 48), none, []⟩, false, []⟩,
 ⟨13, ⟨(some 50), .faddr 1 (.t 49), none, []⟩, false, []⟩,
 ⟨14, ⟨(some 51), .load none (.t 50), none, []⟩, false, []⟩,
 ⟨15, ⟨(some 52), .mv (.t 5), none, []⟩, false, []⟩,
 ⟨16, ⟨(some 53), .iasl 1 (.t 51) (.t 52), none, []⟩, false, []⟩,
 ⟨17, ⟨(some 54), .load none (.t 53), none, []⟩, false, []⟩,
 ⟨18, ⟨(some 55), .mv (.t 6), none, []⟩, false, []⟩,
 ⟨19, ⟨(some 56), .iasl 1 (.t 54) (.t 55), none, []⟩, false, []⟩,
 ⟨20, ⟨(some 57), .load none (.t 56), none, []⟩, false, []⟩,
 ⟨21, ⟨(some 58), .bin .sub (.t 47) (.t 57), none, []⟩, false, []⟩,
 ⟨22, ⟨(some 59), .mv (.t 0), none, []⟩, false, []⟩,
 ⟨23, ⟨(some 60), .nilc (.t 59), none, []⟩, false, []⟩,
 ⟨24, ⟨(some 61), .faddr 1 (.t 60), none, []⟩, false, []⟩,
 ⟨25, ⟨(some 62), .load none (.t 61), none, []⟩, false, []⟩,
 ⟨26, ⟨(some 63), .mv (.t 4), none, []⟩, false, []⟩,
 ⟨27, ⟨(some 64), .iasl 1 (.t 62) (.t 63), none, []⟩, false, []⟩,
 ⟨28, ⟨(some 65), .load none (.t 64), none, []⟩, false, []⟩,
 ⟨29, ⟨(some 66), .mv (.t 7), none, []⟩, false, []⟩,
 ⟨30, ⟨(some 67), .iasl 1 (.t 65) (.t 66), none, []⟩, false, []⟩,
 ⟨31, ⟨(some 68), .load none (.t 67), none, []⟩, false, []⟩,
 ⟨32, ⟨(some 69), .mv (.t 0), none, []⟩, false, []⟩,
 ⟨33, ⟨(some 70), .nilc (.t 69), none, []⟩, false, []⟩,
 ⟨34, ⟨(some 71), .faddr 1 (.t 70), none, []⟩, false, []⟩,
 ⟨35, ⟨(some 72), .load none (.t 71), none, []⟩, false, []⟩,
 ⟨36, ⟨(some 73), .mv (.t 5), none, []⟩, false, []⟩,
 ⟨37, ⟨(some 74), .iasl 1 (.t 72) (.t 73), none, []⟩, false, []⟩,
 ⟨38, ⟨(some 75), .load none (.t 74), none, []⟩, false, []⟩,
 ⟨39, ⟨(some 76), .mv (.t 7), none, []⟩, false, []⟩,
 ⟨40, ⟨(some 77), .iasl 1 (.t 75) (.t 76), none, []⟩, false, []⟩,
 ⟨41, ⟨(some 78), .load none (.t 77), none, []⟩, false, []⟩,
 ⟨42, ⟨(some 79), .bin .sub (.t 68) (.t 78), none, []⟩, false, []⟩,
 ⟨43, ⟨(some 80), .bin .sub (.t 58) (.t 79), none, []⟩, false, []⟩,
 ⟨44, ⟨(some 81), .mnmx true [(.t 37), (.t 80)], none, []⟩, false, []⟩,
 ⟨45, ⟨(some 3), .asg (.t 81), none, []⟩, true, []⟩] [37, 38, 39, 40, 41, 42, 43, 44, 45, 46, 47, 48, 49, 50, 51, 52, 53, 54, 55, 56, 57, 58, 59, 60, 61, 62, 63, 64, 65, 66, 67, 68, 69, 70, 71, 72, 73, 74, 75, 76, 77, 78, 79, 80, 81]))
 (.reg [⟨(some 35), .mv (.t 7), none, [7]⟩,
 ⟨(some 36), .bin .add (.t 35) (.c (.i .i64 1)), none, [35]⟩,
 ⟨(some 7), .asg (.t 36), none, [36]⟩])))))))
 (.reg [⟨(some 27), .mv (.t 6), none, [6]⟩,
 ⟨(some 28), .bin .add (.t 27) (.c (.i .i64 1)), none, [27]⟩,
 ⟨(some 6), .asg (.t 28), none, [28]⟩])))))))
 (.reg [⟨(some 19), .mv (.t 5), none, [5]⟩,
 ⟨(some 20), .bin .add (.t 19) (.c (.i .i64 1)), none, [19]⟩,
 ⟨(some 5), .asg (.t 20), none, [20]⟩]))))))))
 (.reg [⟨(some 82), .bin .add (.t 13) (.c (.i .i64 1)), none, [13]⟩,
 ⟨(some 13), .mv (.t 82), none, [82]⟩])))))))
 (.seq (.reg [⟨(some 83), .mv (.t 3), none, [3]⟩,
 ⟨(some 2), .asg (.t 83), none, [83]⟩])
 .ret)))), [.t 2]⟩
/-- ( interrex/interrexref1.Clocks).Now -/
def f54 : AFn := ⟨2, (.seq (.reg [⟨(some 4), .asg (.c (.i .i64 0)), none, [4]⟩])
 (.seq (.seq (.reg [⟨(some 5), .mv (.t 1), none, []⟩,
 ⟨(some 6), .bin .lss (.t 5) (.c (.i .i64 0)), none, [5]⟩,
 ⟨(some 7), .mv (.t 6), none, [6]⟩,
 ⟨(some 8), .mv (.t 1), (some (7, false)), []⟩,
 ⟨(some 9), .mv (.t 0), (some (7, false)), []⟩,
 ⟨(some 10), .nilc (.t 9), (some (7, false)), [9]⟩,
 ⟨(some 11), .faddr 0 (.t 10), (some (7, false)), [10]⟩,
 ⟨(some 12), .load none (.t 11), (some (7, false)), [11]⟩,
 ⟨(some 13), .bin .geq (.t 8) (.t 12), (some (7, false)), [8, 12]⟩,
 ⟨(some 14), .pick (.t 7) (.c (.b true)) (.t 13), none, [7, 13]⟩])
 (.cond (.t 14) (.seq (.reg [⟨(some 4), .asg (.c (.i .i64 0)), none, []⟩])
 .ret)
 .skip))
 (.seq (.dreg [⟨0, ⟨(some 15), .mv (.t 0), none, []⟩, false, []⟩,
 ⟨1, ⟨(some 16), .nilc (.t 15), none, []⟩, false, []⟩,
 ⟨2, ⟨(some 17), .faddr 1 (.t 16), none, []⟩, false, []⟩,
 ⟨3, ⟨(some 18), .load none (.t 17), none, []⟩, false, []⟩,
 ⟨4, ⟨(some 19), .mv (.t 0), none, []⟩, false, []⟩,
 ⟨5, ⟨(some 20), .nilc (.t 19), none, []⟩, false, []⟩,
 ⟨6, ⟨(some 21), .faddr 1 (.t 20), none, []⟩, false, []⟩,
 ⟨7, ⟨(some 22), .load none (.t 21), none, []⟩, false, []⟩,
 ⟨8, ⟨(some 23), .lenL (.t 22), none, []⟩, false, []⟩,
 ⟨9, ⟨(some 24), .bin .sub (.t 23) (.c (.i .i64 1)), none, []⟩, false, []⟩,
 ⟨10, ⟨(some 25), .iasl 1 (.t 18) (.t 24), none, []⟩, false, []⟩,
 ⟨11, ⟨(some 26), .load none (.t 25), none, []⟩, false, []⟩,
 ⟨12, ⟨(some 27), .mv (.t 1), none, []⟩, false, []⟩,
 ⟨13, ⟨(some 28), .iasl 1 (.t 26) (.t 27), none, []⟩, false, []⟩,
 ⟨14, ⟨(some 29), .load none (.t 28), none, []⟩, false, []⟩,
 ⟨15, ⟨(some 4), .asg (.t 29), none, []⟩, false, []⟩] [0, 15, 16, 17, 18, 19, 20, 21, 22, 23, 24, 25, 26, 1, 27, 28, 29])
 .ret))), [.t 4]⟩
def hns : FT := (.node (.node (.node (.node .nil 6 f6 .nil) 7 f7 .nil) 8 f8 (.node .nil 9 f9 .nil)) 51 f51 (.node (.node .nil 52 f52 .nil) 53 f53 (.node .nil 54 f54 .nil)))
end Go.Eng.AF
