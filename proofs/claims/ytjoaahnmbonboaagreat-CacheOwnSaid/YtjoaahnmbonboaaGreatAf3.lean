/-
Functions' abstract texts.
-/
import Derived.Test.YtjoaahnmbonboaaGreatEngExec
set_option maxRecDepth 100000
namespace Go.Eng.AF
open Go Go.Eng
/-- interrex/taint.All -/
def f239 : AFn := ⟨2, (.seq (.reg [⟨(some 4), .asg (.c (.b false)), none, [4]⟩])
 (.seq (.seq (.reg [⟨(some 7), .mv (.t 1), none, [1]⟩,
 ⟨(some 8), .lenL (.t 7), none, []⟩,
 ⟨(some 9), .mv (.c (.i .i64 0)), none, []⟩])
 (.blk 0 (.loop (.seq (.reg [⟨(some 10), .bin .lss (.t 9) (.t 8), none, []⟩])
 (.seq (.cond (.t 10) .skip
 (.exit 0))
 (.seq (.blk 1 (.seq (.reg [⟨(some 11), .iasl 2 (.t 7) (.t 9), none, []⟩,
 ⟨(some 12), .load (some 2) (.t 11), none, [11]⟩,
 ⟨(some 6), .alloc true [(.s []), (.s [])], none, []⟩,
 ⟨none, .store 2 (.t 6) (.t 12), none, [12]⟩])
 (.seq (.reg [⟨(some 13), .mv (.t 0), none, []⟩,
 ⟨(some 14), .mkfn 256 [(.t 6)], none, [6]⟩,
 ⟨(some 15), .call 180 [(.t 13), (.t 14)], none, [13, 14]⟩,
 ⟨(some 16), .un .not (.t 15), none, [15]⟩])
 (.cond (.t 16) (.seq (.reg [⟨(some 4), .asg (.c (.b false)), none, []⟩])
 .ret)
 .skip))))
 (.reg [⟨(some 17), .bin .add (.t 9) (.c (.i .i64 1)), none, [9]⟩,
 ⟨(some 9), .mv (.t 17), none, [17]⟩])))))))
 (.seq (.reg [⟨(some 4), .asg (.c (.b true)), none, []⟩])
 .ret))), [.t 4]⟩
/-- interrex/obj.EqPod -/
def f240 : AFn := ⟨2, (.seq (.reg [⟨(some 2), .box false (.t 0), none, [0]⟩,
 ⟨(some 3), .box false (.t 1), none, [1]⟩,
 ⟨(some 4), .asg (.c (.b false)), none, [4]⟩])
 (.seq (.seq (.reg [⟨(some 6), .faddr 0 (.t 2), none, []⟩,
 ⟨(some 7), .load none (.t 6), none, [6]⟩,
 ⟨(some 8), .faddr 0 (.t 3), none, []⟩,
 ⟨(some 9), .load none (.t 8), none, [8]⟩,
 ⟨(some 10), .bin .neq (.t 7) (.t 9), none, [7, 9]⟩,
 ⟨(some 11), .mv (.t 10), none, [10]⟩,
 ⟨(some 12), .faddr 1 (.t 2), (some (11, false)), []⟩,
 ⟨(some 13), .load none (.t 12), (some (11, false)), [12]⟩,
 ⟨(some 14), .faddr 1 (.t 3), (some (11, false)), []⟩,
 ⟨(some 15), .load none (.t 14), (some (11, false)), [14]⟩,
 ⟨(some 16), .bin .neq (.t 13) (.t 15), (some (11, false)), [13, 15]⟩,
 ⟨(some 17), .pick (.t 11) (.c (.b true)) (.t 16), none, [11, 16]⟩,
 ⟨(some 18), .mv (.t 17), none, [17]⟩,
 ⟨(some 19), .faddr 2 (.t 2), (some (18, false)), []⟩,
 ⟨(some 20), .load none (.t 19), (some (18, false)), [19]⟩,
 ⟨(some 21), .faddr 2 (.t 3), (some (18, false)), []⟩,
 ⟨(some 22), .load none (.t 21), (some (18, false)), [21]⟩,
 ⟨(some 23), .bin .neq (.t 20) (.t 22), (some (18, false)), [20, 22]⟩,
 ⟨(some 24), .pick (.t 18) (.c (.b true)) (.t 23), none, [18, 23]⟩,
 ⟨(some 25), .mv (.t 24), none, [24]⟩,
 ⟨(some 26), .faddr 3 (.t 2), (some (25, false)), []⟩,
 ⟨(some 27), .load (some 3) (.t 26), (some (25, false)), [26]⟩,
 ⟨(some 28), .faddr 3 (.t 3), (some (25, false)), []⟩,
 ⟨(some 29), .load (some 3) (.t 28), (some (25, false)), [28]⟩,
 ⟨(some 30), .eqc true [.i, .i, .i] true (.t 27) (.t 29), (some (25, false)), [27, 29]⟩,
 ⟨(some 31), .pick (.t 25) (.c (.b true)) (.t 30), none, [25, 30]⟩,
 ⟨(some 32), .mv (.t 31), none, [31]⟩,
 ⟨(some 33), .faddr 10 (.t 2), (some (32, false)), []⟩,
 ⟨(some 34), .load none (.t 33), (some (32, false)), [33]⟩,
 ⟨(some 35), .faddr 10 (.t 3), (some (32, false)), []⟩,
 ⟨(some 36), .load none (.t 35), (some (32, false)), [35]⟩,
 ⟨(some 37), .bin .neq (.t 34) (.t 36), (some (32, false)), [34, 36]⟩,
 ⟨(some 38), .pick (.t 32) (.c (.b true)) (.t 37), none, [32, 37]⟩,
 ⟨(some 39), .mv (.t 38), none, [38]⟩,
 ⟨(some 40), .faddr 12 (.t 2), (some (39, false)), []⟩,
 ⟨(some 41), .load none (.t 40), (some (39, false)), [40]⟩,
 ⟨(some 42), .faddr 12 (.t 3), (some (39, false)), []⟩,
 ⟨(some 43), .load none (.t 42), (some (39, false)), [42]⟩,
 ⟨(some 44), .bin .neq (.t 41) (.t 43), (some (39, false)), [41, 43]⟩,
 ⟨(some 45), .pick (.t 39) (.c (.b true)) (.t 44), none, [39, 44]⟩,
 ⟨(some 46), .mv (.t 45), none, [45]⟩,
 ⟨(some 47), .faddr 14 (.t 2), (some (46, false)), []⟩,
 ⟨(some 48), .load none (.t 47), (some (46, false)), [47]⟩,
 ⟨(some 49), .faddr 14 (.t 3), (some (46, false)), []⟩,
 ⟨(some 50), .load none (.t 49), (some (46, false)), [49]⟩,
 ⟨(some 51), .bin .neq (.t 48) (.t 50), (some (46, false)), [48, 50]⟩,
 ⟨(some 52), .pick (.t 46) (.c (.b true)) (.t 51), none, [46, 51]⟩,
 ⟨(some 53), .mv (.t 52), none, [52]⟩,
 ⟨(some 54), .faddr 15 (.t 2), (some (53, false)), []⟩,
 ⟨(some 55), .load none (.t 54), (some (53, false)), [54]⟩,
 ⟨(some 56), .faddr 15 (.t 3), (some (53, false)), []⟩,
 ⟨(some 57), .load none (.t 56), (some (53, false)), [56]⟩,
 ⟨(some 58), .bin .neq (.t 55) (.t 57), (some (53, false)), [55, 57]⟩,
 ⟨(some 59), .pick (.t 53) (.c (.b true)) (.t 58), none, [53, 58]⟩])
 (.cond (.t 59) (.seq (.reg [⟨(some 4), .asg (.c (.b false)), none, []⟩])
 .ret)
 .skip))
 (.seq (.reg [⟨(some 60), .faddr 6 (.t 2), none, []⟩,
 ⟨(some 61), .load none (.t 60), none, [60]⟩,
 ⟨(some 62), .faddr 6 (.t 3), none, []⟩,
 ⟨(some 63), .load none (.t 62), none, [62]⟩,
 ⟨(some 64), .call 258 [(.t 61), (.t 63)], none, [61, 63]⟩,
 ⟨(some 65), .mv (.t 64), none, [64]⟩,
 ⟨(some 66), .faddr 7 (.t 2), (some (65, true)), []⟩,
 ⟨(some 67), .load none (.t 66), (some (65, true)), [66]⟩,
 ⟨(some 68), .faddr 7 (.t 3), (some (65, true)), []⟩,
 ⟨(some 69), .load none (.t 68), (some (65, true)), [68]⟩,
 ⟨(some 70), .call 259 [(.t 67), (.t 69)], (some (65, true)), [67, 69]⟩,
 ⟨(some 71), .pick (.t 65) (.t 70) (.c (.b false)), none, [65, 70]⟩,
 ⟨(some 72), .mv (.t 71), none, [71]⟩,
 ⟨(some 73), .faddr 9 (.t 2), (some (72, true)), []⟩,
 ⟨(some 74), .load none (.t 73), (some (72, true)), [73]⟩,
 ⟨(some 75), .faddr 9 (.t 3), (some (72, true)), []⟩,
 ⟨(some 76), .load none (.t 75), (some (72, true)), [75]⟩,
 ⟨(some 77), .call 260 [(.t 74), (.t 76)], (some (72, true)), [74, 76]⟩,
 ⟨(some 78), .pick (.t 72) (.t 77) (.c (.b false)), none, [72, 77]⟩,
 ⟨(some 5), .asg (.t 78), none, [78]⟩])
 (.seq (.reg [⟨(some 79), .mv (.t 5), none, [5]⟩,
 ⟨(some 80), .mv (.t 79), none, [79]⟩,
 ⟨(some 81), .faddr 8 (.t 2), (some (80, true)), []⟩,
 ⟨(some 82), .load none (.t 81), (some (80, true)), [81]⟩,
 ⟨(some 83), .faddr 8 (.t 3), (some (80, true)), []⟩,
 ⟨(some 84), .load none (.t 83), (some (80, true)), [83]⟩,
 ⟨(some 85), .call 261 [(.t 82), (.t 84)], (some (80, true)), [82, 84]⟩,
 ⟨(some 86), .pick (.t 80) (.t 85) (.c (.b false)), none, [80, 85]⟩,
 ⟨(some 87), .mv (.t 86), none, [86]⟩,
 ⟨(some 88), .faddr 11 (.t 2), (some (87, true)), []⟩,
 ⟨(some 89), .load none (.t 88), (some (87, true)), [88]⟩,
 ⟨(some 90), .faddr 11 (.t 3), (some (87, true)), []⟩,
 ⟨(some 91), .load none (.t 90), (some (87, true)), [90]⟩,
 ⟨(some 92), .call 261 [(.t 89), (.t 91)], (some (87, true)), [89, 91]⟩,
 ⟨(some 93), .pick (.t 87) (.t 92) (.c (.b false)), none, [87, 92]⟩,
 ⟨(some 94), .mv (.t 93), none, [93]⟩,
 ⟨(some 95), .faddr 13 (.t 2), (some (94, true)), [2]⟩,
 ⟨(some 96), .load none (.t 95), (some (94, true)), [95]⟩,
 ⟨(some 97), .faddr 13 (.t 3), (some (94, true)), [3]⟩,
 ⟨(some 98), .load none (.t 97), (some (94, true)), [97]⟩,
 ⟨(some 99), .call 261 [(.t 96), (.t 98)], (some (94, true)), [96, 98]⟩,
 ⟨(some 100), .pick (.t 94) (.t 99) (.c (.b false)), none, [94, 99]⟩,
 ⟨(some 4), .asg (.t 100), none, [100]⟩])
 .ret)))), [.t 4]⟩
/-- slices.order2CmpFunc interrex/api.Pod  -/
def f245 : AFn := ⟨5, (.seq (.reg [⟨(some 10), .asg (.c (.i .i64 0)), none, [10]⟩,
 ⟨(some 11), .asg (.c (.i .i64 0)), none, [11]⟩])
 (.seq (.seq (.dreg [⟨0, ⟨(some 12), .mv (.t 4), none, []⟩, false, []⟩,
 ⟨1, ⟨(some 13), .mv (.t 0), none, []⟩, false, []⟩,
 ⟨2, ⟨(some 14), .mv (.t 2), none, []⟩, false, []⟩,
 ⟨3, ⟨(some 15), .iasl 16 (.t 13) (.t 14), none, []⟩, false, []⟩,
 ⟨4, ⟨(some 16), .load (some 16) (.t 15), none, []⟩, false, []⟩,
 ⟨5, ⟨(some 17), .mv (.t 0), none, []⟩, false, []⟩,
 ⟨6, ⟨(some 18), .mv (.t 1), none, []⟩, false, []⟩,
 ⟨7, ⟨(some 19), .iasl 16 (.t 17) (.t 18), none, []⟩, false, []⟩,
 ⟨8, ⟨(some 20), .load (some 16) (.t 19), none, []⟩, false, []⟩,
 ⟨9, ⟨(some 21), .callv (.t 12) [(.t 16), (.t 20)], none, []⟩, true, []⟩,
 ⟨10, ⟨(some 22), .bin .lss (.t 21) (.c (.i .i64 0)), none, []⟩, false, []⟩] [4, 12, 0, 13, 14, 15, 16, 17, 18, 19, 20, 21])
 (.cond (.t 22) (.seq (.reg [⟨(some 23), .mv (.t 3), none, [3]⟩,
 ⟨(some 24), .nilc (.t 23), none, []⟩,
 ⟨(some 25), .load none (.t 24), none, [24]⟩,
 ⟨(some 26), .bin .add (.t 25) (.c (.i .i64 1)), none, [25]⟩,
 ⟨(some 27), .nilc (.t 23), none, [23]⟩,
 ⟨none, .store 1 (.t 27) (.t 26), none, [27, 26]⟩])
 (.seq (.reg [⟨(some 28), .mv (.t 2), none, [2]⟩,
 ⟨(some 29), .mv (.t 1), none, [1]⟩,
 ⟨(some 10), .asg (.t 28), none, [28]⟩,
 ⟨(some 11), .asg (.t 29), none, [29]⟩])
 .ret))
 .skip))
 (.seq (.reg [⟨(some 30), .mv (.t 1), none, [1]⟩,
 ⟨(some 31), .mv (.t 2), none, [2]⟩,
 ⟨(some 10), .asg (.t 30), none, [30]⟩,
 ⟨(some 11), .asg (.t 31), none, [31]⟩])
 .ret))), [.t 10, .t 11]⟩
/-- slices.order2CmpFunc interrex/api.Node  -/
def f246 : AFn := ⟨5, (.seq (.reg [⟨(some 10), .asg (.c (.i .i64 0)), none, [10]⟩,
 ⟨(some 11), .asg (.c (.i .i64 0)), none, [11]⟩])
 (.seq (.seq (.dreg [⟨0, ⟨(some 12), .mv (.t 4), none, []⟩, false, []⟩,
 ⟨1, ⟨(some 13), .mv (.t 0), none, []⟩, false, []⟩,
 ⟨2, ⟨(some 14), .mv (.t 2), none, []⟩, false, []⟩,
 ⟨3, ⟨(some 15), .iasl 6 (.t 13) (.t 14), none, []⟩, false, []⟩,
 ⟨4, ⟨(some 16), .load (some 6) (.t 15), none, []⟩, false, []⟩,
 ⟨5, ⟨(some 17), .mv (.t 0), none, []⟩, false, []⟩,
 ⟨6, ⟨(some 18), .mv (.t 1), none, []⟩, false, []⟩,
 ⟨7, ⟨(some 19), .iasl 6 (.t 17) (.t 18), none, []⟩, false, []⟩,
 ⟨8, ⟨(some 20), .load (some 6) (.t 19), none, []⟩, false, []⟩,
 ⟨9, ⟨(some 21), .callv (.t 12) [(.t 16), (.t 20)], none, []⟩, true, []⟩,
 ⟨10, ⟨(some 22), .bin .lss (.t 21) (.c (.i .i64 0)), none, []⟩, false, []⟩] [4, 12, 0, 13, 14, 15, 16, 17, 18, 19, 20, 21])
 (.cond (.t 22) (.seq (.reg [⟨(some 23), .mv (.t 3), none, [3]⟩,
 ⟨(some 24), .nilc (.t 23), none, []⟩,
 ⟨(some 25), .load none (.t 24), none, [24]⟩,
 ⟨(some 26), .bin .add (.t 25) (.c (.i .i64 1)), none, [25]⟩,
 ⟨(some 27), .nilc (.t 23), none, [23]⟩,
 ⟨none, .store 1 (.t 27) (.t 26), none, [27, 26]⟩])
 (.seq (.reg [⟨(some 28), .mv (.t 2), none, [2]⟩,
 ⟨(some 29), .mv (.t 1), none, [1]⟩,
 ⟨(some 10), .asg (.t 28), none, [28]⟩,
 ⟨(some 11), .asg (.t 29), none, [29]⟩])
 .ret))
 .skip))
 (.seq (.reg [⟨(some 30), .mv (.t 1), none, [1]⟩,
 ⟨(some 31), .mv (.t 2), none, [2]⟩,
 ⟨(some 10), .asg (.t 30), none, [30]⟩,
 ⟨(some 11), .asg (.t 31), none, [31]⟩])
 .ret))), [.t 10, .t 11]⟩
/-- slices.IndexFunc   string string  -/
def f247 : AFn := ⟨2, (.seq (.reg [⟨(some 4), .asg (.c (.i .i64 0)), none, [4]⟩])
 (.seq (.seq (.reg [⟨(some 6), .mv (.t 0), none, []⟩,
 ⟨(some 7), .lenL (.t 6), none, [6]⟩,
 ⟨(some 8), .mv (.c (.i .i64 0)), none, []⟩])
 (.blk 0 (.loop (.seq (.reg [⟨(some 9), .bin .lss (.t 8) (.t 7), none, []⟩])
 (.seq (.cond (.t 9) .skip
 (.exit 0))
 (.seq (.blk 1 (.seq (.reg [⟨(some 10), .mv (.t 8), none, []⟩,
 ⟨(some 5), .asg (.t 10), none, [10]⟩])
 (.seq (.reg [⟨(some 11), .mv (.t 1), none, []⟩,
 ⟨(some 12), .mv (.t 0), none, []⟩,
 ⟨(some 13), .mv (.t 5), none, []⟩,
 ⟨(some 14), .iasl 1 (.t 12) (.t 13), none, [12, 13]⟩,
 ⟨(some 15), .load none (.t 14), none, [14]⟩,
 ⟨(some 16), .callv (.t 11) [(.t 15)], none, [11, 15]⟩])
 (.cond (.t 16) (.seq (.reg [⟨(some 17), .mv (.t 5), none, [5]⟩,
 ⟨(some 4), .asg (.t 17), none, [17]⟩])
 .ret)
 .skip))))
 (.reg [⟨(some 18), .bin .add (.t 8) (.c (.i .i64 1)), none, [8]⟩,
 ⟨(some 8), .mv (.t 18), none, [18]⟩])))))))
 (.seq (.reg [⟨(some 4), .asg (.c (.i .i64 (-1))), none, []⟩])
 .ret))), [.t 4]⟩
/-- slices.IndexFunc   interrex/api.Entry interrex/api.Entry  -/
def f252 : AFn := ⟨2, (.seq (.reg [⟨(some 4), .asg (.c (.i .i64 0)), none, [4]⟩])
 (.seq (.seq (.reg [⟨(some 6), .mv (.t 0), none, []⟩,
 ⟨(some 7), .lenL (.t 6), none, [6]⟩,
 ⟨(some 8), .mv (.c (.i .i64 0)), none, []⟩])
 (.blk 0 (.loop (.seq (.reg [⟨(some 9), .bin .lss (.t 8) (.t 7), none, []⟩])
 (.seq (.cond (.t 9) .skip
 (.exit 0))
 (.seq (.blk 1 (.seq (.reg [⟨(some 10), .mv (.t 8), none, []⟩,
 ⟨(some 5), .asg (.t 10), none, [10]⟩])
 (.seq (.reg [⟨(some 11), .mv (.t 1), none, []⟩,
 ⟨(some 12), .mv (.t 0), none, []⟩,
 ⟨(some 13), .mv (.t 5), none, []⟩,
 ⟨(some 14), .iasl 3 (.t 12) (.t 13), none, [12, 13]⟩,
 ⟨(some 15), .load (some 3) (.t 14), none, [14]⟩,
 ⟨(some 16), .callv (.t 11) [(.t 15)], none, [11, 15]⟩])
 (.cond (.t 16) (.seq (.reg [⟨(some 17), .mv (.t 5), none, [5]⟩,
 ⟨(some 4), .asg (.t 17), none, [17]⟩])
 .ret)
 .skip))))
 (.reg [⟨(some 18), .bin .add (.t 8) (.c (.i .i64 1)), none, [8]⟩,
 ⟨(some 8), .mv (.t 18), none, [18]⟩])))))))
 (.seq (.reg [⟨(some 4), .asg (.c (.i .i64 (-1))), none, []⟩])
 .ret))), [.t 4]⟩
/-- interrex/qty.Add -/
def f253 : AFn := ⟨2, (.seq (.reg [⟨(some 2), .box false (.t 0), none, [0]⟩,
 ⟨(some 3), .box false (.t 1), none, [1]⟩,
 ⟨(some 4), .alloc false [(.i .i64 0), (.i .i64 0), (.i .i64 0)], none, []⟩,
 ⟨(some 5), .asg (.c (.b false)), none, [5]⟩])
 (.seq (.reg [⟨(some 6), .alloc false [(.i .i64 0), (.i .i64 0), (.i .i64 0)], none, []⟩])
 (.seq (.seq (.reg [⟨(some 8), .mv (.c (.i .i64 0)), none, []⟩])
 (.blk 0 (.loop (.seq (.reg [⟨(some 9), .bin .lss (.t 8) (.c (.i .i64 3)), none, []⟩])
 (.seq (.cond (.t 9) .skip
 (.exit 0))
 (.seq (.blk 1 (.seq (.reg [⟨(some 10), .mv (.t 8), none, []⟩,
 ⟨(some 7), .asg (.t 10), none, [10]⟩])
 (.seq (.seq (.dreg [⟨0, ⟨(some 11), .mv (.t 7), none, []⟩, false, []⟩,
 ⟨1, ⟨(some 12), .iaar 3 1 (.t 2) (.t 11), none, []⟩, false, []⟩,
 ⟨2, ⟨(some 13), .load none (.t 12), none, []⟩, false, []⟩,
 ⟨3, ⟨(some 14), .call 267 [(.t 13)], none, []⟩, true, []⟩,
 ⟨4, ⟨(some 15), .un .not (.t 14), none, []⟩, false, []⟩,
 ⟨5, ⟨(some 16), .mv (.t 15), none, []⟩, false, []⟩,
 ⟨6, ⟨(some 17), .mv (.t 7), (some (16, false)), []⟩, false, []⟩,
 ⟨7, ⟨(some 18), .iaar 3 1 (.t 3) (.t 17), (some (16, false)), []⟩, false, []⟩,
 ⟨8, ⟨(some 19), .load none (.t 18), (some (16, false)), []⟩, false, []⟩,
 ⟨9, ⟨(some 20), .call 267 [(.t 19)], (some (16, false)), []⟩, true, []⟩,
 ⟨10, ⟨(some 21), .un .not (.t 20), (some (16, false)), []⟩, false, []⟩,
 ⟨11, ⟨(some 22), .pick (.t 16) (.c (.b true)) (.t 21), none, []⟩, false, []⟩,
 ⟨12, ⟨(some 23), .mv (.t 22), none, []⟩, false, []⟩,
 ⟨13, ⟨(some 24), .mv (.t 7), (some (23, false)), []⟩, false, []⟩,
 ⟨14, ⟨(some 25), .iaar 3 1 (.t 2) (.t 24), (some (23, false)), []⟩, false, []⟩,
 ⟨15, ⟨(some 26), .load none (.t 25), (some (23, false)), []⟩, false, []⟩,
 ⟨16, ⟨(some 27), .mv (.t 7), (some (23, false)), []⟩, false, []⟩,
 ⟨17, ⟨(some 28), .iaar 3 1 (.t 3) (.t 27), (some (23, false)), []⟩, false, []⟩,
 ⟨18, ⟨(some 29), .load none (.t 28), (some (23, false)), []⟩, false, []⟩,
 ⟨19, ⟨(some 30), .bin .sub (.c (.i .i64 4611686018427387904)) (.t 29), (some (23, false)), []⟩, false, []⟩,
 ⟨20, ⟨(some 31), .bin .gtr (.t 26) (.t 30), (some (23, false)), []⟩, false, []⟩,
 ⟨21, ⟨(some 32), .pick (.t 23) (.c (.b true)) (.t 31), none, []⟩, false, []⟩] [11, 12, 13, 14, 15, 16, 17, 18, 19, 20, 21, 22, 23, 24, 25, 26, 27, 28, 29, 30, 31])
 (.cond (.t 32) (.seq (.reg [⟨(some 33), .bld [(.i .i64 0), (.i .i64 0), (.i .i64 0)] [], none, []⟩,
 ⟨none, .store 3 (.t 4) (.t 33), none, [33]⟩,
 ⟨(some 5), .asg (.c (.b false)), none, []⟩])
 .ret)
 .skip))
 (.dreg [⟨0, ⟨(some 34), .mv (.t 7), none, []⟩, false, []⟩,
 ⟨1, ⟨(some 35), .mv (.t 7), none, []⟩, false, []⟩,
 ⟨2, ⟨(some 36), .iaar 3 1 (.t 2) (.t 35), none, []⟩, false, []⟩,
 ⟨3, ⟨(some 37), .load none (.t 36), none, []⟩, false, []⟩,
 ⟨4, ⟨(some 38), .mv (.t 7), none, []⟩, false, []⟩,
 ⟨5, ⟨(some 39), .iaar 3 1 (.t 3) (.t 38), none, []⟩, false, []⟩,
 ⟨6, ⟨(some 40), .load none (.t 39), none, []⟩, false, []⟩,
 ⟨7, ⟨(some 41), .bin .add (.t 37) (.t 40), none, []⟩, false, []⟩,
 ⟨8, ⟨(some 42), .iaar 3 1 (.t 6) (.t 34), none, []⟩, false, []⟩,
 ⟨9, ⟨none, .store 1 (.t 42) (.t 41), none, []⟩, true, []⟩] [7, 34, 35, 36, 37, 38, 39, 40, 41, 42]))))
 (.reg [⟨(some 43), .bin .add (.t 8) (.c (.i .i64 1)), none, [8]⟩,
 ⟨(some 8), .mv (.t 43), none, [43]⟩])))))))
 (.seq (.reg [⟨(some 44), .load (some 3) (.t 6), none, [6]⟩,
 ⟨none, .store 3 (.t 4) (.t 44), none, [44]⟩,
 ⟨(some 5), .asg (.c (.b true)), none, []⟩])
 .ret)))), [.cell 4 (some 3), .t 5]⟩
/-- interrex/label.Match 1 -/
def f254 : AFn := ⟨2, (.seq (.reg [⟨(some 2), .box false (.t 0), none, [0]⟩,
 ⟨(some 3), .asg (.c (.b false)), none, [3]⟩])
 (.seq (.reg [⟨(some 4), .load (some 3) (.t 2), none, [2]⟩,
 ⟨(some 5), .load none (.t 1), none, [1]⟩,
 ⟨(some 6), .call 255 [(.t 4), (.t 5)], none, [4, 5]⟩,
 ⟨(some 7), .un .not (.t 6), none, [6]⟩,
 ⟨(some 3), .asg (.t 7), none, [7]⟩])
 .ret)), [.t 3]⟩
/-- interrex/label.holds -/
def f255 : AFn := ⟨2, (.seq (.reg [⟨(some 2), .box false (.t 0), none, [0]⟩,
 ⟨(some 4), .asg (.c (.b false)), none, [4]⟩])
 (.seq (.reg [⟨(some 9), .mv (.t 1), none, [1]⟩,
 ⟨(some 10), .faddr 0 (.t 2), none, []⟩,
 ⟨(some 11), .load none (.t 10), none, [10]⟩,
 ⟨(some 12), .call 268 [(.t 9), (.t 11)], none, [9, 11]⟩,
 ⟨(some 8), .mv (.t 12), none, [12]⟩,
 ⟨(some 13), .ext (.t 8) 0, none, []⟩,
 ⟨(some 14), .ext (.t 8) 1, none, [8]⟩,
 ⟨(some 5), .asg (.t 13), none, [13]⟩,
 ⟨(some 6), .asg (.t 14), none, [14]⟩])
 (.seq (.reg [⟨(some 15), .mv (.t 6), none, []⟩,
 ⟨(some 16), .mv (.t 15), none, [15]⟩,
 ⟨(some 17), .faddr 2 (.t 2), (some (16, true)), []⟩,
 ⟨(some 18), .load none (.t 17), (some (16, true)), [17]⟩,
 ⟨(some 19), .mv (.t 5), (some (16, true)), [5]⟩,
 ⟨(some 20), .call 269 [(.t 18), (.t 19)], (some (16, true)), [18, 19]⟩,
 ⟨(some 21), .pick (.t 16) (.t 20) (.c (.b false)), none, [16, 20]⟩,
 ⟨(some 7), .asg (.t 21), none, [21]⟩])
 (.seq (.seq (.reg [⟨(some 22), .faddr 1 (.t 2), none, [2]⟩,
 ⟨(some 23), .load none (.t 22), none, [22]⟩])
 (.blk 0 (.seq (.reg [⟨(some 25), .bin .eql (.t 23) (.c (.i .i64 1)), none, []⟩,
 ⟨(some 24), .asg (.t 25), none, [25]⟩])
 (.cond (.t 24) (.seq (.reg [⟨(some 26), .mv (.t 7), none, [7]⟩,
 ⟨(some 4), .asg (.t 26), none, [26]⟩])
 .ret)
 (.seq (.reg [⟨(some 28), .bin .eql (.t 23) (.c (.i .i64 2)), none, []⟩,
 ⟨(some 27), .asg (.t 28), none, [28]⟩])
 (.cond (.t 27) (.seq (.reg [⟨(some 29), .mv (.t 7), none, [7]⟩,
 ⟨(some 30), .un .not (.t 29), none, [29]⟩,
 ⟨(some 4), .asg (.t 30), none, [30]⟩])
 .ret)
 (.seq (.reg [⟨(some 32), .bin .eql (.t 23) (.c (.i .i64 3)), none, []⟩,
 ⟨(some 31), .asg (.t 32), none, [32]⟩])
 (.cond (.t 31) (.seq (.reg [⟨(some 33), .mv (.t 6), none, [6]⟩,
 ⟨(some 4), .asg (.t 33), none, [33]⟩])
 .ret)
 (.seq (.reg [⟨(some 35), .bin .eql (.t 23) (.c (.i .i64 4)), none, [23]⟩,
 ⟨(some 34), .asg (.t 35), none, [35]⟩])
 (.cond (.t 34) (.seq (.reg [⟨(some 36), .mv (.t 6), none, [6]⟩,
 ⟨(some 37), .un .not (.t 36), none, [36]⟩,
 ⟨(some 4), .asg (.t 37), none, [37]⟩])
 .ret)
 .skip))))))))))
 (.seq (.reg [⟨(some 4), .asg (.c (.b false)), none, []⟩])
 .ret))))), [.t 4]⟩
/-- interrex/taint.All 1 -/
def f256 : AFn := ⟨2, (.seq (.reg [⟨(some 2), .box false (.t 0), none, [0]⟩,
 ⟨(some 3), .asg (.c (.b false)), none, [3]⟩])
 (.seq (.reg [⟨(some 4), .load (some 3) (.t 2), none, [2]⟩,
 ⟨(some 5), .load (some 2) (.t 1), none, [1]⟩,
 ⟨(some 6), .call 257 [(.t 4), (.t 5)], none, [4, 5]⟩,
 ⟨(some 3), .asg (.t 6), none, [6]⟩])
 .ret)), [.t 3]⟩
/-- interrex/taint.Bears -/
def f257 : AFn := ⟨2, (.seq (.reg [⟨(some 2), .box false (.t 0), none, [0]⟩,
 ⟨(some 3), .box false (.t 1), none, [1]⟩,
 ⟨(some 4), .asg (.c (.b false)), none, [4]⟩])
 (.seq (.reg [⟨(some 5), .faddr 0 (.t 2), none, []⟩,
 ⟨(some 6), .load none (.t 5), none, [5]⟩,
 ⟨(some 7), .bin .eql (.t 6) (.c (.s [])), none, [6]⟩,
 ⟨(some 8), .mv (.t 7), none, [7]⟩,
 ⟨(some 9), .faddr 0 (.t 2), (some (8, false)), []⟩,
 ⟨(some 10), .load none (.t 9), (some (8, false)), [9]⟩,
 ⟨(some 11), .faddr 0 (.t 3), (some (8, false)), []⟩,
 ⟨(some 12), .load none (.t 11), (some (8, false)), [11]⟩,
 ⟨(some 13), .bin .eql (.t 10) (.t 12), (some (8, false)), [10, 12]⟩,
 ⟨(some 14), .pick (.t 8) (.c (.b true)) (.t 13), none, [8, 13]⟩,
 ⟨(some 15), .mv (.t 14), none, [14]⟩,
 ⟨(some 16), .faddr 2 (.t 2), (some (15, true)), []⟩,
 ⟨(some 17), .load none (.t 16), (some (15, true)), [16]⟩,
 ⟨(some 18), .mv (.t 17), (some (15, true)), [17]⟩,
 ⟨(some 19), .faddr 1 (.t 2), (some (18, false)), [2]⟩,
 ⟨(some 20), .load none (.t 19), (some (18, false)), [19]⟩,
 ⟨(some 21), .faddr 1 (.t 3), (some (18, false)), [3]⟩,
 ⟨(some 22), .load none (.t 21), (some (18, false)), [21]⟩,
 ⟨(some 23), .bin .eql (.t 20) (.t 22), (some (18, false)), [20, 22]⟩,
 ⟨(some 24), .pick (.t 18) (.c (.b true)) (.t 23), (some (15, true)), [18, 23]⟩,
 ⟨(some 25), .pick (.t 15) (.t 24) (.c (.b false)), none, [15, 24]⟩,
 ⟨(some 4), .asg (.t 25), none, [25]⟩])
 .ret)), [.t 4]⟩
/-- slices.Equal   int int  -/
def f258 : AFn := ⟨2, (.seq (.reg [⟨(some 4), .asg (.c (.b false)), none, [4]⟩])
 (.seq (.seq (.reg [⟨(some 6), .mv (.t 0), none, []⟩,
 ⟨(some 7), .lenL (.t 6), none, [6]⟩,
 ⟨(some 8), .mv (.t 1), none, []⟩,
 ⟨(some 9), .lenL (.t 8), none, [8]⟩,
 ⟨(some 10), .bin .neq (.t 7) (.t 9), none, [7, 9]⟩])
 (.cond (.t 10) (.seq (.reg [⟨(some 4), .asg (.c (.b false)), none, []⟩])
 .ret)
 .skip))
 (.seq (.seq (.reg [⟨(some 11), .mv (.t 0), none, []⟩,
 ⟨(some 12), .lenL (.t 11), none, [11]⟩,
 ⟨(some 13), .mv (.c (.i .i64 0)), none, []⟩])
 (.blk 0 (.loop (.seq (.reg [⟨(some 14), .bin .lss (.t 13) (.t 12), none, []⟩])
 (.seq (.cond (.t 14) .skip
 (.exit 0))
 (.seq (.blk 1 (.seq (.reg [⟨(some 15), .mv (.t 13), none, []⟩,
 ⟨(some 5), .asg (.t 15), none, [15]⟩])
 (.seq (.dreg [⟨0, ⟨(some 16), .mv (.t 0), none, []⟩, false, []⟩,
 ⟨1, ⟨(some 17), .mv (.t 5), none, []⟩, false, []⟩,
 ⟨2, ⟨(some 18), .iasl 1 (.t 16) (.t 17), none, []⟩, false, []⟩,
 ⟨3, ⟨(some 19), .load none (.t 18), none, []⟩, false, []⟩,
 ⟨4, ⟨(some 20), .mv (.t 1), none, []⟩, false, []⟩,
 ⟨5, ⟨(some 21), .mv (.t 5), none, []⟩, false, []⟩,
 ⟨6, ⟨(some 22), .iasl 1 (.t 20) (.t 21), none, []⟩, false, []⟩,
 ⟨7, ⟨(some 23), .load none (.t 22), none, []⟩, false, []⟩,
 ⟨8, ⟨(some 24), .bin .neq (.t 19) (.t 23), none, []⟩, false, []⟩] [16, 5, 17, 18, 19, 20, 21, 22, 23])
 (.cond (.t 24) (.seq (.reg [⟨(some 4), .asg (.c (.b false)), none, []⟩])
 .ret)
 .skip))))
 (.reg [⟨(some 25), .bin .add (.t 13) (.c (.i .i64 1)), none, [13]⟩,
 ⟨(some 13), .mv (.t 25), none, [25]⟩])))))))
 (.seq (.reg [⟨(some 4), .asg (.c (.b true)), none, []⟩])
 .ret)))), [.t 4]⟩
/-- slices.Equal   interrex/api.Pair interrex/api.Pair  -/
def f259 : AFn := ⟨2, (.seq (.reg [⟨(some 4), .asg (.c (.b false)), none, [4]⟩])
 (.seq (.seq (.reg [⟨(some 6), .mv (.t 0), none, []⟩,
 ⟨(some 7), .lenL (.t 6), none, [6]⟩,
 ⟨(some 8), .mv (.t 1), none, []⟩,
 ⟨(some 9), .lenL (.t 8), none, [8]⟩,
 ⟨(some 10), .bin .neq (.t 7) (.t 9), none, [7, 9]⟩])
 (.cond (.t 10) (.seq (.reg [⟨(some 4), .asg (.c (.b false)), none, []⟩])
 .ret)
 .skip))
 (.seq (.seq (.reg [⟨(some 11), .mv (.t 0), none, []⟩,
 ⟨(some 12), .lenL (.t 11), none, [11]⟩,
 ⟨(some 13), .mv (.c (.i .i64 0)), none, []⟩])
 (.blk 0 (.loop (.seq (.reg [⟨(some 14), .bin .lss (.t 13) (.t 12), none, []⟩])
 (.seq (.cond (.t 14) .skip
 (.exit 0))
 (.seq (.blk 1 (.seq (.reg [⟨(some 15), .mv (.t 13), none, []⟩,
 ⟨(some 5), .asg (.t 15), none, [15]⟩])
 (.seq (.dreg [⟨0, ⟨(some 16), .mv (.t 0), none, []⟩, false, []⟩,
 ⟨1, ⟨(some 17), .mv (.t 5), none, []⟩, false, []⟩,
 ⟨2, ⟨(some 18), .iasl 2 (.t 16) (.t 17), none, []⟩, false, []⟩,
 ⟨3, ⟨(some 19), .load (some 2) (.t 18), none, []⟩, false, []⟩,
 ⟨4, ⟨(some 20), .mv (.t 1), none, []⟩, false, []⟩,
 ⟨5, ⟨(some 21), .mv (.t 5), none, []⟩, false, []⟩,
 ⟨6, ⟨(some 22), .iasl 2 (.t 20) (.t 21), none, []⟩, false, []⟩,
 ⟨7, ⟨(some 23), .load (some 2) (.t 22), none, []⟩, false, []⟩,
 ⟨8, ⟨(some 24), .eqc true [.s, .s] true (.t 19) (.t 23), none, []⟩, false, []⟩] [16, 5, 17, 18, 19, 20, 21, 22, 23])
 (.cond (.t 24) (.seq (.reg [⟨(some 4), .asg (.c (.b false)), none, []⟩])
 .ret)
 .skip))))
 (.reg [⟨(some 25), .bin .add (.t 13) (.c (.i .i64 1)), none, [13]⟩,
 ⟨(some 13), .mv (.t 25), none, [25]⟩])))))))
 (.seq (.reg [⟨(some 4), .asg (.c (.b true)), none, []⟩])
 .ret)))), [.t 4]⟩
/-- slices.Equal   interrex/api.Toler interrex/api.Toler  -/
def f260 : AFn := ⟨2, (.seq (.reg [⟨(some 4), .asg (.c (.b false)), none, [4]⟩])
 (.seq (.seq (.reg [⟨(some 6), .mv (.t 0), none, []⟩,
 ⟨(some 7), .lenL (.t 6), none, [6]⟩,
 ⟨(some 8), .mv (.t 1), none, []⟩,
 ⟨(some 9), .lenL (.t 8), none, [8]⟩,
 ⟨(some 10), .bin .neq (.t 7) (.t 9), none, [7, 9]⟩])
 (.cond (.t 10) (.seq (.reg [⟨(some 4), .asg (.c (.b false)), none, []⟩])
 .ret)
 .skip))
 (.seq (.seq (.reg [⟨(some 11), .mv (.t 0), none, []⟩,
 ⟨(some 12), .lenL (.t 11), none, [11]⟩,
 ⟨(some 13), .mv (.c (.i .i64 0)), none, []⟩])
 (.blk 0 (.loop (.seq (.reg [⟨(some 14), .bin .lss (.t 13) (.t 12), none, []⟩])
 (.seq (.cond (.t 14) .skip
 (.exit 0))
 (.seq (.blk 1 (.seq (.reg [⟨(some 15), .mv (.t 13), none, []⟩,
 ⟨(some 5), .asg (.t 15), none, [15]⟩])
 (.seq (.dreg [⟨0, ⟨(some 16), .mv (.t 0), none, []⟩, false, []⟩,
 ⟨1, ⟨(some 17), .mv (.t 5), none, []⟩, false, []⟩,
 ⟨2, ⟨(some 18), .iasl 3 (.t 16) (.t 17), none, []⟩, false, []⟩,
 ⟨3, ⟨(some 19), .load (some 3) (.t 18), none, []⟩, false, []⟩,
 ⟨4, ⟨(some 20), .mv (.t 1), none, []⟩, false, []⟩,
 ⟨5, ⟨(some 21), .mv (.t 5), none, []⟩, false, []⟩,
 ⟨6, ⟨(some 22), .iasl 3 (.t 20) (.t 21), none, []⟩, false, []⟩,
 ⟨7, ⟨(some 23), .load (some 3) (.t 22), none, []⟩, false, []⟩,
 ⟨8, ⟨(some 24), .eqc true [.s, .s, .b] true (.t 19) (.t 23), none, []⟩, false, []⟩] [16, 5, 17, 18, 19, 20, 21, 22, 23])
 (.cond (.t 24) (.seq (.reg [⟨(some 4), .asg (.c (.b false)), none, []⟩])
 .ret)
 .skip))))
 (.reg [⟨(some 25), .bin .add (.t 13) (.c (.i .i64 1)), none, [13]⟩,
 ⟨(some 13), .mv (.t 25), none, [25]⟩])))))))
 (.seq (.reg [⟨(some 4), .asg (.c (.b true)), none, []⟩])
 .ret)))), [.t 4]⟩
/-- interrex/obj.eqTerms -/
def f261 : AFn := ⟨2, (.seq (.reg [⟨(some 4), .asg (.c (.b false)), none, [4]⟩])
 (.seq (.reg [⟨(some 5), .mv (.t 0), none, [0]⟩,
 ⟨(some 6), .mv (.t 1), none, [1]⟩,
 ⟨(some 7), .call 270 [(.t 5), (.t 6), (.c (.fn 271 [] []))], none, [5, 6]⟩,
 ⟨(some 4), .asg (.t 7), none, [7]⟩])
 .ret)), [.t 4]⟩
/-- interrex/qty.in -/
def f267 : AFn := ⟨1, (.seq (.reg [⟨(some 2), .asg (.c (.b false)), none, [2]⟩])
 (.seq (.reg [⟨(some 3), .mv (.t 0), none, []⟩,
 ⟨(some 4), .bin .geq (.t 3) (.c (.i .i64 0)), none, [3]⟩,
 ⟨(some 5), .mv (.t 4), none, [4]⟩,
 ⟨(some 6), .mv (.t 0), (some (5, true)), [0]⟩,
 ⟨(some 7), .bin .leq (.t 6) (.c (.i .i64 4611686018427387904)), (some (5, true)), [6]⟩,
 ⟨(some 8), .pick (.t 5) (.t 7) (.c (.b false)), none, [5, 7]⟩,
 ⟨(some 2), .asg (.t 8), none, [8]⟩])
 .ret)), [.t 2]⟩
/-- interrex/label.Get -/
def f268 : AFn := ⟨2, (.seq (.reg [⟨(some 4), .asg (.c (.s [])), none, [4]⟩,
 ⟨(some 5), .asg (.c (.b false)), none, [5]⟩])
 (.seq (.seq (.reg [⟨(some 8), .mv (.t 0), none, [0]⟩,
 ⟨(some 9), .lenL (.t 8), none, []⟩,
 ⟨(some 10), .mv (.c (.i .i64 0)), none, []⟩])
 (.blk 0 (.loop (.seq (.reg [⟨(some 11), .bin .lss (.t 10) (.t 9), none, []⟩])
 (.seq (.cond (.t 11) .skip
 (.exit 0))
 (.seq (.blk 1 (.seq (.reg [⟨(some 12), .iasl 2 (.t 8) (.t 10), none, []⟩,
 ⟨(some 13), .load (some 2) (.t 12), none, [12]⟩,
 ⟨(some 7), .alloc false [(.s []), (.s [])], none, []⟩,
 ⟨none, .store 2 (.t 7) (.t 13), none, [13]⟩])
 (.seq (.reg [⟨(some 14), .faddr 0 (.t 7), none, []⟩,
 ⟨(some 15), .load none (.t 14), none, [14]⟩,
 ⟨(some 16), .mv (.t 1), none, []⟩,
 ⟨(some 17), .bin .eql (.t 15) (.t 16), none, [15, 16]⟩])
 (.cond (.t 17) (.seq (.reg [⟨(some 18), .faddr 1 (.t 7), none, [7]⟩,
 ⟨(some 19), .load none (.t 18), none, [18]⟩,
 ⟨(some 4), .asg (.t 19), none, [19]⟩,
 ⟨(some 5), .asg (.c (.b true)), none, []⟩])
 .ret)
 .skip))))
 (.reg [⟨(some 20), .bin .add (.t 10) (.c (.i .i64 1)), none, [10]⟩,
 ⟨(some 10), .mv (.t 20), none, [20]⟩])))))))
 (.seq (.reg [⟨(some 4), .asg (.c (.s [])), none, []⟩,
 ⟨(some 5), .asg (.c (.b false)), none, []⟩])
 .ret))), [.t 4, .t 5]⟩
/-- slices.Contains   string string  -/
def f269 : AFn := ⟨2, (.seq (.reg [⟨(some 4), .asg (.c (.b false)), none, [4]⟩])
 (.seq (.reg [⟨(some 5), .mv (.t 0), none, [0]⟩,
 ⟨(some 6), .mv (.t 1), none, [1]⟩,
 ⟨(some 7), .call 281 [(.t 5), (.t 6)], none, [5, 6]⟩,
 ⟨(some 8), .bin .geq (.t 7) (.c (.i .i64 0)), none, [7]⟩,
 ⟨(some 4), .asg (.t 8), none, [8]⟩])
 .ret)), [.t 4]⟩
/-- slices.EqualFunc   interrex/api.Term   interrex/api.Term interrex/api.Term interrex/api.Term  -/
def f270 : AFn := ⟨3, (.seq (.reg [⟨(some 6), .asg (.c (.b false)), none, [6]⟩])
 (.seq (.seq (.reg [⟨(some 10), .mv (.t 0), none, []⟩,
 ⟨(some 11), .lenL (.t 10), none, [10]⟩,
 ⟨(some 12), .mv (.t 1), none, []⟩,
 ⟨(some 13), .lenL (.t 12), none, [12]⟩,
 ⟨(some 14), .bin .neq (.t 11) (.t 13), none, [11, 13]⟩])
 (.cond (.t 14) (.seq (.reg [⟨(some 6), .asg (.c (.b false)), none, []⟩])
 .ret)
 .skip))
 (.seq (.seq (.reg [⟨(some 15), .mv (.t 0), none, [0]⟩,
 ⟨(some 16), .lenL (.t 15), none, []⟩,
 ⟨(some 17), .mv (.c (.i .i64 0)), none, []⟩])
 (.blk 0 (.loop (.seq (.reg [⟨(some 18), .bin .lss (.t 17) (.t 16), none, []⟩])
 (.seq (.cond (.t 18) .skip
 (.exit 0))
 (.seq (.blk 1 (.seq (.reg [⟨(some 19), .mv (.t 17), none, []⟩,
 ⟨(some 20), .iasl 3 (.t 15) (.t 17), none, []⟩,
 ⟨(some 21), .load (some 3) (.t 20), none, [20]⟩,
 ⟨(some 8), .alloc false [(.s []), (.i .i64 0), .nils], none, []⟩,
 ⟨(some 7), .asg (.t 19), none, [19]⟩,
 ⟨none, .store 3 (.t 8) (.t 21), none, [21]⟩])
 (.seq (.reg [⟨(some 22), .mv (.t 1), none, []⟩,
 ⟨(some 23), .mv (.t 7), none, [7]⟩,
 ⟨(some 24), .iasl 3 (.t 22) (.t 23), none, [22, 23]⟩,
 ⟨(some 25), .load (some 3) (.t 24), none, [24]⟩,
 ⟨(some 9), .alloc false [(.s []), (.i .i64 0), .nils], none, []⟩,
 ⟨none, .store 3 (.t 9) (.t 25), none, [25]⟩])
 (.seq (.reg [⟨(some 26), .mv (.t 2), none, []⟩,
 ⟨(some 27), .load (some 3) (.t 8), none, [8]⟩,
 ⟨(some 28), .load (some 3) (.t 9), none, [9]⟩,
 ⟨(some 29), .callv (.t 26) [(.t 27), (.t 28)], none, [26, 27, 28]⟩,
 ⟨(some 30), .un .not (.t 29), none, [29]⟩])
 (.cond (.t 30) (.seq (.reg [⟨(some 6), .asg (.c (.b false)), none, []⟩])
 .ret)
 .skip)))))
 (.reg [⟨(some 31), .bin .add (.t 17) (.c (.i .i64 1)), none, [17]⟩,
 ⟨(some 17), .mv (.t 31), none, [31]⟩])))))))
 (.seq (.reg [⟨(some 6), .asg (.c (.b true)), none, []⟩])
 .ret)))), [.t 6]⟩
/-- interrex/obj.eqTerms 1 -/
def f271 : AFn := ⟨2, (.seq (.reg [⟨(some 2), .box false (.t 0), none, [0]⟩,
 ⟨(some 3), .box false (.t 1), none, [1]⟩,
 ⟨(some 4), .asg (.c (.b false)), none, [4]⟩])
 (.seq (.reg [⟨(some 5), .faddr 0 (.t 2), none, []⟩,
 ⟨(some 6), .load none (.t 5), none, [5]⟩,
 ⟨(some 7), .faddr 0 (.t 3), none, []⟩,
 ⟨(some 8), .load none (.t 7), none, [7]⟩,
 ⟨(some 9), .bin .eql (.t 6) (.t 8), none, [6, 8]⟩,
 ⟨(some 10), .mv (.t 9), none, [9]⟩,
 ⟨(some 11), .faddr 1 (.t 2), (some (10, true)), []⟩,
 ⟨(some 12), .load none (.t 11), (some (10, true)), [11]⟩,
 ⟨(some 13), .faddr 1 (.t 3), (some (10, true)), []⟩,
 ⟨(some 14), .load none (.t 13), (some (10, true)), [13]⟩,
 ⟨(some 15), .bin .eql (.t 12) (.t 14), (some (10, true)), [12, 14]⟩,
 ⟨(some 16), .pick (.t 10) (.t 15) (.c (.b false)), none, [10, 15]⟩,
 ⟨(some 17), .mv (.t 16), none, [16]⟩,
 ⟨(some 18), .faddr 2 (.t 2), (some (17, true)), [2]⟩,
 ⟨(some 19), .load none (.t 18), (some (17, true)), [18]⟩,
 ⟨(some 20), .faddr 2 (.t 3), (some (17, true)), [3]⟩,
 ⟨(some 21), .load none (.t 20), (some (17, true)), [20]⟩,
 ⟨(some 22), .call 272 [(.t 19), (.t 21)], (some (17, true)), [19, 21]⟩,
 ⟨(some 23), .pick (.t 17) (.t 22) (.c (.b false)), none, [17, 22]⟩,
 ⟨(some 4), .asg (.t 23), none, [23]⟩])
 .ret)), [.t 4]⟩
/-- slices.Equal   string string  -/
def f272 : AFn := ⟨2, (.seq (.reg [⟨(some 4), .asg (.c (.b false)), none, [4]⟩])
 (.seq (.seq (.reg [⟨(some 6), .mv (.t 0), none, []⟩,
 ⟨(some 7), .lenL (.t 6), none, [6]⟩,
 ⟨(some 8), .mv (.t 1), none, []⟩,
 ⟨(some 9), .lenL (.t 8), none, [8]⟩,
 ⟨(some 10), .bin .neq (.t 7) (.t 9), none, [7, 9]⟩])
 (.cond (.t 10) (.seq (.reg [⟨(some 4), .asg (.c (.b false)), none, []⟩])
 .ret)
 .skip))
 (.seq (.seq (.reg [⟨(some 11), .mv (.t 0), none, []⟩,
 ⟨(some 12), .lenL (.t 11), none, [11]⟩,
 ⟨(some 13), .mv (.c (.i .i64 0)), none, []⟩])
 (.blk 0 (.loop (.seq (.reg [⟨(some 14), .bin .lss (.t 13) (.t 12), none, []⟩])
 (.seq (.cond (.t 14) .skip
 (.exit 0))
 (.seq (.blk 1 (.seq (.reg [⟨(some 15), .mv (.t 13), none, []⟩,
 ⟨(some 5), .asg (.t 15), none, [15]⟩])
 (.seq (.dreg [⟨0, ⟨(some 16), .mv (.t 0), none, []⟩, false, []⟩,
 ⟨1, ⟨(some 17), .mv (.t 5), none, []⟩, false, []⟩,
 ⟨2, ⟨(some 18), .iasl 1 (.t 16) (.t 17), none, []⟩, false, []⟩,
 ⟨3, ⟨(some 19), .load none (.t 18), none, []⟩, false, []⟩,
 ⟨4, ⟨(some 20), .mv (.t 1), none, []⟩, false, []⟩,
 ⟨5, ⟨(some 21), .mv (.t 5), none, []⟩, false, []⟩,
 ⟨6, ⟨(some 22), .iasl 1 (.t 20) (.t 21), none, []⟩, false, []⟩,
 ⟨7, ⟨(some 23), .load none (.t 22), none, []⟩, false, []⟩,
 ⟨8, ⟨(some 24), .bin .neq (.t 19) (.t 23), none, []⟩, false, []⟩] [16, 5, 17, 18, 19, 20, 21, 22, 23])
 (.cond (.t 24) (.seq (.reg [⟨(some 4), .asg (.c (.b false)), none, []⟩])
 .ret)
 .skip))))
 (.reg [⟨(some 25), .bin .add (.t 13) (.c (.i .i64 1)), none, [13]⟩,
 ⟨(some 13), .mv (.t 25), none, [25]⟩])))))))
 (.seq (.reg [⟨(some 4), .asg (.c (.b true)), none, []⟩])
 .ret)))), [.t 4]⟩
/-- slices.Index   string string  -/
def f281 : AFn := ⟨2, (.seq (.reg [⟨(some 4), .asg (.c (.i .i64 0)), none, [4]⟩])
 (.seq (.seq (.reg [⟨(some 6), .mv (.t 0), none, []⟩,
 ⟨(some 7), .lenL (.t 6), none, [6]⟩,
 ⟨(some 8), .mv (.c (.i .i64 0)), none, []⟩])
 (.blk 0 (.loop (.seq (.reg [⟨(some 9), .bin .lss (.t 8) (.t 7), none, []⟩])
 (.seq (.cond (.t 9) .skip
 (.exit 0))
 (.seq (.blk 1 (.seq (.reg [⟨(some 10), .mv (.t 8), none, []⟩,
 ⟨(some 5), .asg (.t 10), none, [10]⟩])
 (.seq (.reg [⟨(some 11), .mv (.t 1), none, []⟩,
 ⟨(some 12), .mv (.t 0), none, []⟩,
 ⟨(some 13), .mv (.t 5), none, []⟩,
 ⟨(some 14), .iasl 1 (.t 12) (.t 13), none, [12, 13]⟩,
 ⟨(some 15), .load none (.t 14), none, [14]⟩,
 ⟨(some 16), .bin .eql (.t 11) (.t 15), none, [11, 15]⟩])
 (.cond (.t 16) (.seq (.reg [⟨(some 17), .mv (.t 5), none, [5]⟩,
 ⟨(some 4), .asg (.t 17), none, [17]⟩])
 .ret)
 .skip))))
 (.reg [⟨(some 18), .bin .add (.t 8) (.c (.i .i64 1)), none, [8]⟩,
 ⟨(some 8), .mv (.t 18), none, [18]⟩])))))))
 (.seq (.reg [⟨(some 4), .asg (.c (.i .i64 (-1))), none, []⟩])
 .ret))), [.t 4]⟩
end Go.Eng.AF
