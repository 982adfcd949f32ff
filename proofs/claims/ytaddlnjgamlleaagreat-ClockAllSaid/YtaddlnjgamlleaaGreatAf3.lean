/-
Functions' abstract texts.
-/
import Derived.Test.YtaddlnjgamlleaaGreatEngExec
set_option maxRecDepth 100000
namespace Go.Eng.AF
open Go Go.Eng
/-- slices.medianAdjacentCmpFunc interrex/api.Node  -/
def f218 : AFn := ⟨4, (.seq (.reg [⟨(some 8), .asg (.c (.i .i64 0)), none, [8]⟩])
 (.seq (.reg [⟨(some 9), .mv (.t 0), none, [0]⟩,
 ⟨(some 10), .mv (.t 1), none, []⟩,
 ⟨(some 11), .bin .sub (.t 10) (.c (.i .i64 1)), none, [10]⟩,
 ⟨(some 12), .mv (.t 1), none, []⟩,
 ⟨(some 13), .mv (.t 1), none, [1]⟩,
 ⟨(some 14), .bin .add (.t 13) (.c (.i .i64 1)), none, [13]⟩,
 ⟨(some 15), .mv (.t 2), none, [2]⟩,
 ⟨(some 16), .mv (.t 3), none, [3]⟩,
 ⟨(some 17), .call 219 [(.t 9), (.t 11), (.t 12), (.t 14), (.t 15), (.t 16)], none, [9, 11, 12, 14, 15, 16]⟩,
 ⟨(some 8), .asg (.t 17), none, [17]⟩])
 .ret)), [.t 8]⟩
/-- slices.medianCmpFunc interrex/api.Node  -/
def f219 : AFn := ⟨6, (.seq (.reg [⟨(some 12), .asg (.c (.i .i64 0)), none, [12]⟩])
 (.seq (.reg [⟨(some 14), .mv (.t 0), none, []⟩,
 ⟨(some 15), .mv (.t 1), none, [1]⟩,
 ⟨(some 16), .mv (.t 2), none, [2]⟩,
 ⟨(some 17), .mv (.t 4), none, []⟩,
 ⟨(some 18), .mv (.t 5), none, []⟩,
 ⟨(some 19), .call 251 [(.t 14), (.t 15), (.t 16), (.t 17), (.t 18)], none, [14, 15, 16, 17, 18]⟩,
 ⟨(some 13), .mv (.t 19), none, [19]⟩,
 ⟨(some 20), .ext (.t 13) 0, none, []⟩,
 ⟨(some 21), .ext (.t 13) 1, none, [13]⟩,
 ⟨(some 1), .asg (.t 20), none, [20]⟩,
 ⟨(some 2), .asg (.t 21), none, [21]⟩])
 (.seq (.reg [⟨(some 23), .mv (.t 0), none, []⟩,
 ⟨(some 24), .mv (.t 2), none, [2]⟩,
 ⟨(some 25), .mv (.t 3), none, [3]⟩,
 ⟨(some 26), .mv (.t 4), none, []⟩,
 ⟨(some 27), .mv (.t 5), none, []⟩,
 ⟨(some 28), .call 251 [(.t 23), (.t 24), (.t 25), (.t 26), (.t 27)], none, [23, 24, 25, 26, 27]⟩,
 ⟨(some 22), .mv (.t 28), none, [28]⟩,
 ⟨(some 29), .ext (.t 22) 0, none, []⟩,
 ⟨(some 30), .ext (.t 22) 1, none, [22]⟩,
 ⟨(some 2), .asg (.t 29), none, [29]⟩,
 ⟨(some 3), .asg (.t 30), none, [30, 3]⟩])
 (.seq (.reg [⟨(some 32), .mv (.t 0), none, [0]⟩,
 ⟨(some 33), .mv (.t 1), none, [1]⟩,
 ⟨(some 34), .mv (.t 2), none, [2]⟩,
 ⟨(some 35), .mv (.t 4), none, [4]⟩,
 ⟨(some 36), .mv (.t 5), none, [5]⟩,
 ⟨(some 37), .call 251 [(.t 32), (.t 33), (.t 34), (.t 35), (.t 36)], none, [32, 33, 34, 35, 36]⟩,
 ⟨(some 31), .mv (.t 37), none, [37]⟩,
 ⟨(some 38), .ext (.t 31) 0, none, []⟩,
 ⟨(some 39), .ext (.t 31) 1, none, [31]⟩,
 ⟨(some 1), .asg (.t 38), none, [38, 1]⟩,
 ⟨(some 2), .asg (.t 39), none, [39]⟩])
 (.seq (.reg [⟨(some 40), .mv (.t 2), none, [2]⟩,
 ⟨(some 12), .asg (.t 40), none, [40]⟩])
 .ret))))), [.t 12]⟩
/-- slices.IndexFunc   interrex/api.Term interrex/api.Term  -/
def f220 : AFn := ⟨2, (.seq (.reg [⟨(some 4), .asg (.c (.i .i64 0)), none, [4]⟩])
 (.seq (.seq (.reg [⟨(some 6), .mv (.t 0), none, []⟩,
 ⟨(some 7), .lenL (.t 6), none, [6]⟩,
 ⟨(some 8), .mv (.c (.i .i64 0)), none, []⟩])
 (.blk 0 (.loop (.seq (.reg [⟨(some 9), .bin .lss (.t 8) (.t 7), none, []⟩])
 (.seq (.cond (.t 9) .skip
 (.exit 0))
 (.seq (.blk 1 (.seq (.reg [⟨(some 10), .mv (.t 8), none, []⟩,
 ⟨(some 5), .asg (.t 10), none, [10]⟩])
 (.seq (.reg [⟨(some 11), .mv (.t 1), none, []⟩,
 ⟨(some 12), .mv (.t 0), none, []⟩,
 ⟨(some 13), .mv (.t 5), none, []⟩,
 ⟨(some 14), .iasl 3 (.t 12) (.t 13), none, [12, 13]⟩,
 ⟨(some 15), .load (some 3) (.t 14), none, [14]⟩,
 ⟨(some 16), .callv (.t 11) [(.t 15)], none, [11, 15]⟩])
 (.cond (.t 16) (.seq (.reg [⟨(some 17), .mv (.t 5), none, [5]⟩,
 ⟨(some 4), .asg (.t 17), none, [17]⟩])
 .ret)
 .skip))))
 (.reg [⟨(some 18), .bin .add (.t 8) (.c (.i .i64 1)), none, [8]⟩,
 ⟨(some 8), .mv (.t 18), none, [18]⟩])))))))
 (.seq (.reg [⟨(some 4), .asg (.c (.i .i64 (-1))), none, []⟩])
 .ret))), [.t 4]⟩
/-- slices.ContainsFunc   string string  -/
def f221 : AFn := ⟨2, (.seq (.reg [⟨(some 4), .asg (.c (.b false)), none, [4]⟩])
 (.seq (.reg [⟨(some 5), .mv (.t 0), none, [0]⟩,
 ⟨(some 6), .mv (.t 1), none, [1]⟩,
 ⟨(some 7), .call 252 [(.t 5), (.t 6)], none, [5, 6]⟩,
 ⟨(some 8), .bin .geq (.t 7) (.c (.i .i64 0)), none, [7]⟩,
 ⟨(some 4), .asg (.t 8), none, [8]⟩])
 .ret)), [.t 4]⟩
/-- interrex/label.mayTerm 1 -/
def f222 : AFn := ⟨1, (.seq (.reg [⟨(some 2), .asg (.c (.b false)), none, [2]⟩])
 (.seq (.reg [⟨(some 3), .mv (.t 0), none, [0]⟩,
 ⟨(some 4), .call 82 [(.t 3)], none, [3]⟩,
 ⟨(some 5), .un .not (.t 4), none, [4]⟩,
 ⟨(some 2), .asg (.t 5), none, [5]⟩])
 .ret)), [.t 2]⟩
/-- slices.IndexFunc   interrex/api.Toler interrex/api.Toler  -/
def f223 : AFn := ⟨2, (.seq (.reg [⟨(some 4), .asg (.c (.i .i64 0)), none, [4]⟩])
 (.seq (.seq (.reg [⟨(some 6), .mv (.t 0), none, []⟩,
 ⟨(some 7), .lenL (.t 6), none, [6]⟩,
 ⟨(some 8), .mv (.c (.i .i64 0)), none, []⟩])
 (.blk 0 (.loop (.seq (.reg [⟨(some 9), .bin .lss (.t 8) (.t 7), none, []⟩])
 (.seq (.cond (.t 9) .skip
 (.exit 0))
 (.seq (.blk 1 (.seq (.reg [⟨(some 10), .mv (.t 8), none, []⟩,
 ⟨(some 5), .asg (.t 10), none, [10]⟩])
 (.seq (.reg [⟨(some 11), .mv (.t 1), none, []⟩,
 ⟨(some 12), .mv (.t 0), none, []⟩,
 ⟨(some 13), .mv (.t 5), none, []⟩,
 ⟨(some 14), .iasl 3 (.t 12) (.t 13), none, [12, 13]⟩,
 ⟨(some 15), .load (some 3) (.t 14), none, [14]⟩,
 ⟨(some 16), .callv (.t 11) [(.t 15)], none, [11, 15]⟩])
 (.cond (.t 16) (.seq (.reg [⟨(some 17), .mv (.t 5), none, [5]⟩,
 ⟨(some 4), .asg (.t 17), none, [17]⟩])
 .ret)
 .skip))))
 (.reg [⟨(some 18), .bin .add (.t 8) (.c (.i .i64 1)), none, [8]⟩,
 ⟨(some 8), .mv (.t 18), none, [18]⟩])))))))
 (.seq (.reg [⟨(some 4), .asg (.c (.i .i64 (-1))), none, []⟩])
 .ret))), [.t 4]⟩
/-- slices.DeleteFunc   interrex/api.Event interrex/api.Event  -/
def f226 : AFn := ⟨2, (.seq (.reg [⟨(some 4), .asg (.c .nils), none, [4]⟩])
 (.seq (.reg [⟨(some 8), .mv (.t 0), none, []⟩,
 ⟨(some 9), .mv (.t 1), none, []⟩,
 ⟨(some 10), .call 257 [(.t 8), (.t 9)], none, [8, 9]⟩,
 ⟨(some 5), .asg (.t 10), none, [10]⟩])
 (.seq (.seq (.reg [⟨(some 11), .mv (.t 5), none, []⟩,
 ⟨(some 12), .bin .eql (.t 11) (.c (.i .i64 (-1))), none, [11]⟩])
 (.cond (.t 12) (.seq (.reg [⟨(some 13), .mv (.t 0), none, [0]⟩,
 ⟨(some 4), .asg (.t 13), none, [13]⟩])
 .ret)
 .skip))
 (.seq (.seq (.reg [⟨(some 14), .mv (.t 5), none, []⟩,
 ⟨(some 15), .bin .add (.t 14) (.c (.i .i64 1)), none, [14]⟩,
 ⟨(some 6), .asg (.t 15), none, [15]⟩])
 (.blk 0 (.loop (.seq (.seq (.reg [⟨(some 16), .mv (.t 6), none, []⟩,
 ⟨(some 17), .mv (.t 0), none, []⟩,
 ⟨(some 18), .lenL (.t 17), none, [17]⟩,
 ⟨(some 19), .bin .lss (.t 16) (.t 18), none, [16, 18]⟩])
 (.cond (.t 19) .skip
 (.exit 0)))
 (.seq (.blk 1 (.seq (.reg [⟨(some 22), .mv (.t 0), none, []⟩,
 ⟨(some 23), .mv (.t 6), none, []⟩,
 ⟨(some 24), .iasl 4 (.t 22) (.t 23), none, [22, 23]⟩,
 ⟨(some 25), .load (some 4) (.t 24), none, [24]⟩,
 ⟨(some 7), .alloc false [(.i .i64 0), (.s []), .nils, (.b false)], none, []⟩,
 ⟨none, .store 4 (.t 7) (.t 25), none, [25]⟩])
 (.seq (.reg [⟨(some 26), .mv (.t 1), none, []⟩,
 ⟨(some 27), .load (some 4) (.t 7), none, []⟩,
 ⟨(some 28), .callv (.t 26) [(.t 27)], none, [26, 27]⟩,
 ⟨(some 29), .un .not (.t 28), none, [28]⟩])
 (.cond (.t 29) (.seq (.reg [⟨(some 30), .mv (.t 0), none, []⟩,
 ⟨(some 31), .mv (.t 5), none, []⟩,
 ⟨(some 32), .load (some 4) (.t 7), none, [7]⟩,
 ⟨(some 33), .iasl 4 (.t 30) (.t 31), none, [30, 31]⟩,
 ⟨none, .store 4 (.t 33) (.t 32), none, [33, 32]⟩])
 (.reg [⟨(some 34), .mv (.t 5), none, [5]⟩,
 ⟨(some 35), .bin .add (.t 34) (.c (.i .i64 1)), none, [34]⟩,
 ⟨(some 5), .asg (.t 35), none, [35]⟩]))
 .skip))))
 (.reg [⟨(some 20), .mv (.t 6), none, [6]⟩,
 ⟨(some 21), .bin .add (.t 20) (.c (.i .i64 1)), none, [20]⟩,
 ⟨(some 6), .asg (.t 21), none, [21]⟩]))))))
 (.seq (.reg [⟨(some 36), .mv (.t 0), none, []⟩,
 ⟨(some 37), .mv (.t 5), none, []⟩,
 ⟨(some 38), .slsl 4 (.t 36) (some (.t 37)) none none, none, [36, 37]⟩,
 ⟨none, .clear 4 [(.i .i64 0), (.s []), .nils, (.b false)] (.t 38), none, [38]⟩])
 (.seq (.reg [⟨(some 39), .mv (.t 0), none, [0]⟩,
 ⟨(some 40), .mv (.t 5), none, [5]⟩,
 ⟨(some 41), .slsl 4 (.t 39) none (some (.t 40)) none, none, [39, 40]⟩,
 ⟨(some 4), .asg (.t 41), none, [41]⟩])
 .ret)))))), [.t 4]⟩
/-- ( interrex/log.Log).Cut 1 -/
def f227 : AFn := ⟨2, (.seq (.reg [⟨(some 2), .box false (.t 0), none, [0]⟩,
 ⟨(some 3), .asg (.c (.b false)), none, [3]⟩])
 (.seq (.reg [⟨(some 4), .faddr 0 (.t 2), none, [2]⟩,
 ⟨(some 5), .load none (.t 4), none, [4]⟩,
 ⟨(some 6), .load none (.t 1), none, [1]⟩,
 ⟨(some 7), .bin .leq (.t 5) (.t 6), none, [5, 6]⟩,
 ⟨(some 3), .asg (.t 7), none, [7]⟩])
 .ret)), [.t 3]⟩
/-- interrex/store.may -/
def f229 : AFn := ⟨1, (.seq (.reg [⟨(some 1), .box false (.t 0), none, [0]⟩,
 ⟨(some 2), .asg (.c (.b false)), none, [2]⟩])
 (.seq (.seq (.reg [⟨(some 8), .faddr 0 (.t 1), none, []⟩,
 ⟨(some 9), .load none (.t 8), none, [8]⟩,
 ⟨(some 10), .lenL (.t 9), none, [9]⟩,
 ⟨(some 11), .bin .gtr (.t 10) (.c (.i .i64 20)), none, [10]⟩,
 ⟨(some 12), .mv (.t 11), none, [11]⟩,
 ⟨(some 13), .faddr 1 (.t 1), (some (12, false)), []⟩,
 ⟨(some 14), .load none (.t 13), (some (12, false)), [13]⟩,
 ⟨(some 15), .lenL (.t 14), (some (12, false)), [14]⟩,
 ⟨(some 16), .bin .lss (.t 15) (.c (.i .i64 1)), (some (12, false)), [15]⟩,
 ⟨(some 17), .pick (.t 12) (.c (.b true)) (.t 16), none, [12, 16]⟩,
 ⟨(some 18), .mv (.t 17), none, [17]⟩,
 ⟨(some 19), .faddr 1 (.t 1), (some (18, false)), []⟩,
 ⟨(some 20), .load none (.t 19), (some (18, false)), [19]⟩,
 ⟨(some 21), .lenL (.t 20), (some (18, false)), [20]⟩,
 ⟨(some 22), .bin .gtr (.t 21) (.c (.i .i64 64)), (some (18, false)), [21]⟩,
 ⟨(some 23), .pick (.t 18) (.c (.b true)) (.t 22), none, [18, 22]⟩])
 (.cond (.t 23) (.seq (.reg [⟨(some 2), .asg (.c (.b false)), none, []⟩])
 .ret)
 .skip))
 (.seq (.seq (.reg [⟨(some 24), .faddr 0 (.t 1), none, []⟩,
 ⟨(some 25), .load none (.t 24), none, [24]⟩,
 ⟨(some 26), .lenL (.t 25), none, []⟩,
 ⟨(some 27), .mv (.c (.i .i64 0)), none, []⟩])
 (.blk 0 (.loop (.seq (.reg [⟨(some 28), .bin .lss (.t 27) (.t 26), none, []⟩])
 (.seq (.cond (.t 28) .skip
 (.exit 0))
 (.seq (.blk 1 (.seq (.reg [⟨(some 29), .iasl 3 (.t 25) (.t 27), none, []⟩,
 ⟨(some 30), .load (some 3) (.t 29), none, [29]⟩,
 ⟨(some 4), .alloc false [(.s []), (.i .i64 0), (.b false)], none, []⟩,
 ⟨none, .store 3 (.t 4) (.t 30), none, [30]⟩])
 (.seq (.reg [⟨(some 31), .faddr 0 (.t 4), none, []⟩,
 ⟨(some 32), .load none (.t 31), none, [31]⟩,
 ⟨(some 33), .call 258 [(.t 32)], none, [32]⟩,
 ⟨(some 34), .un .not (.t 33), none, [33]⟩,
 ⟨(some 35), .mv (.t 34), none, [34]⟩,
 ⟨(some 36), .faddr 1 (.t 4), (some (35, false)), [4]⟩,
 ⟨(some 37), .load none (.t 36), (some (35, false)), [36]⟩,
 ⟨(some 38), .bin .lss (.t 37) (.c (.i .i64 0)), (some (35, false)), [37]⟩,
 ⟨(some 39), .pick (.t 35) (.c (.b true)) (.t 38), none, [35, 38]⟩])
 (.cond (.t 39) (.seq (.reg [⟨(some 2), .asg (.c (.b false)), none, []⟩])
 .ret)
 .skip))))
 (.reg [⟨(some 40), .bin .add (.t 27) (.c (.i .i64 1)), none, [27]⟩,
 ⟨(some 27), .mv (.t 40), none, [40]⟩])))))))
 (.seq (.reg [⟨(some 41), .mkmap true none, none, []⟩,
 ⟨(some 5), .asg (.t 41), none, [41]⟩])
 (.seq (.seq (.reg [⟨(some 42), .faddr 1 (.t 1), none, [1]⟩,
 ⟨(some 43), .load none (.t 42), none, [42]⟩,
 ⟨(some 44), .lenL (.t 43), none, []⟩,
 ⟨(some 45), .mv (.c (.i .i64 0)), none, []⟩])
 (.blk 2 (.loop (.seq (.reg [⟨(some 46), .bin .lss (.t 45) (.t 44), none, []⟩])
 (.seq (.cond (.t 46) .skip
 (.exit 2))
 (.seq (.blk 3 (.seq (.reg [⟨(some 47), .iasl 3 (.t 43) (.t 45), none, []⟩,
 ⟨(some 48), .load (some 3) (.t 47), none, [47]⟩,
 ⟨(some 7), .alloc false [(.s []), .nils, (.b false)], none, []⟩,
 ⟨none, .store 3 (.t 7) (.t 48), none, [48]⟩])
 (.seq (.seq (.reg [⟨(some 49), .faddr 0 (.t 7), none, []⟩,
 ⟨(some 50), .load none (.t 49), none, [49]⟩,
 ⟨(some 51), .call 258 [(.t 50)], none, [50]⟩,
 ⟨(some 52), .un .not (.t 51), none, [51]⟩,
 ⟨(some 53), .mv (.t 52), none, [52]⟩,
 ⟨(some 54), .mv (.t 5), (some (53, false)), []⟩,
 ⟨(some 55), .faddr 0 (.t 7), (some (53, false)), []⟩,
 ⟨(some 56), .load none (.t 55), (some (53, false)), [55]⟩,
 ⟨(some 57), .lkp none (.b false) (.t 54) (.t 56) false, (some (53, false)), [54, 56]⟩,
 ⟨(some 58), .pick (.t 53) (.c (.b true)) (.t 57), none, [53, 57]⟩,
 ⟨(some 59), .mv (.t 58), none, [58]⟩,
 ⟨(some 60), .faddr 2 (.t 7), (some (59, false)), []⟩,
 ⟨(some 61), .load none (.t 60), (some (59, false)), [60]⟩,
 ⟨(some 62), .mv (.t 61), (some (59, false)), [61]⟩,
 ⟨(some 63), .faddr 1 (.t 7), (some (62, true)), []⟩,
 ⟨(some 64), .load none (.t 63), (some (62, true)), [63]⟩,
 ⟨(some 65), .lenL (.t 64), (some (62, true)), [64]⟩,
 ⟨(some 66), .bin .gtr (.t 65) (.c (.i .i64 0)), (some (62, true)), [65]⟩,
 ⟨(some 67), .pick (.t 62) (.t 66) (.c (.b false)), (some (59, false)), [62, 66]⟩,
 ⟨(some 68), .pick (.t 59) (.c (.b true)) (.t 67), none, [59, 67]⟩,
 ⟨(some 69), .mv (.t 68), none, [68]⟩,
 ⟨(some 70), .faddr 1 (.t 7), (some (69, false)), []⟩,
 ⟨(some 71), .load none (.t 70), (some (69, false)), [70]⟩,
 ⟨(some 72), .lenL (.t 71), (some (69, false)), [71]⟩,
 ⟨(some 73), .bin .gtr (.t 72) (.c (.i .i64 4000)), (some (69, false)), [72]⟩,
 ⟨(some 74), .pick (.t 69) (.c (.b true)) (.t 73), none, [69, 73]⟩])
 (.cond (.t 74) (.seq (.reg [⟨(some 2), .asg (.c (.b false)), none, []⟩])
 .ret)
 .skip))
 (.reg [⟨(some 75), .mv (.t 5), none, []⟩,
 ⟨(some 76), .faddr 0 (.t 7), none, [7]⟩,
 ⟨(some 77), .load none (.t 76), none, [76]⟩,
 ⟨none, .mupd none (.t 75) (.t 77) (.c (.b true)), none, [75, 77]⟩]))))
 (.reg [⟨(some 78), .bin .add (.t 45) (.c (.i .i64 1)), none, [45]⟩,
 ⟨(some 45), .mv (.t 78), none, [78]⟩])))))))
 (.seq (.reg [⟨(some 2), .asg (.c (.b true)), none, []⟩])
 .ret)))))), [.t 2]⟩
/-- ( interrex/store.Store).holds -/
def f230 : AFn := ⟨2, (.seq (.reg [⟨(some 3), .box false (.t 1), none, [1]⟩,
 ⟨(some 4), .asg (.c (.b false)), none, [4]⟩])
 (.seq (.seq (.reg [⟨(some 7), .faddr 2 (.t 3), none, []⟩,
 ⟨(some 8), .load none (.t 7), none, [7]⟩,
 ⟨(some 9), .un .not (.t 8), none, [8]⟩])
 (.cond (.t 9) (.seq (.dreg [⟨0, ⟨(some 10), .mv (.t 0), none, []⟩, false, []⟩,
 ⟨1, ⟨(some 11), .nilc (.t 10), none, []⟩, false, []⟩,
 ⟨2, ⟨(some 12), .faddr 1 (.t 11), none, []⟩, false, []⟩,
 ⟨3, ⟨(some 13), .load none (.t 12), none, []⟩, false, []⟩,
 ⟨4, ⟨(some 14), .faddr 0 (.t 3), none, []⟩, false, []⟩,
 ⟨5, ⟨(some 15), .load none (.t 14), none, []⟩, false, []⟩,
 ⟨6, ⟨(some 16), .lkp none (.agg [(.s []), (.i .i64 0), .nils]) (.t 13) (.t 15) false, none, []⟩, false, []⟩,
 ⟨7, ⟨(some 17), .fld 1 none (.t 16), none, []⟩, false, []⟩,
 ⟨8, ⟨(some 18), .faddr 1 (.t 3), none, []⟩, false, []⟩,
 ⟨9, ⟨(some 19), .load none (.t 18), none, []⟩, false, []⟩,
 ⟨10, ⟨(some 20), .bin .eql (.t 17) (.t 19), none, []⟩, false, []⟩,
 ⟨11, ⟨(some 4), .asg (.t 20), none, []⟩, false, []⟩] [0, 10, 11, 12, 13, 3, 14, 15, 16, 17, 18, 19, 20])
 .ret)
 .skip))
 (.seq (.seq (.reg [⟨(some 21), .mv (.t 0), none, [0]⟩,
 ⟨(some 22), .nilc (.t 21), none, [21]⟩,
 ⟨(some 23), .faddr 2 (.t 22), none, [22]⟩,
 ⟨(some 24), .load none (.t 23), none, [23]⟩,
 ⟨(some 25), .no, none, [24]⟩])
 (.blk 0 (.loop (.seq (.reg [⟨(some 26), .no, none, []⟩,
 ⟨(some 27), .ext (.t 26) 0, none, [26]⟩])
 (.seq (.cond (.t 27) .skip
 (.exit 0))
 (.blk 1 (.seq (.reg [⟨(some 28), .no, none, []⟩,
 ⟨(some 29), .ext (.t 28) 0, none, []⟩,
 ⟨(some 30), .ext (.t 28) 1, none, [28]⟩,
 ⟨(some 5), .asg (.t 29), none, [29]⟩,
 ⟨(some 6), .asg (.t 30), none, [30]⟩])
 (.seq (.reg [⟨(some 31), .mv (.t 6), none, [6]⟩,
 ⟨(some 32), .faddr 1 (.t 3), none, []⟩,
 ⟨(some 33), .load none (.t 32), none, [32]⟩,
 ⟨(some 34), .bin .gtr (.t 31) (.t 33), none, [31, 33]⟩,
 ⟨(some 35), .mv (.t 34), none, [34]⟩,
 ⟨(some 36), .mv (.t 5), (some (35, true)), [5]⟩,
 ⟨(some 37), .faddr 0 (.t 3), (some (35, true)), []⟩,
 ⟨(some 38), .load none (.t 37), (some (35, true)), [37]⟩,
 ⟨(some 39), .call 259 [(.t 36), (.t 38)], (some (35, true)), [36, 38]⟩,
 ⟨(some 40), .pick (.t 35) (.t 39) (.c (.b false)), none, [35, 39]⟩])
 (.cond (.t 40) (.seq (.reg [⟨(some 4), .asg (.c (.b false)), none, []⟩])
 .ret)
 .skip)))))))))
 (.seq (.reg [⟨(some 4), .asg (.c (.b true)), none, []⟩])
 .ret)))), [.t 4]⟩
/-- interrex/call.bare -/
def f231 : AFn := ⟨1, (.seq (.reg [⟨(some 1), .box false (.t 0), none, [0]⟩,
 ⟨(some 2), .alloc false [(.i .i64 0), (.i .i64 0), (.i .i64 0), (.s []), (.i .i64 0), .nils, .nils], none, []⟩])
 (.seq (.reg [⟨(some 4), .faddr 0 (.t 1), none, []⟩,
 ⟨(some 5), .load none (.t 4), none, [4]⟩,
 ⟨(some 6), .faddr 1 (.t 1), none, []⟩,
 ⟨(some 7), .load none (.t 6), none, [6]⟩,
 ⟨(some 8), .faddr 2 (.t 1), none, []⟩,
 ⟨(some 9), .load none (.t 8), none, [8]⟩,
 ⟨(some 10), .bld [(.i .i64 0), (.i .i64 0), (.i .i64 0), (.s []), (.i .i64 0), .nils, .nils] [(0, 1, (.t 5)), (1, 1, (.t 7)), (2, 1, (.t 9))], none, [5, 7, 9]⟩,
 ⟨(some 3), .alloc false [(.i .i64 0), (.i .i64 0), (.i .i64 0), (.s []), (.i .i64 0), .nils, .nils], none, []⟩,
 ⟨none, .store 7 (.t 3) (.t 10), none, [10]⟩])
 (.seq (.seq (.reg [⟨(some 11), .faddr 2 (.t 1), none, []⟩,
 ⟨(some 12), .load none (.t 11), none, [11]⟩])
 (.blk 0 (.seq (.reg [⟨(some 14), .bin .eql (.t 12) (.c (.i .i64 1)), none, []⟩,
 ⟨(some 13), .asg (.t 14), none, [14]⟩])
 (.cond (.t 13) (.reg [⟨(some 15), .faddr 3 (.t 1), none, [1]⟩,
 ⟨(some 16), .load none (.t 15), none, [15]⟩,
 ⟨(some 17), .faddr 3 (.t 3), none, []⟩,
 ⟨none, .store 1 (.t 17) (.t 16), none, [17, 16]⟩])
 (.seq (.reg [⟨(some 19), .bin .eql (.t 12) (.c (.i .i64 3)), none, []⟩,
 ⟨(some 18), .asg (.t 19), none, [19]⟩])
 (.cond (.t 18) (.reg [⟨(some 20), .faddr 4 (.t 1), none, [1]⟩,
 ⟨(some 21), .load none (.t 20), none, [20]⟩,
 ⟨(some 22), .faddr 4 (.t 3), none, []⟩,
 ⟨none, .store 1 (.t 22) (.t 21), none, [22, 21]⟩])
 (.seq (.reg [⟨(some 24), .bin .eql (.t 12) (.c (.i .i64 4)), none, [12]⟩,
 ⟨(some 23), .asg (.t 24), none, [24]⟩])
 (.cond (.t 23) (.reg [⟨(some 25), .faddr 5 (.t 1), none, [1]⟩,
 ⟨(some 26), .load (some 2) (.t 25), none, [25]⟩,
 ⟨(some 27), .faddr 5 (.t 3), none, []⟩,
 ⟨none, .store 2 (.t 27) (.t 26), none, [27, 26]⟩])
 .skip))))))))
 (.seq (.reg [⟨(some 28), .load (some 7) (.t 3), none, [3]⟩,
 ⟨none, .store 7 (.t 2) (.t 28), none, [28]⟩])
 .ret)))), [.cell 2 (some 7)]⟩
/-- interrex/call.key -/
def f232 : AFn := ⟨1, (.seq (.reg [⟨(some 2), .asg (.c (.b false)), none, [2]⟩])
 (.seq (.reg [⟨(some 3), .mv (.t 0), none, []⟩,
 ⟨(some 4), .lenS (.t 3), none, [3]⟩,
 ⟨(some 5), .bin .geq (.t 4) (.c (.i .i64 1)), none, [4]⟩,
 ⟨(some 6), .mv (.t 5), none, [5]⟩,
 ⟨(some 7), .mv (.t 0), (some (6, true)), [0]⟩,
 ⟨(some 8), .lenS (.t 7), (some (6, true)), [7]⟩,
 ⟨(some 9), .bin .leq (.t 8) (.c (.i .i64 20)), (some (6, true)), [8]⟩,
 ⟨(some 10), .pick (.t 6) (.t 9) (.c (.b false)), none, [6, 9]⟩,
 ⟨(some 2), .asg (.t 10), none, [10]⟩])
 .ret)), [.t 2]⟩
/-- interrex/call.rev -/
def f233 : AFn := ⟨1, (.seq (.reg [⟨(some 2), .asg (.c (.b false)), none, [2]⟩])
 (.seq (.reg [⟨(some 3), .mv (.t 0), none, []⟩,
 ⟨(some 4), .bin .geq (.t 3) (.c (.i .i64 0)), none, [3]⟩,
 ⟨(some 5), .mv (.t 4), none, [4]⟩,
 ⟨(some 6), .mv (.t 0), (some (5, true)), [0]⟩,
 ⟨(some 7), .bin .leq (.t 6) (.c (.i .i64 1099511627776)), (some (5, true)), [6]⟩,
 ⟨(some 8), .pick (.t 5) (.t 7) (.c (.b false)), none, [5, 7]⟩,
 ⟨(some 2), .asg (.t 8), none, [8]⟩])
 .ret)), [.t 2]⟩
/-- interrex/call.mayTxn -/
def f234 : AFn := ⟨1, (.seq (.reg [⟨(some 1), .box false (.t 0), none, [0]⟩,
 ⟨(some 2), .asg (.c (.b false)), none, [2]⟩])
 (.seq (.seq (.reg [⟨(some 7), .faddr 0 (.t 1), none, []⟩,
 ⟨(some 8), .load none (.t 7), none, [7]⟩,
 ⟨(some 9), .lenL (.t 8), none, [8]⟩,
 ⟨(some 10), .bin .gtr (.t 9) (.c (.i .i64 20)), none, [9]⟩,
 ⟨(some 11), .mv (.t 10), none, [10]⟩,
 ⟨(some 12), .faddr 1 (.t 1), (some (11, false)), []⟩,
 ⟨(some 13), .load none (.t 12), (some (11, false)), [12]⟩,
 ⟨(some 14), .lenL (.t 13), (some (11, false)), [13]⟩,
 ⟨(some 15), .bin .gtr (.t 14) (.c (.i .i64 64)), (some (11, false)), [14]⟩,
 ⟨(some 16), .pick (.t 11) (.c (.b true)) (.t 15), none, [11, 15]⟩])
 (.cond (.t 16) (.seq (.reg [⟨(some 2), .asg (.c (.b false)), none, []⟩])
 .ret)
 .skip))
 (.seq (.seq (.reg [⟨(some 17), .faddr 0 (.t 1), none, []⟩,
 ⟨(some 18), .load none (.t 17), none, [17]⟩,
 ⟨(some 19), .lenL (.t 18), none, []⟩,
 ⟨(some 20), .mv (.c (.i .i64 0)), none, []⟩])
 (.blk 0 (.loop (.seq (.reg [⟨(some 21), .bin .lss (.t 20) (.t 19), none, []⟩])
 (.seq (.cond (.t 21) .skip
 (.exit 0))
 (.seq (.blk 1 (.seq (.reg [⟨(some 22), .iasl 3 (.t 18) (.t 20), none, []⟩,
 ⟨(some 23), .load (some 3) (.t 22), none, [22]⟩,
 ⟨(some 4), .alloc false [(.s []), (.i .i64 0), (.b false)], none, []⟩,
 ⟨none, .store 3 (.t 4) (.t 23), none, [23]⟩])
 (.seq (.reg [⟨(some 24), .faddr 0 (.t 4), none, []⟩,
 ⟨(some 25), .load none (.t 24), none, [24]⟩,
 ⟨(some 26), .call 232 [(.t 25)], none, [25]⟩,
 ⟨(some 27), .un .not (.t 26), none, [26]⟩,
 ⟨(some 28), .mv (.t 27), none, [27]⟩,
 ⟨(some 29), .faddr 1 (.t 4), (some (28, false)), [4]⟩,
 ⟨(some 30), .load none (.t 29), (some (28, false)), [29]⟩,
 ⟨(some 31), .call 233 [(.t 30)], (some (28, false)), [30]⟩,
 ⟨(some 32), .un .not (.t 31), (some (28, false)), [31]⟩,
 ⟨(some 33), .pick (.t 28) (.c (.b true)) (.t 32), none, [28, 32]⟩])
 (.cond (.t 33) (.seq (.reg [⟨(some 2), .asg (.c (.b false)), none, []⟩])
 .ret)
 .skip))))
 (.reg [⟨(some 34), .bin .add (.t 20) (.c (.i .i64 1)), none, [20]⟩,
 ⟨(some 20), .mv (.t 34), none, [34]⟩])))))))
 (.seq (.seq (.reg [⟨(some 35), .faddr 1 (.t 1), none, [1]⟩,
 ⟨(some 36), .load none (.t 35), none, [35]⟩,
 ⟨(some 37), .lenL (.t 36), none, []⟩,
 ⟨(some 38), .mv (.c (.i .i64 0)), none, []⟩])
 (.blk 2 (.loop (.seq (.reg [⟨(some 39), .bin .lss (.t 38) (.t 37), none, []⟩])
 (.seq (.cond (.t 39) .skip
 (.exit 2))
 (.seq (.blk 3 (.seq (.reg [⟨(some 40), .iasl 3 (.t 36) (.t 38), none, []⟩,
 ⟨(some 41), .load (some 3) (.t 40), none, [40]⟩,
 ⟨(some 6), .alloc false [(.s []), .nils, (.b false)], none, []⟩,
 ⟨none, .store 3 (.t 6) (.t 41), none, [41]⟩])
 (.seq (.reg [⟨(some 42), .faddr 0 (.t 6), none, []⟩,
 ⟨(some 43), .load none (.t 42), none, [42]⟩,
 ⟨(some 44), .call 232 [(.t 43)], none, [43]⟩,
 ⟨(some 45), .un .not (.t 44), none, [44]⟩,
 ⟨(some 46), .mv (.t 45), none, [45]⟩,
 ⟨(some 47), .faddr 1 (.t 6), (some (46, false)), [6]⟩,
 ⟨(some 48), .load none (.t 47), (some (46, false)), [47]⟩,
 ⟨(some 49), .lenL (.t 48), (some (46, false)), [48]⟩,
 ⟨(some 50), .bin .gtr (.t 49) (.c (.i .i64 4000)), (some (46, false)), [49]⟩,
 ⟨(some 51), .pick (.t 46) (.c (.b true)) (.t 50), none, [46, 50]⟩])
 (.cond (.t 51) (.seq (.reg [⟨(some 2), .asg (.c (.b false)), none, []⟩])
 .ret)
 .skip))))
 (.reg [⟨(some 52), .bin .add (.t 38) (.c (.i .i64 1)), none, [38]⟩,
 ⟨(some 38), .mv (.t 52), none, [52]⟩])))))))
 (.seq (.reg [⟨(some 2), .asg (.c (.b true)), none, []⟩])
 .ret))))), [.t 2]⟩
/-- slices.ContainsFunc   interrex/api.Entry interrex/api.Entry  -/
def f235 : AFn := ⟨2, (.seq (.reg [⟨(some 4), .asg (.c (.b false)), none, [4]⟩])
 (.seq (.reg [⟨(some 5), .mv (.t 0), none, [0]⟩,
 ⟨(some 6), .mv (.t 1), none, [1]⟩,
 ⟨(some 7), .call 260 [(.t 5), (.t 6)], none, [5, 6]⟩,
 ⟨(some 8), .bin .geq (.t 7) (.c (.i .i64 0)), none, [7]⟩,
 ⟨(some 4), .asg (.t 8), none, [8]⟩])
 .ret)), [.t 4]⟩
/-- interrex/reply.May 1 -/
def f236 : AFn := ⟨1, (.seq (.reg [⟨(some 1), .box false (.t 0), none, [0]⟩,
 ⟨(some 2), .asg (.c (.b false)), none, [2]⟩])
 (.seq (.reg [⟨(some 3), .faddr 0 (.t 1), none, []⟩,
 ⟨(some 4), .load none (.t 3), none, [3]⟩,
 ⟨(some 5), .faddr 1 (.t 1), none, []⟩,
 ⟨(some 6), .load none (.t 5), none, [5]⟩,
 ⟨(some 7), .faddr 2 (.t 1), none, [1]⟩,
 ⟨(some 8), .load none (.t 7), none, [7]⟩,
 ⟨(some 9), .call 237 [(.t 4), (.t 6), (.t 8)], none, [4, 6, 8]⟩,
 ⟨(some 10), .un .not (.t 9), none, [9]⟩,
 ⟨(some 2), .asg (.t 10), none, [10]⟩])
 .ret)), [.t 2]⟩
/-- interrex/reply.row -/
def f237 : AFn := ⟨3, (.seq (.reg [⟨(some 6), .asg (.c (.b false)), none, [6]⟩])
 (.seq (.reg [⟨(some 7), .mv (.t 0), none, []⟩,
 ⟨(some 8), .lenS (.t 7), none, [7]⟩,
 ⟨(some 9), .bin .geq (.t 8) (.c (.i .i64 1)), none, [8]⟩,
 ⟨(some 10), .mv (.t 9), none, [9]⟩,
 ⟨(some 11), .mv (.t 0), (some (10, true)), [0]⟩,
 ⟨(some 12), .lenS (.t 11), (some (10, true)), [11]⟩,
 ⟨(some 13), .bin .leq (.t 12) (.c (.i .i64 20)), (some (10, true)), [12]⟩,
 ⟨(some 14), .pick (.t 10) (.t 13) (.c (.b false)), none, [10, 13]⟩,
 ⟨(some 15), .mv (.t 14), none, [14]⟩,
 ⟨(some 16), .mv (.t 1), (some (15, true)), []⟩,
 ⟨(some 17), .bin .geq (.t 16) (.c (.i .i64 1)), (some (15, true)), [16]⟩,
 ⟨(some 18), .pick (.t 15) (.t 17) (.c (.b false)), none, [15, 17]⟩,
 ⟨(some 19), .mv (.t 18), none, [18]⟩,
 ⟨(some 20), .mv (.t 1), (some (19, true)), [1]⟩,
 ⟨(some 21), .bin .leq (.t 20) (.c (.i .i64 1099511627776)), (some (19, true)), [20]⟩,
 ⟨(some 22), .pick (.t 19) (.t 21) (.c (.b false)), none, [19, 21]⟩,
 ⟨(some 23), .mv (.t 22), none, [22]⟩,
 ⟨(some 24), .mv (.t 2), (some (23, true)), [2]⟩,
 ⟨(some 25), .lenL (.t 24), (some (23, true)), [24]⟩,
 ⟨(some 26), .bin .leq (.t 25) (.c (.i .i64 4000)), (some (23, true)), [25]⟩,
 ⟨(some 27), .pick (.t 23) (.t 26) (.c (.b false)), none, [23, 26]⟩,
 ⟨(some 6), .asg (.t 27), none, [27]⟩])
 .ret)), [.t 6]⟩
/-- slices.ContainsFunc   interrex/api.Event interrex/api.Event  -/
def f238 : AFn := ⟨2, (.seq (.reg [⟨(some 4), .asg (.c (.b false)), none, [4]⟩])
 (.seq (.reg [⟨(some 5), .mv (.t 0), none, [0]⟩,
 ⟨(some 6), .mv (.t 1), none, [1]⟩,
 ⟨(some 7), .call 257 [(.t 5), (.t 6)], none, [5, 6]⟩,
 ⟨(some 8), .bin .geq (.t 7) (.c (.i .i64 0)), none, [7]⟩,
 ⟨(some 4), .asg (.t 8), none, [8]⟩])
 .ret)), [.t 4]⟩
/-- interrex/reply.May 2 -/
def f239 : AFn := ⟨1, (.seq (.reg [⟨(some 1), .box false (.t 0), none, [0]⟩,
 ⟨(some 2), .asg (.c (.b false)), none, [2]⟩])
 (.seq (.reg [⟨(some 3), .faddr 1 (.t 1), none, []⟩,
 ⟨(some 4), .load none (.t 3), none, [3]⟩,
 ⟨(some 5), .faddr 0 (.t 1), none, []⟩,
 ⟨(some 6), .load none (.t 5), none, [5]⟩,
 ⟨(some 7), .faddr 2 (.t 1), none, []⟩,
 ⟨(some 8), .load none (.t 7), none, [7]⟩,
 ⟨(some 9), .call 237 [(.t 4), (.t 6), (.t 8)], none, [4, 6, 8]⟩,
 ⟨(some 10), .un .not (.t 9), none, [9]⟩,
 ⟨(some 11), .mv (.t 10), none, [10]⟩,
 ⟨(some 12), .faddr 3 (.t 1), (some (11, false)), []⟩,
 ⟨(some 13), .load none (.t 12), (some (11, false)), [12]⟩,
 ⟨(some 14), .mv (.t 13), (some (11, false)), [13]⟩,
 ⟨(some 15), .faddr 2 (.t 1), (some (14, true)), [1]⟩,
 ⟨(some 16), .load none (.t 15), (some (14, true)), [15]⟩,
 ⟨(some 17), .lenL (.t 16), (some (14, true)), [16]⟩,
 ⟨(some 18), .bin .gtr (.t 17) (.c (.i .i64 0)), (some (14, true)), [17]⟩,
 ⟨(some 19), .pick (.t 14) (.t 18) (.c (.b false)), (some (11, false)), [14, 18]⟩,
 ⟨(some 20), .pick (.t 11) (.c (.b true)) (.t 19), none, [11, 19]⟩,
 ⟨(some 2), .asg (.t 20), none, [20]⟩])
 .ret)), [.t 2]⟩
/-- interrex/qty.Sum -/
def f240 : AFn := ⟨1, (.seq (.reg [⟨(some 2), .alloc false [(.i .i64 0), (.i .i64 0), (.i .i64 0)], none, []⟩,
 ⟨(some 3), .asg (.c (.b false)), none, [3]⟩])
 (.seq (.reg [⟨(some 4), .alloc false [(.i .i64 0), (.i .i64 0), (.i .i64 0)], none, []⟩])
 (.seq (.seq (.reg [⟨(some 9), .mv (.t 0), none, [0]⟩,
 ⟨(some 10), .lenL (.t 9), none, []⟩,
 ⟨(some 11), .mv (.c (.i .i64 0)), none, []⟩])
 (.blk 0 (.loop (.seq (.reg [⟨(some 12), .bin .lss (.t 11) (.t 10), none, []⟩])
 (.seq (.cond (.t 12) .skip
 (.exit 0))
 (.seq (.blk 1 (.seq (.reg [⟨(some 13), .iasl 3 (.t 9) (.t 11), none, []⟩,
 ⟨(some 14), .load (some 3) (.t 13), none, [13]⟩,
 ⟨(some 6), .alloc false [(.i .i64 0), (.i .i64 0), (.i .i64 0)], none, []⟩,
 ⟨none, .store 3 (.t 6) (.t 14), none, [14]⟩])
 (.seq (.reg [⟨(some 16), .load (some 3) (.t 4), none, []⟩,
 ⟨(some 17), .load (some 3) (.t 6), none, [6]⟩,
 ⟨(some 18), .call 261 [(.t 16), (.t 17)], none, [16, 17]⟩,
 ⟨(some 15), .mv (.t 18), none, [18]⟩,
 ⟨(some 19), .ext (.t 15) 0, none, []⟩,
 ⟨(some 20), .ext (.t 15) 1, none, [15]⟩,
 ⟨(some 7), .alloc false [(.i .i64 0), (.i .i64 0), (.i .i64 0)], none, []⟩,
 ⟨none, .store 3 (.t 7) (.t 19), none, [19]⟩,
 ⟨(some 8), .asg (.t 20), none, [20]⟩])
 (.seq (.seq (.reg [⟨(some 21), .mv (.t 8), none, [8]⟩,
 ⟨(some 22), .un .not (.t 21), none, [21]⟩])
 (.cond (.t 22) (.seq (.reg [⟨(some 23), .bld [(.i .i64 0), (.i .i64 0), (.i .i64 0)] [], none, []⟩,
 ⟨none, .store 3 (.t 2) (.t 23), none, [23]⟩,
 ⟨(some 3), .asg (.c (.b false)), none, []⟩])
 .ret)
 .skip))
 (.reg [⟨(some 24), .load (some 3) (.t 7), none, [7]⟩,
 ⟨none, .store 3 (.t 4) (.t 24), none, [24]⟩])))))
 (.reg [⟨(some 25), .bin .add (.t 11) (.c (.i .i64 1)), none, [11]⟩,
 ⟨(some 11), .mv (.t 25), none, [25]⟩])))))))
 (.seq (.reg [⟨(some 26), .load (some 3) (.t 4), none, [4]⟩,
 ⟨none, .store 3 (.t 2) (.t 26), none, [26]⟩,
 ⟨(some 3), .asg (.c (.b true)), none, []⟩])
 .ret)))), [.cell 2 (some 3), .t 3]⟩
/-- interrex/code.GetLease -/
def f241 : AFn := ⟨1, (.seq (.reg [⟨(some 2), .alloc false [(.i .i64 0), (.i .i64 0)], none, []⟩,
 ⟨(some 3), .asg (.c (.b false)), none, [3]⟩])
 (.seq (.reg [⟨(some 6), .mv (.t 0), none, []⟩,
 ⟨(some 7), .call 109 [(.t 6)], none, [6]⟩,
 ⟨(some 4), .asg (.t 7), none, [7]⟩])
 (.seq (.reg [⟨(some 8), .mv (.t 4), none, []⟩,
 ⟨(some 9), .call 110 [(.t 8), (.c (.i .i64 1))], none, [8, 9]⟩])
 (.seq (.reg [⟨(some 10), .mv (.t 4), none, []⟩,
 ⟨(some 11), .call 110 [(.t 10), (.c (.i .i64 1))], none, [10]⟩,
 ⟨(some 12), .mv (.t 4), none, []⟩,
 ⟨(some 13), .call 110 [(.t 12), (.c (.i .i64 8))], none, [12]⟩,
 ⟨(some 14), .bld [(.i .i64 0), (.i .i64 0)] [(0, 1, (.t 11)), (1, 1, (.t 13))], none, [11, 13]⟩,
 ⟨(some 5), .alloc false [(.i .i64 0), (.i .i64 0)], none, []⟩,
 ⟨none, .store 2 (.t 5) (.t 14), none, [14]⟩])
 (.seq (.seq (.reg [⟨(some 15), .mv (.t 4), none, [4]⟩,
 ⟨(some 16), .call 118 [(.t 15)], none, [15]⟩,
 ⟨(some 17), .un .not (.t 16), none, [16]⟩,
 ⟨(some 18), .mv (.t 17), none, [17]⟩,
 ⟨(some 19), .mv (.t 0), (some (18, false)), []⟩,
 ⟨(some 20), .lenL (.t 19), (some (18, false)), [19]⟩,
 ⟨(some 21), .bin .eql (.t 20) (.c (.i .i64 0)), (some (18, false)), [20]⟩,
 ⟨(some 22), .pick (.t 18) (.c (.b true)) (.t 21), none, [18, 21]⟩,
 ⟨(some 23), .mv (.t 22), none, [22]⟩,
 ⟨(some 24), .load (some 2) (.t 5), (some (23, false)), []⟩,
 ⟨(some 25), .call 62 [(.t 24)], (some (23, false)), [24]⟩,
 ⟨(some 26), .mv (.t 0), (some (23, false)), [0]⟩,
 ⟨(some 27), .call 119 [(.t 25), (.t 26)], (some (23, false)), [25, 26]⟩,
 ⟨(some 28), .un .not (.t 27), (some (23, false)), [27]⟩,
 ⟨(some 29), .pick (.t 23) (.c (.b true)) (.t 28), none, [23, 28]⟩])
 (.cond (.t 29) (.seq (.reg [⟨(some 30), .bld [(.i .i64 0), (.i .i64 0)] [], none, []⟩,
 ⟨none, .store 2 (.t 2) (.t 30), none, [30]⟩,
 ⟨(some 3), .asg (.c (.b false)), none, []⟩])
 .ret)
 .skip))
 (.seq (.reg [⟨(some 31), .load (some 2) (.t 5), none, [5]⟩,
 ⟨none, .store 2 (.t 2) (.t 31), none, [31]⟩,
 ⟨(some 3), .asg (.c (.b true)), none, []⟩])
 .ret)))))), [.cell 2 (some 2), .t 3]⟩
/-- interrex/qty.Share -/
def f242 : AFn := ⟨2, (.seq (.reg [⟨(some 4), .asg (.c (.i .i64 0)), none, [4]⟩])
 (.seq (.seq (.reg [⟨(some 5), .mv (.t 1), none, []⟩,
 ⟨(some 6), .bin .lss (.t 5) (.c (.i .i64 1)), none, [5]⟩,
 ⟨(some 7), .mv (.t 6), none, [6]⟩,
 ⟨(some 8), .mv (.t 1), (some (7, false)), []⟩,
 ⟨(some 9), .bin .gtr (.t 8) (.c (.i .i64 1000000000)), (some (7, false)), [8]⟩,
 ⟨(some 10), .pick (.t 7) (.c (.b true)) (.t 9), none, [7, 9]⟩])
 (.cond (.t 10) (.seq (.reg [⟨(some 4), .asg (.c (.i .i64 0)), none, []⟩])
 .ret)
 .skip))
 (.seq (.reg [⟨(some 11), .mv (.t 0), none, [0]⟩,
 ⟨(some 12), .mnmx true [(.t 11), (.c (.i .i64 0))], none, [11]⟩,
 ⟨(some 13), .mv (.t 1), none, []⟩,
 ⟨(some 14), .mnmx false [(.t 12), (.t 13)], none, [12, 13]⟩,
 ⟨(some 15), .bin .mul (.c (.i .i64 100)) (.t 14), none, [14]⟩,
 ⟨(some 16), .mv (.t 1), none, [1]⟩,
 ⟨(some 17), .bin .quo (.t 15) (.t 16), none, [15, 16]⟩,
 ⟨(some 4), .asg (.t 17), none, [17]⟩])
 .ret))), [.t 4]⟩
/-- interrex/label.Match -/
def f243 : AFn := ⟨2, (.seq (.reg [⟨(some 3), .box true (.t 1), none, [1]⟩,
 ⟨(some 4), .asg (.c (.b false)), none, [4]⟩])
 (.seq (.reg [⟨(some 5), .mv (.t 0), none, [0]⟩,
 ⟨(some 6), .mkfn 262 [(.t 3)], none, [3]⟩,
 ⟨(some 7), .call 173 [(.t 5), (.t 6)], none, [5, 6]⟩,
 ⟨(some 8), .un .not (.t 7), none, [7]⟩,
 ⟨(some 4), .asg (.t 8), none, [8]⟩])
 .ret)), [.t 4]⟩
/-- interrex/taint.All -/
def f244 : AFn := ⟨2, (.seq (.reg [⟨(some 4), .asg (.c (.b false)), none, [4]⟩])
 (.seq (.seq (.reg [⟨(some 7), .mv (.t 1), none, [1]⟩,
 ⟨(some 8), .lenL (.t 7), none, []⟩,
 ⟨(some 9), .mv (.c (.i .i64 0)), none, []⟩])
 (.blk 0 (.loop (.seq (.reg [⟨(some 10), .bin .lss (.t 9) (.t 8), none, []⟩])
 (.seq (.cond (.t 10) .skip
 (.exit 0))
 (.seq (.blk 1 (.seq (.reg [⟨(some 11), .iasl 2 (.t 7) (.t 9), none, []⟩,
 ⟨(some 12), .load (some 2) (.t 11), none, [11]⟩,
 ⟨(some 6), .alloc true [(.s []), (.s [])], none, []⟩,
 ⟨none, .store 2 (.t 6) (.t 12), none, [12]⟩])
 (.seq (.reg [⟨(some 13), .mv (.t 0), none, []⟩,
 ⟨(some 14), .mkfn 264 [(.t 6)], none, [6]⟩,
 ⟨(some 15), .call 176 [(.t 13), (.t 14)], none, [13, 14]⟩,
 ⟨(some 16), .un .not (.t 15), none, [15]⟩])
 (.cond (.t 16) (.seq (.reg [⟨(some 4), .asg (.c (.b false)), none, []⟩])
 .ret)
 .skip))))
 (.reg [⟨(some 17), .bin .add (.t 9) (.c (.i .i64 1)), none, [9]⟩,
 ⟨(some 9), .mv (.t 17), none, [17]⟩])))))))
 (.seq (.reg [⟨(some 4), .asg (.c (.b true)), none, []⟩])
 .ret))), [.t 4]⟩
/-- interrex/obj.EqPod -/
def f245 : AFn := ⟨2, (.seq (.reg [⟨(some 2), .box false (.t 0), none, [0]⟩,
 ⟨(some 3), .box false (.t 1), none, [1]⟩,
 ⟨(some 4), .asg (.c (.b false)), none, [4]⟩])
 (.seq (.seq (.reg [⟨(some 6), .faddr 0 (.t 2), none, []⟩,
 ⟨(some 7), .load none (.t 6), none, [6]⟩,
 ⟨(some 8), .faddr 0 (.t 3), none, []⟩,
 ⟨(some 9), .load none (.t 8), none, [8]⟩,
 ⟨(some 10), .bin .neq (.t 7) (.t 9), none, [7, 9]⟩,
 ⟨(some 11), .mv (.t 10), none, [10]⟩,
 ⟨(some 12), .faddr 1 (.t 2), (some (11, false)), []⟩,
 ⟨(some 13), .load none (.t 12), (some (11, false)), [12]⟩,
 ⟨(some 14), .faddr 1 (.t 3), (some (11, false)), []⟩,
 ⟨(some 15), .load none (.t 14), (some (11, false)), [14]⟩,
 ⟨(some 16), .bin .neq (.t 13) (.t 15), (some (11, false)), [13, 15]⟩,
 ⟨(some 17), .pick (.t 11) (.c (.b true)) (.t 16), none, [11, 16]⟩,
 ⟨(some 18), .mv (.t 17), none, [17]⟩,
 ⟨(some 19), .faddr 2 (.t 2), (some (18, false)), []⟩,
 ⟨(some 20), .load none (.t 19), (some (18, false)), [19]⟩,
 ⟨(some 21), .faddr 2 (.t 3), (some (18, false)), []⟩,
 ⟨(some 22), .load none (.t 21), (some (18, false)), [21]⟩,
 ⟨(some 23), .bin .neq (.t 20) (.t 22), (some (18, false)), [20, 22]⟩,
 ⟨(some 24), .pick (.t 18) (.c (.b true)) (.t 23), none, [18, 23]⟩,
 ⟨(some 25), .mv (.t 24), none, [24]⟩,
 ⟨(some 26), .faddr 3 (.t 2), (some (25, false)), []⟩,
 ⟨(some 27), .load (some 3) (.t 26), (some (25, false)), [26]⟩,
 ⟨(some 28), .faddr 3 (.t 3), (some (25, false)), []⟩,
 ⟨(some 29), .load (some 3) (.t 28), (some (25, false)), [28]⟩,
 ⟨(some 30), .eqc true [.i, .i, .i] true (.t 27) (.t 29), (some (25, false)), [27, 29]⟩,
 ⟨(some 31), .pick (.t 25) (.c (.b true)) (.t 30), none, [25, 30]⟩,
 ⟨(some 32), .mv (.t 31), none, [31]⟩,
 ⟨(some 33), .faddr 10 (.t 2), (some (32, false)), []⟩,
 ⟨(some 34), .load none (.t 33), (some (32, false)), [33]⟩,
 ⟨(some 35), .faddr 10 (.t 3), (some (32, false)), []⟩,
 ⟨(some 36), .load none (.t 35), (some (32, false)), [35]⟩,
 ⟨(some 37), .bin .neq (.t 34) (.t 36), (some (32, false)), [34, 36]⟩,
 ⟨(some 38), .pick (.t 32) (.c (.b true)) (.t 37), none, [32, 37]⟩,
 ⟨(some 39), .mv (.t 38), none, [38]⟩,
 ⟨(some 40), .faddr 12 (.t 2), (some (39, false)), []⟩,
 ⟨(some 41), .load none (.t 40), (some (39, false)), [40]⟩,
 ⟨(some 42), .faddr 12 (.t 3), (some (39, false)), []⟩,
 ⟨(some 43), .load none (.t 42), (some (39, false)), [42]⟩,
 ⟨(some 44), .bin .neq (.t 41) (.t 43), (some (39, false)), [41, 43]⟩,
 ⟨(some 45), .pick (.t 39) (.c (.b true)) (.t 44), none, [39, 44]⟩,
 ⟨(some 46), .mv (.t 45), none, [45]⟩,
 ⟨(some 47), .faddr 14 (.t 2), (some (46, false)), []⟩,
 ⟨(some 48), .load none (.t 47), (some (46, false)), [47]⟩,
 ⟨(some 49), .faddr 14 (.t 3), (some (46, false)), []⟩,
 ⟨(some 50), .load none (.t 49), (some (46, false)), [49]⟩,
 ⟨(some 51), .bin .neq (.t 48) (.t 50), (some (46, false)), [48, 50]⟩,
 ⟨(some 52), .pick (.t 46) (.c (.b true)) (.t 51), none, [46, 51]⟩,
 ⟨(some 53), .mv (.t 52), none, [52]⟩,
 ⟨(some 54), .faddr 15 (.t 2), (some (53, false)), []⟩,
 ⟨(some 55), .load none (.t 54), (some (53, false)), [54]⟩,
 ⟨(some 56), .faddr 15 (.t 3), (some (53, false)), []⟩,
 ⟨(some 57), .load none (.t 56), (some (53, false)), [56]⟩,
 ⟨(some 58), .bin .neq (.t 55) (.t 57), (some (53, false)), [55, 57]⟩,
 ⟨(some 59), .pick (.t 53) (.c (.b true)) (.t 58), none, [53, 58]⟩])
 (.cond (.t 59) (.seq (.reg [⟨(some 4), .asg (.c (.b false)), none, []⟩])
 .ret)
 .skip))
 (.seq (.reg [⟨(some 60), .faddr 6 (.t 2), none, []⟩,
 ⟨(some 61), .load none (.t 60), none, [60]⟩,
 ⟨(some 62), .faddr 6 (.t 3), none, []⟩,
 ⟨(some 63), .load none (.t 62), none, [62]⟩,
 ⟨(some 64), .call 266 [(.t 61), (.t 63)], none, [61, 63]⟩,
 ⟨(some 65), .mv (.t 64), none, [64]⟩,
 ⟨(some 66), .faddr 7 (.t 2), (some (65, true)), []⟩,
 ⟨(some 67), .load none (.t 66), (some (65, true)), [66]⟩,
 ⟨(some 68), .faddr 7 (.t 3), (some (65, true)), []⟩,
 ⟨(some 69), .load none (.t 68), (some (65, true)), [68]⟩,
 ⟨(some 70), .call 267 [(.t 67), (.t 69)], (some (65, true)), [67, 69]⟩,
 ⟨(some 71), .pick (.t 65) (.t 70) (.c (.b false)), none, [65, 70]⟩,
 ⟨(some 72), .mv (.t 71), none, [71]⟩,
 ⟨(some 73), .faddr 9 (.t 2), (some (72, true)), []⟩,
 ⟨(some 74), .load none (.t 73), (some (72, true)), [73]⟩,
 ⟨(some 75), .faddr 9 (.t 3), (some (72, true)), []⟩,
 ⟨(some 76), .load none (.t 75), (some (72, true)), [75]⟩,
 ⟨(some 77), .call 268 [(.t 74), (.t 76)], (some (72, true)), [74, 76]⟩,
 ⟨(some 78), .pick (.t 72) (.t 77) (.c (.b false)), none, [72, 77]⟩,
 ⟨(some 5), .asg (.t 78), none, [78]⟩])
 (.seq (.reg [⟨(some 79), .mv (.t 5), none, [5]⟩,
 ⟨(some 80), .mv (.t 79), none, [79]⟩,
 ⟨(some 81), .faddr 8 (.t 2), (some (80, true)), []⟩,
 ⟨(some 82), .load none (.t 81), (some (80, true)), [81]⟩,
 ⟨(some 83), .faddr 8 (.t 3), (some (80, true)), []⟩,
 ⟨(some 84), .load none (.t 83), (some (80, true)), [83]⟩,
 ⟨(some 85), .call 269 [(.t 82), (.t 84)], (some (80, true)), [82, 84]⟩,
 ⟨(some 86), .pick (.t 80) (.t 85) (.c (.b false)), none, [80, 85]⟩,
 ⟨(some 87), .mv (.t 86), none, [86]⟩,
 ⟨(some 88), .faddr 11 (.t 2), (some (87, true)), []⟩,
 ⟨(some 89), .load none (.t 88), (some (87, true)), [88]⟩,
 ⟨(some 90), .faddr 11 (.t 3), (some (87, true)), []⟩,
 ⟨(some 91), .load none (.t 90), (some (87, true)), [90]⟩,
 ⟨(some 92), .call 269 [(.t 89), (.t 91)], (some (87, true)), [89, 91]⟩,
 ⟨(some 93), .pick (.t 87) (.t 92) (.c (.b false)), none, [87, 92]⟩,
 ⟨(some 94), .mv (.t 93), none, [93]⟩,
 ⟨(some 95), .faddr 13 (.t 2), (some (94, true)), [2]⟩,
 ⟨(some 96), .load none (.t 95), (some (94, true)), [95]⟩,
 ⟨(some 97), .faddr 13 (.t 3), (some (94, true)), [3]⟩,
 ⟨(some 98), .load none (.t 97), (some (94, true)), [97]⟩,
 ⟨(some 99), .call 269 [(.t 96), (.t 98)], (some (94, true)), [96, 98]⟩,
 ⟨(some 100), .pick (.t 94) (.t 99) (.c (.b false)), none, [94, 99]⟩,
 ⟨(some 4), .asg (.t 100), none, [100]⟩])
 .ret)))), [.t 4]⟩
/-- slices.order2CmpFunc interrex/api.Pod  -/
def f250 : AFn := ⟨5, (.seq (.reg [⟨(some 10), .asg (.c (.i .i64 0)), none, [10]⟩,
 ⟨(some 11), .asg (.c (.i .i64 0)), none, [11]⟩])
 (.seq (.seq (.dreg [⟨0, ⟨(some 12), .mv (.t 4), none, []⟩, false, []⟩,
 ⟨1, ⟨(some 13), .mv (.t 0), none, []⟩, false, []⟩,
 ⟨2, ⟨(some 14), .mv (.t 2), none, []⟩, false, []⟩,
 ⟨3, ⟨(some 15), .iasl 16 (.t 13) (.t 14), none, []⟩, false, []⟩,
 ⟨4, ⟨(some 16), .load (some 16) (.t 15), none, []⟩, false, []⟩,
 ⟨5, ⟨(some 17), .mv (.t 0), none, []⟩, false, []⟩,
 ⟨6, ⟨(some 18), .mv (.t 1), none, []⟩, false, []⟩,
 ⟨7, ⟨(some 19), .iasl 16 (.t 17) (.t 18), none, []⟩, false, []⟩,
 ⟨8, ⟨(some 20), .load (some 16) (.t 19), none, []⟩, false, []⟩,
 ⟨9, ⟨(some 21), .callv (.t 12) [(.t 16), (.t 20)], none, []⟩, true, []⟩,
 ⟨10, ⟨(some 22), .bin .lss (.t 21) (.c (.i .i64 0)), none, []⟩, false, []⟩] [4, 12, 0, 13, 14, 15, 16, 17, 18, 19, 20, 21])
 (.cond (.t 22) (.seq (.reg [⟨(some 23), .mv (.t 3), none, [3]⟩,
 ⟨(some 24), .nilc (.t 23), none, []⟩,
 ⟨(some 25), .load none (.t 24), none, [24]⟩,
 ⟨(some 26), .bin .add (.t 25) (.c (.i .i64 1)), none, [25]⟩,
 ⟨(some 27), .nilc (.t 23), none, [23]⟩,
 ⟨none, .store 1 (.t 27) (.t 26), none, [27, 26]⟩])
 (.seq (.reg [⟨(some 28), .mv (.t 2), none, [2]⟩,
 ⟨(some 29), .mv (.t 1), none, [1]⟩,
 ⟨(some 10), .asg (.t 28), none, [28]⟩,
 ⟨(some 11), .asg (.t 29), none, [29]⟩])
 .ret))
 .skip))
 (.seq (.reg [⟨(some 30), .mv (.t 1), none, [1]⟩,
 ⟨(some 31), .mv (.t 2), none, [2]⟩,
 ⟨(some 10), .asg (.t 30), none, [30]⟩,
 ⟨(some 11), .asg (.t 31), none, [31]⟩])
 .ret))), [.t 10, .t 11]⟩
/-- slices.order2CmpFunc interrex/api.Node  -/
def f251 : AFn := ⟨5, (.seq (.reg [⟨(some 10), .asg (.c (.i .i64 0)), none, [10]⟩,
 ⟨(some 11), .asg (.c (.i .i64 0)), none, [11]⟩])
 (.seq (.seq (.dreg [⟨0, ⟨(some 12), .mv (.t 4), none, []⟩, false, []⟩,
 ⟨1, ⟨(some 13), .mv (.t 0), none, []⟩, false, []⟩,
 ⟨2, ⟨(some 14), .mv (.t 2), none, []⟩, false, []⟩,
 ⟨3, ⟨(some 15), .iasl 6 (.t 13) (.t 14), none, []⟩, false, []⟩,
 ⟨4, ⟨(some 16), .load (some 6) (.t 15), none, []⟩, false, []⟩,
 ⟨5, ⟨(some 17), .mv (.t 0), none, []⟩, false, []⟩,
 ⟨6, ⟨(some 18), .mv (.t 1), none, []⟩, false, []⟩,
 ⟨7, ⟨(some 19), .iasl 6 (.t 17) (.t 18), none, []⟩, false, []⟩,
 ⟨8, ⟨(some 20), .load (some 6) (.t 19), none, []⟩, false, []⟩,
 ⟨9, ⟨(some 21), .callv (.t 12) [(.t 16), (.t 20)], none, []⟩, true, []⟩,
 ⟨10, ⟨(some 22), .bin .lss (.t 21) (.c (.i .i64 0)), none, []⟩, false, []⟩] [4, 12, 0, 13, 14, 15, 16, 17, 18, 19, 20, 21])
 (.cond (.t 22) (.seq (.reg [⟨(some 23), .mv (.t 3), none, [3]⟩,
 ⟨(some 24), .nilc (.t 23), none, []⟩,
 ⟨(some 25), .load none (.t 24), none, [24]⟩,
 ⟨(some 26), .bin .add (.t 25) (.c (.i .i64 1)), none, [25]⟩,
 ⟨(some 27), .nilc (.t 23), none, [23]⟩,
 ⟨none, .store 1 (.t 27) (.t 26), none, [27, 26]⟩])
 (.seq (.reg [⟨(some 28), .mv (.t 2), none, [2]⟩,
 ⟨(some 29), .mv (.t 1), none, [1]⟩,
 ⟨(some 10), .asg (.t 28), none, [28]⟩,
 ⟨(some 11), .asg (.t 29), none, [29]⟩])
 .ret))
 .skip))
 (.seq (.reg [⟨(some 30), .mv (.t 1), none, [1]⟩,
 ⟨(some 31), .mv (.t 2), none, [2]⟩,
 ⟨(some 10), .asg (.t 30), none, [30]⟩,
 ⟨(some 11), .asg (.t 31), none, [31]⟩])
 .ret))), [.t 10, .t 11]⟩
/-- slices.IndexFunc   string string  -/
def f252 : AFn := ⟨2, (.seq (.reg [⟨(some 4), .asg (.c (.i .i64 0)), none, [4]⟩])
 (.seq (.seq (.reg [⟨(some 6), .mv (.t 0), none, []⟩,
 ⟨(some 7), .lenL (.t 6), none, [6]⟩,
 ⟨(some 8), .mv (.c (.i .i64 0)), none, []⟩])
 (.blk 0 (.loop (.seq (.reg [⟨(some 9), .bin .lss (.t 8) (.t 7), none, []⟩])
 (.seq (.cond (.t 9) .skip
 (.exit 0))
 (.seq (.blk 1 (.seq (.reg [⟨(some 10), .mv (.t 8), none, []⟩,
 ⟨(some 5), .asg (.t 10), none, [10]⟩])
 (.seq (.reg [⟨(some 11), .mv (.t 1), none, []⟩,
 ⟨(some 12), .mv (.t 0), none, []⟩,
 ⟨(some 13), .mv (.t 5), none, []⟩,
 ⟨(some 14), .iasl 1 (.t 12) (.t 13), none, [12, 13]⟩,
 ⟨(some 15), .load none (.t 14), none, [14]⟩,
 ⟨(some 16), .callv (.t 11) [(.t 15)], none, [11, 15]⟩])
 (.cond (.t 16) (.seq (.reg [⟨(some 17), .mv (.t 5), none, [5]⟩,
 ⟨(some 4), .asg (.t 17), none, [17]⟩])
 .ret)
 .skip))))
 (.reg [⟨(some 18), .bin .add (.t 8) (.c (.i .i64 1)), none, [8]⟩,
 ⟨(some 8), .mv (.t 18), none, [18]⟩])))))))
 (.seq (.reg [⟨(some 4), .asg (.c (.i .i64 (-1))), none, []⟩])
 .ret))), [.t 4]⟩
/-- slices.IndexFunc   interrex/api.Event interrex/api.Event  -/
def f257 : AFn := ⟨2, (.seq (.reg [⟨(some 4), .asg (.c (.i .i64 0)), none, [4]⟩])
 (.seq (.seq (.reg [⟨(some 6), .mv (.t 0), none, []⟩,
 ⟨(some 7), .lenL (.t 6), none, [6]⟩,
 ⟨(some 8), .mv (.c (.i .i64 0)), none, []⟩])
 (.blk 0 (.loop (.seq (.reg [⟨(some 9), .bin .lss (.t 8) (.t 7), none, []⟩])
 (.seq (.cond (.t 9) .skip
 (.exit 0))
 (.seq (.blk 1 (.seq (.reg [⟨(some 10), .mv (.t 8), none, []⟩,
 ⟨(some 5), .asg (.t 10), none, [10]⟩])
 (.seq (.reg [⟨(some 11), .mv (.t 1), none, []⟩,
 ⟨(some 12), .mv (.t 0), none, []⟩,
 ⟨(some 13), .mv (.t 5), none, []⟩,
 ⟨(some 14), .iasl 4 (.t 12) (.t 13), none, [12, 13]⟩,
 ⟨(some 15), .load (some 4) (.t 14), none, [14]⟩,
 ⟨(some 16), .callv (.t 11) [(.t 15)], none, [11, 15]⟩])
 (.cond (.t 16) (.seq (.reg [⟨(some 17), .mv (.t 5), none, [5]⟩,
 ⟨(some 4), .asg (.t 17), none, [17]⟩])
 .ret)
 .skip))))
 (.reg [⟨(some 18), .bin .add (.t 8) (.c (.i .i64 1)), none, [8]⟩,
 ⟨(some 8), .mv (.t 18), none, [18]⟩])))))))
 (.seq (.reg [⟨(some 4), .asg (.c (.i .i64 (-1))), none, []⟩])
 .ret))), [.t 4]⟩
/-- interrex/store.key -/
def f258 : AFn := ⟨1, (.seq (.reg [⟨(some 2), .asg (.c (.b false)), none, [2]⟩])
 (.seq (.reg [⟨(some 3), .mv (.t 0), none, []⟩,
 ⟨(some 4), .lenS (.t 3), none, [3]⟩,
 ⟨(some 5), .bin .geq (.t 4) (.c (.i .i64 1)), none, [4]⟩,
 ⟨(some 6), .mv (.t 5), none, [5]⟩,
 ⟨(some 7), .mv (.t 0), (some (6, true)), [0]⟩,
 ⟨(some 8), .lenS (.t 7), (some (6, true)), [7]⟩,
 ⟨(some 9), .bin .leq (.t 8) (.c (.i .i64 20)), (some (6, true)), [8]⟩,
 ⟨(some 10), .pick (.t 6) (.t 9) (.c (.b false)), none, [6, 9]⟩,
 ⟨(some 2), .asg (.t 10), none, [10]⟩])
 .ret)), [.t 2]⟩
/-- strings.HasPrefix -/
def f259 : AFn := ⟨2, (.seq (.reg [⟨(some 4), .asg (.c (.b false)), none, [4]⟩])
 (.seq (.reg [⟨(some 5), .mv (.t 0), none, [0]⟩,
 ⟨(some 6), .mv (.t 1), none, [1]⟩,
 ⟨(some 7), .call 275 [(.t 5), (.t 6)], none, [5, 6]⟩,
 ⟨(some 4), .asg (.t 7), none, [7]⟩])
 .ret)), [.t 4]⟩
/-- slices.IndexFunc   interrex/api.Entry interrex/api.Entry  -/
def f260 : AFn := ⟨2, (.seq (.reg [⟨(some 4), .asg (.c (.i .i64 0)), none, [4]⟩])
 (.seq (.seq (.reg [⟨(some 6), .mv (.t 0), none, []⟩,
 ⟨(some 7), .lenL (.t 6), none, [6]⟩,
 ⟨(some 8), .mv (.c (.i .i64 0)), none, []⟩])
 (.blk 0 (.loop (.seq (.reg [⟨(some 9), .bin .lss (.t 8) (.t 7), none, []⟩])
 (.seq (.cond (.t 9) .skip
 (.exit 0))
 (.seq (.blk 1 (.seq (.reg [⟨(some 10), .mv (.t 8), none, []⟩,
 ⟨(some 5), .asg (.t 10), none, [10]⟩])
 (.seq (.reg [⟨(some 11), .mv (.t 1), none, []⟩,
 ⟨(some 12), .mv (.t 0), none, []⟩,
 ⟨(some 13), .mv (.t 5), none, []⟩,
 ⟨(some 14), .iasl 3 (.t 12) (.t 13), none, [12, 13]⟩,
 ⟨(some 15), .load (some 3) (.t 14), none, [14]⟩,
 ⟨(some 16), .callv (.t 11) [(.t 15)], none, [11, 15]⟩])
 (.cond (.t 16) (.seq (.reg [⟨(some 17), .mv (.t 5), none, [5]⟩,
 ⟨(some 4), .asg (.t 17), none, [17]⟩])
 .ret)
 .skip))))
 (.reg [⟨(some 18), .bin .add (.t 8) (.c (.i .i64 1)), none, [8]⟩,
 ⟨(some 8), .mv (.t 18), none, [18]⟩])))))))
 (.seq (.reg [⟨(some 4), .asg (.c (.i .i64 (-1))), none, []⟩])
 .ret))), [.t 4]⟩
/-- interrex/qty.Add -/
def f261 : AFn := ⟨2, (.seq (.reg [⟨(some 2), .box false (.t 0), none, [0]⟩,
 ⟨(some 3), .box false (.t 1), none, [1]⟩,
 ⟨(some 4), .alloc false [(.i .i64 0), (.i .i64 0), (.i .i64 0)], none, []⟩,
 ⟨(some 5), .asg (.c (.b false)), none, [5]⟩])
 (.seq (.reg [⟨(some 6), .alloc false [(.i .i64 0), (.i .i64 0), (.i .i64 0)], none, []⟩])
 (.seq (.seq (.reg [⟨(some 8), .mv (.c (.i .i64 0)), none, []⟩])
 (.blk 0 (.loop (.seq (.reg [⟨(some 9), .bin .lss (.t 8) (.c (.i .i64 3)), none, []⟩])
 (.seq (.cond (.t 9) .skip
 (.exit 0))
 (.seq (.blk 1 (.seq (.reg [⟨(some 10), .mv (.t 8), none, []⟩,
 ⟨(some 7), .asg (.t 10), none, [10]⟩])
 (.seq (.seq (.dreg [⟨0, ⟨(some 11), .mv (.t 7), none, []⟩, false, []⟩,
 ⟨1, ⟨(some 12), .iaar 3 1 (.t 2) (.t 11), none, []⟩, false, []⟩,
 ⟨2, ⟨(some 13), .load none (.t 12), none, []⟩, false, []⟩,
 ⟨3, ⟨(some 14), .call 276 [(.t 13)], none, []⟩, true, []⟩,
 ⟨4, ⟨(some 15), .un .not (.t 14), none, []⟩, false, []⟩,
 ⟨5, ⟨(some 16), .mv (.t 15), none, []⟩, false, []⟩,
 ⟨6, ⟨(some 17), .mv (.t 7), (some (16, false)), []⟩, false, []⟩,
 ⟨7, ⟨(some 18), .iaar 3 1 (.t 3) (.t 17), (some (16, false)), []⟩, false, []⟩,
 ⟨8, ⟨(some 19), .load none (.t 18), (some (16, false)), []⟩, false, []⟩,
 ⟨9, ⟨(some 20), .call 276 [(.t 19)], (some (16, false)), []⟩, true, []⟩,
 ⟨10, ⟨(some 21), .un .not (.t 20), (some (16, false)), []⟩, false, []⟩,
 ⟨11, ⟨(some 22), .pick (.t 16) (.c (.b true)) (.t 21), none, []⟩, false, []⟩,
 ⟨12, ⟨(some 23), .mv (.t 22), none, []⟩, false, []⟩,
 ⟨13, ⟨(some 24), .mv (.t 7), (some (23, false)), []⟩, false, []⟩,
 ⟨14, ⟨(some 25), .iaar 3 1 (.t 2) (.t 24), (some (23, false)), []⟩, false, []⟩,
 ⟨15, ⟨(some 26), .load none (.t 25), (some (23, false)), []⟩, false, []⟩,
 ⟨16, ⟨(some 27), .mv (.t 7), (some (23, false)), []⟩, false, []⟩,
 ⟨17, ⟨(some 28), .iaar 3 1 (.t 3) (.t 27), (some (23, false)), []⟩, false, []⟩,
 ⟨18, ⟨(some 29), .load none (.t 28), (some (23, false)), []⟩, false, []⟩,
 ⟨19, ⟨(some 30), .bin .sub (.c (.i .i64 4611686018427387904)) (.t 29), (some (23, false)), []⟩, false, []⟩,
 ⟨20, ⟨(some 31), .bin .gtr (.t 26) (.t 30), (some (23, false)), []⟩, false, []⟩,
 ⟨21, ⟨(some 32), .pick (.t 23) (.c (.b true)) (.t 31), none, []⟩, false, []⟩] [11, 12, 13, 14, 15, 16, 17, 18, 19, 20, 21, 22, 23, 24, 25, 26, 27, 28, 29, 30, 31])
 (.cond (.t 32) (.seq (.reg [⟨(some 33), .bld [(.i .i64 0), (.i .i64 0), (.i .i64 0)] [], none, []⟩,
 ⟨none, .store 3 (.t 4) (.t 33), none, [33]⟩,
 ⟨(some 5), .asg (.c (.b false)), none, []⟩])
 .ret)
 .skip))
 (.dreg [⟨0, ⟨(some 34), .mv (.t 7), none, []⟩, false, []⟩,
 ⟨1, ⟨(some 35), .mv (.t 7), none, []⟩, false, []⟩,
 ⟨2, ⟨(some 36), .iaar 3 1 (.t 2) (.t 35), none, []⟩, false, []⟩,
 ⟨3, ⟨(some 37), .load none (.t 36), none, []⟩, false, []⟩,
 ⟨4, ⟨(some 38), .mv (.t 7), none, []⟩, false, []⟩,
 ⟨5, ⟨(some 39), .iaar 3 1 (.t 3) (.t 38), none, []⟩, false, []⟩,
 ⟨6, ⟨(some 40), .load none (.t 39), none, []⟩, false, []⟩,
 ⟨7, ⟨(some 41), .bin .add (.t 37) (.t 40), none, []⟩, false, []⟩,
 ⟨8, ⟨(some 42), .iaar 3 1 (.t 6) (.t 34), none, []⟩, false, []⟩,
 ⟨9, ⟨none, .store 1 (.t 42) (.t 41), none, []⟩, true, []⟩] [7, 34, 35, 36, 37, 38, 39, 40, 41, 42]))))
 (.reg [⟨(some 43), .bin .add (.t 8) (.c (.i .i64 1)), none, [8]⟩,
 ⟨(some 8), .mv (.t 43), none, [43]⟩])))))))
 (.seq (.reg [⟨(some 44), .load (some 3) (.t 6), none, [6]⟩,
 ⟨none, .store 3 (.t 4) (.t 44), none, [44]⟩,
 ⟨(some 5), .asg (.c (.b true)), none, []⟩])
 .ret)))), [.cell 4 (some 3), .t 5]⟩
/-- interrex/label.Match 1 -/
def f262 : AFn := ⟨2, (.seq (.reg [⟨(some 2), .box false (.t 0), none, [0]⟩,
 ⟨(some 3), .asg (.c (.b false)), none, [3]⟩])
 (.seq (.reg [⟨(some 4), .load (some 3) (.t 2), none, [2]⟩,
 ⟨(some 5), .load none (.t 1), none, [1]⟩,
 ⟨(some 6), .call 263 [(.t 4), (.t 5)], none, [4, 5]⟩,
 ⟨(some 7), .un .not (.t 6), none, [6]⟩,
 ⟨(some 3), .asg (.t 7), none, [7]⟩])
 .ret)), [.t 3]⟩
/-- interrex/label.holds -/
def f263 : AFn := ⟨2, (.seq (.reg [⟨(some 2), .box false (.t 0), none, [0]⟩,
 ⟨(some 4), .asg (.c (.b false)), none, [4]⟩])
 (.seq (.reg [⟨(some 9), .mv (.t 1), none, [1]⟩,
 ⟨(some 10), .faddr 0 (.t 2), none, []⟩,
 ⟨(some 11), .load none (.t 10), none, [10]⟩,
 ⟨(some 12), .call 277 [(.t 9), (.t 11)], none, [9, 11]⟩,
 ⟨(some 8), .mv (.t 12), none, [12]⟩,
 ⟨(some 13), .ext (.t 8) 0, none, []⟩,
 ⟨(some 14), .ext (.t 8) 1, none, [8]⟩,
 ⟨(some 5), .asg (.t 13), none, [13]⟩,
 ⟨(some 6), .asg (.t 14), none, [14]⟩])
 (.seq (.reg [⟨(some 15), .mv (.t 6), none, []⟩,
 ⟨(some 16), .mv (.t 15), none, [15]⟩,
 ⟨(some 17), .faddr 2 (.t 2), (some (16, true)), []⟩,
 ⟨(some 18), .load none (.t 17), (some (16, true)), [17]⟩,
 ⟨(some 19), .mv (.t 5), (some (16, true)), [5]⟩,
 ⟨(some 20), .call 278 [(.t 18), (.t 19)], (some (16, true)), [18, 19]⟩,
 ⟨(some 21), .pick (.t 16) (.t 20) (.c (.b false)), none, [16, 20]⟩,
 ⟨(some 7), .asg (.t 21), none, [21]⟩])
 (.seq (.seq (.reg [⟨(some 22), .faddr 1 (.t 2), none, [2]⟩,
 ⟨(some 23), .load none (.t 22), none, [22]⟩])
 (.blk 0 (.seq (.reg [⟨(some 25), .bin .eql (.t 23) (.c (.i .i64 1)), none, []⟩,
 ⟨(some 24), .asg (.t 25), none, [25]⟩])
 (.cond (.t 24) (.seq (.reg [⟨(some 26), .mv (.t 7), none, [7]⟩,
 ⟨(some 4), .asg (.t 26), none, [26]⟩])
 .ret)
 (.seq (.reg [⟨(some 28), .bin .eql (.t 23) (.c (.i .i64 2)), none, []⟩,
 ⟨(some 27), .asg (.t 28), none, [28]⟩])
 (.cond (.t 27) (.seq (.reg [⟨(some 29), .mv (.t 7), none, [7]⟩,
 ⟨(some 30), .un .not (.t 29), none, [29]⟩,
 ⟨(some 4), .asg (.t 30), none, [30]⟩])
 .ret)
 (.seq (.reg [⟨(some 32), .bin .eql (.t 23) (.c (.i .i64 3)), none, []⟩,
 ⟨(some 31), .asg (.t 32), none, [32]⟩])
 (.cond (.t 31) (.seq (.reg [⟨(some 33), .mv (.t 6), none, [6]⟩,
 ⟨(some 4), .asg (.t 33), none, [33]⟩])
 .ret)
 (.seq (.reg [⟨(some 35), .bin .eql (.t 23) (.c (.i .i64 4)), none, [23]⟩,
 ⟨(some 34), .asg (.t 35), none, [35]⟩])
 (.cond (.t 34) (.seq (.reg [⟨(some 36), .mv (.t 6), none, [6]⟩,
 ⟨(some 37), .un .not (.t 36), none, [36]⟩,
 ⟨(some 4), .asg (.t 37), none, [37]⟩])
 .ret)
 .skip))))))))))
 (.seq (.reg [⟨(some 4), .asg (.c (.b false)), none, []⟩])
 .ret))))), [.t 4]⟩
/-- interrex/taint.All 1 -/
def f264 : AFn := ⟨2, (.seq (.reg [⟨(some 2), .box false (.t 0), none, [0]⟩,
 ⟨(some 3), .asg (.c (.b false)), none, [3]⟩])
 (.seq (.reg [⟨(some 4), .load (some 3) (.t 2), none, [2]⟩,
 ⟨(some 5), .load (some 2) (.t 1), none, [1]⟩,
 ⟨(some 6), .call 265 [(.t 4), (.t 5)], none, [4, 5]⟩,
 ⟨(some 3), .asg (.t 6), none, [6]⟩])
 .ret)), [.t 3]⟩
/-- interrex/taint.Bears -/
def f265 : AFn := ⟨2, (.seq (.reg [⟨(some 2), .box false (.t 0), none, [0]⟩,
 ⟨(some 3), .box false (.t 1), none, [1]⟩,
 ⟨(some 4), .asg (.c (.b false)), none, [4]⟩])
 (.seq (.reg [⟨(some 5), .faddr 0 (.t 2), none, []⟩,
 ⟨(some 6), .load none (.t 5), none, [5]⟩,
 ⟨(some 7), .bin .eql (.t 6) (.c (.s [])), none, [6]⟩,
 ⟨(some 8), .mv (.t 7), none, [7]⟩,
 ⟨(some 9), .faddr 0 (.t 2), (some (8, false)), []⟩,
 ⟨(some 10), .load none (.t 9), (some (8, false)), [9]⟩,
 ⟨(some 11), .faddr 0 (.t 3), (some (8, false)), []⟩,
 ⟨(some 12), .load none (.t 11), (some (8, false)), [11]⟩,
 ⟨(some 13), .bin .eql (.t 10) (.t 12), (some (8, false)), [10, 12]⟩,
 ⟨(some 14), .pick (.t 8) (.c (.b true)) (.t 13), none, [8, 13]⟩,
 ⟨(some 15), .mv (.t 14), none, [14]⟩,
 ⟨(some 16), .faddr 2 (.t 2), (some (15, true)), []⟩,
 ⟨(some 17), .load none (.t 16), (some (15, true)), [16]⟩,
 ⟨(some 18), .mv (.t 17), (some (15, true)), [17]⟩,
 ⟨(some 19), .faddr 1 (.t 2), (some (18, false)), [2]⟩,
 ⟨(some 20), .load none (.t 19), (some (18, false)), [19]⟩,
 ⟨(some 21), .faddr 1 (.t 3), (some (18, false)), [3]⟩,
 ⟨(some 22), .load none (.t 21), (some (18, false)), [21]⟩,
 ⟨(some 23), .bin .eql (.t 20) (.t 22), (some (18, false)), [20, 22]⟩,
 ⟨(some 24), .pick (.t 18) (.c (.b true)) (.t 23), (some (15, true)), [18, 23]⟩,
 ⟨(some 25), .pick (.t 15) (.t 24) (.c (.b false)), none, [15, 24]⟩,
 ⟨(some 4), .asg (.t 25), none, [25]⟩])
 .ret)), [.t 4]⟩
/-- slices.Equal   int int  -/
def f266 : AFn := ⟨2, (.seq (.reg [⟨(some 4), .asg (.c (.b false)), none, [4]⟩])
 (.seq (.seq (.reg [⟨(some 6), .mv (.t 0), none, []⟩,
 ⟨(some 7), .lenL (.t 6), none, [6]⟩,
 ⟨(some 8), .mv (.t 1), none, []⟩,
 ⟨(some 9), .lenL (.t 8), none, [8]⟩,
 ⟨(some 10), .bin .neq (.t 7) (.t 9), none, [7, 9]⟩])
 (.cond (.t 10) (.seq (.reg [⟨(some 4), .asg (.c (.b false)), none, []⟩])
 .ret)
 .skip))
 (.seq (.seq (.reg [⟨(some 11), .mv (.t 0), none, []⟩,
 ⟨(some 12), .lenL (.t 11), none, [11]⟩,
 ⟨(some 13), .mv (.c (.i .i64 0)), none, []⟩])
 (.blk 0 (.loop (.seq (.reg [⟨(some 14), .bin .lss (.t 13) (.t 12), none, []⟩])
 (.seq (.cond (.t 14) .skip
 (.exit 0))
 (.seq (.blk 1 (.seq (.reg [⟨(some 15), .mv (.t 13), none, []⟩,
 ⟨(some 5), .asg (.t 15), none, [15]⟩])
 (.seq (.dreg [⟨0, ⟨(some 16), .mv (.t 0), none, []⟩, false, []⟩,
 ⟨1, ⟨(some 17), .mv (.t 5), none, []⟩, false, []⟩,
 ⟨2, ⟨(some 18), .iasl 1 (.t 16) (.t 17), none, []⟩, false, []⟩,
 ⟨3, ⟨(some 19), .load none (.t 18), none, []⟩, false, []⟩,
 ⟨4, ⟨(some 20), .mv (.t 1), none, []⟩, false, []⟩,
 ⟨5, ⟨(some 21), .mv (.t 5), none, []⟩, false, []⟩,
 ⟨6, ⟨(some 22), .iasl 1 (.t 20) (.t 21), none, []⟩, false, []⟩,
 ⟨7, ⟨(some 23), .load none (.t 22), none, []⟩, false, []⟩,
 ⟨8, ⟨(some 24), .bin .neq (.t 19) (.t 23), none, []⟩, false, []⟩] [16, 5, 17, 18, 19, 20, 21, 22, 23])
 (.cond (.t 24) (.seq (.reg [⟨(some 4), .asg (.c (.b false)), none, []⟩])
 .ret)
 .skip))))
 (.reg [⟨(some 25), .bin .add (.t 13) (.c (.i .i64 1)), none, [13]⟩,
 ⟨(some 13), .mv (.t 25), none, [25]⟩])))))))
 (.seq (.reg [⟨(some 4), .asg (.c (.b true)), none, []⟩])
 .ret)))), [.t 4]⟩
/-- slices.Equal   interrex/api.Pair interrex/api.Pair  -/
def f267 : AFn := ⟨2, (.seq (.reg [⟨(some 4), .asg (.c (.b false)), none, [4]⟩])
 (.seq (.seq (.reg [⟨(some 6), .mv (.t 0), none, []⟩,
 ⟨(some 7), .lenL (.t 6), none, [6]⟩,
 ⟨(some 8), .mv (.t 1), none, []⟩,
 ⟨(some 9), .lenL (.t 8), none, [8]⟩,
 ⟨(some 10), .bin .neq (.t 7) (.t 9), none, [7, 9]⟩])
 (.cond (.t 10) (.seq (.reg [⟨(some 4), .asg (.c (.b false)), none, []⟩])
 .ret)
 .skip))
 (.seq (.seq (.reg [⟨(some 11), .mv (.t 0), none, []⟩,
 ⟨(some 12), .lenL (.t 11), none, [11]⟩,
 ⟨(some 13), .mv (.c (.i .i64 0)), none, []⟩])
 (.blk 0 (.loop (.seq (.reg [⟨(some 14), .bin .lss (.t 13) (.t 12), none, []⟩])
 (.seq (.cond (.t 14) .skip
 (.exit 0))
 (.seq (.blk 1 (.seq (.reg [⟨(some 15), .mv (.t 13), none, []⟩,
 ⟨(some 5), .asg (.t 15), none, [15]⟩])
 (.seq (.dreg [⟨0, ⟨(some 16), .mv (.t 0), none, []⟩, false, []⟩,
 ⟨1, ⟨(some 17), .mv (.t 5), none, []⟩, false, []⟩,
 ⟨2, ⟨(some 18), .iasl 2 (.t 16) (.t 17), none, []⟩, false, []⟩,
 ⟨3, ⟨(some 19), .load (some 2) (.t 18), none, []⟩, false, []⟩,
 ⟨4, ⟨(some 20), .mv (.t 1), none, []⟩, false, []⟩,
 ⟨5, ⟨(some 21), .mv (.t 5), none, []⟩, false, []⟩,
 ⟨6, ⟨(some 22), .iasl 2 (.t 20) (.t 21), none, []⟩, false, []⟩,
 ⟨7, ⟨(some 23), .load (some 2) (.t 22), none, []⟩, false, []⟩,
 ⟨8, ⟨(some 24), .eqc true [.s, .s] true (.t 19) (.t 23), none, []⟩, false, []⟩] [16, 5, 17, 18, 19, 20, 21, 22, 23])
 (.cond (.t 24) (.seq (.reg [⟨(some 4), .asg (.c (.b false)), none, []⟩])
 .ret)
 .skip))))
 (.reg [⟨(some 25), .bin .add (.t 13) (.c (.i .i64 1)), none, [13]⟩,
 ⟨(some 13), .mv (.t 25), none, [25]⟩])))))))
 (.seq (.reg [⟨(some 4), .asg (.c (.b true)), none, []⟩])
 .ret)))), [.t 4]⟩
/-- slices.Equal   interrex/api.Toler interrex/api.Toler  -/
def f268 : AFn := ⟨2, (.seq (.reg [⟨(some 4), .asg (.c (.b false)), none, [4]⟩])
 (.seq (.seq (.reg [⟨(some 6), .mv (.t 0), none, []⟩,
 ⟨(some 7), .lenL (.t 6), none, [6]⟩,
 ⟨(some 8), .mv (.t 1), none, []⟩,
 ⟨(some 9), .lenL (.t 8), none, [8]⟩,
 ⟨(some 10), .bin .neq (.t 7) (.t 9), none, [7, 9]⟩])
 (.cond (.t 10) (.seq (.reg [⟨(some 4), .asg (.c (.b false)), none, []⟩])
 .ret)
 .skip))
 (.seq (.seq (.reg [⟨(some 11), .mv (.t 0), none, []⟩,
 ⟨(some 12), .lenL (.t 11), none, [11]⟩,
 ⟨(some 13), .mv (.c (.i .i64 0)), none, []⟩])
 (.blk 0 (.loop (.seq (.reg [⟨(some 14), .bin .lss (.t 13) (.t 12), none, []⟩])
 (.seq (.cond (.t 14) .skip
 (.exit 0))
 (.seq (.blk 1 (.seq (.reg [⟨(some 15), .mv (.t 13), none, []⟩,
 ⟨(some 5), .asg (.t 15), none, [15]⟩])
 (.seq (.dreg [⟨0, ⟨(some 16), .mv (.t 0), none, []⟩, false, []⟩,
 ⟨1, ⟨(some 17), .mv (.t 5), none, []⟩, false, []⟩,
 ⟨2, ⟨(some 18), .iasl 3 (.t 16) (.t 17), none, []⟩, false, []⟩,
 ⟨3, ⟨(some 19), .load (some 3) (.t 18), none, []⟩, false, []⟩,
 ⟨4, ⟨(some 20), .mv (.t 1), none, []⟩, false, []⟩,
 ⟨5, ⟨(some 21), .mv (.t 5), none, []⟩, false, []⟩,
 ⟨6, ⟨(some 22), .iasl 3 (.t 20) (.t 21), none, []⟩, false, []⟩,
 ⟨7, ⟨(some 23), .load (some 3) (.t 22), none, []⟩, false, []⟩,
 ⟨8, ⟨(some 24), .eqc true [.s, .s, .b] true (.t 19) (.t 23), none, []⟩, false, []⟩] [16, 5, 17, 18, 19, 20, 21, 22, 23])
 (.cond (.t 24) (.seq (.reg [⟨(some 4), .asg (.c (.b false)), none, []⟩])
 .ret)
 .skip))))
 (.reg [⟨(some 25), .bin .add (.t 13) (.c (.i .i64 1)), none, [13]⟩,
 ⟨(some 13), .mv (.t 25), none, [25]⟩])))))))
 (.seq (.reg [⟨(some 4), .asg (.c (.b true)), none, []⟩])
 .ret)))), [.t 4]⟩
/-- interrex/obj.eqTerms -/
def f269 : AFn := ⟨2, (.seq (.reg [⟨(some 4), .asg (.c (.b false)), none, [4]⟩])
 (.seq (.reg [⟨(some 5), .mv (.t 0), none, [0]⟩,
 ⟨(some 6), .mv (.t 1), none, [1]⟩,
 ⟨(some 7), .call 279 [(.t 5), (.t 6), (.c (.fn 280 [] []))], none, [5, 6]⟩,
 ⟨(some 4), .asg (.t 7), none, [7]⟩])
 .ret)), [.t 4]⟩
/-- internal/stringslite.HasPrefix -/
def f275 : AFn := ⟨2, (.seq (.reg [⟨(some 4), .asg (.c (.b false)), none, [4]⟩])
 (.seq (.reg [⟨(some 5), .mv (.t 0), none, []⟩,
 ⟨(some 6), .lenS (.t 5), none, [5]⟩,
 ⟨(some 7), .mv (.t 1), none, []⟩,
 ⟨(some 8), .lenS (.t 7), none, [7]⟩,
 ⟨(some 9), .bin .geq (.t 6) (.t 8), none, [6, 8]⟩,
 ⟨(some 10), .mv (.t 9), none, [9]⟩,
 ⟨(some 11), .mv (.t 0), (some (10, true)), [0]⟩,
 ⟨(some 12), .mv (.t 1), (some (10, true)), []⟩,
 ⟨(some 13), .lenS (.t 12), (some (10, true)), [12]⟩,
 ⟨(some 14), .slstr (.t 11) none (some (.t 13)), (some (10, true)), [11, 13]⟩,
 ⟨(some 15), .mv (.t 1), (some (10, true)), [1]⟩,
 ⟨(some 16), .bin .eql (.t 14) (.t 15), (some (10, true)), [14, 15]⟩,
 ⟨(some 17), .pick (.t 10) (.t 16) (.c (.b false)), none, [10, 16]⟩,
 ⟨(some 4), .asg (.t 17), none, [17]⟩])
 .ret)), [.t 4]⟩
/-- interrex/qty.in -/
def f276 : AFn := ⟨1, (.seq (.reg [⟨(some 2), .asg (.c (.b false)), none, [2]⟩])
 (.seq (.reg [⟨(some 3), .mv (.t 0), none, []⟩,
 ⟨(some 4), .bin .geq (.t 3) (.c (.i .i64 0)), none, [3]⟩,
 ⟨(some 5), .mv (.t 4), none, [4]⟩,
 ⟨(some 6), .mv (.t 0), (some (5, true)), [0]⟩,
 ⟨(some 7), .bin .leq (.t 6) (.c (.i .i64 4611686018427387904)), (some (5, true)), [6]⟩,
 ⟨(some 8), .pick (.t 5) (.t 7) (.c (.b false)), none, [5, 7]⟩,
 ⟨(some 2), .asg (.t 8), none, [8]⟩])
 .ret)), [.t 2]⟩
/-- interrex/label.Get -/
def f277 : AFn := ⟨2, (.seq (.reg [⟨(some 4), .asg (.c (.s [])), none, [4]⟩,
 ⟨(some 5), .asg (.c (.b false)), none, [5]⟩])
 (.seq (.seq (.reg [⟨(some 8), .mv (.t 0), none, [0]⟩,
 ⟨(some 9), .lenL (.t 8), none, []⟩,
 ⟨(some 10), .mv (.c (.i .i64 0)), none, []⟩])
 (.blk 0 (.loop (.seq (.reg [⟨(some 11), .bin .lss (.t 10) (.t 9), none, []⟩])
 (.seq (.cond (.t 11) .skip
 (.exit 0))
 (.seq (.blk 1 (.seq (.reg [⟨(some 12), .iasl 2 (.t 8) (.t 10), none, []⟩,
 ⟨(some 13), .load (some 2) (.t 12), none, [12]⟩,
 ⟨(some 7), .alloc false [(.s []), (.s [])], none, []⟩,
 ⟨none, .store 2 (.t 7) (.t 13), none, [13]⟩])
 (.seq (.reg [⟨(some 14), .faddr 0 (.t 7), none, []⟩,
 ⟨(some 15), .load none (.t 14), none, [14]⟩,
 ⟨(some 16), .mv (.t 1), none, []⟩,
 ⟨(some 17), .bin .eql (.t 15) (.t 16), none, [15, 16]⟩])
 (.cond (.t 17) (.seq (.reg [⟨(some 18), .faddr 1 (.t 7), none, [7]⟩,
 ⟨(some 19), .load none (.t 18), none, [18]⟩,
 ⟨(some 4), .asg (.t 19), none, [19]⟩,
 ⟨(some 5), .asg (.c (.b true)), none, []⟩])
 .ret)
 .skip))))
 (.reg [⟨(some 20), .bin .add (.t 10) (.c (.i .i64 1)), none, [10]⟩,
 ⟨(some 10), .mv (.t 20), none, [20]⟩])))))))
 (.seq (.reg [⟨(some 4), .asg (.c (.s [])), none, []⟩,
 ⟨(some 5), .asg (.c (.b false)), none, []⟩])
 .ret))), [.t 4, .t 5]⟩
/-- slices.Contains   string string  -/
def f278 : AFn := ⟨2, (.seq (.reg [⟨(some 4), .asg (.c (.b false)), none, [4]⟩])
 (.seq (.reg [⟨(some 5), .mv (.t 0), none, [0]⟩,
 ⟨(some 6), .mv (.t 1), none, [1]⟩,
 ⟨(some 7), .call 290 [(.t 5), (.t 6)], none, [5, 6]⟩,
 ⟨(some 8), .bin .geq (.t 7) (.c (.i .i64 0)), none, [7]⟩,
 ⟨(some 4), .asg (.t 8), none, [8]⟩])
 .ret)), [.t 4]⟩
/-- slices.EqualFunc   interrex/api.Term   interrex/api.Term interrex/api.Term interrex/api.Term  -/
def f279 : AFn := ⟨3, (.seq (.reg [⟨(some 6), .asg (.c (.b false)), none, [6]⟩])
 (.seq (.seq (.reg [⟨(some 10), .mv (.t 0), none, []⟩,
 ⟨(some 11), .lenL (.t 10), none, [10]⟩,
 ⟨(some 12), .mv (.t 1), none, []⟩,
 ⟨(some 13), .lenL (.t 12), none, [12]⟩,
 ⟨(some 14), .bin .neq (.t 11) (.t 13), none, [11, 13]⟩])
 (.cond (.t 14) (.seq (.reg [⟨(some 6), .asg (.c (.b false)), none, []⟩])
 .ret)
 .skip))
 (.seq (.seq (.reg [⟨(some 15), .mv (.t 0), none, [0]⟩,
 ⟨(some 16), .lenL (.t 15), none, []⟩,
 ⟨(some 17), .mv (.c (.i .i64 0)), none, []⟩])
 (.blk 0 (.loop (.seq (.reg [⟨(some 18), .bin .lss (.t 17) (.t 16), none, []⟩])
 (.seq (.cond (.t 18) .skip
 (.exit 0))
 (.seq (.blk 1 (.seq (.reg [⟨(some 19), .mv (.t 17), none, []⟩,
 ⟨(some 20), .iasl 3 (.t 15) (.t 17), none, []⟩,
 ⟨(some 21), .load (some 3) (.t 20), none, [20]⟩,
 ⟨(some 8), .alloc false [(.s []), (.i .i64 0), .nils], none, []⟩,
 ⟨(some 7), .asg (.t 19), none, [19]⟩,
 ⟨none, .store 3 (.t 8) (.t 21), none, [21]⟩])
 (.seq (.reg [⟨(some 22), .mv (.t 1), none, []⟩,
 ⟨(some 23), .mv (.t 7), none, [7]⟩,
 ⟨(some 24), .iasl 3 (.t 22) (.t 23), none, [22, 23]⟩,
 ⟨(some 25), .load (some 3) (.t 24), none, [24]⟩,
 ⟨(some 9), .alloc false [(.s []), (.i .i64 0), .nils], none, []⟩,
 ⟨none, .store 3 (.t 9) (.t 25), none, [25]⟩])
 (.seq (.reg [⟨(some 26), .mv (.t 2), none, []⟩,
 ⟨(some 27), .load (some 3) (.t 8), none, [8]⟩,
 ⟨(some 28), .load (some 3) (.t 9), none, [9]⟩,
 ⟨(some 29), .callv (.t 26) [(.t 27), (.t 28)], none, [26, 27, 28]⟩,
 ⟨(some 30), .un .not (.t 29), none, [29]⟩])
 (.cond (.t 30) (.seq (.reg [⟨(some 6), .asg (.c (.b false)), none, []⟩])
 .ret)
 .skip)))))
 (.reg [⟨(some 31), .bin .add (.t 17) (.c (.i .i64 1)), none, [17]⟩,
 ⟨(some 17), .mv (.t 31), none, [31]⟩])))))))
 (.seq (.reg [⟨(some 6), .asg (.c (.b true)), none, []⟩])
 .ret)))), [.t 6]⟩
/-- interrex/obj.eqTerms 1 -/
def f280 : AFn := ⟨2, (.seq (.reg [⟨(some 2), .box false (.t 0), none, [0]⟩,
 ⟨(some 3), .box false (.t 1), none, [1]⟩,
 ⟨(some 4), .asg (.c (.b false)), none, [4]⟩])
 (.seq (.reg [⟨(some 5), .faddr 0 (.t 2), none, []⟩,
 ⟨(some 6), .load none (.t 5), none, [5]⟩,
 ⟨(some 7), .faddr 0 (.t 3), none, []⟩,
 ⟨(some 8), .load none (.t 7), none, [7]⟩,
 ⟨(some 9), .bin .eql (.t 6) (.t 8), none, [6, 8]⟩,
 ⟨(some 10), .mv (.t 9), none, [9]⟩,
 ⟨(some 11), .faddr 1 (.t 2), (some (10, true)), []⟩,
 ⟨(some 12), .load none (.t 11), (some (10, true)), [11]⟩,
 ⟨(some 13), .faddr 1 (.t 3), (some (10, true)), []⟩,
 ⟨(some 14), .load none (.t 13), (some (10, true)), [13]⟩,
 ⟨(some 15), .bin .eql (.t 12) (.t 14), (some (10, true)), [12, 14]⟩,
 ⟨(some 16), .pick (.t 10) (.t 15) (.c (.b false)), none, [10, 15]⟩,
 ⟨(some 17), .mv (.t 16), none, [16]⟩,
 ⟨(some 18), .faddr 2 (.t 2), (some (17, true)), [2]⟩,
 ⟨(some 19), .load none (.t 18), (some (17, true)), [18]⟩,
 ⟨(some 20), .faddr 2 (.t 3), (some (17, true)), [3]⟩,
 ⟨(some 21), .load none (.t 20), (some (17, true)), [20]⟩,
 ⟨(some 22), .call 281 [(.t 19), (.t 21)], (some (17, true)), [19, 21]⟩,
 ⟨(some 23), .pick (.t 17) (.t 22) (.c (.b false)), none, [17, 22]⟩,
 ⟨(some 4), .asg (.t 23), none, [23]⟩])
 .ret)), [.t 4]⟩
/-- slices.Equal   string string  -/
def f281 : AFn := ⟨2, (.seq (.reg [⟨(some 4), .asg (.c (.b false)), none, [4]⟩])
 (.seq (.seq (.reg [⟨(some 6), .mv (.t 0), none, []⟩,
 ⟨(some 7), .lenL (.t 6), none, [6]⟩,
 ⟨(some 8), .mv (.t 1), none, []⟩,
 ⟨(some 9), .lenL (.t 8), none, [8]⟩,
 ⟨(some 10), .bin .neq (.t 7) (.t 9), none, [7, 9]⟩])
 (.cond (.t 10) (.seq (.reg [⟨(some 4), .asg (.c (.b false)), none, []⟩])
 .ret)
 .skip))
 (.seq (.seq (.reg [⟨(some 11), .mv (.t 0), none, []⟩,
 ⟨(some 12), .lenL (.t 11), none, [11]⟩,
 ⟨(some 13), .mv (.c (.i .i64 0)), none, []⟩])
 (.blk 0 (.loop (.seq (.reg [⟨(some 14), .bin .lss (.t 13) (.t 12), none, []⟩])
 (.seq (.cond (.t 14) .skip
 (.exit 0))
 (.seq (.blk 1 (.seq (.reg [⟨(some 15), .mv (.t 13), none, []⟩,
 ⟨(some 5), .asg (.t 15), none, [15]⟩])
 (.seq (.dreg [⟨0, ⟨(some 16), .mv (.t 0), none, []⟩, false, []⟩,
 ⟨1, ⟨(some 17), .mv (.t 5), none, []⟩, false, []⟩,
 ⟨2, ⟨(some 18), .iasl 1 (.t 16) (.t 17), none, []⟩, false, []⟩,
 ⟨3, ⟨(some 19), .load none (.t 18), none, []⟩, false, []⟩,
 ⟨4, ⟨(some 20), .mv (.t 1), none, []⟩, false, []⟩,
 ⟨5, ⟨(some 21), .mv (.t 5), none, []⟩, false, []⟩,
 ⟨6, ⟨(some 22), .iasl 1 (.t 20) (.t 21), none, []⟩, false, []⟩,
 ⟨7, ⟨(some 23), .load none (.t 22), none, []⟩, false, []⟩,
 ⟨8, ⟨(some 24), .bin .neq (.t 19) (.t 23), none, []⟩, false, []⟩] [16, 5, 17, 18, 19, 20, 21, 22, 23])
 (.cond (.t 24) (.seq (.reg [⟨(some 4), .asg (.c (.b false)), none, []⟩])
 .ret)
 .skip))))
 (.reg [⟨(some 25), .bin .add (.t 13) (.c (.i .i64 1)), none, [13]⟩,
 ⟨(some 13), .mv (.t 25), none, [25]⟩])))))))
 (.seq (.reg [⟨(some 4), .asg (.c (.b true)), none, []⟩])
 .ret)))), [.t 4]⟩
/-- slices.Index   string string  -/
def f290 : AFn := ⟨2, (.seq (.reg [⟨(some 4), .asg (.c (.i .i64 0)), none, [4]⟩])
 (.seq (.seq (.reg [⟨(some 6), .mv (.t 0), none, []⟩,
 ⟨(some 7), .lenL (.t 6), none, [6]⟩,
 ⟨(some 8), .mv (.c (.i .i64 0)), none, []⟩])
 (.blk 0 (.loop (.seq (.reg [⟨(some 9), .bin .lss (.t 8) (.t 7), none, []⟩])
 (.seq (.cond (.t 9) .skip
 (.exit 0))
 (.seq (.blk 1 (.seq (.reg [⟨(some 10), .mv (.t 8), none, []⟩,
 ⟨(some 5), .asg (.t 10), none, [10]⟩])
 (.seq (.reg [⟨(some 11), .mv (.t 1), none, []⟩,
 ⟨(some 12), .mv (.t 0), none, []⟩,
 ⟨(some 13), .mv (.t 5), none, []⟩,
 ⟨(some 14), .iasl 1 (.t 12) (.t 13), none, [12, 13]⟩,
 ⟨(some 15), .load none (.t 14), none, [14]⟩,
 ⟨(some 16), .bin .eql (.t 11) (.t 15), none, [11, 15]⟩])
 (.cond (.t 16) (.seq (.reg [⟨(some 17), .mv (.t 5), none, [5]⟩,
 ⟨(some 4), .asg (.t 17), none, [17]⟩])
 .ret)
 .skip))))
 (.reg [⟨(some 18), .bin .add (.t 8) (.c (.i .i64 1)), none, [8]⟩,
 ⟨(some 8), .mv (.t 18), none, [18]⟩])))))))
 (.seq (.reg [⟨(some 4), .asg (.c (.i .i64 (-1))), none, []⟩])
 .ret))), [.t 4]⟩
end Go.Eng.AF
