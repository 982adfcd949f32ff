/-
Functions' abstract texts, of a law's own.
-/
import Derived.Test.YtjoaahnmbonboaaGreatEngExec
set_option maxRecDepth 100000
namespace Go.Eng.AO
open Go Go.Eng
/-- interrex/interrexlaw10.CacheOwn -/
def f9 : AFn := ⟨1, (.seq (.reg [⟨(some 2), .asg (.c (.b false)), none, [2]⟩])
 (.seq (.reg [⟨(some 11), .call 11 [], none, []⟩,
 ⟨(some 3), .asg (.t 11), none, [11]⟩])
 (.seq (.seq (.reg [⟨(some 12), .mv (.t 3), none, [3]⟩,
 ⟨(some 13), .un .not (.t 12), none, [12]⟩])
 (.cond (.t 13) (.seq (.reg [⟨(some 2), .asg (.c (.b false)), none, []⟩])
 .ret)
 .skip))
 (.seq (.reg [⟨(some 14), .bsl (.mu true) 1 1 [(.i .u8 0)] [(0, (.c (.i .u8 3)))], none, []⟩,
 ⟨(some 15), .mv (.t 0), none, []⟩,
 ⟨(some 16), .mv (.t 0), none, [0]⟩,
 ⟨(some 17), .lenL (.t 16), none, [16]⟩,
 ⟨(some 18), .mnmx false [(.t 17), (.c (.i .i64 20))], none, [17]⟩,
 ⟨(some 19), .slsl 1 (.t 15) none (some (.t 18)) none, none, [15, 18]⟩,
 ⟨(some 20), .append (.mu true) 1 1 (.t 14) (.t 19), none, [14, 19]⟩,
 ⟨(some 0), .asg (.t 20), none, [20]⟩])
 (.seq (.reg [⟨(some 21), .call 32 [], none, []⟩,
 ⟨(some 4), .asg (.t 21), none, [21]⟩])
 (.seq (.reg [⟨(some 22), .mv (.t 0), none, []⟩,
 ⟨(some 23), .append (.mu true) 1 1 (.c .nils) (.t 22), none, [22]⟩,
 ⟨(some 5), .asg (.t 23), none, [23]⟩])
 (.seq (.seq (.reg [⟨(some 24), .mv (.t 4), none, []⟩,
 ⟨(some 25), .mv (.t 5), none, []⟩,
 ⟨(some 26), .bld [(.s []), (.i .i64 0), .nils] [(0, 1, (.c (.s [97]))), (1, 1, (.c (.i .i64 2))), (2, 1, (.t 25))], none, [25]⟩,
 ⟨(some 27), .bsl (.mu true) 3 1 [(.s []), (.i .i64 0), .nils] [(0, (.t 26))], none, [26]⟩,
 ⟨(some 28), .call 33 [(.t 24), (.c (.i .i64 5)), (.t 27)], none, [24, 27]⟩,
 ⟨(some 29), .un .not (.t 28), none, [28]⟩])
 (.cond (.t 29) (.seq (.reg [⟨(some 2), .asg (.c (.b false)), none, []⟩])
 .ret)
 .skip))
 (.seq (.reg [⟨(some 30), .mv (.t 5), none, [5]⟩,
 ⟨(some 31), .iasl 1 (.t 30) (.c (.i .i64 0)), none, []⟩,
 ⟨(some 32), .load none (.t 31), none, [31]⟩,
 ⟨(some 33), .bin .add (.t 32) (.c (.i .u8 1)), none, [32]⟩,
 ⟨(some 34), .iasl 1 (.t 30) (.c (.i .i64 0)), none, [30]⟩,
 ⟨none, .store 1 (.t 34) (.t 33), none, [34, 33]⟩])
 (.seq (.reg [⟨(some 36), .mv (.t 4), none, []⟩,
 ⟨(some 37), .call 34 [(.t 36), (.c (.s [97]))], none, [36]⟩,
 ⟨(some 35), .mv (.t 37), none, [37]⟩,
 ⟨(some 38), .ext (.t 35) 0, none, []⟩,
 ⟨(some 39), .ext (.t 35) 1, none, [35]⟩,
 ⟨(some 6), .alloc false [(.s []), (.i .i64 0), .nils], none, []⟩,
 ⟨none, .store 3 (.t 6) (.t 38), none, [38]⟩,
 ⟨(some 7), .asg (.t 39), none, [39, 7]⟩])
 (.seq (.reg [⟨(some 40), .mv (.t 4), none, []⟩,
 ⟨(some 41), .call 35 [(.t 40)], none, [40]⟩,
 ⟨(some 8), .asg (.t 41), none, [41]⟩])
 (.seq (.seq (.reg [⟨(some 42), .mv (.t 8), none, []⟩,
 ⟨(some 43), .lenL (.t 42), none, [42]⟩,
 ⟨(some 44), .bin .neq (.t 43) (.c (.i .i64 1)), none, [43]⟩,
 ⟨(some 45), .mv (.t 44), none, [44]⟩,
 ⟨(some 46), .faddr 2 (.t 6), (some (45, false)), []⟩,
 ⟨(some 47), .load none (.t 46), (some (45, false)), [46]⟩,
 ⟨(some 48), .mv (.t 0), (some (45, false)), []⟩,
 ⟨(some 49), .call 36 [(.t 47), (.t 48)], (some (45, false)), [47, 48]⟩,
 ⟨(some 50), .un .not (.t 49), (some (45, false)), [49]⟩,
 ⟨(some 51), .pick (.t 45) (.c (.b true)) (.t 50), none, [45, 50]⟩,
 ⟨(some 52), .mv (.t 51), none, [51]⟩,
 ⟨(some 53), .mv (.t 8), (some (52, false)), []⟩,
 ⟨(some 54), .iasl 3 (.t 53) (.c (.i .i64 0)), (some (52, false)), [53]⟩,
 ⟨(some 55), .faddr 2 (.t 54), (some (52, false)), [54]⟩,
 ⟨(some 56), .load none (.t 55), (some (52, false)), [55]⟩,
 ⟨(some 57), .mv (.t 0), (some (52, false)), []⟩,
 ⟨(some 58), .call 36 [(.t 56), (.t 57)], (some (52, false)), [56, 57]⟩,
 ⟨(some 59), .un .not (.t 58), (some (52, false)), [58]⟩,
 ⟨(some 60), .pick (.t 52) (.c (.b true)) (.t 59), none, [52, 59]⟩])
 (.cond (.t 60) (.seq (.reg [⟨(some 2), .asg (.c (.b false)), none, []⟩])
 .ret)
 .skip))
 (.seq (.dreg [⟨0, ⟨(some 61), .faddr 2 (.t 6), none, []⟩, false, []⟩,
 ⟨1, ⟨(some 62), .load none (.t 61), none, []⟩, false, []⟩,
 ⟨2, ⟨(some 63), .mv (.t 8), none, []⟩, false, []⟩,
 ⟨3, ⟨(some 64), .iasl 3 (.t 63) (.c (.i .i64 0)), none, []⟩, false, []⟩,
 ⟨4, ⟨(some 65), .faddr 2 (.t 64), none, []⟩, false, []⟩,
 ⟨5, ⟨(some 66), .load none (.t 65), none, []⟩, false, []⟩,
 ⟨6, ⟨(some 67), .iasl 1 (.t 62) (.c (.i .i64 0)), none, []⟩, false, []⟩,
 ⟨7, ⟨none, .store 1 (.t 67) (.c (.i .u8 9)), none, []⟩, true, []⟩,
 ⟨8, ⟨(some 68), .iasl 1 (.t 66) (.c (.i .i64 0)), none, []⟩, false, []⟩,
 ⟨9, ⟨none, .store 1 (.t 68) (.c (.i .u8 8)), none, []⟩, true, []⟩] [6, 61, 62, 8, 63, 64, 65, 66, 67, 68])
 (.seq (.reg [⟨(some 70), .mv (.t 4), none, [4]⟩,
 ⟨(some 71), .call 34 [(.t 70), (.c (.s [97]))], none, [70]⟩,
 ⟨(some 69), .mv (.t 71), none, [71]⟩,
 ⟨(some 72), .ext (.t 69) 0, none, []⟩,
 ⟨(some 73), .ext (.t 69) 1, none, [69]⟩,
 ⟨(some 9), .alloc false [(.s []), (.i .i64 0), .nils], none, []⟩,
 ⟨none, .store 3 (.t 9) (.t 72), none, [72]⟩,
 ⟨(some 10), .asg (.t 73), none, [73]⟩])
 (.seq (.reg [⟨(some 74), .mv (.t 10), none, [10]⟩,
 ⟨(some 75), .mv (.t 74), none, [74]⟩,
 ⟨(some 76), .faddr 2 (.t 9), (some (75, true)), [9]⟩,
 ⟨(some 77), .load none (.t 76), (some (75, true)), [76]⟩,
 ⟨(some 78), .mv (.t 0), (some (75, true)), [0]⟩,
 ⟨(some 79), .call 36 [(.t 77), (.t 78)], (some (75, true)), [77, 78]⟩,
 ⟨(some 80), .pick (.t 75) (.t 79) (.c (.b false)), none, [75, 79]⟩,
 ⟨(some 2), .asg (.t 80), none, [80]⟩])
 .ret)))))))))))))), [.t 2]⟩
/-- interrex/cache.New -/
def f32 : AFn := ⟨0, (.seq (.reg [⟨(some 0), .asg (.c .nilp), none, [0]⟩])
 (.seq (.reg [⟨(some 1), .bld [.nilm, (.i .i64 0)] [(1, 1, (.c (.i .i64 (-1))))], none, []⟩,
 ⟨(some 2), .box true (.t 1), none, [1]⟩,
 ⟨(some 0), .asg (.t 2), none, [2]⟩])
 .ret)), [.t 0]⟩
/-- ( interrex/cache.Cache).List -/
def f33 : AFn := ⟨3, (.seq (.reg [⟨(some 6), .asg (.c (.b false)), none, [6]⟩])
 (.seq (.seq (.reg [⟨(some 12), .mv (.t 0), none, []⟩,
 ⟨(some 13), .eqn false (.t 12) (.c .nilp), none, [12]⟩,
 ⟨(some 14), .mv (.t 13), none, [13]⟩,
 ⟨(some 15), .mv (.t 1), (some (14, false)), []⟩,
 ⟨(some 16), .bin .lss (.t 15) (.c (.i .i64 0)), (some (14, false)), [15]⟩,
 ⟨(some 17), .pick (.t 14) (.c (.b true)) (.t 16), none, [14, 16]⟩])
 (.cond (.t 17) (.seq (.reg [⟨(some 6), .asg (.c (.b false)), none, []⟩])
 .ret)
 .skip))
 (.seq (.reg [⟨(some 18), .mkmap true none, none, []⟩,
 ⟨(some 7), .asg (.t 18), none, [18]⟩])
 (.seq (.seq (.reg [⟨(some 19), .mv (.t 2), none, [2]⟩,
 ⟨(some 20), .lenL (.t 19), none, []⟩,
 ⟨(some 21), .mv (.c (.i .i64 0)), none, []⟩])
 (.blk 0 (.loop (.seq (.reg [⟨(some 22), .bin .lss (.t 21) (.t 20), none, []⟩])
 (.seq (.cond (.t 22) .skip
 (.exit 0))
 (.seq (.blk 1 (.seq (.reg [⟨(some 23), .iasl 3 (.t 19) (.t 21), none, []⟩,
 ⟨(some 24), .load (some 3) (.t 23), none, [23]⟩,
 ⟨(some 9), .alloc false [(.s []), (.i .i64 0), .nils], none, []⟩,
 ⟨none, .store 3 (.t 9) (.t 24), none, [24]⟩])
 (.seq (.seq (.reg [⟨(some 26), .mv (.t 7), none, []⟩,
 ⟨(some 27), .faddr 0 (.t 9), none, []⟩,
 ⟨(some 28), .load none (.t 27), none, [27]⟩,
 ⟨(some 29), .lkp none (.agg [(.s []), (.i .i64 0), .nils]) (.t 26) (.t 28) true, none, [26, 28]⟩,
 ⟨(some 25), .mv (.t 29), none, [29]⟩,
 ⟨(some 30), .ext (.t 25) 0, none, []⟩,
 ⟨(some 31), .ext (.t 25) 1, none, [25]⟩,
 ⟨(some 10), .alloc false [(.s []), (.i .i64 0), .nils], none, []⟩,
 ⟨none, .store 3 (.t 10) (.t 30), none, [10, 30]⟩,
 ⟨(some 11), .asg (.t 31), none, [31]⟩])
 (.seq (.reg [⟨(some 32), .mv (.t 11), none, [11]⟩,
 ⟨(some 33), .mv (.t 32), none, [32]⟩,
 ⟨(some 34), .faddr 0 (.t 9), (some (33, false)), []⟩,
 ⟨(some 35), .load none (.t 34), (some (33, false)), [34]⟩,
 ⟨(some 36), .bin .eql (.t 35) (.c (.s [])), (some (33, false)), [35]⟩,
 ⟨(some 37), .pick (.t 33) (.c (.b true)) (.t 36), none, [33, 36]⟩,
 ⟨(some 38), .mv (.t 37), none, [37]⟩,
 ⟨(some 39), .faddr 1 (.t 9), (some (38, false)), []⟩,
 ⟨(some 40), .load none (.t 39), (some (38, false)), [39]⟩,
 ⟨(some 41), .bin .lss (.t 40) (.c (.i .i64 1)), (some (38, false)), [40]⟩,
 ⟨(some 42), .pick (.t 38) (.c (.b true)) (.t 41), none, [38, 41]⟩,
 ⟨(some 43), .mv (.t 42), none, [42]⟩,
 ⟨(some 44), .faddr 1 (.t 9), (some (43, false)), []⟩,
 ⟨(some 45), .load none (.t 44), (some (43, false)), [44]⟩,
 ⟨(some 46), .mv (.t 1), (some (43, false)), []⟩,
 ⟨(some 47), .bin .gtr (.t 45) (.t 46), (some (43, false)), [45, 46]⟩,
 ⟨(some 48), .pick (.t 43) (.c (.b true)) (.t 47), none, [43, 47]⟩])
 (.cond (.t 48) (.seq (.reg [⟨(some 6), .asg (.c (.b false)), none, []⟩])
 .ret)
 .skip)))
 (.dreg [⟨0, ⟨(some 49), .mv (.t 7), none, []⟩, false, []⟩,
 ⟨1, ⟨(some 50), .faddr 0 (.t 9), none, []⟩, false, []⟩,
 ⟨2, ⟨(some 51), .load none (.t 50), none, []⟩, false, []⟩,
 ⟨3, ⟨(some 52), .load (some 3) (.t 9), none, []⟩, false, []⟩,
 ⟨4, ⟨(some 53), .call 75 [(.t 52)], none, []⟩, true, [2]⟩,
 ⟨5, ⟨none, .mupd none (.t 49) (.t 51) (.t 53), none, []⟩, true, []⟩] [49, 9, 50, 51, 52, 53]))))
 (.reg [⟨(some 54), .bin .add (.t 21) (.c (.i .i64 1)), none, [21]⟩,
 ⟨(some 21), .mv (.t 54), none, [54]⟩])))))))
 (.seq (.reg [⟨(some 55), .mv (.t 0), none, []⟩,
 ⟨(some 56), .mv (.t 0), none, [0]⟩,
 ⟨(some 57), .mv (.t 7), none, [7]⟩,
 ⟨(some 58), .mv (.t 1), none, [1]⟩,
 ⟨(some 59), .nilc (.t 55), none, [55]⟩,
 ⟨(some 60), .faddr 0 (.t 59), none, [59]⟩,
 ⟨none, .store 1 (.t 60) (.t 57), none, [60, 57]⟩,
 ⟨(some 61), .nilc (.t 56), none, [56]⟩,
 ⟨(some 62), .faddr 1 (.t 61), none, [61]⟩,
 ⟨none, .store 1 (.t 62) (.t 58), none, [62, 58]⟩])
 (.seq (.reg [⟨(some 6), .asg (.c (.b true)), none, []⟩])
 .ret)))))), [.t 6]⟩
/-- ( interrex/cache.Cache).Get -/
def f34 : AFn := ⟨2, (.seq (.reg [⟨(some 4), .alloc false [(.s []), (.i .i64 0), .nils], none, []⟩,
 ⟨(some 5), .asg (.c (.b false)), none, [5]⟩])
 (.seq (.seq (.reg [⟨(some 8), .mv (.t 0), none, []⟩,
 ⟨(some 9), .eqn false (.t 8) (.c .nilp), none, [8]⟩])
 (.cond (.t 9) (.seq (.reg [⟨(some 10), .bld [(.s []), (.i .i64 0), .nils] [], none, []⟩,
 ⟨none, .store 3 (.t 4) (.t 10), none, [10]⟩,
 ⟨(some 5), .asg (.c (.b false)), none, []⟩])
 .ret)
 .skip))
 (.seq (.reg [⟨(some 12), .mv (.t 0), none, [0]⟩,
 ⟨(some 13), .nilc (.t 12), none, [12]⟩,
 ⟨(some 14), .faddr 0 (.t 13), none, [13]⟩,
 ⟨(some 15), .load none (.t 14), none, [14]⟩,
 ⟨(some 16), .mv (.t 1), none, [1]⟩,
 ⟨(some 17), .lkp none (.agg [(.s []), (.i .i64 0), .nils]) (.t 15) (.t 16) true, none, [15, 16]⟩,
 ⟨(some 11), .mv (.t 17), none, [17]⟩,
 ⟨(some 18), .ext (.t 11) 0, none, []⟩,
 ⟨(some 19), .ext (.t 11) 1, none, [11]⟩,
 ⟨(some 6), .alloc false [(.s []), (.i .i64 0), .nils], none, []⟩,
 ⟨none, .store 3 (.t 6) (.t 18), none, [18]⟩,
 ⟨(some 7), .asg (.t 19), none, [19]⟩])
 (.seq (.reg [⟨(some 20), .load (some 3) (.t 6), none, [6]⟩,
 ⟨(some 21), .call 75 [(.t 20)], none, [20]⟩,
 ⟨(some 22), .mv (.t 7), none, [7]⟩,
 ⟨none, .store 3 (.t 4) (.t 21), none, [21]⟩,
 ⟨(some 5), .asg (.t 22), none, [22]⟩])
 .ret)))), [.cell 4 (some 3), .t 5]⟩
/-- ( interrex/cache.Cache).All -/
def f35 : AFn := ⟨1, (.seq (.reg [⟨(some 2), .asg (.c .nils), none, [2]⟩])
 (.seq (.seq (.reg [⟨(some 6), .mv (.t 0), none, []⟩,
 ⟨(some 7), .eqn false (.t 6) (.c .nilp), none, [6]⟩])
 (.cond (.t 7) (.seq (.reg [⟨(some 2), .asg (.c .nils), none, []⟩])
 .ret)
 .skip))
 (.seq (.reg [⟨(some 3), .asg (.c .nils), none, []⟩])
 (.seq (.seq (.reg [⟨(some 8), .mv (.t 0), none, []⟩,
 ⟨(some 9), .nilc (.t 8), none, [8]⟩,
 ⟨(some 10), .faddr 0 (.t 9), none, [9]⟩,
 ⟨(some 11), .load none (.t 10), none, [10]⟩,
 ⟨(some 12), .call 77 [(.t 11)], none, [11]⟩,
 ⟨(some 13), .call 76 [(.t 12)], none, [12]⟩,
 ⟨(some 14), .lenL (.t 13), none, []⟩,
 ⟨(some 15), .mv (.c (.i .i64 0)), none, []⟩])
 (.blk 0 (.loop (.seq (.reg [⟨(some 16), .bin .lss (.t 15) (.t 14), none, []⟩])
 (.seq (.cond (.t 16) .skip
 (.exit 0))
 (.seq (.blk 1 (.seq (.reg [⟨(some 17), .iasl 1 (.t 13) (.t 15), none, []⟩,
 ⟨(some 18), .load none (.t 17), none, [17]⟩,
 ⟨(some 5), .asg (.t 18), none, [18]⟩])
 (.reg [⟨(some 19), .mv (.t 3), none, [3]⟩,
 ⟨(some 20), .mv (.t 0), none, []⟩,
 ⟨(some 21), .nilc (.t 20), none, [20]⟩,
 ⟨(some 22), .faddr 0 (.t 21), none, [21]⟩,
 ⟨(some 23), .load none (.t 22), none, [22]⟩,
 ⟨(some 24), .mv (.t 5), none, [5]⟩,
 ⟨(some 25), .lkp none (.agg [(.s []), (.i .i64 0), .nils]) (.t 23) (.t 24) false, none, [23, 24]⟩,
 ⟨(some 26), .call 75 [(.t 25)], none, [25]⟩,
 ⟨(some 27), .bsl (.mu true) 3 1 [(.s []), (.i .i64 0), .nils] [(0, (.t 26))], none, [26]⟩,
 ⟨(some 28), .append (.mu true) 3 48 (.t 19) (.t 27), none, [19, 27]⟩,
 ⟨(some 3), .asg (.t 28), none, [28]⟩])))
 (.reg [⟨(some 29), .bin .add (.t 15) (.c (.i .i64 1)), none, [15]⟩,
 ⟨(some 15), .mv (.t 29), none, [29]⟩])))))))
 (.seq (.reg [⟨(some 30), .mv (.t 3), none, [3]⟩,
 ⟨(some 2), .asg (.t 30), none, [30]⟩])
 .ret))))), [.t 2]⟩
/-- interrex/interrexref1.Bytes -/
def f36 : AFn := ⟨2, (.seq (.reg [⟨(some 4), .asg (.c (.b false)), none, [4]⟩])
 (.seq (.reg [⟨(some 5), .mv (.t 0), none, [0]⟩,
 ⟨(some 6), .b2s (.t 5), none, [5]⟩,
 ⟨(some 7), .mv (.t 1), none, [1]⟩,
 ⟨(some 8), .b2s (.t 7), none, [7]⟩,
 ⟨(some 9), .bin .eql (.t 6) (.t 8), none, [6, 8]⟩,
 ⟨(some 4), .asg (.t 9), none, [9]⟩])
 .ret)), [.t 4]⟩
/-- interrex/cache.copied -/
def f75 : AFn := ⟨1, (.seq (.reg [⟨(some 1), .box false (.t 0), none, [0]⟩,
 ⟨(some 2), .alloc false [(.s []), (.i .i64 0), .nils], none, []⟩])
 (.seq (.reg [⟨(some 3), .faddr 2 (.t 1), none, []⟩,
 ⟨(some 4), .load none (.t 3), none, [3]⟩,
 ⟨(some 5), .call 106 [(.t 4)], none, [4]⟩,
 ⟨(some 6), .faddr 2 (.t 1), none, []⟩,
 ⟨none, .store 1 (.t 6) (.t 5), none, [6, 5]⟩])
 (.seq (.reg [⟨(some 7), .load (some 3) (.t 1), none, [1]⟩,
 ⟨none, .store 3 (.t 2) (.t 7), none, [7]⟩])
 .ret))), [.cell 2 (some 3)]⟩
/-- maps.Keys map string interrex/api.Entry string interrex/api.Entry  -/
def f77 : AFn := ⟨1, (.seq (.reg [⟨(some 1), .box true (.t 0), none, [0]⟩,
 ⟨(some 2), .asg (.c .nilf), none, [2]⟩])
 (.seq (.reg [⟨(some 3), .mkfn 113 [(.t 1)], none, [1]⟩,
 ⟨(some 2), .asg (.t 3), none, [3]⟩])
 .ret)), [.t 2]⟩
/-- slices.Clone   byte byte  -/
def f106 : AFn := ⟨1, (.seq (.reg [⟨(some 2), .asg (.c .nils), none, [2]⟩])
 (.seq (.seq (.reg [⟨(some 3), .mv (.t 0), none, []⟩,
 ⟨(some 4), .eqn false (.t 3) (.c .nils), none, [3]⟩])
 (.cond (.t 4) (.seq (.reg [⟨(some 2), .asg (.c .nils), none, []⟩])
 .ret)
 .skip))
 (.seq (.reg [⟨(some 5), .bsl (.mu true) 1 0 [(.i .u8 0)] [], none, []⟩,
 ⟨(some 6), .mv (.t 0), none, [0]⟩,
 ⟨(some 7), .append (.mu true) 1 1 (.t 5) (.t 6), none, [5, 6]⟩,
 ⟨(some 2), .asg (.t 7), none, [7]⟩])
 .ret))), [.t 2]⟩
/-- maps.Keys map string interrex/api.Entry string interrex/api.Entry  1 -/
def f113 : AFn := ⟨2, (.seq (.reg [⟨(some 4), .load none (.t 1), none, [1]⟩,
 ⟨(some 5), .no, none, [4]⟩])
 (.blk 0 (.loop (.seq (.reg [⟨(some 6), .no, none, []⟩,
 ⟨(some 7), .ext (.t 6) 0, none, [6]⟩])
 (.seq (.cond (.t 7) .skip
 (.exit 0))
 (.blk 1 (.seq (.reg [⟨(some 8), .no, none, []⟩,
 ⟨(some 9), .ext (.t 8) 0, none, [8]⟩,
 ⟨(some 3), .asg (.t 9), none, [9]⟩])
 (.seq (.reg [⟨(some 10), .mv (.t 0), none, []⟩,
 ⟨(some 11), .mv (.t 3), none, [3]⟩,
 ⟨(some 12), .callv (.t 10) [(.t 11)], none, [10, 11]⟩,
 ⟨(some 13), .un .not (.t 12), none, [12]⟩])
 (.cond (.t 13) .ret
 .skip))))))))), []⟩
def s32 : FT := (.node (.node .nil 9 f9 .nil) 32 f32 .nil)
def s35 : FT := (.node (.node .nil 34 f34 .nil) 35 f35 .nil)
def s77 : FT := (.node (.node .nil 75 f75 .nil) 77 f77 .nil)
def s113 : FT := (.node .nil 113 f113 .nil)
def fns : FT :=
  (.node (.node s32 33 f33 s35) 36 f36 (.node s77 106 f106 s113))
end Go.Eng.AO
