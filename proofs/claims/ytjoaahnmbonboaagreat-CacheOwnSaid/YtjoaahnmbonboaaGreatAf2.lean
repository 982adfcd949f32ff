/-
Functions' abstract texts.
-/
import Derived.Test.YtjoaahnmbonboaaGreatEngExec
set_option maxRecDepth 100000
namespace Go.Eng.AF
open Go Go.Eng
/-- interrex/label.MayTerms -/
def f132 : AFn := ⟨1, (.seq (.reg [⟨(some 2), .asg (.c (.b false)), none, [2]⟩])
 (.seq (.reg [⟨(some 3), .mv (.t 0), none, []⟩,
 ⟨(some 4), .lenL (.t 3), none, [3]⟩,
 ⟨(some 5), .bin .leq (.t 4) (.c (.i .i64 6)), none, [4]⟩,
 ⟨(some 6), .mv (.t 5), none, [5]⟩,
 ⟨(some 7), .mv (.t 0), (some (6, true)), [0]⟩,
 ⟨(some 8), .call 177 [(.t 7), (.c (.fn 178 [] []))], (some (6, true)), [7]⟩,
 ⟨(some 9), .un .not (.t 8), (some (6, true)), [8]⟩,
 ⟨(some 10), .pick (.t 6) (.t 9) (.c (.b false)), none, [6, 9]⟩,
 ⟨(some 2), .asg (.t 10), none, [10]⟩])
 .ret)), [.t 2]⟩
/-- interrex/taint.MayTols -/
def f133 : AFn := ⟨1, (.seq (.reg [⟨(some 2), .asg (.c (.b false)), none, [2]⟩])
 (.seq (.reg [⟨(some 3), .mv (.t 0), none, []⟩,
 ⟨(some 4), .lenL (.t 3), none, [3]⟩,
 ⟨(some 5), .bin .leq (.t 4) (.c (.i .i64 6)), none, [4]⟩,
 ⟨(some 6), .mv (.t 5), none, [5]⟩,
 ⟨(some 7), .mv (.t 0), (some (6, true)), [0]⟩,
 ⟨(some 8), .call 180 [(.t 7), (.c (.fn 181 [] []))], (some (6, true)), [7]⟩,
 ⟨(some 9), .un .not (.t 8), (some (6, true)), [8]⟩,
 ⟨(some 10), .pick (.t 6) (.t 9) (.c (.b false)), none, [6, 9]⟩,
 ⟨(some 2), .asg (.t 10), none, [10]⟩])
 .ret)), [.t 2]⟩
/-- interrex/obj.mayTopo -/
def f134 : AFn := ⟨1, (.seq (.reg [⟨(some 1), .box false (.t 0), none, [0]⟩,
 ⟨(some 2), .asg (.c (.b false)), none, [2]⟩])
 (.seq (.seq (.reg [⟨(some 3), .faddr 12 (.t 1), none, []⟩,
 ⟨(some 4), .load none (.t 3), none, [3]⟩,
 ⟨(some 5), .bin .lss (.t 4) (.c (.i .i64 0)), none, [4]⟩,
 ⟨(some 6), .mv (.t 5), none, [5]⟩,
 ⟨(some 7), .faddr 12 (.t 1), (some (6, false)), []⟩,
 ⟨(some 8), .load none (.t 7), (some (6, false)), [7]⟩,
 ⟨(some 9), .bin .gtr (.t 8) (.c (.i .i64 10)), (some (6, false)), [8]⟩,
 ⟨(some 10), .pick (.t 6) (.c (.b true)) (.t 9), none, [6, 9]⟩,
 ⟨(some 11), .mv (.t 10), none, [10]⟩,
 ⟨(some 12), .faddr 11 (.t 1), (some (11, false)), []⟩,
 ⟨(some 13), .load none (.t 12), (some (11, false)), [12]⟩,
 ⟨(some 14), .call 132 [(.t 13)], (some (11, false)), [13]⟩,
 ⟨(some 15), .un .not (.t 14), (some (11, false)), [14]⟩,
 ⟨(some 16), .pick (.t 11) (.c (.b true)) (.t 15), none, [11, 15]⟩,
 ⟨(some 17), .mv (.t 16), none, [16]⟩,
 ⟨(some 18), .faddr 13 (.t 1), (some (17, false)), []⟩,
 ⟨(some 19), .load none (.t 18), (some (17, false)), [18]⟩,
 ⟨(some 20), .call 132 [(.t 19)], (some (17, false)), [19]⟩,
 ⟨(some 21), .un .not (.t 20), (some (17, false)), [20]⟩,
 ⟨(some 22), .pick (.t 17) (.c (.b true)) (.t 21), none, [17, 21]⟩])
 (.cond (.t 22) (.seq (.reg [⟨(some 2), .asg (.c (.b false)), none, []⟩])
 .ret)
 .skip))
 (.seq (.reg [⟨(some 23), .faddr 10 (.t 1), none, []⟩,
 ⟨(some 24), .load none (.t 23), none, [23]⟩,
 ⟨(some 25), .call 102 [(.t 24)], none, [24]⟩,
 ⟨(some 26), .mv (.t 25), none, [25]⟩,
 ⟨(some 27), .faddr 10 (.t 1), (some (26, false)), []⟩,
 ⟨(some 28), .load none (.t 27), (some (26, false)), [27]⟩,
 ⟨(some 29), .bin .eql (.t 28) (.c (.s [])), (some (26, false)), [28]⟩,
 ⟨(some 30), .mv (.t 29), (some (26, false)), [29]⟩,
 ⟨(some 31), .faddr 11 (.t 1), (some (30, true)), []⟩,
 ⟨(some 32), .load none (.t 31), (some (30, true)), [31]⟩,
 ⟨(some 33), .lenL (.t 32), (some (30, true)), [32]⟩,
 ⟨(some 34), .bin .eql (.t 33) (.c (.i .i64 0)), (some (30, true)), [33]⟩,
 ⟨(some 35), .pick (.t 30) (.t 34) (.c (.b false)), (some (26, false)), [30, 34]⟩,
 ⟨(some 36), .mv (.t 35), (some (26, false)), [35]⟩,
 ⟨(some 37), .faddr 12 (.t 1), (some (36, true)), [1]⟩,
 ⟨(some 38), .load none (.t 37), (some (36, true)), [37]⟩,
 ⟨(some 39), .bin .eql (.t 38) (.c (.i .i64 0)), (some (36, true)), [38]⟩,
 ⟨(some 40), .pick (.t 36) (.t 39) (.c (.b false)), (some (26, false)), [36, 39]⟩,
 ⟨(some 41), .pick (.t 26) (.c (.b true)) (.t 40), none, [26, 40]⟩,
 ⟨(some 2), .asg (.t 41), none, [41]⟩])
 .ret))), [.t 2]⟩
/-- ( interrex/wire.table).make -/
def f135 : AFn := ⟨1, (.seq (.reg [⟨(some 1), .box true (.t 0), none, [0]⟩])
 (.reg [⟨(some 2), .load none (.t 1), none, []⟩,
 ⟨(some 3), .nilc (.t 2), none, [2]⟩,
 ⟨(some 4), .faddr 0 (.t 3), none, [3]⟩,
 ⟨(some 5), .mkfn 184 [(.t 1)], none, [1]⟩,
 ⟨(some 6), .call 183 [(.t 4), (.t 5)], none, [4, 5, 6]⟩])), []⟩
/-- ( interrex/log.Log).From -/
def f136 : AFn := ⟨2, (.seq (.reg [⟨(some 4), .asg (.c .nils), none, [4]⟩,
 ⟨(some 5), .asg (.c (.i .i64 0)), none, [5]⟩])
 (.seq (.blk 0 (.seq (.reg [⟨(some 10), .mv (.t 0), none, []⟩,
 ⟨(some 11), .eqn false (.t 10) (.c .nilp), none, [10]⟩,
 ⟨(some 9), .asg (.t 11), none, [11]⟩])
 (.cond (.t 9) (.seq (.reg [⟨(some 4), .asg (.c .nils), none, []⟩,
 ⟨(some 5), .asg (.c (.i .i64 9)), none, []⟩])
 .ret)
 (.seq (.reg [⟨(some 13), .mv (.t 1), none, []⟩,
 ⟨(some 14), .mv (.t 0), none, []⟩,
 ⟨(some 15), .nilc (.t 14), none, [14]⟩,
 ⟨(some 16), .faddr 2 (.t 15), none, [15]⟩,
 ⟨(some 17), .load none (.t 16), none, [16]⟩,
 ⟨(some 18), .bin .lss (.t 13) (.t 17), none, [13, 17]⟩,
 ⟨(some 12), .asg (.t 18), none, [18]⟩])
 (.cond (.t 12) (.seq (.reg [⟨(some 4), .asg (.c .nils), none, []⟩,
 ⟨(some 5), .asg (.c (.i .i64 7)), none, []⟩])
 .ret)
 (.seq (.reg [⟨(some 20), .mv (.t 1), none, []⟩,
 ⟨(some 21), .mv (.t 0), none, []⟩,
 ⟨(some 22), .nilc (.t 21), none, [21]⟩,
 ⟨(some 23), .faddr 3 (.t 22), none, [22]⟩,
 ⟨(some 24), .load none (.t 23), none, [23]⟩,
 ⟨(some 25), .bin .gtr (.t 20) (.t 24), none, [20, 24]⟩,
 ⟨(some 19), .asg (.t 25), none, [25]⟩])
 (.cond (.t 19) (.seq (.reg [⟨(some 4), .asg (.c .nils), none, []⟩,
 ⟨(some 5), .asg (.c (.i .i64 2)), none, []⟩])
 .ret)
 .skip)))))))
 (.seq (.reg [⟨(some 6), .asg (.c .nils), none, []⟩])
 (.seq (.seq (.reg [⟨(some 26), .mv (.t 0), none, [0]⟩,
 ⟨(some 27), .nilc (.t 26), none, [26]⟩,
 ⟨(some 28), .faddr 0 (.t 27), none, [27]⟩,
 ⟨(some 29), .load none (.t 28), none, [28]⟩,
 ⟨(some 30), .lenL (.t 29), none, []⟩,
 ⟨(some 31), .mv (.c (.i .i64 0)), none, []⟩])
 (.blk 1 (.loop (.seq (.reg [⟨(some 32), .bin .lss (.t 31) (.t 30), none, []⟩])
 (.seq (.cond (.t 32) .skip
 (.exit 1))
 (.seq (.blk 2 (.seq (.reg [⟨(some 33), .iasl 4 (.t 29) (.t 31), none, []⟩,
 ⟨(some 34), .load (some 4) (.t 33), none, [33]⟩,
 ⟨(some 8), .alloc false [(.i .i64 0), (.s []), .nils, (.b false)], none, []⟩,
 ⟨none, .store 4 (.t 8) (.t 34), none, [34]⟩])
 (.seq (.reg [⟨(some 35), .faddr 0 (.t 8), none, []⟩,
 ⟨(some 36), .load none (.t 35), none, [35]⟩,
 ⟨(some 37), .mv (.t 1), none, []⟩,
 ⟨(some 38), .bin .gtr (.t 36) (.t 37), none, [36, 37]⟩])
 (.cond (.t 38) (.reg [⟨(some 39), .mv (.t 6), none, [6]⟩,
 ⟨(some 40), .load (some 4) (.t 8), none, [8]⟩,
 ⟨(some 41), .call 107 [(.t 40)], none, [40]⟩,
 ⟨(some 42), .bsl (.im false) 4 1 [(.i .i64 0), (.s []), .nils, (.b false)] [(0, (.t 41))], none, [41]⟩,
 ⟨(some 43), .append (.im false) 4 56 (.t 39) (.t 42), none, [39, 42]⟩,
 ⟨(some 6), .asg (.t 43), none, [43]⟩])
 .skip))))
 (.reg [⟨(some 44), .bin .add (.t 31) (.c (.i .i64 1)), none, [31]⟩,
 ⟨(some 31), .mv (.t 44), none, [44]⟩])))))))
 (.seq (.reg [⟨(some 45), .mv (.t 6), none, [6]⟩,
 ⟨(some 4), .asg (.t 45), none, [45]⟩,
 ⟨(some 5), .asg (.c (.i .i64 0)), none, []⟩])
 .ret))))), [.t 4, .t 5]⟩
/-- interrex/call.Get -/
def f137 : AFn := ⟨1, (.seq (.reg [⟨(some 2), .alloc false [(.i .i64 0), (.i .i64 0), (.i .i64 0), (.s []), (.i .i64 0), .nils, .nils], none, []⟩,
 ⟨(some 3), .asg (.c (.b false)), none, [3]⟩])
 (.seq (.reg [⟨(some 6), .mv (.t 0), none, []⟩,
 ⟨(some 7), .call 67 [(.t 6)], none, [6]⟩,
 ⟨(some 4), .asg (.t 7), none, [7]⟩])
 (.seq (.reg [⟨(some 8), .mv (.t 4), none, []⟩,
 ⟨(some 9), .call 68 [(.t 8), (.c (.i .i64 1))], none, [8]⟩,
 ⟨(some 10), .mv (.t 4), none, []⟩,
 ⟨(some 11), .call 68 [(.t 10), (.c (.i .i64 1))], none, [10]⟩,
 ⟨(some 12), .mv (.t 4), none, []⟩,
 ⟨(some 13), .call 68 [(.t 12), (.c (.i .i64 8))], none, [12]⟩,
 ⟨(some 14), .mv (.t 4), none, []⟩,
 ⟨(some 15), .call 186 [(.t 14)], none, [14]⟩,
 ⟨(some 16), .mv (.t 4), none, []⟩,
 ⟨(some 17), .call 68 [(.t 16), (.c (.i .i64 8))], none, [16]⟩,
 ⟨(some 18), .bld [(.i .i64 0), (.i .i64 0), (.i .i64 0), (.s []), (.i .i64 0), .nils, .nils] [(2, 1, (.t 9)), (0, 1, (.t 11)), (1, 1, (.t 13)), (3, 1, (.t 15)), (4, 1, (.t 17))], none, [9, 11, 13, 15, 17]⟩,
 ⟨(some 5), .alloc false [(.i .i64 0), (.i .i64 0), (.i .i64 0), (.s []), (.i .i64 0), .nils, .nils], none, []⟩,
 ⟨none, .store 7 (.t 5) (.t 18), none, [18]⟩])
 (.seq (.seq (.reg [⟨(some 19), .mv (.t 4), none, []⟩,
 ⟨(some 20), .call 117 [(.t 19), (.c (.i .i64 1))], none, [19]⟩,
 ⟨(some 21), .mv (.c (.i .i64 0)), none, []⟩])
 (.blk 0 (.loop (.seq (.reg [⟨(some 22), .bin .lss (.t 21) (.t 20), none, []⟩])
 (.seq (.cond (.t 22) .skip
 (.exit 0))
 (.seq (.blk 1 (.dreg [⟨0, ⟨(some 23), .faddr 5 (.t 5), none, []⟩, false, []⟩,
 ⟨1, ⟨(some 24), .faddr 0 (.t 23), none, []⟩, false, []⟩,
 ⟨2, ⟨(some 25), .load none (.t 24), none, []⟩, false, []⟩,
 ⟨3, ⟨(some 26), .mv (.t 4), none, []⟩, false, []⟩,
 ⟨5, ⟨(some 28), .mv (.t 4), none, []⟩, false, []⟩,
 ⟨7, ⟨(some 30), .mv (.t 4), none, []⟩, false, []⟩,
 ⟨4, ⟨(some 27), .call 186 [(.t 26)], none, []⟩, true, [2]⟩,
 ⟨6, ⟨(some 29), .call 68 [(.t 28), (.c (.i .i64 8))], none, []⟩, true, [2]⟩,
 ⟨8, ⟨(some 31), .call 121 [(.t 30)], none, []⟩, true, [2]⟩,
 ⟨9, ⟨(some 32), .bld [(.s []), (.i .i64 0), (.b false)] [(0, 1, (.t 27)), (1, 1, (.t 29)), (2, 1, (.t 31))], none, []⟩, false, []⟩,
 ⟨10, ⟨(some 33), .bsl (.im false) 3 1 [(.s []), (.i .i64 0), (.b false)] [(0, (.t 32))], none, []⟩, true, [2]⟩,
 ⟨11, ⟨(some 34), .append (.im false) 3 32 (.t 25) (.t 33), none, []⟩, true, []⟩,
 ⟨12, ⟨(some 35), .faddr 5 (.t 5), none, []⟩, false, []⟩,
 ⟨13, ⟨(some 36), .faddr 0 (.t 35), none, []⟩, false, []⟩,
 ⟨14, ⟨none, .store 1 (.t 36) (.t 34), none, []⟩, true, []⟩] [23, 24, 25, 26, 27, 28, 29, 30, 31, 32, 33, 34, 35, 36]))
 (.reg [⟨(some 37), .bin .add (.t 21) (.c (.i .i64 1)), none, [21]⟩,
 ⟨(some 21), .mv (.t 37), none, [37]⟩])))))))
 (.seq (.seq (.reg [⟨(some 38), .mv (.t 4), none, []⟩,
 ⟨(some 39), .call 117 [(.t 38), (.c (.i .i64 1))], none, [38]⟩,
 ⟨(some 40), .mv (.c (.i .i64 0)), none, []⟩])
 (.blk 2 (.loop (.seq (.reg [⟨(some 41), .bin .lss (.t 40) (.t 39), none, []⟩])
 (.seq (.cond (.t 41) .skip
 (.exit 2))
 (.seq (.blk 3 (.dreg [⟨0, ⟨(some 42), .faddr 5 (.t 5), none, []⟩, false, []⟩,
 ⟨1, ⟨(some 43), .faddr 1 (.t 42), none, []⟩, false, []⟩,
 ⟨2, ⟨(some 44), .load none (.t 43), none, []⟩, false, []⟩,
 ⟨3, ⟨(some 45), .mv (.t 4), none, []⟩, false, []⟩,
 ⟨5, ⟨(some 47), .mv (.t 4), none, []⟩, false, []⟩,
 ⟨8, ⟨(some 50), .mv (.t 4), none, []⟩, false, []⟩,
 ⟨4, ⟨(some 46), .call 186 [(.t 45)], none, []⟩, true, [2]⟩,
 ⟨6, ⟨(some 48), .call 186 [(.t 47)], none, []⟩, true, [2]⟩,
 ⟨7, ⟨(some 49), .s2b .fz (.t 48), none, []⟩, false, []⟩,
 ⟨9, ⟨(some 51), .call 121 [(.t 50)], none, []⟩, true, [2]⟩,
 ⟨10, ⟨(some 52), .bld [(.s []), .nils, (.b false)] [(0, 1, (.t 46)), (1, 1, (.t 49)), (2, 1, (.t 51))], none, []⟩, false, []⟩,
 ⟨11, ⟨(some 53), .bsl (.im false) 3 1 [(.s []), .nils, (.b false)] [(0, (.t 52))], none, []⟩, true, [2]⟩,
 ⟨12, ⟨(some 54), .append (.im false) 3 48 (.t 44) (.t 53), none, []⟩, true, []⟩,
 ⟨13, ⟨(some 55), .faddr 5 (.t 5), none, []⟩, false, []⟩,
 ⟨14, ⟨(some 56), .faddr 1 (.t 55), none, []⟩, false, []⟩,
 ⟨15, ⟨none, .store 1 (.t 56) (.t 54), none, []⟩, true, []⟩] [42, 43, 44, 45, 46, 47, 48, 49, 50, 51, 52, 53, 54, 55, 56]))
 (.reg [⟨(some 57), .bin .add (.t 40) (.c (.i .i64 1)), none, [40]⟩,
 ⟨(some 40), .mv (.t 57), none, [57]⟩])))))))
 (.seq (.seq (.reg [⟨(some 58), .mv (.t 4), none, [4]⟩,
 ⟨(some 59), .call 69 [(.t 58)], none, [58]⟩,
 ⟨(some 60), .un .not (.t 59), none, [59]⟩,
 ⟨(some 61), .mv (.t 60), none, [60]⟩,
 ⟨(some 62), .load (some 7) (.t 5), (some (61, false)), []⟩,
 ⟨(some 63), .call 138 [(.t 62)], (some (61, false)), [62]⟩,
 ⟨(some 64), .mv (.t 0), (some (61, false)), []⟩,
 ⟨(some 65), .call 70 [(.t 63), (.t 64)], (some (61, false)), [63, 64]⟩,
 ⟨(some 66), .un .not (.t 65), (some (61, false)), [65]⟩,
 ⟨(some 67), .pick (.t 61) (.c (.b true)) (.t 66), none, [61, 66]⟩,
 ⟨(some 68), .mv (.t 67), none, [67]⟩,
 ⟨(some 69), .mv (.t 0), (some (68, false)), [0]⟩,
 ⟨(some 70), .lenL (.t 69), (some (68, false)), [69]⟩,
 ⟨(some 71), .bin .eql (.t 70) (.c (.i .i64 0)), (some (68, false)), [70]⟩,
 ⟨(some 72), .pick (.t 68) (.c (.b true)) (.t 71), none, [68, 71]⟩])
 (.cond (.t 72) (.seq (.reg [⟨(some 73), .bld [(.i .i64 0), (.i .i64 0), (.i .i64 0), (.s []), (.i .i64 0), .nils, .nils] [], none, []⟩,
 ⟨none, .store 7 (.t 2) (.t 73), none, [73]⟩,
 ⟨(some 3), .asg (.c (.b false)), none, []⟩])
 .ret)
 .skip))
 (.seq (.reg [⟨(some 74), .load (some 7) (.t 5), none, [5]⟩,
 ⟨none, .store 7 (.t 2) (.t 74), none, [74]⟩,
 ⟨(some 3), .asg (.c (.b true)), none, []⟩])
 .ret))))))), [.cell 2 (some 7), .t 3]⟩
/-- interrex/call.Put -/
def f138 : AFn := ⟨1, (.seq (.reg [⟨(some 1), .box false (.t 0), none, [0]⟩,
 ⟨(some 2), .asg (.c .nils), none, [2]⟩])
 (.seq (.seq (.reg [⟨(some 8), .load (some 7) (.t 1), none, []⟩,
 ⟨(some 9), .call 187 [(.t 8)], none, [8]⟩,
 ⟨(some 10), .un .not (.t 9), none, [9]⟩])
 (.cond (.t 10) (.seq (.reg [⟨(some 2), .asg (.c .nils), none, []⟩])
 .ret)
 .skip))
 (.seq (.reg [⟨(some 3), .alloc true [(.i .u32 0), (.i .i32 0), (.i .u32 0), (.i .u64 0), (.i .u64 0), (.i .u64 0), (.i .u64 0), (.i .u64 0), (.i .u64 0), (.i .u64 0), (.i .u64 0), (.i .u64 0), (.i .u64 0), (.i .u64 0), (.i .u64 0), (.i .u64 0), (.i .u64 0), (.i .u64 0), (.i .u64 0), (.i .u64 0), (.i .u64 0), (.i .u64 0), (.i .u64 0), (.i .u64 0), (.i .u64 0), (.i .u64 0), (.i .u64 0), (.i .u64 0), (.i .u64 0), (.i .u64 0), (.i .u64 0), (.i .u64 0), (.i .u64 0), (.i .u64 0), (.i .u64 0), (.i .u64 0), (.i .u64 0), (.i .u64 0), (.i .u64 0), (.i .u64 0), (.i .u64 0), (.i .u64 0), (.i .u64 0), (.i .u64 0), (.i .u64 0), (.i .u64 0), (.i .u64 0), (.i .u64 0), (.i .u64 0), (.i .u64 0), (.i .u64 0), (.i .u64 0), (.i .u64 0), (.i .u64 0), (.i .u64 0), (.i .u64 0), (.i .u64 0), (.i .u64 0), (.i .u64 0), (.i .u64 0), (.i .u64 0), (.i .u64 0), (.i .u64 0), (.i .u64 0), (.i .u64 0), (.i .u64 0), (.i .u64 0), (.i .u64 0), (.i .u64 0), (.i .u64 0), (.i .u64 0), (.i .u64 0), (.i .u64 0), (.i .u64 0), (.i .u64 0), (.i .u64 0), (.i .u64 0), (.i .u64 0), (.i .u64 0), (.i .u64 0), (.i .u64 0), (.i .u64 0), (.i .u64 0), (.i .u64 0), (.i .u64 0), (.i .u64 0), (.i .u64 0), (.i .u64 0), (.i .u64 0), (.i .u64 0), (.i .u64 0), (.i .u64 0), (.i .u64 0), (.i .u64 0), (.i .u64 0), (.i .u64 0), (.i .u64 0), (.i .u64 0), (.i .u64 0), (.i .u64 0), (.i .u64 0), (.i .u64 0), (.i .u64 0), (.i .u64 0), (.i .u64 0), (.i .u64 0), (.i .u64 0), (.i .u64 0), (.i .u64 0), (.i .u64 0), (.i .u64 0), (.i .u64 0), (.i .u64 0), (.i .u64 0), (.i .u64 0), (.i .u64 0), (.i .u64 0), (.i .u64 0), (.i .u64 0), (.i .u64 0), (.i .u64 0), (.i .u64 0), (.i .u64 0), (.i .u64 0), (.i .u64 0), (.i .u64 0), (.i .u64 0), (.i .u64 0), (.i .u64 0), (.i .u64 0), (.i .u64 0), (.i .u64 0), (.i .u64 0), (.i .u64 0), (.i .u64 0), (.i .u64 0), (.i .u64 0), (.i .u64 0), (.i .u64 0), (.i .u64 0), (.i .u64 0), (.i .u64 0), (.i .u64 0), (.i .u64 0), (.i .u64 0), (.i .u64 0), (.i .u64 0), (.i .u64 0), (.i .u64 0), (.i .u64 0), (.i .u64 0), (.i .u64 0), (.i .u64 0), (.i .u64 0), (.i .u64 0), (.i .u64 0), (.i .u64 0), (.i .u64 0), (.i .u64 0), (.i .u64 0), (.i .u64 0), (.i .u64 0), (.i .u64 0), (.i .u64 0), (.i .u64 0), (.i .u64 0), (.i .u64 0), (.i .u64 0), (.i .u64 0), (.i .u64 0), (.i .u64 0), (.i .u64 0), (.i .u64 0), (.i .u64 0), (.i .u64 0), (.i .u64 0), (.i .u64 0), (.i .u64 0), (.i .u64 0), (.i .u64 0), (.i .u64 0), (.i .u64 0), (.i .u64 0), (.i .u64 0), (.i .u64 0), (.i .u64 0), (.i .u64 0), (.i .u64 0), (.i .u64 0), (.i .u64 0), (.i .u64 0), (.i .u64 0), (.i .u64 0), (.i .u64 0), (.i .u64 0), (.i .u64 0), (.i .u64 0), (.i .u64 0), (.i .u64 0), (.i .u64 0), (.i .u64 0), (.i .u64 0), (.i .u64 0), (.i .u64 0), (.i .u64 0), (.i .u64 0), (.i .u64 0), (.i .u64 0), (.i .u64 0), (.i .u64 0), (.i .u64 0), (.i .u64 0), (.i .u64 0), (.i .u64 0), (.i .u64 0), (.i .u64 0), (.i .u64 0), (.i .u64 0), (.i .u64 0), (.i .u64 0), (.i .u64 0), (.i .u64 0), (.i .u64 0), (.i .u64 0), (.i .u64 0), (.i .u64 0), (.i .u64 0), (.i .u64 0), (.i .u64 0), (.i .u64 0), (.i .u64 0), (.i .u64 0), (.i .u64 0), (.i .u64 0), (.i .u64 0), (.i .u64 0), (.i .u64 0), (.i .u64 0), (.i .u64 0), (.i .u64 0), (.i .u64 0), (.i .u64 0), (.i .u64 0), (.i .u64 0), (.i .u64 0), (.i .u64 0), (.i .u64 0), (.i .u64 0), (.i .u64 0), (.i .u64 0), (.i .u64 0), (.i .u64 0), (.i .u64 0), (.i .u64 0), (.i .u64 0), (.i .u64 0), (.i .u64 0), (.i .u64 0), (.i .u64 0), (.i .u8 0), (.i .u8 0), (.i .u8 0), (.i .u8 0), (.i .u8 0), (.i .u8 0), (.i .u8 0), (.i .u8 0), (.i .u8 0), (.i .u8 0), (.i .u8 0), (.i .u8 0), (.i .u8 0), (.i .u8 0), (.i .u8 0), (.i .u8 0), (.i .u8 0), (.i .u8 0), (.i .u8 0), (.i .u8 0), (.i .u8 0), (.i .u8 0), (.i .u8 0), (.i .u8 0), (.i .u8 0), (.i .u8 0), (.i .u8 0), (.i .u8 0), (.i .u8 0), (.i .u8 0), (.i .u8 0), (.i .u8 0), (.i .u8 0), (.i .u8 0), (.i .u8 0), (.i .u8 0), (.i .u8 0), (.i .u8 0), .nils], none, []⟩])
 (.seq (.reg [⟨(some 11), .faddr 2 (.t 1), none, []⟩,
 ⟨(some 12), .load none (.t 11), none, [11]⟩,
 ⟨(some 13), .call 80 [(.t 3), (.t 12), (.c (.i .i64 1))], none, [12, 13]⟩])
 (.seq (.reg [⟨(some 14), .faddr 0 (.t 1), none, []⟩,
 ⟨(some 15), .load none (.t 14), none, [14]⟩,
 ⟨(some 16), .call 80 [(.t 3), (.t 15), (.c (.i .i64 1))], none, [15, 16]⟩])
 (.seq (.reg [⟨(some 17), .faddr 1 (.t 1), none, []⟩,
 ⟨(some 18), .load none (.t 17), none, [17]⟩,
 ⟨(some 19), .call 80 [(.t 3), (.t 18), (.c (.i .i64 8))], none, [18, 19]⟩])
 (.seq (.reg [⟨(some 20), .faddr 3 (.t 1), none, []⟩,
 ⟨(some 21), .load none (.t 20), none, [20]⟩,
 ⟨(some 22), .call 188 [(.t 3), (.t 21)], none, [21, 22]⟩])
 (.seq (.reg [⟨(some 23), .faddr 4 (.t 1), none, []⟩,
 ⟨(some 24), .load none (.t 23), none, [23]⟩,
 ⟨(some 25), .call 80 [(.t 3), (.t 24), (.c (.i .i64 8))], none, [24, 25]⟩])
 (.seq (.reg [⟨(some 26), .faddr 5 (.t 1), none, []⟩,
 ⟨(some 27), .faddr 0 (.t 26), none, [26]⟩,
 ⟨(some 28), .load none (.t 27), none, [27]⟩,
 ⟨(some 29), .lenL (.t 28), none, [28]⟩,
 ⟨(some 30), .call 80 [(.t 3), (.t 29), (.c (.i .i64 1))], none, [29, 30]⟩])
 (.seq (.seq (.reg [⟨(some 31), .faddr 5 (.t 1), none, []⟩,
 ⟨(some 32), .faddr 0 (.t 31), none, [31]⟩,
 ⟨(some 33), .load none (.t 32), none, [32]⟩,
 ⟨(some 34), .lenL (.t 33), none, []⟩,
 ⟨(some 35), .mv (.c (.i .i64 0)), none, []⟩])
 (.blk 0 (.loop (.seq (.reg [⟨(some 36), .bin .lss (.t 35) (.t 34), none, []⟩])
 (.seq (.cond (.t 36) .skip
 (.exit 0))
 (.seq (.blk 1 (.seq (.reg [⟨(some 37), .iasl 3 (.t 33) (.t 35), none, []⟩,
 ⟨(some 38), .load (some 3) (.t 37), none, [37]⟩,
 ⟨(some 5), .alloc false [(.s []), (.i .i64 0), (.b false)], none, []⟩,
 ⟨none, .store 3 (.t 5) (.t 38), none, [38]⟩])
 (.seq (.reg [⟨(some 39), .faddr 0 (.t 5), none, []⟩,
 ⟨(some 40), .load none (.t 39), none, [39]⟩,
 ⟨(some 41), .call 188 [(.t 3), (.t 40)], none, [40, 41]⟩])
 (.seq (.reg [⟨(some 42), .faddr 1 (.t 5), none, []⟩,
 ⟨(some 43), .load none (.t 42), none, [42]⟩,
 ⟨(some 44), .call 80 [(.t 3), (.t 43), (.c (.i .i64 8))], none, [43, 44]⟩])
 (.reg [⟨(some 45), .faddr 2 (.t 5), none, [5]⟩,
 ⟨(some 46), .load none (.t 45), none, [45]⟩,
 ⟨(some 47), .call 97 [(.t 3), (.t 46)], none, [46, 47]⟩])))))
 (.reg [⟨(some 48), .bin .add (.t 35) (.c (.i .i64 1)), none, [35]⟩,
 ⟨(some 35), .mv (.t 48), none, [48]⟩])))))))
 (.seq (.reg [⟨(some 49), .faddr 5 (.t 1), none, []⟩,
 ⟨(some 50), .faddr 1 (.t 49), none, [49]⟩,
 ⟨(some 51), .load none (.t 50), none, [50]⟩,
 ⟨(some 52), .lenL (.t 51), none, [51]⟩,
 ⟨(some 53), .call 80 [(.t 3), (.t 52), (.c (.i .i64 1))], none, [52, 53]⟩])
 (.seq (.seq (.reg [⟨(some 54), .faddr 5 (.t 1), none, [1]⟩,
 ⟨(some 55), .faddr 1 (.t 54), none, [54]⟩,
 ⟨(some 56), .load none (.t 55), none, [55]⟩,
 ⟨(some 57), .lenL (.t 56), none, []⟩,
 ⟨(some 58), .mv (.c (.i .i64 0)), none, []⟩])
 (.blk 2 (.loop (.seq (.reg [⟨(some 59), .bin .lss (.t 58) (.t 57), none, []⟩])
 (.seq (.cond (.t 59) .skip
 (.exit 2))
 (.seq (.blk 3 (.seq (.reg [⟨(some 60), .iasl 3 (.t 56) (.t 58), none, []⟩,
 ⟨(some 61), .load (some 3) (.t 60), none, [60]⟩,
 ⟨(some 7), .alloc false [(.s []), .nils, (.b false)], none, []⟩,
 ⟨none, .store 3 (.t 7) (.t 61), none, [61]⟩])
 (.seq (.reg [⟨(some 62), .faddr 0 (.t 7), none, []⟩,
 ⟨(some 63), .load none (.t 62), none, [62]⟩,
 ⟨(some 64), .call 188 [(.t 3), (.t 63)], none, [63, 64]⟩])
 (.seq (.reg [⟨(some 65), .faddr 1 (.t 7), none, []⟩,
 ⟨(some 66), .load none (.t 65), none, [65]⟩,
 ⟨(some 67), .b2s (.t 66), none, [66]⟩,
 ⟨(some 68), .call 188 [(.t 3), (.t 67)], none, [67, 68]⟩])
 (.reg [⟨(some 69), .faddr 2 (.t 7), none, [7]⟩,
 ⟨(some 70), .load none (.t 69), none, [69]⟩,
 ⟨(some 71), .call 97 [(.t 3), (.t 70)], none, [70, 71]⟩])))))
 (.reg [⟨(some 72), .bin .add (.t 58) (.c (.i .i64 1)), none, [58]⟩,
 ⟨(some 58), .mv (.t 72), none, [72]⟩])))))))
 (.seq (.reg [⟨(some 73), .call 81 [(.t 3)], none, [3]⟩,
 ⟨(some 2), .asg (.t 73), none, [73]⟩])
 .ret))))))))))))), [.t 2]⟩
/-- interrex/reply.Of -/
def f139 : AFn := ⟨2, (.seq (.reg [⟨(some 3), .box false (.t 1), none, [1]⟩,
 ⟨(some 4), .alloc false [(.i .i64 0), (.i .i64 0), (.i .i64 0), (.i .i64 0), (.i .i64 0), .nils, .nils], none, []⟩])
 (.seq (.reg [⟨(some 8), .faddr 0 (.t 3), none, []⟩,
 ⟨(some 9), .load none (.t 8), none, [8]⟩,
 ⟨(some 10), .faddr 1 (.t 3), none, []⟩,
 ⟨(some 11), .load none (.t 10), none, [10]⟩,
 ⟨(some 12), .faddr 2 (.t 3), none, []⟩,
 ⟨(some 13), .load none (.t 12), none, [12]⟩,
 ⟨(some 14), .bld [(.i .i64 0), (.i .i64 0), (.i .i64 0), (.i .i64 0), (.i .i64 0), .nils, .nils] [(0, 1, (.t 9)), (1, 1, (.t 11)), (2, 1, (.t 13))], none, [9, 11, 13]⟩,
 ⟨(some 5), .alloc false [(.i .i64 0), (.i .i64 0), (.i .i64 0), (.i .i64 0), (.i .i64 0), .nils, .nils], none, []⟩,
 ⟨none, .store 7 (.t 5) (.t 14), none, [14]⟩])
 (.seq (.seq (.reg [⟨(some 15), .load (some 7) (.t 3), none, []⟩,
 ⟨(some 16), .call 187 [(.t 15)], none, [15]⟩,
 ⟨(some 17), .un .not (.t 16), none, [16]⟩])
 (.cond (.t 17) (.seq (.reg [⟨(some 18), .faddr 3 (.t 5), none, []⟩,
 ⟨none, .store 1 (.t 18) (.c (.i .i64 1)), none, [18]⟩])
 (.seq (.reg [⟨(some 19), .load (some 7) (.t 5), none, [5]⟩,
 ⟨none, .store 7 (.t 4) (.t 19), none, [19]⟩])
 .ret))
 .skip))
 (.seq (.seq (.reg [⟨(some 20), .faddr 2 (.t 3), none, []⟩,
 ⟨(some 21), .load none (.t 20), none, [20]⟩])
 (.blk 0 (.seq (.reg [⟨(some 23), .bin .eql (.t 21) (.c (.i .i64 1)), none, []⟩,
 ⟨(some 22), .asg (.t 23), none, [23]⟩])
 (.cond (.t 22) (.seq (.reg [⟨(some 25), .mv (.t 0), none, []⟩,
 ⟨(some 26), .faddr 3 (.t 3), none, [3]⟩,
 ⟨(some 27), .load none (.t 26), none, [26]⟩,
 ⟨(some 28), .call 25 [(.t 25), (.t 27)], none, [25, 27]⟩,
 ⟨(some 24), .mv (.t 28), none, [28]⟩,
 ⟨(some 29), .ext (.t 24) 0, none, []⟩,
 ⟨(some 30), .ext (.t 24) 1, none, [24]⟩,
 ⟨(some 6), .alloc false [(.s []), (.i .i64 0), .nils], none, []⟩,
 ⟨none, .store 3 (.t 6) (.t 29), none, [29]⟩,
 ⟨(some 7), .asg (.t 30), none, [30]⟩])
 (.seq (.reg [⟨(some 31), .mv (.t 7), none, [7]⟩])
 (.cond (.t 31) (.reg [⟨(some 32), .load (some 3) (.t 6), none, [6]⟩,
 ⟨(some 33), .bsl (.im false) 3 1 [(.s []), (.i .i64 0), .nils] [(0, (.t 32))], none, [32]⟩,
 ⟨(some 34), .faddr 5 (.t 5), none, []⟩,
 ⟨none, .store 1 (.t 34) (.t 33), none, [34, 33]⟩])
 (.reg [⟨(some 35), .faddr 3 (.t 5), none, []⟩,
 ⟨none, .store 1 (.t 35) (.c (.i .i64 3)), none, [35]⟩]))))
 (.seq (.reg [⟨(some 37), .bin .eql (.t 21) (.c (.i .i64 2)), none, []⟩,
 ⟨(some 36), .asg (.t 37), none, [37]⟩])
 (.cond (.t 36) (.reg [⟨(some 38), .mv (.t 0), none, []⟩,
 ⟨(some 39), .call 189 [(.t 38)], none, [38]⟩,
 ⟨(some 40), .faddr 5 (.t 5), none, []⟩,
 ⟨none, .store 1 (.t 40) (.t 39), none, [40, 39]⟩])
 (.seq (.reg [⟨(some 42), .bin .eql (.t 21) (.c (.i .i64 3)), none, []⟩,
 ⟨(some 41), .asg (.t 42), none, [42]⟩])
 (.cond (.t 41) (.reg [⟨(some 44), .mv (.t 0), none, []⟩,
 ⟨(some 45), .faddr 4 (.t 3), none, [3]⟩,
 ⟨(some 46), .load none (.t 45), none, [45]⟩,
 ⟨(some 47), .call 190 [(.t 44), (.t 46)], none, [44, 46]⟩,
 ⟨(some 43), .mv (.t 47), none, [47]⟩,
 ⟨(some 48), .ext (.t 43) 0, none, []⟩,
 ⟨(some 49), .ext (.t 43) 1, none, [43]⟩,
 ⟨(some 50), .faddr 6 (.t 5), none, []⟩,
 ⟨none, .store 1 (.t 50) (.t 48), none, [50, 48]⟩,
 ⟨(some 51), .faddr 3 (.t 5), none, []⟩,
 ⟨none, .store 1 (.t 51) (.t 49), none, [51, 49]⟩])
 (.seq (.reg [⟨(some 53), .bin .eql (.t 21) (.c (.i .i64 4)), none, [21]⟩,
 ⟨(some 52), .asg (.t 53), none, [53]⟩])
 (.cond (.t 52) (.reg [⟨(some 55), .mv (.t 0), none, []⟩,
 ⟨(some 56), .faddr 5 (.t 3), none, [3]⟩,
 ⟨(some 57), .load (some 2) (.t 56), none, [56]⟩,
 ⟨(some 58), .call 22 [(.t 55), (.t 57)], none, [55, 57]⟩,
 ⟨(some 54), .mv (.t 58), none, [58]⟩,
 ⟨(some 59), .ext (.t 54) 0, none, [59]⟩,
 ⟨(some 60), .ext (.t 54) 1, none, [54]⟩,
 ⟨(some 61), .faddr 3 (.t 5), none, []⟩,
 ⟨none, .store 1 (.t 61) (.t 60), none, [61, 60]⟩])
 .skip))))))))))
 (.seq (.reg [⟨(some 62), .mv (.t 0), none, [0]⟩,
 ⟨(some 63), .call 191 [(.t 62)], none, [62]⟩,
 ⟨(some 64), .faddr 4 (.t 5), none, []⟩,
 ⟨none, .store 1 (.t 64) (.t 63), none, [64, 63]⟩])
 (.seq (.reg [⟨(some 65), .load (some 7) (.t 5), none, [5]⟩,
 ⟨none, .store 7 (.t 4) (.t 65), none, [65]⟩])
 .ret)))))), [.cell 4 (some 7)]⟩
/-- interrex/reply.Get -/
def f140 : AFn := ⟨1, (.seq (.reg [⟨(some 2), .alloc false [(.i .i64 0), (.i .i64 0), (.i .i64 0), (.i .i64 0), (.i .i64 0), .nils, .nils], none, []⟩,
 ⟨(some 3), .asg (.c (.b false)), none, [3]⟩])
 (.seq (.reg [⟨(some 6), .mv (.t 0), none, []⟩,
 ⟨(some 7), .call 67 [(.t 6)], none, [6]⟩,
 ⟨(some 4), .asg (.t 7), none, [7]⟩])
 (.seq (.reg [⟨(some 8), .mv (.t 4), none, []⟩,
 ⟨(some 9), .call 68 [(.t 8), (.c (.i .i64 1))], none, [8]⟩,
 ⟨(some 10), .mv (.t 4), none, []⟩,
 ⟨(some 11), .call 68 [(.t 10), (.c (.i .i64 1))], none, [10]⟩,
 ⟨(some 12), .mv (.t 4), none, []⟩,
 ⟨(some 13), .call 68 [(.t 12), (.c (.i .i64 1))], none, [12]⟩,
 ⟨(some 14), .mv (.t 4), none, []⟩,
 ⟨(some 15), .call 68 [(.t 14), (.c (.i .i64 8))], none, [14]⟩,
 ⟨(some 16), .mv (.t 4), none, []⟩,
 ⟨(some 17), .call 68 [(.t 16), (.c (.i .i64 8))], none, [16]⟩,
 ⟨(some 18), .bld [(.i .i64 0), (.i .i64 0), (.i .i64 0), (.i .i64 0), (.i .i64 0), .nils, .nils] [(2, 1, (.t 9)), (0, 1, (.t 11)), (3, 1, (.t 13)), (1, 1, (.t 15)), (4, 1, (.t 17))], none, [9, 11, 13, 15, 17]⟩,
 ⟨(some 5), .alloc false [(.i .i64 0), (.i .i64 0), (.i .i64 0), (.i .i64 0), (.i .i64 0), .nils, .nils], none, []⟩,
 ⟨none, .store 7 (.t 5) (.t 18), none, [18]⟩])
 (.seq (.seq (.reg [⟨(some 19), .mv (.t 4), none, []⟩,
 ⟨(some 20), .call 117 [(.t 19), (.c (.i .i64 1))], none, [19]⟩,
 ⟨(some 21), .mv (.c (.i .i64 0)), none, []⟩])
 (.blk 0 (.loop (.seq (.reg [⟨(some 22), .bin .lss (.t 21) (.t 20), none, []⟩])
 (.seq (.cond (.t 22) .skip
 (.exit 0))
 (.seq (.blk 1 (.dreg [⟨0, ⟨(some 23), .faddr 5 (.t 5), none, []⟩, false, []⟩,
 ⟨1, ⟨(some 24), .load none (.t 23), none, []⟩, false, []⟩,
 ⟨2, ⟨(some 25), .mv (.t 4), none, []⟩, false, []⟩,
 ⟨4, ⟨(some 27), .mv (.t 4), none, []⟩, false, []⟩,
 ⟨6, ⟨(some 29), .mv (.t 4), none, []⟩, false, []⟩,
 ⟨3, ⟨(some 26), .call 186 [(.t 25)], none, []⟩, true, [1]⟩,
 ⟨5, ⟨(some 28), .call 68 [(.t 27), (.c (.i .i64 8))], none, []⟩, true, [1]⟩,
 ⟨7, ⟨(some 30), .call 186 [(.t 29)], none, []⟩, true, [1]⟩,
 ⟨8, ⟨(some 31), .s2b .fz (.t 30), none, []⟩, false, []⟩,
 ⟨9, ⟨(some 32), .bld [(.s []), (.i .i64 0), .nils] [(0, 1, (.t 26)), (1, 1, (.t 28)), (2, 1, (.t 31))], none, []⟩, false, []⟩,
 ⟨10, ⟨(some 33), .bsl (.im false) 3 1 [(.s []), (.i .i64 0), .nils] [(0, (.t 32))], none, []⟩, true, [1]⟩,
 ⟨11, ⟨(some 34), .append (.im false) 3 48 (.t 24) (.t 33), none, []⟩, true, []⟩,
 ⟨12, ⟨(some 35), .faddr 5 (.t 5), none, []⟩, false, []⟩,
 ⟨13, ⟨none, .store 1 (.t 35) (.t 34), none, []⟩, true, []⟩] [23, 24, 25, 26, 27, 28, 29, 30, 31, 32, 33, 34, 35]))
 (.reg [⟨(some 36), .bin .add (.t 21) (.c (.i .i64 1)), none, [21]⟩,
 ⟨(some 21), .mv (.t 36), none, [36]⟩])))))))
 (.seq (.seq (.reg [⟨(some 37), .mv (.t 4), none, []⟩,
 ⟨(some 38), .call 117 [(.t 37), (.c (.i .i64 1))], none, [37]⟩,
 ⟨(some 39), .mv (.c (.i .i64 0)), none, []⟩])
 (.blk 2 (.loop (.seq (.reg [⟨(some 40), .bin .lss (.t 39) (.t 38), none, []⟩])
 (.seq (.cond (.t 40) .skip
 (.exit 2))
 (.seq (.blk 3 (.dreg [⟨0, ⟨(some 41), .faddr 6 (.t 5), none, []⟩, false, []⟩,
 ⟨1, ⟨(some 42), .load none (.t 41), none, []⟩, false, []⟩,
 ⟨2, ⟨(some 43), .mv (.t 4), none, []⟩, false, []⟩,
 ⟨4, ⟨(some 45), .mv (.t 4), none, []⟩, false, []⟩,
 ⟨6, ⟨(some 47), .mv (.t 4), none, []⟩, false, []⟩,
 ⟨9, ⟨(some 50), .mv (.t 4), none, []⟩, false, []⟩,
 ⟨3, ⟨(some 44), .call 68 [(.t 43), (.c (.i .i64 8))], none, []⟩, true, [1]⟩,
 ⟨5, ⟨(some 46), .call 186 [(.t 45)], none, []⟩, true, [1]⟩,
 ⟨7, ⟨(some 48), .call 186 [(.t 47)], none, []⟩, true, [1]⟩,
 ⟨8, ⟨(some 49), .s2b .fz (.t 48), none, []⟩, false, []⟩,
 ⟨10, ⟨(some 51), .call 121 [(.t 50)], none, []⟩, true, [1]⟩,
 ⟨11, ⟨(some 52), .bld [(.i .i64 0), (.s []), .nils, (.b false)] [(0, 1, (.t 44)), (1, 1, (.t 46)), (2, 1, (.t 49)), (3, 1, (.t 51))], none, []⟩, false, []⟩,
 ⟨12, ⟨(some 53), .bsl (.im false) 4 1 [(.i .i64 0), (.s []), .nils, (.b false)] [(0, (.t 52))], none, []⟩, true, [1]⟩,
 ⟨13, ⟨(some 54), .append (.im false) 4 56 (.t 42) (.t 53), none, []⟩, true, []⟩,
 ⟨14, ⟨(some 55), .faddr 6 (.t 5), none, []⟩, false, []⟩,
 ⟨15, ⟨none, .store 1 (.t 55) (.t 54), none, []⟩, true, []⟩] [41, 42, 43, 44, 45, 46, 47, 48, 49, 50, 51, 52, 53, 54, 55]))
 (.reg [⟨(some 56), .bin .add (.t 39) (.c (.i .i64 1)), none, [39]⟩,
 ⟨(some 39), .mv (.t 56), none, [56]⟩])))))))
 (.seq (.seq (.reg [⟨(some 57), .mv (.t 4), none, [4]⟩,
 ⟨(some 58), .call 69 [(.t 57)], none, [57]⟩,
 ⟨(some 59), .un .not (.t 58), none, [58]⟩,
 ⟨(some 60), .mv (.t 59), none, [59]⟩,
 ⟨(some 61), .mv (.t 0), (some (60, false)), []⟩,
 ⟨(some 62), .lenL (.t 61), (some (60, false)), [61]⟩,
 ⟨(some 63), .bin .eql (.t 62) (.c (.i .i64 0)), (some (60, false)), [62]⟩,
 ⟨(some 64), .pick (.t 60) (.c (.b true)) (.t 63), none, [60, 63]⟩,
 ⟨(some 65), .mv (.t 64), none, [64]⟩,
 ⟨(some 66), .load (some 7) (.t 5), (some (65, false)), []⟩,
 ⟨(some 67), .call 141 [(.t 66)], (some (65, false)), [66]⟩,
 ⟨(some 68), .mv (.t 0), (some (65, false)), [0]⟩,
 ⟨(some 69), .call 70 [(.t 67), (.t 68)], (some (65, false)), [67, 68]⟩,
 ⟨(some 70), .un .not (.t 69), (some (65, false)), [69]⟩,
 ⟨(some 71), .pick (.t 65) (.c (.b true)) (.t 70), none, [65, 70]⟩])
 (.cond (.t 71) (.seq (.reg [⟨(some 72), .bld [(.i .i64 0), (.i .i64 0), (.i .i64 0), (.i .i64 0), (.i .i64 0), .nils, .nils] [], none, []⟩,
 ⟨none, .store 7 (.t 2) (.t 72), none, [72]⟩,
 ⟨(some 3), .asg (.c (.b false)), none, []⟩])
 .ret)
 .skip))
 (.seq (.reg [⟨(some 73), .load (some 7) (.t 5), none, [5]⟩,
 ⟨none, .store 7 (.t 2) (.t 73), none, [73]⟩,
 ⟨(some 3), .asg (.c (.b true)), none, []⟩])
 .ret))))))), [.cell 2 (some 7), .t 3]⟩
/-- interrex/reply.Put -/
def f141 : AFn := ⟨1, (.seq (.reg [⟨(some 1), .box false (.t 0), none, [0]⟩,
 ⟨(some 2), .asg (.c .nils), none, [2]⟩])
 (.seq (.seq (.reg [⟨(some 10), .load (some 7) (.t 1), none, []⟩,
 ⟨(some 11), .call 192 [(.t 10)], none, [10]⟩,
 ⟨(some 12), .un .not (.t 11), none, [11]⟩])
 (.cond (.t 12) (.seq (.reg [⟨(some 2), .asg (.c .nils), none, []⟩])
 .ret)
 .skip))
 (.seq (.reg [⟨(some 3), .alloc true [(.i .u32 0), (.i .i32 0), (.i .u32 0), (.i .u64 0), (.i .u64 0), (.i .u64 0), (.i .u64 0), (.i .u64 0), (.i .u64 0), (.i .u64 0), (.i .u64 0), (.i .u64 0), (.i .u64 0), (.i .u64 0), (.i .u64 0), (.i .u64 0), (.i .u64 0), (.i .u64 0), (.i .u64 0), (.i .u64 0), (.i .u64 0), (.i .u64 0), (.i .u64 0), (.i .u64 0), (.i .u64 0), (.i .u64 0), (.i .u64 0), (.i .u64 0), (.i .u64 0), (.i .u64 0), (.i .u64 0), (.i .u64 0), (.i .u64 0), (.i .u64 0), (.i .u64 0), (.i .u64 0), (.i .u64 0), (.i .u64 0), (.i .u64 0), (.i .u64 0), (.i .u64 0), (.i .u64 0), (.i .u64 0), (.i .u64 0), (.i .u64 0), (.i .u64 0), (.i .u64 0), (.i .u64 0), (.i .u64 0), (.i .u64 0), (.i .u64 0), (.i .u64 0), (.i .u64 0), (.i .u64 0), (.i .u64 0), (.i .u64 0), (.i .u64 0), (.i .u64 0), (.i .u64 0), (.i .u64 0), (.i .u64 0), (.i .u64 0), (.i .u64 0), (.i .u64 0), (.i .u64 0), (.i .u64 0), (.i .u64 0), (.i .u64 0), (.i .u64 0), (.i .u64 0), (.i .u64 0), (.i .u64 0), (.i .u64 0), (.i .u64 0), (.i .u64 0), (.i .u64 0), (.i .u64 0), (.i .u64 0), (.i .u64 0), (.i .u64 0), (.i .u64 0), (.i .u64 0), (.i .u64 0), (.i .u64 0), (.i .u64 0), (.i .u64 0), (.i .u64 0), (.i .u64 0), (.i .u64 0), (.i .u64 0), (.i .u64 0), (.i .u64 0), (.i .u64 0), (.i .u64 0), (.i .u64 0), (.i .u64 0), (.i .u64 0), (.i .u64 0), (.i .u64 0), (.i .u64 0), (.i .u64 0), (.i .u64 0), (.i .u64 0), (.i .u64 0), (.i .u64 0), (.i .u64 0), (.i .u64 0), (.i .u64 0), (.i .u64 0), (.i .u64 0), (.i .u64 0), (.i .u64 0), (.i .u64 0), (.i .u64 0), (.i .u64 0), (.i .u64 0), (.i .u64 0), (.i .u64 0), (.i .u64 0), (.i .u64 0), (.i .u64 0), (.i .u64 0), (.i .u64 0), (.i .u64 0), (.i .u64 0), (.i .u64 0), (.i .u64 0), (.i .u64 0), (.i .u64 0), (.i .u64 0), (.i .u64 0), (.i .u64 0), (.i .u64 0), (.i .u64 0), (.i .u64 0), (.i .u64 0), (.i .u64 0), (.i .u64 0), (.i .u64 0), (.i .u64 0), (.i .u64 0), (.i .u64 0), (.i .u64 0), (.i .u64 0), (.i .u64 0), (.i .u64 0), (.i .u64 0), (.i .u64 0), (.i .u64 0), (.i .u64 0), (.i .u64 0), (.i .u64 0), (.i .u64 0), (.i .u64 0), (.i .u64 0), (.i .u64 0), (.i .u64 0), (.i .u64 0), (.i .u64 0), (.i .u64 0), (.i .u64 0), (.i .u64 0), (.i .u64 0), (.i .u64 0), (.i .u64 0), (.i .u64 0), (.i .u64 0), (.i .u64 0), (.i .u64 0), (.i .u64 0), (.i .u64 0), (.i .u64 0), (.i .u64 0), (.i .u64 0), (.i .u64 0), (.i .u64 0), (.i .u64 0), (.i .u64 0), (.i .u64 0), (.i .u64 0), (.i .u64 0), (.i .u64 0), (.i .u64 0), (.i .u64 0), (.i .u64 0), (.i .u64 0), (.i .u64 0), (.i .u64 0), (.i .u64 0), (.i .u64 0), (.i .u64 0), (.i .u64 0), (.i .u64 0), (.i .u64 0), (.i .u64 0), (.i .u64 0), (.i .u64 0), (.i .u64 0), (.i .u64 0), (.i .u64 0), (.i .u64 0), (.i .u64 0), (.i .u64 0), (.i .u64 0), (.i .u64 0), (.i .u64 0), (.i .u64 0), (.i .u64 0), (.i .u64 0), (.i .u64 0), (.i .u64 0), (.i .u64 0), (.i .u64 0), (.i .u64 0), (.i .u64 0), (.i .u64 0), (.i .u64 0), (.i .u64 0), (.i .u64 0), (.i .u64 0), (.i .u64 0), (.i .u64 0), (.i .u64 0), (.i .u64 0), (.i .u64 0), (.i .u64 0), (.i .u64 0), (.i .u64 0), (.i .u64 0), (.i .u64 0), (.i .u64 0), (.i .u64 0), (.i .u64 0), (.i .u64 0), (.i .u64 0), (.i .u64 0), (.i .u64 0), (.i .u64 0), (.i .u64 0), (.i .u64 0), (.i .u64 0), (.i .u64 0), (.i .u64 0), (.i .u64 0), (.i .u64 0), (.i .u64 0), (.i .u64 0), (.i .u64 0), (.i .u64 0), (.i .u64 0), (.i .u64 0), (.i .u64 0), (.i .u64 0), (.i .u64 0), (.i .u64 0), (.i .u64 0), (.i .u64 0), (.i .u64 0), (.i .u64 0), (.i .u8 0), (.i .u8 0), (.i .u8 0), (.i .u8 0), (.i .u8 0), (.i .u8 0), (.i .u8 0), (.i .u8 0), (.i .u8 0), (.i .u8 0), (.i .u8 0), (.i .u8 0), (.i .u8 0), (.i .u8 0), (.i .u8 0), (.i .u8 0), (.i .u8 0), (.i .u8 0), (.i .u8 0), (.i .u8 0), (.i .u8 0), (.i .u8 0), (.i .u8 0), (.i .u8 0), (.i .u8 0), (.i .u8 0), (.i .u8 0), (.i .u8 0), (.i .u8 0), (.i .u8 0), (.i .u8 0), (.i .u8 0), (.i .u8 0), (.i .u8 0), (.i .u8 0), (.i .u8 0), (.i .u8 0), (.i .u8 0), .nils], none, []⟩])
 (.seq (.seq (.reg [⟨(some 13), .faddr 2 (.t 1), none, []⟩,
 ⟨(some 14), .load none (.t 13), none, [13]⟩,
 ⟨(some 15), .faddr 0 (.t 1), none, []⟩,
 ⟨(some 16), .load none (.t 15), none, [15]⟩,
 ⟨(some 17), .faddr 3 (.t 1), none, []⟩,
 ⟨(some 18), .load none (.t 17), none, [17]⟩,
 ⟨(some 19), .bsl (.im false) 1 3 [(.i .i64 0)] [(0, (.t 14)), (1, (.t 16)), (2, (.t 18))], none, [14, 16, 18]⟩,
 ⟨(some 20), .lenL (.t 19), none, []⟩,
 ⟨(some 21), .mv (.c (.i .i64 0)), none, []⟩])
 (.blk 0 (.loop (.seq (.reg [⟨(some 22), .bin .lss (.t 21) (.t 20), none, []⟩])
 (.seq (.cond (.t 22) .skip
 (.exit 0))
 (.seq (.blk 1 (.seq (.reg [⟨(some 23), .iasl 1 (.t 19) (.t 21), none, []⟩,
 ⟨(some 24), .load none (.t 23), none, [23]⟩,
 ⟨(some 5), .asg (.t 24), none, [24]⟩])
 (.reg [⟨(some 25), .mv (.t 5), none, [5]⟩,
 ⟨(some 26), .call 80 [(.t 3), (.t 25), (.c (.i .i64 1))], none, [25, 26]⟩])))
 (.reg [⟨(some 27), .bin .add (.t 21) (.c (.i .i64 1)), none, [21]⟩,
 ⟨(some 21), .mv (.t 27), none, [27]⟩])))))))
 (.seq (.reg [⟨(some 28), .faddr 1 (.t 1), none, []⟩,
 ⟨(some 29), .load none (.t 28), none, [28]⟩,
 ⟨(some 30), .call 80 [(.t 3), (.t 29), (.c (.i .i64 8))], none, [29, 30]⟩])
 (.seq (.reg [⟨(some 31), .faddr 4 (.t 1), none, []⟩,
 ⟨(some 32), .load none (.t 31), none, [31]⟩,
 ⟨(some 33), .call 80 [(.t 3), (.t 32), (.c (.i .i64 8))], none, [32, 33]⟩])
 (.seq (.reg [⟨(some 34), .faddr 5 (.t 1), none, []⟩,
 ⟨(some 35), .load none (.t 34), none, [34]⟩,
 ⟨(some 36), .lenL (.t 35), none, [35]⟩,
 ⟨(some 37), .call 80 [(.t 3), (.t 36), (.c (.i .i64 1))], none, [36, 37]⟩])
 (.seq (.seq (.reg [⟨(some 38), .faddr 5 (.t 1), none, []⟩,
 ⟨(some 39), .load none (.t 38), none, [38]⟩,
 ⟨(some 40), .lenL (.t 39), none, []⟩,
 ⟨(some 41), .mv (.c (.i .i64 0)), none, []⟩])
 (.blk 2 (.loop (.seq (.reg [⟨(some 42), .bin .lss (.t 41) (.t 40), none, []⟩])
 (.seq (.cond (.t 42) .skip
 (.exit 2))
 (.seq (.blk 3 (.seq (.reg [⟨(some 43), .iasl 3 (.t 39) (.t 41), none, []⟩,
 ⟨(some 44), .load (some 3) (.t 43), none, [43]⟩,
 ⟨(some 7), .alloc false [(.s []), (.i .i64 0), .nils], none, []⟩,
 ⟨none, .store 3 (.t 7) (.t 44), none, [44]⟩])
 (.seq (.reg [⟨(some 45), .faddr 0 (.t 7), none, []⟩,
 ⟨(some 46), .load none (.t 45), none, [45]⟩,
 ⟨(some 47), .call 188 [(.t 3), (.t 46)], none, [46, 47]⟩])
 (.seq (.reg [⟨(some 48), .faddr 1 (.t 7), none, []⟩,
 ⟨(some 49), .load none (.t 48), none, [48]⟩,
 ⟨(some 50), .call 80 [(.t 3), (.t 49), (.c (.i .i64 8))], none, [49, 50]⟩])
 (.reg [⟨(some 51), .faddr 2 (.t 7), none, [7]⟩,
 ⟨(some 52), .load none (.t 51), none, [51]⟩,
 ⟨(some 53), .b2s (.t 52), none, [52]⟩,
 ⟨(some 54), .call 188 [(.t 3), (.t 53)], none, [53, 54]⟩])))))
 (.reg [⟨(some 55), .bin .add (.t 41) (.c (.i .i64 1)), none, [41]⟩,
 ⟨(some 41), .mv (.t 55), none, [55]⟩])))))))
 (.seq (.reg [⟨(some 56), .faddr 6 (.t 1), none, []⟩,
 ⟨(some 57), .load none (.t 56), none, [56]⟩,
 ⟨(some 58), .lenL (.t 57), none, [57]⟩,
 ⟨(some 59), .call 80 [(.t 3), (.t 58), (.c (.i .i64 1))], none, [58, 59]⟩])
 (.seq (.seq (.reg [⟨(some 60), .faddr 6 (.t 1), none, [1]⟩,
 ⟨(some 61), .load none (.t 60), none, [60]⟩,
 ⟨(some 62), .lenL (.t 61), none, []⟩,
 ⟨(some 63), .mv (.c (.i .i64 0)), none, []⟩])
 (.blk 4 (.loop (.seq (.reg [⟨(some 64), .bin .lss (.t 63) (.t 62), none, []⟩])
 (.seq (.cond (.t 64) .skip
 (.exit 4))
 (.seq (.blk 5 (.seq (.reg [⟨(some 65), .iasl 4 (.t 61) (.t 63), none, []⟩,
 ⟨(some 66), .load (some 4) (.t 65), none, [65]⟩,
 ⟨(some 9), .alloc false [(.i .i64 0), (.s []), .nils, (.b false)], none, []⟩,
 ⟨none, .store 4 (.t 9) (.t 66), none, [66]⟩])
 (.seq (.reg [⟨(some 67), .faddr 0 (.t 9), none, []⟩,
 ⟨(some 68), .load none (.t 67), none, [67]⟩,
 ⟨(some 69), .call 80 [(.t 3), (.t 68), (.c (.i .i64 8))], none, [68, 69]⟩])
 (.seq (.reg [⟨(some 70), .faddr 1 (.t 9), none, []⟩,
 ⟨(some 71), .load none (.t 70), none, [70]⟩,
 ⟨(some 72), .call 188 [(.t 3), (.t 71)], none, [71, 72]⟩])
 (.seq (.reg [⟨(some 73), .faddr 2 (.t 9), none, []⟩,
 ⟨(some 74), .load none (.t 73), none, [73]⟩,
 ⟨(some 75), .b2s (.t 74), none, [74]⟩,
 ⟨(some 76), .call 188 [(.t 3), (.t 75)], none, [75, 76]⟩])
 (.reg [⟨(some 77), .faddr 3 (.t 9), none, [9]⟩,
 ⟨(some 78), .load none (.t 77), none, [77]⟩,
 ⟨(some 79), .call 97 [(.t 3), (.t 78)], none, [78, 79]⟩]))))))
 (.reg [⟨(some 80), .bin .add (.t 63) (.c (.i .i64 1)), none, [63]⟩,
 ⟨(some 63), .mv (.t 80), none, [80]⟩])))))))
 (.seq (.reg [⟨(some 81), .call 81 [(.t 3)], none, [3]⟩,
 ⟨(some 2), .asg (.t 81), none, [81]⟩])
 .ret))))))))))), [.t 2]⟩
/-- interrex/interrexlaw1.Begun -/
def f142 : AFn := ⟨0, (.seq (.reg [⟨(some 0), .asg (.c (.b false)), none, [0]⟩])
 (.seq (.reg [⟨(some 1), .call 193 [], none, []⟩,
 ⟨(some 0), .asg (.t 1), none, [1]⟩])
 .ret)), [.t 0]⟩
/-- interrex/call.Eq -/
def f143 : AFn := ⟨2, (.seq (.reg [⟨(some 2), .box false (.t 0), none, [0]⟩,
 ⟨(some 3), .box false (.t 1), none, [1]⟩,
 ⟨(some 4), .asg (.c (.b false)), none, [4]⟩])
 (.seq (.seq (.reg [⟨(some 5), .faddr 0 (.t 2), none, []⟩,
 ⟨(some 6), .load none (.t 5), none, [5]⟩,
 ⟨(some 7), .faddr 0 (.t 3), none, []⟩,
 ⟨(some 8), .load none (.t 7), none, [7]⟩,
 ⟨(some 9), .bin .neq (.t 6) (.t 8), none, [6, 8]⟩,
 ⟨(some 10), .mv (.t 9), none, [9]⟩,
 ⟨(some 11), .faddr 1 (.t 2), (some (10, false)), []⟩,
 ⟨(some 12), .load none (.t 11), (some (10, false)), [11]⟩,
 ⟨(some 13), .faddr 1 (.t 3), (some (10, false)), []⟩,
 ⟨(some 14), .load none (.t 13), (some (10, false)), [13]⟩,
 ⟨(some 15), .bin .neq (.t 12) (.t 14), (some (10, false)), [12, 14]⟩,
 ⟨(some 16), .pick (.t 10) (.c (.b true)) (.t 15), none, [10, 15]⟩,
 ⟨(some 17), .mv (.t 16), none, [16]⟩,
 ⟨(some 18), .faddr 2 (.t 2), (some (17, false)), []⟩,
 ⟨(some 19), .load none (.t 18), (some (17, false)), [18]⟩,
 ⟨(some 20), .faddr 2 (.t 3), (some (17, false)), []⟩,
 ⟨(some 21), .load none (.t 20), (some (17, false)), [20]⟩,
 ⟨(some 22), .bin .neq (.t 19) (.t 21), (some (17, false)), [19, 21]⟩,
 ⟨(some 23), .pick (.t 17) (.c (.b true)) (.t 22), none, [17, 22]⟩,
 ⟨(some 24), .mv (.t 23), none, [23]⟩,
 ⟨(some 25), .faddr 3 (.t 2), (some (24, false)), []⟩,
 ⟨(some 26), .load none (.t 25), (some (24, false)), [25]⟩,
 ⟨(some 27), .faddr 3 (.t 3), (some (24, false)), []⟩,
 ⟨(some 28), .load none (.t 27), (some (24, false)), [27]⟩,
 ⟨(some 29), .bin .neq (.t 26) (.t 28), (some (24, false)), [26, 28]⟩,
 ⟨(some 30), .pick (.t 24) (.c (.b true)) (.t 29), none, [24, 29]⟩,
 ⟨(some 31), .mv (.t 30), none, [30]⟩,
 ⟨(some 32), .faddr 4 (.t 2), (some (31, false)), []⟩,
 ⟨(some 33), .load none (.t 32), (some (31, false)), [32]⟩,
 ⟨(some 34), .faddr 4 (.t 3), (some (31, false)), []⟩,
 ⟨(some 35), .load none (.t 34), (some (31, false)), [34]⟩,
 ⟨(some 36), .bin .neq (.t 33) (.t 35), (some (31, false)), [33, 35]⟩,
 ⟨(some 37), .pick (.t 31) (.c (.b true)) (.t 36), none, [31, 36]⟩,
 ⟨(some 38), .mv (.t 37), none, [37]⟩,
 ⟨(some 39), .faddr 5 (.t 2), (some (38, false)), []⟩,
 ⟨(some 40), .faddr 0 (.t 39), (some (38, false)), [39]⟩,
 ⟨(some 41), .load none (.t 40), (some (38, false)), [40]⟩,
 ⟨(some 42), .faddr 5 (.t 3), (some (38, false)), []⟩,
 ⟨(some 43), .faddr 0 (.t 42), (some (38, false)), [42]⟩,
 ⟨(some 44), .load none (.t 43), (some (38, false)), [43]⟩,
 ⟨(some 45), .call 194 [(.t 41), (.t 44)], (some (38, false)), [41, 44]⟩,
 ⟨(some 46), .un .not (.t 45), (some (38, false)), [45]⟩,
 ⟨(some 47), .pick (.t 38) (.c (.b true)) (.t 46), none, [38, 46]⟩])
 (.cond (.t 47) (.seq (.reg [⟨(some 4), .asg (.c (.b false)), none, []⟩])
 .ret)
 .skip))
 (.seq (.reg [⟨(some 48), .faddr 5 (.t 2), none, [2]⟩,
 ⟨(some 49), .faddr 1 (.t 48), none, [48]⟩,
 ⟨(some 50), .load none (.t 49), none, [49]⟩,
 ⟨(some 51), .faddr 5 (.t 3), none, [3]⟩,
 ⟨(some 52), .faddr 1 (.t 51), none, [51]⟩,
 ⟨(some 53), .load none (.t 52), none, [52]⟩,
 ⟨(some 54), .call 195 [(.t 50), (.t 53), (.c (.fn 196 [] []))], none, [50, 53]⟩,
 ⟨(some 4), .asg (.t 54), none, [54]⟩])
 .ret))), [.t 4]⟩
/-- interrex/reply.Eq -/
def f144 : AFn := ⟨2, (.seq (.reg [⟨(some 2), .box false (.t 0), none, [0]⟩,
 ⟨(some 3), .box false (.t 1), none, [1]⟩,
 ⟨(some 4), .asg (.c (.b false)), none, [4]⟩])
 (.seq (.seq (.reg [⟨(some 6), .faddr 0 (.t 2), none, []⟩,
 ⟨(some 7), .load none (.t 6), none, [6]⟩,
 ⟨(some 8), .faddr 0 (.t 3), none, []⟩,
 ⟨(some 9), .load none (.t 8), none, [8]⟩,
 ⟨(some 10), .bin .neq (.t 7) (.t 9), none, [7, 9]⟩,
 ⟨(some 11), .mv (.t 10), none, [10]⟩,
 ⟨(some 12), .faddr 1 (.t 2), (some (11, false)), []⟩,
 ⟨(some 13), .load none (.t 12), (some (11, false)), [12]⟩,
 ⟨(some 14), .faddr 1 (.t 3), (some (11, false)), []⟩,
 ⟨(some 15), .load none (.t 14), (some (11, false)), [14]⟩,
 ⟨(some 16), .bin .neq (.t 13) (.t 15), (some (11, false)), [13, 15]⟩,
 ⟨(some 17), .pick (.t 11) (.c (.b true)) (.t 16), none, [11, 16]⟩,
 ⟨(some 18), .mv (.t 17), none, [17]⟩,
 ⟨(some 19), .faddr 2 (.t 2), (some (18, false)), []⟩,
 ⟨(some 20), .load none (.t 19), (some (18, false)), [19]⟩,
 ⟨(some 21), .faddr 2 (.t 3), (some (18, false)), []⟩,
 ⟨(some 22), .load none (.t 21), (some (18, false)), [21]⟩,
 ⟨(some 23), .bin .neq (.t 20) (.t 22), (some (18, false)), [20, 22]⟩,
 ⟨(some 24), .pick (.t 18) (.c (.b true)) (.t 23), none, [18, 23]⟩,
 ⟨(some 25), .mv (.t 24), none, [24]⟩,
 ⟨(some 26), .faddr 3 (.t 2), (some (25, false)), []⟩,
 ⟨(some 27), .load none (.t 26), (some (25, false)), [26]⟩,
 ⟨(some 28), .faddr 3 (.t 3), (some (25, false)), []⟩,
 ⟨(some 29), .load none (.t 28), (some (25, false)), [28]⟩,
 ⟨(some 30), .bin .neq (.t 27) (.t 29), (some (25, false)), [27, 29]⟩,
 ⟨(some 31), .pick (.t 25) (.c (.b true)) (.t 30), none, [25, 30]⟩,
 ⟨(some 32), .mv (.t 31), none, [31]⟩,
 ⟨(some 33), .faddr 4 (.t 2), (some (32, false)), []⟩,
 ⟨(some 34), .load none (.t 33), (some (32, false)), [33]⟩,
 ⟨(some 35), .faddr 4 (.t 3), (some (32, false)), []⟩,
 ⟨(some 36), .load none (.t 35), (some (32, false)), [35]⟩,
 ⟨(some 37), .bin .neq (.t 34) (.t 36), (some (32, false)), [34, 36]⟩,
 ⟨(some 38), .pick (.t 32) (.c (.b true)) (.t 37), none, [32, 37]⟩])
 (.cond (.t 38) (.seq (.reg [⟨(some 4), .asg (.c (.b false)), none, []⟩])
 .ret)
 .skip))
 (.seq (.reg [⟨(some 39), .faddr 5 (.t 2), none, []⟩,
 ⟨(some 40), .load none (.t 39), none, [39]⟩,
 ⟨(some 41), .faddr 5 (.t 3), none, []⟩,
 ⟨(some 42), .load none (.t 41), none, [41]⟩,
 ⟨(some 43), .call 197 [(.t 40), (.t 42), (.c (.fn 198 [] []))], none, [40, 42]⟩,
 ⟨(some 5), .asg (.t 43), none, [43]⟩])
 (.seq (.reg [⟨(some 44), .mv (.t 5), none, [5]⟩,
 ⟨(some 45), .mv (.t 44), none, [44]⟩,
 ⟨(some 46), .faddr 6 (.t 2), (some (45, true)), [2]⟩,
 ⟨(some 47), .load none (.t 46), (some (45, true)), [46]⟩,
 ⟨(some 48), .faddr 6 (.t 3), (some (45, true)), [3]⟩,
 ⟨(some 49), .load none (.t 48), (some (45, true)), [48]⟩,
 ⟨(some 50), .call 199 [(.t 47), (.t 49), (.c (.fn 200 [] []))], (some (45, true)), [47, 49]⟩,
 ⟨(some 51), .pick (.t 45) (.t 50) (.c (.b false)), none, [45, 50]⟩,
 ⟨(some 4), .asg (.t 51), none, [51]⟩])
 .ret)))), [.t 4]⟩
/-- slices.IndexFunc   interrex/assume.one interrex/assume.one  -/
def f145 : AFn := ⟨2, (.seq (.reg [⟨(some 4), .asg (.c (.i .i64 0)), none, [4]⟩])
 (.seq (.seq (.reg [⟨(some 6), .mv (.t 0), none, []⟩,
 ⟨(some 7), .lenL (.t 6), none, [6]⟩,
 ⟨(some 8), .mv (.c (.i .i64 0)), none, []⟩])
 (.blk 0 (.loop (.seq (.reg [⟨(some 9), .bin .lss (.t 8) (.t 7), none, []⟩])
 (.seq (.cond (.t 9) .skip
 (.exit 0))
 (.seq (.blk 1 (.seq (.reg [⟨(some 10), .mv (.t 8), none, []⟩,
 ⟨(some 5), .asg (.t 10), none, [10]⟩])
 (.seq (.reg [⟨(some 11), .mv (.t 1), none, []⟩,
 ⟨(some 12), .mv (.t 0), none, []⟩,
 ⟨(some 13), .mv (.t 5), none, []⟩,
 ⟨(some 14), .iasl 6 (.t 12) (.t 13), none, [12, 13]⟩,
 ⟨(some 15), .load (some 6) (.t 14), none, [14]⟩,
 ⟨(some 16), .callv (.t 11) [(.t 15)], none, [11, 15]⟩])
 (.cond (.t 16) (.seq (.reg [⟨(some 17), .mv (.t 5), none, [5]⟩,
 ⟨(some 4), .asg (.t 17), none, [17]⟩])
 .ret)
 .skip))))
 (.reg [⟨(some 18), .bin .add (.t 8) (.c (.i .i64 1)), none, [8]⟩,
 ⟨(some 8), .mv (.t 18), none, [18]⟩])))))))
 (.seq (.reg [⟨(some 4), .asg (.c (.i .i64 (-1))), none, []⟩])
 .ret))), [.t 4]⟩
/-- interrex/label.letter -/
def f146 : AFn := ⟨1, (.seq (.reg [⟨(some 2), .asg (.c (.b false)), none, [2]⟩])
 (.seq (.reg [⟨(some 3), .mv (.t 0), none, []⟩,
 ⟨(some 4), .bin .geq (.t 3) (.c (.i .u8 97)), none, [3]⟩,
 ⟨(some 5), .mv (.t 4), none, [4]⟩,
 ⟨(some 6), .mv (.t 0), (some (5, true)), []⟩,
 ⟨(some 7), .bin .leq (.t 6) (.c (.i .u8 122)), (some (5, true)), [6]⟩,
 ⟨(some 8), .pick (.t 5) (.t 7) (.c (.b false)), none, [5, 7]⟩,
 ⟨(some 9), .mv (.t 8), none, [8]⟩,
 ⟨(some 10), .mv (.t 0), (some (9, false)), []⟩,
 ⟨(some 11), .bin .geq (.t 10) (.c (.i .u8 48)), (some (9, false)), [10]⟩,
 ⟨(some 12), .mv (.t 11), (some (9, false)), [11]⟩,
 ⟨(some 13), .mv (.t 0), (some (12, true)), []⟩,
 ⟨(some 14), .bin .leq (.t 13) (.c (.i .u8 57)), (some (12, true)), [13]⟩,
 ⟨(some 15), .pick (.t 12) (.t 14) (.c (.b false)), (some (9, false)), [12, 14]⟩,
 ⟨(some 16), .pick (.t 9) (.c (.b true)) (.t 15), none, [9, 15]⟩,
 ⟨(some 17), .mv (.t 16), none, [16]⟩,
 ⟨(some 18), .mv (.t 0), (some (17, false)), [0]⟩,
 ⟨(some 19), .bin .eql (.t 18) (.c (.i .u8 45)), (some (17, false)), [18]⟩,
 ⟨(some 20), .pick (.t 17) (.c (.b true)) (.t 19), none, [17, 19]⟩,
 ⟨(some 2), .asg (.t 20), none, [20]⟩])
 .ret)), [.t 2]⟩
/-- interrex/store.key -/
def f147 : AFn := ⟨1, (.seq (.reg [⟨(some 2), .asg (.c (.b false)), none, [2]⟩])
 (.seq (.reg [⟨(some 3), .mv (.t 0), none, []⟩,
 ⟨(some 4), .lenS (.t 3), none, [3]⟩,
 ⟨(some 5), .bin .geq (.t 4) (.c (.i .i64 1)), none, [4]⟩,
 ⟨(some 6), .mv (.t 5), none, [5]⟩,
 ⟨(some 7), .mv (.t 0), (some (6, true)), [0]⟩,
 ⟨(some 8), .lenS (.t 7), (some (6, true)), [7]⟩,
 ⟨(some 9), .bin .leq (.t 8) (.c (.i .i64 20)), (some (6, true)), [8]⟩,
 ⟨(some 10), .pick (.t 6) (.t 9) (.c (.b false)), none, [6, 9]⟩,
 ⟨(some 2), .asg (.t 10), none, [10]⟩])
 .ret)), [.t 2]⟩
/-- strings.HasPrefix -/
def f148 : AFn := ⟨2, (.seq (.reg [⟨(some 4), .asg (.c (.b false)), none, [4]⟩])
 (.seq (.reg [⟨(some 5), .mv (.t 0), none, [0]⟩,
 ⟨(some 6), .mv (.t 1), none, [1]⟩,
 ⟨(some 7), .call 201 [(.t 5), (.t 6)], none, [5, 6]⟩,
 ⟨(some 4), .asg (.t 7), none, [7]⟩])
 .ret)), [.t 4]⟩
/-- slices.DeleteFunc   interrex/api.Event interrex/api.Event  -/
def f149 : AFn := ⟨2, (.seq (.reg [⟨(some 4), .asg (.c .nils), none, [4]⟩])
 (.seq (.reg [⟨(some 8), .mv (.t 0), none, []⟩,
 ⟨(some 9), .mv (.t 1), none, []⟩,
 ⟨(some 10), .call 202 [(.t 8), (.t 9)], none, [8, 9]⟩,
 ⟨(some 5), .asg (.t 10), none, [10]⟩])
 (.seq (.seq (.reg [⟨(some 11), .mv (.t 5), none, []⟩,
 ⟨(some 12), .bin .eql (.t 11) (.c (.i .i64 (-1))), none, [11]⟩])
 (.cond (.t 12) (.seq (.reg [⟨(some 13), .mv (.t 0), none, [0]⟩,
 ⟨(some 4), .asg (.t 13), none, [13]⟩])
 .ret)
 .skip))
 (.seq (.seq (.reg [⟨(some 14), .mv (.t 5), none, []⟩,
 ⟨(some 15), .bin .add (.t 14) (.c (.i .i64 1)), none, [14]⟩,
 ⟨(some 6), .asg (.t 15), none, [15]⟩])
 (.blk 0 (.loop (.seq (.seq (.reg [⟨(some 16), .mv (.t 6), none, []⟩,
 ⟨(some 17), .mv (.t 0), none, []⟩,
 ⟨(some 18), .lenL (.t 17), none, [17]⟩,
 ⟨(some 19), .bin .lss (.t 16) (.t 18), none, [16, 18]⟩])
 (.cond (.t 19) .skip
 (.exit 0)))
 (.seq (.blk 1 (.seq (.reg [⟨(some 22), .mv (.t 0), none, []⟩,
 ⟨(some 23), .mv (.t 6), none, []⟩,
 ⟨(some 24), .iasl 4 (.t 22) (.t 23), none, [22, 23]⟩,
 ⟨(some 25), .load (some 4) (.t 24), none, [24]⟩,
 ⟨(some 7), .alloc false [(.i .i64 0), (.s []), .nils, (.b false)], none, []⟩,
 ⟨none, .store 4 (.t 7) (.t 25), none, [25]⟩])
 (.seq (.reg [⟨(some 26), .mv (.t 1), none, []⟩,
 ⟨(some 27), .load (some 4) (.t 7), none, []⟩,
 ⟨(some 28), .callv (.t 26) [(.t 27)], none, [26, 27]⟩,
 ⟨(some 29), .un .not (.t 28), none, [28]⟩])
 (.cond (.t 29) (.seq (.reg [⟨(some 30), .mv (.t 0), none, []⟩,
 ⟨(some 31), .mv (.t 5), none, []⟩,
 ⟨(some 32), .load (some 4) (.t 7), none, [7]⟩,
 ⟨(some 33), .iasl 4 (.t 30) (.t 31), none, [30, 31]⟩,
 ⟨none, .store 4 (.t 33) (.t 32), none, [33, 32]⟩])
 (.reg [⟨(some 34), .mv (.t 5), none, [5]⟩,
 ⟨(some 35), .bin .add (.t 34) (.c (.i .i64 1)), none, [34]⟩,
 ⟨(some 5), .asg (.t 35), none, [35]⟩]))
 .skip))))
 (.reg [⟨(some 20), .mv (.t 6), none, [6]⟩,
 ⟨(some 21), .bin .add (.t 20) (.c (.i .i64 1)), none, [20]⟩,
 ⟨(some 6), .asg (.t 21), none, [21]⟩]))))))
 (.seq (.reg [⟨(some 36), .mv (.t 0), none, []⟩,
 ⟨(some 37), .mv (.t 5), none, []⟩,
 ⟨(some 38), .slsl 4 (.t 36) (some (.t 37)) none none, none, [36, 37]⟩,
 ⟨none, .clear 4 [(.i .i64 0), (.s []), .nils, (.b false)] (.t 38), none, [38]⟩])
 (.seq (.reg [⟨(some 39), .mv (.t 0), none, [0]⟩,
 ⟨(some 40), .mv (.t 5), none, [5]⟩,
 ⟨(some 41), .slsl 4 (.t 39) none (some (.t 40)) none, none, [39, 40]⟩,
 ⟨(some 4), .asg (.t 41), none, [41]⟩])
 .ret)))))), [.t 4]⟩
/-- ( interrex/log.Log).Cut 1 -/
def f150 : AFn := ⟨2, (.seq (.reg [⟨(some 2), .box false (.t 0), none, [0]⟩,
 ⟨(some 3), .asg (.c (.b false)), none, [3]⟩])
 (.seq (.reg [⟨(some 4), .faddr 0 (.t 2), none, [2]⟩,
 ⟨(some 5), .load none (.t 4), none, [4]⟩,
 ⟨(some 6), .load none (.t 1), none, [1]⟩,
 ⟨(some 7), .bin .leq (.t 5) (.t 6), none, [5, 6]⟩,
 ⟨(some 3), .asg (.t 7), none, [7]⟩])
 .ret)), [.t 3]⟩
/-- slices.Reverse   byte byte  -/
def f154 : AFn := ⟨1, (.seq (.reg [⟨(some 4), .mv (.t 0), none, []⟩,
 ⟨(some 5), .lenL (.t 4), none, [4]⟩,
 ⟨(some 6), .bin .sub (.t 5) (.c (.i .i64 1)), none, [5]⟩,
 ⟨(some 2), .asg (.c (.i .i64 0)), none, []⟩,
 ⟨(some 3), .asg (.t 6), none, [6]⟩])
 (.blk 0 (.loop (.seq (.seq (.reg [⟨(some 7), .mv (.t 2), none, []⟩,
 ⟨(some 8), .mv (.t 3), none, []⟩,
 ⟨(some 9), .bin .lss (.t 7) (.t 8), none, [7, 8]⟩])
 (.cond (.t 9) .skip
 (.exit 0)))
 (.seq (.blk 1 (.dreg [⟨0, ⟨(some 14), .mv (.t 0), none, []⟩, false, []⟩,
 ⟨1, ⟨(some 15), .mv (.t 2), none, []⟩, false, []⟩,
 ⟨2, ⟨(some 16), .mv (.t 0), none, []⟩, false, []⟩,
 ⟨3, ⟨(some 17), .mv (.t 3), none, []⟩, false, []⟩,
 ⟨4, ⟨(some 18), .mv (.t 0), none, []⟩, false, []⟩,
 ⟨5, ⟨(some 19), .mv (.t 3), none, []⟩, false, []⟩,
 ⟨6, ⟨(some 20), .iasl 1 (.t 18) (.t 19), none, []⟩, false, []⟩,
 ⟨7, ⟨(some 21), .load none (.t 20), none, []⟩, false, []⟩,
 ⟨8, ⟨(some 22), .mv (.t 0), none, []⟩, false, []⟩,
 ⟨9, ⟨(some 23), .mv (.t 2), none, []⟩, false, []⟩,
 ⟨10, ⟨(some 24), .iasl 1 (.t 22) (.t 23), none, []⟩, false, []⟩,
 ⟨11, ⟨(some 25), .load none (.t 24), none, []⟩, false, []⟩,
 ⟨12, ⟨(some 26), .iasl 1 (.t 14) (.t 15), none, []⟩, false, []⟩,
 ⟨13, ⟨none, .store 1 (.t 26) (.t 21), none, []⟩, true, []⟩,
 ⟨14, ⟨(some 27), .iasl 1 (.t 16) (.t 17), none, []⟩, false, []⟩,
 ⟨15, ⟨none, .store 1 (.t 27) (.t 25), none, []⟩, true, []⟩] [14, 15, 16, 17, 18, 19, 20, 21, 22, 23, 24, 25, 26, 27]))
 (.reg [⟨(some 10), .mv (.t 2), none, [2]⟩,
 ⟨(some 11), .bin .add (.t 10) (.c (.i .i64 1)), none, [10]⟩,
 ⟨(some 12), .mv (.t 3), none, [3]⟩,
 ⟨(some 13), .bin .sub (.t 12) (.c (.i .i64 1)), none, [12]⟩,
 ⟨(some 2), .asg (.t 11), none, [11]⟩,
 ⟨(some 3), .asg (.t 13), none, [13]⟩])))))), []⟩
/-- interrex/obj.MayNode -/
def f155 : AFn := ⟨1, (.seq (.reg [⟨(some 1), .box false (.t 0), none, [0]⟩,
 ⟨(some 2), .asg (.c (.b false)), none, [2]⟩])
 (.seq (.reg [⟨(some 3), .faddr 0 (.t 1), none, []⟩,
 ⟨(some 4), .load none (.t 3), none, [3]⟩,
 ⟨(some 5), .call 102 [(.t 4)], none, [4]⟩,
 ⟨(some 6), .mv (.t 5), none, [5]⟩,
 ⟨(some 7), .faddr 1 (.t 1), (some (6, true)), []⟩,
 ⟨(some 8), .load (some 3) (.t 7), (some (6, true)), [7]⟩,
 ⟨(some 9), .call 129 [(.t 8)], (some (6, true)), [8]⟩,
 ⟨(some 10), .pick (.t 6) (.t 9) (.c (.b false)), none, [6, 9]⟩,
 ⟨(some 11), .mv (.t 10), none, [10]⟩,
 ⟨(some 12), .faddr 4 (.t 1), (some (11, true)), []⟩,
 ⟨(some 13), .load none (.t 12), (some (11, true)), [12]⟩,
 ⟨(some 14), .call 131 [(.t 13)], (some (11, true)), [13]⟩,
 ⟨(some 15), .pick (.t 11) (.t 14) (.c (.b false)), none, [11, 14]⟩,
 ⟨(some 16), .mv (.t 15), none, [15]⟩,
 ⟨(some 17), .faddr 5 (.t 1), (some (16, true)), [1]⟩,
 ⟨(some 18), .load none (.t 17), (some (16, true)), [17]⟩,
 ⟨(some 19), .call 212 [(.t 18)], (some (16, true)), [18]⟩,
 ⟨(some 20), .pick (.t 16) (.t 19) (.c (.b false)), none, [16, 19]⟩,
 ⟨(some 2), .asg (.t 20), none, [20]⟩])
 .ret)), [.t 2]⟩
/-- interrex/code.putPairs interrex/api.Taint  -/
def f156 : AFn := ⟨3, (.seq (.reg [⟨(some 10), .mv (.t 0), none, []⟩,
 ⟨(some 11), .mv (.t 1), none, []⟩,
 ⟨(some 12), .lenL (.t 11), none, [11]⟩,
 ⟨(some 13), .call 80 [(.t 10), (.t 12), (.c (.i .i64 1))], none, [10, 12, 13]⟩])
 (.seq (.reg [⟨(some 14), .mv (.t 1), none, [1]⟩,
 ⟨(some 15), .lenL (.t 14), none, []⟩,
 ⟨(some 16), .mv (.c (.i .i64 0)), none, []⟩])
 (.blk 0 (.loop (.seq (.reg [⟨(some 17), .bin .lss (.t 16) (.t 15), none, []⟩])
 (.seq (.cond (.t 17) .skip
 (.exit 0))
 (.seq (.blk 1 (.seq (.reg [⟨(some 18), .iasl 2 (.t 14) (.t 16), none, []⟩,
 ⟨(some 19), .load (some 2) (.t 18), none, [18]⟩,
 ⟨(some 7), .alloc false [(.s []), (.s [])], none, []⟩,
 ⟨none, .store 2 (.t 7) (.t 19), none, [19]⟩])
 (.seq (.reg [⟨(some 21), .mv (.t 2), none, []⟩,
 ⟨(some 22), .load (some 2) (.t 7), none, [7]⟩,
 ⟨(some 23), .callv (.t 21) [(.t 22)], none, [21, 22]⟩,
 ⟨(some 20), .mv (.t 23), none, [23]⟩,
 ⟨(some 24), .ext (.t 20) 0, none, []⟩,
 ⟨(some 25), .ext (.t 20) 1, none, [20]⟩,
 ⟨(some 8), .asg (.t 24), none, [24]⟩,
 ⟨(some 9), .asg (.t 25), none, [25]⟩])
 (.seq (.reg [⟨(some 26), .mv (.t 0), none, []⟩,
 ⟨(some 27), .mv (.t 8), none, [8]⟩,
 ⟨(some 28), .call 92 [(.t 26), (.t 27)], none, [26, 27, 28]⟩])
 (.reg [⟨(some 29), .mv (.t 0), none, []⟩,
 ⟨(some 30), .mv (.t 9), none, [9]⟩,
 ⟨(some 31), .call 92 [(.t 29), (.t 30)], none, [29, 30, 31]⟩])))))
 (.reg [⟨(some 32), .bin .add (.t 16) (.c (.i .i64 1)), none, [16]⟩,
 ⟨(some 16), .mv (.t 32), none, [32]⟩])))))))), []⟩
/-- interrex/code.ofTaint -/
def f157 : AFn := ⟨1, (.seq (.reg [⟨(some 1), .box false (.t 0), none, [0]⟩,
 ⟨(some 2), .asg (.c (.s [])), none, [2]⟩,
 ⟨(some 3), .asg (.c (.s [])), none, [3]⟩])
 (.seq (.dreg [⟨0, ⟨(some 4), .faddr 0 (.t 1), none, []⟩, false, []⟩,
 ⟨1, ⟨(some 5), .load none (.t 4), none, []⟩, false, []⟩,
 ⟨2, ⟨(some 6), .faddr 1 (.t 1), none, []⟩, false, []⟩,
 ⟨3, ⟨(some 7), .load none (.t 6), none, []⟩, false, []⟩,
 ⟨4, ⟨(some 2), .asg (.t 5), none, []⟩, false, []⟩,
 ⟨5, ⟨(some 3), .asg (.t 7), none, []⟩, false, []⟩] [1, 4, 5, 6, 7])
 .ret)), [.t 2, .t 3]⟩
/-- slices.insertionSortCmpFunc interrex/api.Pod  -/
def f158 : AFn := ⟨4, (.seq (.reg [⟨(some 10), .mv (.t 1), none, []⟩,
 ⟨(some 11), .bin .add (.t 10) (.c (.i .i64 1)), none, [10]⟩,
 ⟨(some 8), .asg (.t 11), none, [11]⟩])
 (.blk 0 (.loop (.seq (.seq (.reg [⟨(some 12), .mv (.t 8), none, []⟩,
 ⟨(some 13), .mv (.t 2), none, []⟩,
 ⟨(some 14), .bin .lss (.t 12) (.t 13), none, [12, 13]⟩])
 (.cond (.t 14) .skip
 (.exit 0)))
 (.seq (.blk 1 (.seq (.reg [⟨(some 17), .mv (.t 8), none, []⟩,
 ⟨(some 9), .asg (.t 17), none, [17]⟩])
 (.blk 2 (.loop (.seq (.seq (.dreg [⟨0, ⟨(some 18), .mv (.t 9), none, []⟩, false, []⟩,
 ⟨1, ⟨(some 19), .mv (.t 1), none, []⟩, false, []⟩,
 ⟨2, ⟨(some 20), .bin .gtr (.t 18) (.t 19), none, []⟩, false, []⟩,
 ⟨3, ⟨(some 21), .mv (.t 20), none, []⟩, false, []⟩,
 ⟨4, ⟨(some 22), .mv (.t 3), (some (21, true)), []⟩, false, []⟩,
 ⟨5, ⟨(some 23), .mv (.t 0), (some (21, true)), []⟩, false, []⟩,
 ⟨6, ⟨(some 24), .mv (.t 9), (some (21, true)), []⟩, false, []⟩,
 ⟨7, ⟨(some 25), .iasl 16 (.t 23) (.t 24), (some (21, true)), []⟩, false, []⟩,
 ⟨8, ⟨(some 26), .load (some 16) (.t 25), (some (21, true)), []⟩, false, []⟩,
 ⟨9, ⟨(some 27), .mv (.t 0), (some (21, true)), []⟩, false, []⟩,
 ⟨10, ⟨(some 28), .mv (.t 9), (some (21, true)), []⟩, false, []⟩,
 ⟨11, ⟨(some 29), .bin .sub (.t 28) (.c (.i .i64 1)), (some (21, true)), []⟩, false, []⟩,
 ⟨12, ⟨(some 30), .iasl 16 (.t 27) (.t 29), (some (21, true)), []⟩, false, []⟩,
 ⟨13, ⟨(some 31), .load (some 16) (.t 30), (some (21, true)), []⟩, false, []⟩,
 ⟨14, ⟨(some 32), .callv (.t 22) [(.t 26), (.t 31)], (some (21, true)), []⟩, true, []⟩,
 ⟨15, ⟨(some 33), .bin .lss (.t 32) (.c (.i .i64 0)), (some (21, true)), []⟩, false, []⟩,
 ⟨16, ⟨(some 34), .pick (.t 21) (.t 33) (.c (.b false)), none, []⟩, false, []⟩] [18, 19, 20, 21, 22, 23, 24, 25, 26, 27, 28, 29, 30, 31, 32, 33])
 (.cond (.t 34) .skip
 (.exit 2)))
 (.seq (.blk 3 (.dreg [⟨0, ⟨(some 37), .mv (.t 0), none, []⟩, false, []⟩,
 ⟨1, ⟨(some 38), .mv (.t 9), none, []⟩, false, []⟩,
 ⟨2, ⟨(some 39), .mv (.t 0), none, []⟩, false, []⟩,
 ⟨3, ⟨(some 40), .mv (.t 9), none, []⟩, false, []⟩,
 ⟨4, ⟨(some 41), .bin .sub (.t 40) (.c (.i .i64 1)), none, []⟩, false, []⟩,
 ⟨5, ⟨(some 42), .mv (.t 0), none, []⟩, false, []⟩,
 ⟨6, ⟨(some 43), .mv (.t 9), none, []⟩, false, []⟩,
 ⟨7, ⟨(some 44), .bin .sub (.t 43) (.c (.i .i64 1)), none, []⟩, false, []⟩,
 ⟨8, ⟨(some 45), .iasl 16 (.t 42) (.t 44), none, []⟩, false, []⟩,
 ⟨9, ⟨(some 46), .load (some 16) (.t 45), none, []⟩, false, []⟩,
 ⟨10, ⟨(some 47), .mv (.t 0), none, []⟩, false, []⟩,
 ⟨11, ⟨(some 48), .mv (.t 9), none, []⟩, false, []⟩,
 ⟨12, ⟨(some 49), .iasl 16 (.t 47) (.t 48), none, []⟩, false, []⟩,
 ⟨13, ⟨(some 50), .load (some 16) (.t 49), none, []⟩, false, []⟩,
 ⟨14, ⟨(some 51), .iasl 16 (.t 37) (.t 38), none, []⟩, false, []⟩,
 ⟨15, ⟨none, .store 16 (.t 51) (.t 46), none, []⟩, true, []⟩,
 ⟨16, ⟨(some 52), .iasl 16 (.t 39) (.t 41), none, []⟩, false, []⟩,
 ⟨17, ⟨none, .store 16 (.t 52) (.t 50), none, []⟩, true, []⟩] [37, 38, 39, 40, 41, 42, 43, 44, 45, 46, 47, 48, 49, 50, 51, 52]))
 (.reg [⟨(some 35), .mv (.t 9), none, [9]⟩,
 ⟨(some 36), .bin .sub (.t 35) (.c (.i .i64 1)), none, [35]⟩,
 ⟨(some 9), .asg (.t 36), none, [36]⟩])))))))
 (.reg [⟨(some 15), .mv (.t 8), none, [8]⟩,
 ⟨(some 16), .bin .add (.t 15) (.c (.i .i64 1)), none, [15]⟩,
 ⟨(some 8), .asg (.t 16), none, [16]⟩])))))), []⟩
/-- slices.heapSortCmpFunc interrex/api.Pod  -/
def f159 : AFn := ⟨4, (.seq (.reg [⟨(some 13), .mv (.t 1), none, []⟩,
 ⟨(some 8), .asg (.t 13), none, [13]⟩])
 (.seq (.reg [⟨(some 9), .asg (.c (.i .i64 0)), none, []⟩])
 (.seq (.reg [⟨(some 14), .mv (.t 2), none, [2]⟩,
 ⟨(some 15), .mv (.t 1), none, [1]⟩,
 ⟨(some 16), .bin .sub (.t 14) (.t 15), none, [14, 15]⟩,
 ⟨(some 10), .asg (.t 16), none, [16]⟩])
 (.seq (.seq (.reg [⟨(some 17), .mv (.t 10), none, []⟩,
 ⟨(some 18), .bin .sub (.t 17) (.c (.i .i64 1)), none, [17]⟩,
 ⟨(some 19), .bin .quo (.t 18) (.c (.i .i64 2)), none, [18]⟩,
 ⟨(some 11), .asg (.t 19), none, [19]⟩])
 (.blk 0 (.loop (.seq (.seq (.reg [⟨(some 20), .mv (.t 11), none, []⟩,
 ⟨(some 21), .bin .geq (.t 20) (.c (.i .i64 0)), none, [20]⟩])
 (.cond (.t 21) .skip
 (.exit 0)))
 (.seq (.blk 1 (.reg [⟨(some 24), .mv (.t 0), none, []⟩,
 ⟨(some 25), .mv (.t 11), none, []⟩,
 ⟨(some 26), .mv (.t 10), none, []⟩,
 ⟨(some 27), .mv (.t 8), none, []⟩,
 ⟨(some 28), .mv (.t 3), none, []⟩,
 ⟨(some 29), .call 213 [(.t 24), (.t 25), (.t 26), (.t 27), (.t 28)], none, [24, 25, 26, 27, 28, 29]⟩]))
 (.reg [⟨(some 22), .mv (.t 11), none, [11]⟩,
 ⟨(some 23), .bin .sub (.t 22) (.c (.i .i64 1)), none, [22]⟩,
 ⟨(some 11), .asg (.t 23), none, [23]⟩]))))))
 (.seq (.reg [⟨(some 30), .mv (.t 10), none, [10]⟩,
 ⟨(some 31), .bin .sub (.t 30) (.c (.i .i64 1)), none, [30]⟩,
 ⟨(some 12), .asg (.t 31), none, [31]⟩])
 (.blk 2 (.loop (.seq (.seq (.reg [⟨(some 32), .mv (.t 12), none, []⟩,
 ⟨(some 33), .bin .geq (.t 32) (.c (.i .i64 0)), none, [32]⟩])
 (.cond (.t 33) .skip
 (.exit 2)))
 (.seq (.blk 3 (.seq (.dreg [⟨0, ⟨(some 36), .mv (.t 0), none, []⟩, false, []⟩,
 ⟨1, ⟨(some 37), .mv (.t 8), none, []⟩, false, []⟩,
 ⟨2, ⟨(some 38), .mv (.t 0), none, []⟩, false, []⟩,
 ⟨3, ⟨(some 39), .mv (.t 8), none, []⟩, false, []⟩,
 ⟨4, ⟨(some 40), .mv (.t 12), none, []⟩, false, []⟩,
 ⟨5, ⟨(some 41), .bin .add (.t 39) (.t 40), none, []⟩, false, []⟩,
 ⟨6, ⟨(some 42), .mv (.t 0), none, []⟩, false, []⟩,
 ⟨7, ⟨(some 43), .mv (.t 8), none, []⟩, false, []⟩,
 ⟨8, ⟨(some 44), .mv (.t 12), none, []⟩, false, []⟩,
 ⟨9, ⟨(some 45), .bin .add (.t 43) (.t 44), none, []⟩, false, []⟩,
 ⟨10, ⟨(some 46), .iasl 16 (.t 42) (.t 45), none, []⟩, false, []⟩,
 ⟨11, ⟨(some 47), .load (some 16) (.t 46), none, []⟩, false, []⟩,
 ⟨12, ⟨(some 48), .mv (.t 0), none, []⟩, false, []⟩,
 ⟨13, ⟨(some 49), .mv (.t 8), none, []⟩, false, []⟩,
 ⟨14, ⟨(some 50), .iasl 16 (.t 48) (.t 49), none, []⟩, false, []⟩,
 ⟨15, ⟨(some 51), .load (some 16) (.t 50), none, []⟩, false, []⟩,
 ⟨16, ⟨(some 52), .iasl 16 (.t 36) (.t 37), none, []⟩, false, []⟩,
 ⟨17, ⟨none, .store 16 (.t 52) (.t 47), none, []⟩, true, []⟩,
 ⟨18, ⟨(some 53), .iasl 16 (.t 38) (.t 41), none, []⟩, false, []⟩,
 ⟨19, ⟨none, .store 16 (.t 53) (.t 51), none, []⟩, true, []⟩] [36, 37, 38, 39, 40, 41, 42, 43, 44, 45, 46, 47, 48, 49, 50, 51, 52, 53])
 (.reg [⟨(some 54), .mv (.t 0), none, []⟩,
 ⟨(some 55), .mv (.t 9), none, []⟩,
 ⟨(some 56), .mv (.t 12), none, []⟩,
 ⟨(some 57), .mv (.t 8), none, []⟩,
 ⟨(some 58), .mv (.t 3), none, []⟩,
 ⟨(some 59), .call 213 [(.t 54), (.t 55), (.t 56), (.t 57), (.t 58)], none, [54, 55, 56, 57, 58, 59]⟩])))
 (.reg [⟨(some 34), .mv (.t 12), none, [12]⟩,
 ⟨(some 35), .bin .sub (.t 34) (.c (.i .i64 1)), none, [34]⟩,
 ⟨(some 12), .asg (.t 35), none, [35]⟩])))))))))), []⟩
/-- slices.breakPatternsCmpFunc interrex/api.Pod  -/
def f160 : AFn := ⟨4, (.seq (.reg [⟨(some 13), .mv (.t 2), none, [2]⟩,
 ⟨(some 14), .mv (.t 1), none, []⟩,
 ⟨(some 15), .bin .sub (.t 13) (.t 14), none, [13, 14]⟩,
 ⟨(some 8), .asg (.t 15), none, [15]⟩])
 (.seq (.reg [⟨(some 16), .mv (.t 8), none, []⟩,
 ⟨(some 17), .bin .geq (.t 16) (.c (.i .i64 8)), none, [16]⟩])
 (.cond (.t 17) (.seq (.reg [⟨(some 18), .mv (.t 8), none, []⟩,
 ⟨(some 19), .cvi .u64 (.t 18), none, [18]⟩,
 ⟨(some 9), .alloc true [(.i .u64 0)], none, []⟩,
 ⟨none, .store 1 (.t 9) (.t 19), none, [19]⟩])
 (.seq (.reg [⟨(some 20), .mv (.t 8), none, []⟩,
 ⟨(some 21), .call 214 [(.t 20)], none, [20]⟩,
 ⟨(some 10), .asg (.t 21), none, [21]⟩])
 (.seq (.reg [⟨(some 22), .mv (.t 1), none, []⟩,
 ⟨(some 23), .mv (.t 8), none, []⟩,
 ⟨(some 24), .bin .quo (.t 23) (.c (.i .i64 4)), none, [23]⟩,
 ⟨(some 25), .bin .mul (.t 24) (.c (.i .i64 2)), none, [24]⟩,
 ⟨(some 26), .bin .add (.t 22) (.t 25), none, [22, 25]⟩,
 ⟨(some 27), .bin .sub (.t 26) (.c (.i .i64 1)), none, [26]⟩,
 ⟨(some 11), .asg (.t 27), none, [27]⟩])
 (.blk 0 (.loop (.seq (.seq (.reg [⟨(some 28), .mv (.t 11), none, []⟩,
 ⟨(some 29), .mv (.t 1), none, []⟩,
 ⟨(some 30), .mv (.t 8), none, []⟩,
 ⟨(some 31), .bin .quo (.t 30) (.c (.i .i64 4)), none, [30]⟩,
 ⟨(some 32), .bin .mul (.t 31) (.c (.i .i64 2)), none, [31]⟩,
 ⟨(some 33), .bin .add (.t 29) (.t 32), none, [29, 32]⟩,
 ⟨(some 34), .bin .add (.t 33) (.c (.i .i64 1)), none, [33]⟩,
 ⟨(some 35), .bin .leq (.t 28) (.t 34), none, [28, 34]⟩])
 (.cond (.t 35) .skip
 (.exit 0)))
 (.seq (.blk 1 (.seq (.reg [⟨(some 38), .call 215 [(.t 9)], none, []⟩,
 ⟨(some 39), .mv (.t 10), none, []⟩,
 ⟨(some 40), .bin .sub (.t 39) (.c (.i .u64 1)), none, [39]⟩,
 ⟨(some 41), .bin .and (.t 38) (.t 40), none, [38, 40]⟩,
 ⟨(some 42), .cvi .i64 (.t 41), none, [41]⟩,
 ⟨(some 12), .asg (.t 42), none, [42]⟩])
 (.seq (.seq (.reg [⟨(some 43), .mv (.t 12), none, []⟩,
 ⟨(some 44), .mv (.t 8), none, []⟩,
 ⟨(some 45), .bin .geq (.t 43) (.t 44), none, [43, 44]⟩])
 (.cond (.t 45) (.reg [⟨(some 46), .mv (.t 12), none, [12]⟩,
 ⟨(some 47), .mv (.t 8), none, []⟩,
 ⟨(some 48), .bin .sub (.t 46) (.t 47), none, [46, 47]⟩,
 ⟨(some 12), .asg (.t 48), none, [48]⟩])
 .skip))
 (.dreg [⟨0, ⟨(some 49), .mv (.t 0), none, []⟩, false, []⟩,
 ⟨1, ⟨(some 50), .mv (.t 11), none, []⟩, false, []⟩,
 ⟨2, ⟨(some 51), .mv (.t 0), none, []⟩, false, []⟩,
 ⟨3, ⟨(some 52), .mv (.t 1), none, []⟩, false, []⟩,
 ⟨4, ⟨(some 53), .mv (.t 12), none, []⟩, false, []⟩,
 ⟨5, ⟨(some 54), .bin .add (.t 52) (.t 53), none, []⟩, false, []⟩,
 ⟨6, ⟨(some 55), .mv (.t 0), none, []⟩, false, []⟩,
 ⟨7, ⟨(some 56), .mv (.t 1), none, []⟩, false, []⟩,
 ⟨8, ⟨(some 57), .mv (.t 12), none, []⟩, false, []⟩,
 ⟨9, ⟨(some 58), .bin .add (.t 56) (.t 57), none, []⟩, false, []⟩,
 ⟨10, ⟨(some 59), .iasl 16 (.t 55) (.t 58), none, []⟩, false, []⟩,
 ⟨11, ⟨(some 60), .load (some 16) (.t 59), none, []⟩, false, []⟩,
 ⟨12, ⟨(some 61), .mv (.t 0), none, []⟩, false, []⟩,
 ⟨13, ⟨(some 62), .mv (.t 11), none, []⟩, false, []⟩,
 ⟨14, ⟨(some 63), .iasl 16 (.t 61) (.t 62), none, []⟩, false, []⟩,
 ⟨15, ⟨(some 64), .load (some 16) (.t 63), none, []⟩, false, []⟩,
 ⟨16, ⟨(some 65), .iasl 16 (.t 49) (.t 50), none, []⟩, false, []⟩,
 ⟨17, ⟨none, .store 16 (.t 65) (.t 60), none, []⟩, true, []⟩,
 ⟨18, ⟨(some 66), .iasl 16 (.t 51) (.t 54), none, []⟩, false, []⟩,
 ⟨19, ⟨none, .store 16 (.t 66) (.t 64), none, []⟩, true, []⟩] [49, 50, 51, 52, 12, 53, 54, 55, 56, 57, 58, 59, 60, 61, 62, 63, 64, 65, 66]))))
 (.reg [⟨(some 36), .mv (.t 11), none, [11]⟩,
 ⟨(some 37), .bin .add (.t 36) (.c (.i .i64 1)), none, [36]⟩,
 ⟨(some 11), .asg (.t 37), none, [37]⟩]))))))))
 .skip))), []⟩
/-- slices.choosePivotCmpFunc interrex/api.Pod  -/
def f161 : AFn := ⟨4, (.seq (.reg [⟨(some 8), .asg (.c (.i .i64 0)), none, [8]⟩,
 ⟨(some 9), .asg (.c (.i .i64 0)), none, [9]⟩])
 (.seq (.reg [⟨(some 15), .mv (.t 2), none, [2]⟩,
 ⟨(some 16), .mv (.t 1), none, []⟩,
 ⟨(some 17), .bin .sub (.t 15) (.t 16), none, [15, 16]⟩,
 ⟨(some 10), .asg (.t 17), none, [17]⟩])
 (.seq (.reg [⟨(some 11), .alloc true [(.i .i64 0)], none, []⟩])
 (.seq (.reg [⟨(some 18), .mv (.t 1), none, []⟩,
 ⟨(some 19), .mv (.t 10), none, []⟩,
 ⟨(some 20), .bin .quo (.t 19) (.c (.i .i64 4)), none, [19]⟩,
 ⟨(some 21), .bin .mul (.t 20) (.c (.i .i64 1)), none, [20]⟩,
 ⟨(some 22), .bin .add (.t 18) (.t 21), none, [18, 21]⟩,
 ⟨(some 12), .asg (.t 22), none, [22]⟩])
 (.seq (.reg [⟨(some 23), .mv (.t 1), none, []⟩,
 ⟨(some 24), .mv (.t 10), none, []⟩,
 ⟨(some 25), .bin .quo (.t 24) (.c (.i .i64 4)), none, [24]⟩,
 ⟨(some 26), .bin .mul (.t 25) (.c (.i .i64 2)), none, [25]⟩,
 ⟨(some 27), .bin .add (.t 23) (.t 26), none, [23, 26]⟩,
 ⟨(some 13), .asg (.t 27), none, [27]⟩])
 (.seq (.reg [⟨(some 28), .mv (.t 1), none, [1]⟩,
 ⟨(some 29), .mv (.t 10), none, []⟩,
 ⟨(some 30), .bin .quo (.t 29) (.c (.i .i64 4)), none, [29]⟩,
 ⟨(some 31), .bin .mul (.t 30) (.c (.i .i64 3)), none, [30]⟩,
 ⟨(some 32), .bin .add (.t 28) (.t 31), none, [28, 31]⟩,
 ⟨(some 14), .asg (.t 32), none, [32]⟩])
 (.seq (.seq (.reg [⟨(some 33), .mv (.t 10), none, []⟩,
 ⟨(some 34), .bin .geq (.t 33) (.c (.i .i64 8)), none, [33]⟩])
 (.cond (.t 34) (.seq (.seq (.reg [⟨(some 35), .mv (.t 10), none, [10]⟩,
 ⟨(some 36), .bin .geq (.t 35) (.c (.i .i64 50)), none, [35]⟩])
 (.cond (.t 36) (.seq (.reg [⟨(some 37), .mv (.t 0), none, []⟩,
 ⟨(some 38), .mv (.t 12), none, [12]⟩,
 ⟨(some 39), .mv (.t 3), none, []⟩,
 ⟨(some 40), .call 216 [(.t 37), (.t 38), (.t 11), (.t 39)], none, [37, 38, 39]⟩,
 ⟨(some 12), .asg (.t 40), none, [40]⟩])
 (.seq (.reg [⟨(some 41), .mv (.t 0), none, []⟩,
 ⟨(some 42), .mv (.t 13), none, [13]⟩,
 ⟨(some 43), .mv (.t 3), none, []⟩,
 ⟨(some 44), .call 216 [(.t 41), (.t 42), (.t 11), (.t 43)], none, [41, 42, 43]⟩,
 ⟨(some 13), .asg (.t 44), none, [44]⟩])
 (.reg [⟨(some 45), .mv (.t 0), none, []⟩,
 ⟨(some 46), .mv (.t 14), none, [14]⟩,
 ⟨(some 47), .mv (.t 3), none, []⟩,
 ⟨(some 48), .call 216 [(.t 45), (.t 46), (.t 11), (.t 47)], none, [45, 46, 47]⟩,
 ⟨(some 14), .asg (.t 48), none, [48]⟩])))
 .skip))
 (.reg [⟨(some 49), .mv (.t 0), none, [0]⟩,
 ⟨(some 50), .mv (.t 12), none, [12]⟩,
 ⟨(some 51), .mv (.t 13), none, [13]⟩,
 ⟨(some 52), .mv (.t 14), none, [14]⟩,
 ⟨(some 53), .mv (.t 3), none, [3]⟩,
 ⟨(some 54), .call 217 [(.t 49), (.t 50), (.t 51), (.t 52), (.t 11), (.t 53)], none, [49, 50, 51, 52, 53]⟩,
 ⟨(some 13), .asg (.t 54), none, [54]⟩]))
 .skip))
 (.seq (.reg [⟨(some 55), .load none (.t 11), none, [11]⟩])
 (.blk 0 (.seq (.reg [⟨(some 58), .bin .eql (.t 55) (.c (.i .i64 0)), none, []⟩,
 ⟨(some 57), .asg (.t 58), none, [58]⟩])
 (.cond (.t 57) (.seq (.reg [⟨(some 59), .mv (.t 13), none, [13]⟩,
 ⟨(some 8), .asg (.t 59), none, [59]⟩,
 ⟨(some 9), .asg (.c (.i .i64 1)), none, []⟩])
 .ret)
 (.seq (.reg [⟨(some 61), .bin .eql (.t 55) (.c (.i .i64 12)), none, [55]⟩,
 ⟨(some 60), .asg (.t 61), none, [61]⟩])
 (.cond (.t 60) (.seq (.reg [⟨(some 62), .mv (.t 13), none, [13]⟩,
 ⟨(some 8), .asg (.t 62), none, [62]⟩,
 ⟨(some 9), .asg (.c (.i .i64 2)), none, []⟩])
 .ret)
 (.seq (.reg [⟨(some 56), .mv (.t 13), none, [13]⟩,
 ⟨(some 8), .asg (.t 56), none, [56]⟩,
 ⟨(some 9), .asg (.c (.i .i64 0)), none, []⟩])
 .ret)))))))))))))), [.t 8, .t 9]⟩
/-- slices.reverseRangeCmpFunc interrex/api.Pod  -/
def f162 : AFn := ⟨4, (.seq (.reg [⟨(some 10), .mv (.t 1), none, [1]⟩,
 ⟨(some 8), .asg (.t 10), none, [10]⟩])
 (.seq (.reg [⟨(some 11), .mv (.t 2), none, [2]⟩,
 ⟨(some 12), .bin .sub (.t 11) (.c (.i .i64 1)), none, [11]⟩,
 ⟨(some 9), .asg (.t 12), none, [12]⟩])
 (.blk 0 (.loop (.seq (.seq (.reg [⟨(some 13), .mv (.t 8), none, []⟩,
 ⟨(some 14), .mv (.t 9), none, []⟩,
 ⟨(some 15), .bin .lss (.t 13) (.t 14), none, [13, 14]⟩])
 (.cond (.t 15) .skip
 (.exit 0)))
 (.blk 1 (.seq (.dreg [⟨0, ⟨(some 16), .mv (.t 0), none, []⟩, false, []⟩,
 ⟨1, ⟨(some 17), .mv (.t 8), none, []⟩, false, []⟩,
 ⟨2, ⟨(some 18), .mv (.t 0), none, []⟩, false, []⟩,
 ⟨3, ⟨(some 19), .mv (.t 9), none, []⟩, false, []⟩,
 ⟨4, ⟨(some 20), .mv (.t 0), none, []⟩, false, []⟩,
 ⟨5, ⟨(some 21), .mv (.t 9), none, []⟩, false, []⟩,
 ⟨6, ⟨(some 22), .iasl 16 (.t 20) (.t 21), none, []⟩, false, []⟩,
 ⟨7, ⟨(some 23), .load (some 16) (.t 22), none, []⟩, false, []⟩,
 ⟨8, ⟨(some 24), .mv (.t 0), none, []⟩, false, []⟩,
 ⟨9, ⟨(some 25), .mv (.t 8), none, []⟩, false, []⟩,
 ⟨10, ⟨(some 26), .iasl 16 (.t 24) (.t 25), none, []⟩, false, []⟩,
 ⟨11, ⟨(some 27), .load (some 16) (.t 26), none, []⟩, false, []⟩,
 ⟨12, ⟨(some 28), .iasl 16 (.t 16) (.t 17), none, []⟩, false, []⟩,
 ⟨13, ⟨none, .store 16 (.t 28) (.t 23), none, []⟩, true, []⟩,
 ⟨14, ⟨(some 29), .iasl 16 (.t 18) (.t 19), none, []⟩, false, []⟩,
 ⟨15, ⟨none, .store 16 (.t 29) (.t 27), none, []⟩, true, []⟩] [16, 17, 18, 19, 20, 21, 22, 23, 24, 25, 26, 27, 28, 29])
 (.seq (.reg [⟨(some 30), .mv (.t 8), none, [8]⟩,
 ⟨(some 31), .bin .add (.t 30) (.c (.i .i64 1)), none, [30]⟩,
 ⟨(some 8), .asg (.t 31), none, [31]⟩])
 (.reg [⟨(some 32), .mv (.t 9), none, [9]⟩,
 ⟨(some 33), .bin .sub (.t 32) (.c (.i .i64 1)), none, [32]⟩,
 ⟨(some 9), .asg (.t 33), none, [33]⟩]))))))))), []⟩
/-- slices.partialInsertionSortCmpFunc interrex/api.Pod  -/
def f163 : AFn := ⟨4, (.seq (.reg [⟨(some 8), .asg (.c (.b false)), none, [8]⟩])
 (.seq (.reg [⟨(some 13), .mv (.t 1), none, []⟩,
 ⟨(some 14), .bin .add (.t 13) (.c (.i .i64 1)), none, [13]⟩,
 ⟨(some 9), .asg (.t 14), none, [14]⟩])
 (.seq (.seq (.reg [⟨(some 10), .asg (.c (.i .i64 0)), none, []⟩])
 (.blk 0 (.loop (.seq (.seq (.reg [⟨(some 15), .mv (.t 10), none, []⟩,
 ⟨(some 16), .bin .lss (.t 15) (.c (.i .i64 5)), none, [15]⟩])
 (.cond (.t 16) .skip
 (.exit 0)))
 (.seq (.blk 1 (.seq (.blk 2 (.loop (.seq (.seq (.dreg [⟨0, ⟨(some 19), .mv (.t 9), none, []⟩, false, []⟩,
 ⟨1, ⟨(some 20), .mv (.t 2), none, []⟩, false, []⟩,
 ⟨2, ⟨(some 21), .bin .lss (.t 19) (.t 20), none, []⟩, false, []⟩,
 ⟨3, ⟨(some 22), .mv (.t 21), none, []⟩, false, []⟩,
 ⟨4, ⟨(some 23), .mv (.t 3), (some (22, true)), []⟩, false, []⟩,
 ⟨5, ⟨(some 24), .mv (.t 0), (some (22, true)), []⟩, false, []⟩,
 ⟨6, ⟨(some 25), .mv (.t 9), (some (22, true)), []⟩, false, []⟩,
 ⟨7, ⟨(some 26), .iasl 16 (.t 24) (.t 25), (some (22, true)), []⟩, false, []⟩,
 ⟨8, ⟨(some 27), .load (some 16) (.t 26), (some (22, true)), []⟩, false, []⟩,
 ⟨9, ⟨(some 28), .mv (.t 0), (some (22, true)), []⟩, false, []⟩,
 ⟨10, ⟨(some 29), .mv (.t 9), (some (22, true)), []⟩, false, []⟩,
 ⟨11, ⟨(some 30), .bin .sub (.t 29) (.c (.i .i64 1)), (some (22, true)), []⟩, false, []⟩,
 ⟨12, ⟨(some 31), .iasl 16 (.t 28) (.t 30), (some (22, true)), []⟩, false, []⟩,
 ⟨13, ⟨(some 32), .load (some 16) (.t 31), (some (22, true)), []⟩, false, []⟩,
 ⟨14, ⟨(some 33), .callv (.t 23) [(.t 27), (.t 32)], (some (22, true)), []⟩, true, []⟩,
 ⟨15, ⟨(some 34), .bin .lss (.t 33) (.c (.i .i64 0)), (some (22, true)), []⟩, false, []⟩,
 ⟨16, ⟨(some 35), .un .not (.t 34), (some (22, true)), []⟩, false, []⟩,
 ⟨17, ⟨(some 36), .pick (.t 22) (.t 35) (.c (.b false)), none, []⟩, false, []⟩] [19, 20, 21, 22, 23, 24, 25, 26, 27, 28, 29, 30, 31, 32, 33, 34, 35])
 (.cond (.t 36) .skip
 (.exit 2)))
 (.blk 3 (.reg [⟨(some 37), .mv (.t 9), none, [9]⟩,
 ⟨(some 38), .bin .add (.t 37) (.c (.i .i64 1)), none, [37]⟩,
 ⟨(some 9), .asg (.t 38), none, [38]⟩])))))
 (.seq (.seq (.reg [⟨(some 39), .mv (.t 9), none, []⟩,
 ⟨(some 40), .mv (.t 2), none, []⟩,
 ⟨(some 41), .bin .eql (.t 39) (.t 40), none, [39, 40]⟩])
 (.cond (.t 41) (.seq (.reg [⟨(some 8), .asg (.c (.b true)), none, []⟩])
 .ret)
 .skip))
 (.seq (.seq (.reg [⟨(some 42), .mv (.t 2), none, []⟩,
 ⟨(some 43), .mv (.t 1), none, []⟩,
 ⟨(some 44), .bin .sub (.t 42) (.t 43), none, [42, 43]⟩,
 ⟨(some 45), .bin .lss (.t 44) (.c (.i .i64 50)), none, [44]⟩])
 (.cond (.t 45) (.seq (.reg [⟨(some 8), .asg (.c (.b false)), none, []⟩])
 .ret)
 .skip))
 (.seq (.dreg [⟨0, ⟨(some 46), .mv (.t 0), none, []⟩, false, []⟩,
 ⟨1, ⟨(some 47), .mv (.t 9), none, []⟩, false, []⟩,
 ⟨2, ⟨(some 48), .mv (.t 0), none, []⟩, false, []⟩,
 ⟨3, ⟨(some 49), .mv (.t 9), none, []⟩, false, []⟩,
 ⟨4, ⟨(some 50), .bin .sub (.t 49) (.c (.i .i64 1)), none, []⟩, false, []⟩,
 ⟨5, ⟨(some 51), .mv (.t 0), none, []⟩, false, []⟩,
 ⟨6, ⟨(some 52), .mv (.t 9), none, []⟩, false, []⟩,
 ⟨7, ⟨(some 53), .bin .sub (.t 52) (.c (.i .i64 1)), none, []⟩, false, []⟩,
 ⟨8, ⟨(some 54), .iasl 16 (.t 51) (.t 53), none, []⟩, false, []⟩,
 ⟨9, ⟨(some 55), .load (some 16) (.t 54), none, []⟩, false, []⟩,
 ⟨10, ⟨(some 56), .mv (.t 0), none, []⟩, false, []⟩,
 ⟨11, ⟨(some 57), .mv (.t 9), none, []⟩, false, []⟩,
 ⟨12, ⟨(some 58), .iasl 16 (.t 56) (.t 57), none, []⟩, false, []⟩,
 ⟨13, ⟨(some 59), .load (some 16) (.t 58), none, []⟩, false, []⟩,
 ⟨14, ⟨(some 60), .iasl 16 (.t 46) (.t 47), none, []⟩, false, []⟩,
 ⟨15, ⟨none, .store 16 (.t 60) (.t 55), none, []⟩, true, []⟩,
 ⟨16, ⟨(some 61), .iasl 16 (.t 48) (.t 50), none, []⟩, false, []⟩,
 ⟨17, ⟨none, .store 16 (.t 61) (.t 59), none, []⟩, true, []⟩] [46, 47, 48, 49, 50, 51, 52, 53, 54, 55, 56, 57, 58, 59, 60, 61])
 (.seq (.seq (.reg [⟨(some 62), .mv (.t 9), none, []⟩,
 ⟨(some 63), .mv (.t 1), none, []⟩,
 ⟨(some 64), .bin .sub (.t 62) (.t 63), none, [62, 63]⟩,
 ⟨(some 65), .bin .geq (.t 64) (.c (.i .i64 2)), none, [64]⟩])
 (.cond (.t 65) (.seq (.reg [⟨(some 66), .mv (.t 9), none, []⟩,
 ⟨(some 67), .bin .sub (.t 66) (.c (.i .i64 1)), none, [66]⟩,
 ⟨(some 11), .asg (.t 67), none, [67]⟩])
 (.blk 4 (.loop (.seq (.seq (.reg [⟨(some 68), .mv (.t 11), none, []⟩,
 ⟨(some 69), .bin .geq (.t 68) (.c (.i .i64 1)), none, [68]⟩])
 (.cond (.t 69) .skip
 (.exit 4)))
 (.seq (.blk 5 (.seq (.seq (.dreg [⟨0, ⟨(some 72), .mv (.t 3), none, []⟩, false, []⟩,
 ⟨1, ⟨(some 73), .mv (.t 0), none, []⟩, false, []⟩,
 ⟨2, ⟨(some 74), .mv (.t 11), none, []⟩, false, []⟩,
 ⟨3, ⟨(some 75), .iasl 16 (.t 73) (.t 74), none, []⟩, false, []⟩,
 ⟨4, ⟨(some 76), .load (some 16) (.t 75), none, []⟩, false, []⟩,
 ⟨5, ⟨(some 77), .mv (.t 0), none, []⟩, false, []⟩,
 ⟨6, ⟨(some 78), .mv (.t 11), none, []⟩, false, []⟩,
 ⟨7, ⟨(some 79), .bin .sub (.t 78) (.c (.i .i64 1)), none, []⟩, false, []⟩,
 ⟨8, ⟨(some 80), .iasl 16 (.t 77) (.t 79), none, []⟩, false, []⟩,
 ⟨9, ⟨(some 81), .load (some 16) (.t 80), none, []⟩, false, []⟩,
 ⟨10, ⟨(some 82), .callv (.t 72) [(.t 76), (.t 81)], none, []⟩, true, []⟩,
 ⟨11, ⟨(some 83), .bin .lss (.t 82) (.c (.i .i64 0)), none, []⟩, false, []⟩,
 ⟨12, ⟨(some 84), .un .not (.t 83), none, []⟩, false, []⟩] [72, 73, 74, 75, 76, 77, 78, 79, 80, 81, 82, 83])
 (.cond (.t 84) (.exit 4)
 .skip))
 (.dreg [⟨0, ⟨(some 85), .mv (.t 0), none, []⟩, false, []⟩,
 ⟨1, ⟨(some 86), .mv (.t 11), none, []⟩, false, []⟩,
 ⟨2, ⟨(some 87), .mv (.t 0), none, []⟩, false, []⟩,
 ⟨3, ⟨(some 88), .mv (.t 11), none, []⟩, false, []⟩,
 ⟨4, ⟨(some 89), .bin .sub (.t 88) (.c (.i .i64 1)), none, []⟩, false, []⟩,
 ⟨5, ⟨(some 90), .mv (.t 0), none, []⟩, false, []⟩,
 ⟨6, ⟨(some 91), .mv (.t 11), none, []⟩, false, []⟩,
 ⟨7, ⟨(some 92), .bin .sub (.t 91) (.c (.i .i64 1)), none, []⟩, false, []⟩,
 ⟨8, ⟨(some 93), .iasl 16 (.t 90) (.t 92), none, []⟩, false, []⟩,
 ⟨9, ⟨(some 94), .load (some 16) (.t 93), none, []⟩, false, []⟩,
 ⟨10, ⟨(some 95), .mv (.t 0), none, []⟩, false, []⟩,
 ⟨11, ⟨(some 96), .mv (.t 11), none, []⟩, false, []⟩,
 ⟨12, ⟨(some 97), .iasl 16 (.t 95) (.t 96), none, []⟩, false, []⟩,
 ⟨13, ⟨(some 98), .load (some 16) (.t 97), none, []⟩, false, []⟩,
 ⟨14, ⟨(some 99), .iasl 16 (.t 85) (.t 86), none, []⟩, false, []⟩,
 ⟨15, ⟨none, .store 16 (.t 99) (.t 94), none, []⟩, true, []⟩,
 ⟨16, ⟨(some 100), .iasl 16 (.t 87) (.t 89), none, []⟩, false, []⟩,
 ⟨17, ⟨none, .store 16 (.t 100) (.t 98), none, []⟩, true, []⟩] [85, 86, 87, 88, 89, 90, 91, 92, 93, 94, 95, 96, 97, 98, 99, 100])))
 (.reg [⟨(some 70), .mv (.t 11), none, [11]⟩,
 ⟨(some 71), .bin .sub (.t 70) (.c (.i .i64 1)), none, [70]⟩,
 ⟨(some 11), .asg (.t 71), none, [71]⟩]))))))
 .skip))
 (.seq (.reg [⟨(some 101), .mv (.t 2), none, []⟩,
 ⟨(some 102), .mv (.t 9), none, []⟩,
 ⟨(some 103), .bin .sub (.t 101) (.t 102), none, [101, 102]⟩,
 ⟨(some 104), .bin .geq (.t 103) (.c (.i .i64 2)), none, [103]⟩])
 (.cond (.t 104) (.seq (.reg [⟨(some 105), .mv (.t 9), none, []⟩,
 ⟨(some 106), .bin .add (.t 105) (.c (.i .i64 1)), none, [105]⟩,
 ⟨(some 12), .asg (.t 106), none, [106]⟩])
 (.blk 6 (.loop (.seq (.seq (.reg [⟨(some 107), .mv (.t 12), none, []⟩,
 ⟨(some 108), .mv (.t 2), none, []⟩,
 ⟨(some 109), .bin .lss (.t 107) (.t 108), none, [107, 108]⟩])
 (.cond (.t 109) .skip
 (.exit 6)))
 (.seq (.blk 7 (.seq (.seq (.dreg [⟨0, ⟨(some 112), .mv (.t 3), none, []⟩, false, []⟩,
 ⟨1, ⟨(some 113), .mv (.t 0), none, []⟩, false, []⟩,
 ⟨2, ⟨(some 114), .mv (.t 12), none, []⟩, false, []⟩,
 ⟨3, ⟨(some 115), .iasl 16 (.t 113) (.t 114), none, []⟩, false, []⟩,
 ⟨4, ⟨(some 116), .load (some 16) (.t 115), none, []⟩, false, []⟩,
 ⟨5, ⟨(some 117), .mv (.t 0), none, []⟩, false, []⟩,
 ⟨6, ⟨(some 118), .mv (.t 12), none, []⟩, false, []⟩,
 ⟨7, ⟨(some 119), .bin .sub (.t 118) (.c (.i .i64 1)), none, []⟩, false, []⟩,
 ⟨8, ⟨(some 120), .iasl 16 (.t 117) (.t 119), none, []⟩, false, []⟩,
 ⟨9, ⟨(some 121), .load (some 16) (.t 120), none, []⟩, false, []⟩,
 ⟨10, ⟨(some 122), .callv (.t 112) [(.t 116), (.t 121)], none, []⟩, true, []⟩,
 ⟨11, ⟨(some 123), .bin .lss (.t 122) (.c (.i .i64 0)), none, []⟩, false, []⟩,
 ⟨12, ⟨(some 124), .un .not (.t 123), none, []⟩, false, []⟩] [112, 113, 114, 115, 116, 117, 118, 119, 120, 121, 122, 123])
 (.cond (.t 124) (.exit 6)
 .skip))
 (.dreg [⟨0, ⟨(some 125), .mv (.t 0), none, []⟩, false, []⟩,
 ⟨1, ⟨(some 126), .mv (.t 12), none, []⟩, false, []⟩,
 ⟨2, ⟨(some 127), .mv (.t 0), none, []⟩, false, []⟩,
 ⟨3, ⟨(some 128), .mv (.t 12), none, []⟩, false, []⟩,
 ⟨4, ⟨(some 129), .bin .sub (.t 128) (.c (.i .i64 1)), none, []⟩, false, []⟩,
 ⟨5, ⟨(some 130), .mv (.t 0), none, []⟩, false, []⟩,
 ⟨6, ⟨(some 131), .mv (.t 12), none, []⟩, false, []⟩,
 ⟨7, ⟨(some 132), .bin .sub (.t 131) (.c (.i .i64 1)), none, []⟩, false, []⟩,
 ⟨8, ⟨(some 133), .iasl 16 (.t 130) (.t 132), none, []⟩, false, []⟩,
 ⟨9, ⟨(some 134), .load (some 16) (.t 133), none, []⟩, false, []⟩,
 ⟨10, ⟨(some 135), .mv (.t 0), none, []⟩, false, []⟩,
 ⟨11, ⟨(some 136), .mv (.t 12), none, []⟩, false, []⟩,
 ⟨12, ⟨(some 137), .iasl 16 (.t 135) (.t 136), none, []⟩, false, []⟩,
 ⟨13, ⟨(some 138), .load (some 16) (.t 137), none, []⟩, false, []⟩,
 ⟨14, ⟨(some 139), .iasl 16 (.t 125) (.t 126), none, []⟩, false, []⟩,
 ⟨15, ⟨none, .store 16 (.t 139) (.t 134), none, []⟩, true, []⟩,
 ⟨16, ⟨(some 140), .iasl 16 (.t 127) (.t 129), none, []⟩, false, []⟩,
 ⟨17, ⟨none, .store 16 (.t 140) (.t 138), none, []⟩, true, []⟩] [125, 126, 127, 128, 129, 130, 131, 132, 133, 134, 135, 136, 137, 138, 139, 140])))
 (.reg [⟨(some 110), .mv (.t 12), none, [12]⟩,
 ⟨(some 111), .bin .add (.t 110) (.c (.i .i64 1)), none, [110]⟩,
 ⟨(some 12), .asg (.t 111), none, [111]⟩]))))))
 .skip))))))))
 (.reg [⟨(some 17), .mv (.t 10), none, [10]⟩,
 ⟨(some 18), .bin .add (.t 17) (.c (.i .i64 1)), none, [17]⟩,
 ⟨(some 10), .asg (.t 18), none, [18]⟩]))))))
 (.seq (.reg [⟨(some 8), .asg (.c (.b false)), none, []⟩])
 .ret)))), [.t 8]⟩
/-- slices.partitionEqualCmpFunc interrex/api.Pod  -/
def f164 : AFn := ⟨5, (.seq (.reg [⟨(some 10), .asg (.c (.i .i64 0)), none, [10]⟩])
 (.seq (.dreg [⟨0, ⟨(some 13), .mv (.t 0), none, []⟩, false, []⟩,
 ⟨1, ⟨(some 14), .mv (.t 1), none, []⟩, false, []⟩,
 ⟨2, ⟨(some 15), .mv (.t 0), none, []⟩, false, []⟩,
 ⟨3, ⟨(some 16), .mv (.t 3), none, []⟩, false, []⟩,
 ⟨4, ⟨(some 17), .mv (.t 0), none, []⟩, false, []⟩,
 ⟨5, ⟨(some 18), .mv (.t 3), none, []⟩, false, []⟩,
 ⟨6, ⟨(some 19), .iasl 16 (.t 17) (.t 18), none, []⟩, false, []⟩,
 ⟨7, ⟨(some 20), .load (some 16) (.t 19), none, []⟩, false, []⟩,
 ⟨8, ⟨(some 21), .mv (.t 0), none, []⟩, false, []⟩,
 ⟨9, ⟨(some 22), .mv (.t 1), none, []⟩, false, []⟩,
 ⟨10, ⟨(some 23), .iasl 16 (.t 21) (.t 22), none, []⟩, false, []⟩,
 ⟨11, ⟨(some 24), .load (some 16) (.t 23), none, []⟩, false, []⟩,
 ⟨12, ⟨(some 25), .iasl 16 (.t 13) (.t 14), none, []⟩, false, []⟩,
 ⟨13, ⟨none, .store 16 (.t 25) (.t 20), none, []⟩, true, []⟩,
 ⟨14, ⟨(some 26), .iasl 16 (.t 15) (.t 16), none, []⟩, false, []⟩,
 ⟨15, ⟨none, .store 16 (.t 26) (.t 24), none, []⟩, true, []⟩] [13, 14, 15, 3, 16, 17, 18, 19, 20, 21, 22, 23, 24, 25, 26])
 (.seq (.reg [⟨(some 27), .mv (.t 1), none, []⟩,
 ⟨(some 28), .bin .add (.t 27) (.c (.i .i64 1)), none, [27]⟩,
 ⟨(some 29), .mv (.t 2), none, [2]⟩,
 ⟨(some 30), .bin .sub (.t 29) (.c (.i .i64 1)), none, [29]⟩,
 ⟨(some 11), .asg (.t 28), none, [28]⟩,
 ⟨(some 12), .asg (.t 30), none, [30]⟩])
 (.seq (.blk 0 (.loop (.blk 1 (.seq (.blk 2 (.loop (.seq (.seq (.dreg [⟨0, ⟨(some 31), .mv (.t 11), none, []⟩, false, []⟩,
 ⟨1, ⟨(some 32), .mv (.t 12), none, []⟩, false, []⟩,
 ⟨2, ⟨(some 33), .bin .leq (.t 31) (.t 32), none, []⟩, false, []⟩,
 ⟨3, ⟨(some 34), .mv (.t 33), none, []⟩, false, []⟩,
 ⟨4, ⟨(some 35), .mv (.t 4), (some (34, true)), []⟩, false, []⟩,
 ⟨5, ⟨(some 36), .mv (.t 0), (some (34, true)), []⟩, false, []⟩,
 ⟨6, ⟨(some 37), .mv (.t 1), (some (34, true)), []⟩, false, []⟩,
 ⟨7, ⟨(some 38), .iasl 16 (.t 36) (.t 37), (some (34, true)), []⟩, false, []⟩,
 ⟨8, ⟨(some 39), .load (some 16) (.t 38), (some (34, true)), []⟩, false, []⟩,
 ⟨9, ⟨(some 40), .mv (.t 0), (some (34, true)), []⟩, false, []⟩,
 ⟨10, ⟨(some 41), .mv (.t 11), (some (34, true)), []⟩, false, []⟩,
 ⟨11, ⟨(some 42), .iasl 16 (.t 40) (.t 41), (some (34, true)), []⟩, false, []⟩,
 ⟨12, ⟨(some 43), .load (some 16) (.t 42), (some (34, true)), []⟩, false, []⟩,
 ⟨13, ⟨(some 44), .callv (.t 35) [(.t 39), (.t 43)], (some (34, true)), []⟩, true, []⟩,
 ⟨14, ⟨(some 45), .bin .lss (.t 44) (.c (.i .i64 0)), (some (34, true)), []⟩, false, []⟩,
 ⟨15, ⟨(some 46), .un .not (.t 45), (some (34, true)), []⟩, false, []⟩,
 ⟨16, ⟨(some 47), .pick (.t 34) (.t 46) (.c (.b false)), none, []⟩, false, []⟩] [31, 32, 33, 34, 35, 36, 37, 38, 39, 40, 41, 42, 43, 44, 45, 46])
 (.cond (.t 47) .skip
 (.exit 2)))
 (.blk 3 (.reg [⟨(some 48), .mv (.t 11), none, [11]⟩,
 ⟨(some 49), .bin .add (.t 48) (.c (.i .i64 1)), none, [48]⟩,
 ⟨(some 11), .asg (.t 49), none, [49]⟩])))))
 (.seq (.blk 4 (.loop (.seq (.seq (.dreg [⟨0, ⟨(some 50), .mv (.t 11), none, []⟩, false, []⟩,
 ⟨1, ⟨(some 51), .mv (.t 12), none, []⟩, false, []⟩,
 ⟨2, ⟨(some 52), .bin .leq (.t 50) (.t 51), none, []⟩, false, []⟩,
 ⟨3, ⟨(some 53), .mv (.t 52), none, []⟩, false, []⟩,
 ⟨4, ⟨(some 54), .mv (.t 4), (some (53, true)), []⟩, false, []⟩,
 ⟨5, ⟨(some 55), .mv (.t 0), (some (53, true)), []⟩, false, []⟩,
 ⟨6, ⟨(some 56), .mv (.t 1), (some (53, true)), []⟩, false, []⟩,
 ⟨7, ⟨(some 57), .iasl 16 (.t 55) (.t 56), (some (53, true)), []⟩, false, []⟩,
 ⟨8, ⟨(some 58), .load (some 16) (.t 57), (some (53, true)), []⟩, false, []⟩,
 ⟨9, ⟨(some 59), .mv (.t 0), (some (53, true)), []⟩, false, []⟩,
 ⟨10, ⟨(some 60), .mv (.t 12), (some (53, true)), []⟩, false, []⟩,
 ⟨11, ⟨(some 61), .iasl 16 (.t 59) (.t 60), (some (53, true)), []⟩, false, []⟩,
 ⟨12, ⟨(some 62), .load (some 16) (.t 61), (some (53, true)), []⟩, false, []⟩,
 ⟨13, ⟨(some 63), .callv (.t 54) [(.t 58), (.t 62)], (some (53, true)), []⟩, true, []⟩,
 ⟨14, ⟨(some 64), .bin .lss (.t 63) (.c (.i .i64 0)), (some (53, true)), []⟩, false, []⟩,
 ⟨15, ⟨(some 65), .pick (.t 53) (.t 64) (.c (.b false)), none, []⟩, false, []⟩] [50, 51, 52, 53, 54, 55, 56, 57, 58, 59, 60, 61, 62, 63, 64])
 (.cond (.t 65) .skip
 (.exit 4)))
 (.blk 5 (.reg [⟨(some 66), .mv (.t 12), none, [12]⟩,
 ⟨(some 67), .bin .sub (.t 66) (.c (.i .i64 1)), none, [66]⟩,
 ⟨(some 12), .asg (.t 67), none, [67]⟩])))))
 (.seq (.seq (.reg [⟨(some 68), .mv (.t 11), none, []⟩,
 ⟨(some 69), .mv (.t 12), none, []⟩,
 ⟨(some 70), .bin .gtr (.t 68) (.t 69), none, [68, 69]⟩])
 (.cond (.t 70) (.exit 0)
 .skip))
 (.seq (.dreg [⟨0, ⟨(some 71), .mv (.t 0), none, []⟩, false, []⟩,
 ⟨1, ⟨(some 72), .mv (.t 11), none, []⟩, false, []⟩,
 ⟨2, ⟨(some 73), .mv (.t 0), none, []⟩, false, []⟩,
 ⟨3, ⟨(some 74), .mv (.t 12), none, []⟩, false, []⟩,
 ⟨4, ⟨(some 75), .mv (.t 0), none, []⟩, false, []⟩,
 ⟨5, ⟨(some 76), .mv (.t 12), none, []⟩, false, []⟩,
 ⟨6, ⟨(some 77), .iasl 16 (.t 75) (.t 76), none, []⟩, false, []⟩,
 ⟨7, ⟨(some 78), .load (some 16) (.t 77), none, []⟩, false, []⟩,
 ⟨8, ⟨(some 79), .mv (.t 0), none, []⟩, false, []⟩,
 ⟨9, ⟨(some 80), .mv (.t 11), none, []⟩, false, []⟩,
 ⟨10, ⟨(some 81), .iasl 16 (.t 79) (.t 80), none, []⟩, false, []⟩,
 ⟨11, ⟨(some 82), .load (some 16) (.t 81), none, []⟩, false, []⟩,
 ⟨12, ⟨(some 83), .iasl 16 (.t 71) (.t 72), none, []⟩, false, []⟩,
 ⟨13, ⟨none, .store 16 (.t 83) (.t 78), none, []⟩, true, []⟩,
 ⟨14, ⟨(some 84), .iasl 16 (.t 73) (.t 74), none, []⟩, false, []⟩,
 ⟨15, ⟨none, .store 16 (.t 84) (.t 82), none, []⟩, true, []⟩] [71, 72, 73, 74, 75, 76, 77, 78, 79, 80, 81, 82, 83, 84])
 (.seq (.reg [⟨(some 85), .mv (.t 11), none, [11]⟩,
 ⟨(some 86), .bin .add (.t 85) (.c (.i .i64 1)), none, [85]⟩,
 ⟨(some 11), .asg (.t 86), none, [86]⟩])
 (.reg [⟨(some 87), .mv (.t 12), none, [12]⟩,
 ⟨(some 88), .bin .sub (.t 87) (.c (.i .i64 1)), none, [87]⟩,
 ⟨(some 12), .asg (.t 88), none, [88]⟩])))))))))
 (.seq (.reg [⟨(some 89), .mv (.t 11), none, [11]⟩,
 ⟨(some 10), .asg (.t 89), none, [89]⟩])
 .ret))))), [.t 10]⟩
/-- slices.partitionCmpFunc interrex/api.Pod  -/
def f165 : AFn := ⟨5, (.seq (.reg [⟨(some 10), .asg (.c (.i .i64 0)), none, [10]⟩,
 ⟨(some 11), .asg (.c (.b false)), none, [11]⟩])
 (.seq (.dreg [⟨0, ⟨(some 14), .mv (.t 0), none, []⟩, false, []⟩,
 ⟨1, ⟨(some 15), .mv (.t 1), none, []⟩, false, []⟩,
 ⟨2, ⟨(some 16), .mv (.t 0), none, []⟩, false, []⟩,
 ⟨3, ⟨(some 17), .mv (.t 3), none, []⟩, false, []⟩,
 ⟨4, ⟨(some 18), .mv (.t 0), none, []⟩, false, []⟩,
 ⟨5, ⟨(some 19), .mv (.t 3), none, []⟩, false, []⟩,
 ⟨6, ⟨(some 20), .iasl 16 (.t 18) (.t 19), none, []⟩, false, []⟩,
 ⟨7, ⟨(some 21), .load (some 16) (.t 20), none, []⟩, false, []⟩,
 ⟨8, ⟨(some 22), .mv (.t 0), none, []⟩, false, []⟩,
 ⟨9, ⟨(some 23), .mv (.t 1), none, []⟩, false, []⟩,
 ⟨10, ⟨(some 24), .iasl 16 (.t 22) (.t 23), none, []⟩, false, []⟩,
 ⟨11, ⟨(some 25), .load (some 16) (.t 24), none, []⟩, false, []⟩,
 ⟨12, ⟨(some 26), .iasl 16 (.t 14) (.t 15), none, []⟩, false, []⟩,
 ⟨13, ⟨none, .store 16 (.t 26) (.t 21), none, []⟩, true, []⟩,
 ⟨14, ⟨(some 27), .iasl 16 (.t 16) (.t 17), none, []⟩, false, []⟩,
 ⟨15, ⟨none, .store 16 (.t 27) (.t 25), none, []⟩, true, []⟩] [14, 15, 16, 3, 17, 18, 19, 20, 21, 22, 23, 24, 25, 26, 27])
 (.seq (.reg [⟨(some 28), .mv (.t 1), none, []⟩,
 ⟨(some 29), .bin .add (.t 28) (.c (.i .i64 1)), none, [28]⟩,
 ⟨(some 30), .mv (.t 2), none, [2]⟩,
 ⟨(some 31), .bin .sub (.t 30) (.c (.i .i64 1)), none, [30]⟩,
 ⟨(some 12), .asg (.t 29), none, [29]⟩,
 ⟨(some 13), .asg (.t 31), none, [31]⟩])
 (.seq (.blk 0 (.loop (.seq (.seq (.dreg [⟨0, ⟨(some 32), .mv (.t 12), none, []⟩, false, []⟩,
 ⟨1, ⟨(some 33), .mv (.t 13), none, []⟩, false, []⟩,
 ⟨2, ⟨(some 34), .bin .leq (.t 32) (.t 33), none, []⟩, false, []⟩,
 ⟨3, ⟨(some 35), .mv (.t 34), none, []⟩, false, []⟩,
 ⟨4, ⟨(some 36), .mv (.t 4), (some (35, true)), []⟩, false, []⟩,
 ⟨5, ⟨(some 37), .mv (.t 0), (some (35, true)), []⟩, false, []⟩,
 ⟨6, ⟨(some 38), .mv (.t 12), (some (35, true)), []⟩, false, []⟩,
 ⟨7, ⟨(some 39), .iasl 16 (.t 37) (.t 38), (some (35, true)), []⟩, false, []⟩,
 ⟨8, ⟨(some 40), .load (some 16) (.t 39), (some (35, true)), []⟩, false, []⟩,
 ⟨9, ⟨(some 41), .mv (.t 0), (some (35, true)), []⟩, false, []⟩,
 ⟨10, ⟨(some 42), .mv (.t 1), (some (35, true)), []⟩, false, []⟩,
 ⟨11, ⟨(some 43), .iasl 16 (.t 41) (.t 42), (some (35, true)), []⟩, false, []⟩,
 ⟨12, ⟨(some 44), .load (some 16) (.t 43), (some (35, true)), []⟩, false, []⟩,
 ⟨13, ⟨(some 45), .callv (.t 36) [(.t 40), (.t 44)], (some (35, true)), []⟩, true, []⟩,
 ⟨14, ⟨(some 46), .bin .lss (.t 45) (.c (.i .i64 0)), (some (35, true)), []⟩, false, []⟩,
 ⟨15, ⟨(some 47), .pick (.t 35) (.t 46) (.c (.b false)), none, []⟩, false, []⟩] [32, 33, 34, 35, 36, 37, 38, 39, 40, 41, 42, 43, 44, 45, 46])
 (.cond (.t 47) .skip
 (.exit 0)))
 (.blk 1 (.reg [⟨(some 48), .mv (.t 12), none, [12]⟩,
 ⟨(some 49), .bin .add (.t 48) (.c (.i .i64 1)), none, [48]⟩,
 ⟨(some 12), .asg (.t 49), none, [49]⟩])))))
 (.seq (.blk 2 (.loop (.seq (.seq (.dreg [⟨0, ⟨(some 50), .mv (.t 12), none, []⟩, false, []⟩,
 ⟨1, ⟨(some 51), .mv (.t 13), none, []⟩, false, []⟩,
 ⟨2, ⟨(some 52), .bin .leq (.t 50) (.t 51), none, []⟩, false, []⟩,
 ⟨3, ⟨(some 53), .mv (.t 52), none, []⟩, false, []⟩,
 ⟨4, ⟨(some 54), .mv (.t 4), (some (53, true)), []⟩, false, []⟩,
 ⟨5, ⟨(some 55), .mv (.t 0), (some (53, true)), []⟩, false, []⟩,
 ⟨6, ⟨(some 56), .mv (.t 13), (some (53, true)), []⟩, false, []⟩,
 ⟨7, ⟨(some 57), .iasl 16 (.t 55) (.t 56), (some (53, true)), []⟩, false, []⟩,
 ⟨8, ⟨(some 58), .load (some 16) (.t 57), (some (53, true)), []⟩, false, []⟩,
 ⟨9, ⟨(some 59), .mv (.t 0), (some (53, true)), []⟩, false, []⟩,
 ⟨10, ⟨(some 60), .mv (.t 1), (some (53, true)), []⟩, false, []⟩,
 ⟨11, ⟨(some 61), .iasl 16 (.t 59) (.t 60), (some (53, true)), []⟩, false, []⟩,
 ⟨12, ⟨(some 62), .load (some 16) (.t 61), (some (53, true)), []⟩, false, []⟩,
 ⟨13, ⟨(some 63), .callv (.t 54) [(.t 58), (.t 62)], (some (53, true)), []⟩, true, []⟩,
 ⟨14, ⟨(some 64), .bin .lss (.t 63) (.c (.i .i64 0)), (some (53, true)), []⟩, false, []⟩,
 ⟨15, ⟨(some 65), .un .not (.t 64), (some (53, true)), []⟩, false, []⟩,
 ⟨16, ⟨(some 66), .pick (.t 53) (.t 65) (.c (.b false)), none, []⟩, false, []⟩] [50, 51, 52, 53, 54, 55, 56, 57, 58, 59, 60, 61, 62, 63, 64, 65])
 (.cond (.t 66) .skip
 (.exit 2)))
 (.blk 3 (.reg [⟨(some 67), .mv (.t 13), none, [13]⟩,
 ⟨(some 68), .bin .sub (.t 67) (.c (.i .i64 1)), none, [67]⟩,
 ⟨(some 13), .asg (.t 68), none, [68]⟩])))))
 (.seq (.seq (.reg [⟨(some 69), .mv (.t 12), none, []⟩,
 ⟨(some 70), .mv (.t 13), none, []⟩,
 ⟨(some 71), .bin .gtr (.t 69) (.t 70), none, [69, 70]⟩])
 (.cond (.t 71) (.seq (.dreg [⟨0, ⟨(some 72), .mv (.t 0), none, []⟩, false, []⟩,
 ⟨1, ⟨(some 73), .mv (.t 13), none, []⟩, false, []⟩,
 ⟨2, ⟨(some 74), .mv (.t 0), none, []⟩, false, []⟩,
 ⟨3, ⟨(some 75), .mv (.t 1), none, []⟩, false, []⟩,
 ⟨4, ⟨(some 76), .mv (.t 0), none, []⟩, false, []⟩,
 ⟨5, ⟨(some 77), .mv (.t 1), none, []⟩, false, []⟩,
 ⟨6, ⟨(some 78), .iasl 16 (.t 76) (.t 77), none, []⟩, false, []⟩,
 ⟨7, ⟨(some 79), .load (some 16) (.t 78), none, []⟩, false, []⟩,
 ⟨8, ⟨(some 80), .mv (.t 0), none, []⟩, false, []⟩,
 ⟨9, ⟨(some 81), .mv (.t 13), none, []⟩, false, []⟩,
 ⟨10, ⟨(some 82), .iasl 16 (.t 80) (.t 81), none, []⟩, false, []⟩,
 ⟨11, ⟨(some 83), .load (some 16) (.t 82), none, []⟩, false, []⟩,
 ⟨12, ⟨(some 84), .iasl 16 (.t 72) (.t 73), none, []⟩, false, []⟩,
 ⟨13, ⟨none, .store 16 (.t 84) (.t 79), none, []⟩, true, []⟩,
 ⟨14, ⟨(some 85), .iasl 16 (.t 74) (.t 75), none, []⟩, false, []⟩,
 ⟨15, ⟨none, .store 16 (.t 85) (.t 83), none, []⟩, true, []⟩] [0, 72, 73, 74, 1, 75, 76, 77, 78, 79, 80, 81, 82, 83, 84, 85])
 (.seq (.reg [⟨(some 86), .mv (.t 13), none, [13]⟩,
 ⟨(some 10), .asg (.t 86), none, [86]⟩,
 ⟨(some 11), .asg (.c (.b true)), none, []⟩])
 .ret))
 .skip))
 (.seq (.dreg [⟨0, ⟨(some 87), .mv (.t 0), none, []⟩, false, []⟩,
 ⟨1, ⟨(some 88), .mv (.t 12), none, []⟩, false, []⟩,
 ⟨2, ⟨(some 89), .mv (.t 0), none, []⟩, false, []⟩,
 ⟨3, ⟨(some 90), .mv (.t 13), none, []⟩, false, []⟩,
 ⟨4, ⟨(some 91), .mv (.t 0), none, []⟩, false, []⟩,
 ⟨5, ⟨(some 92), .mv (.t 13), none, []⟩, false, []⟩,
 ⟨6, ⟨(some 93), .iasl 16 (.t 91) (.t 92), none, []⟩, false, []⟩,
 ⟨7, ⟨(some 94), .load (some 16) (.t 93), none, []⟩, false, []⟩,
 ⟨8, ⟨(some 95), .mv (.t 0), none, []⟩, false, []⟩,
 ⟨9, ⟨(some 96), .mv (.t 12), none, []⟩, false, []⟩,
 ⟨10, ⟨(some 97), .iasl 16 (.t 95) (.t 96), none, []⟩, false, []⟩,
 ⟨11, ⟨(some 98), .load (some 16) (.t 97), none, []⟩, false, []⟩,
 ⟨12, ⟨(some 99), .iasl 16 (.t 87) (.t 88), none, []⟩, false, []⟩,
 ⟨13, ⟨none, .store 16 (.t 99) (.t 94), none, []⟩, true, []⟩,
 ⟨14, ⟨(some 100), .iasl 16 (.t 89) (.t 90), none, []⟩, false, []⟩,
 ⟨15, ⟨none, .store 16 (.t 100) (.t 98), none, []⟩, true, []⟩] [87, 88, 89, 90, 91, 92, 93, 94, 95, 96, 97, 98, 99, 100])
 (.seq (.reg [⟨(some 101), .mv (.t 12), none, [12]⟩,
 ⟨(some 102), .bin .add (.t 101) (.c (.i .i64 1)), none, [101]⟩,
 ⟨(some 12), .asg (.t 102), none, [102]⟩])
 (.seq (.reg [⟨(some 103), .mv (.t 13), none, [13]⟩,
 ⟨(some 104), .bin .sub (.t 103) (.c (.i .i64 1)), none, [103]⟩,
 ⟨(some 13), .asg (.t 104), none, [104]⟩])
 (.seq (.blk 4 (.loop (.blk 5 (.seq (.blk 6 (.loop (.seq (.seq (.dreg [⟨0, ⟨(some 105), .mv (.t 12), none, []⟩, false, []⟩,
 ⟨1, ⟨(some 106), .mv (.t 13), none, []⟩, false, []⟩,
 ⟨2, ⟨(some 107), .bin .leq (.t 105) (.t 106), none, []⟩, false, []⟩,
 ⟨3, ⟨(some 108), .mv (.t 107), none, []⟩, false, []⟩,
 ⟨4, ⟨(some 109), .mv (.t 4), (some (108, true)), []⟩, false, []⟩,
 ⟨5, ⟨(some 110), .mv (.t 0), (some (108, true)), []⟩, false, []⟩,
 ⟨6, ⟨(some 111), .mv (.t 12), (some (108, true)), []⟩, false, []⟩,
 ⟨7, ⟨(some 112), .iasl 16 (.t 110) (.t 111), (some (108, true)), []⟩, false, []⟩,
 ⟨8, ⟨(some 113), .load (some 16) (.t 112), (some (108, true)), []⟩, false, []⟩,
 ⟨9, ⟨(some 114), .mv (.t 0), (some (108, true)), []⟩, false, []⟩,
 ⟨10, ⟨(some 115), .mv (.t 1), (some (108, true)), []⟩, false, []⟩,
 ⟨11, ⟨(some 116), .iasl 16 (.t 114) (.t 115), (some (108, true)), []⟩, false, []⟩,
 ⟨12, ⟨(some 117), .load (some 16) (.t 116), (some (108, true)), []⟩, false, []⟩,
 ⟨13, ⟨(some 118), .callv (.t 109) [(.t 113), (.t 117)], (some (108, true)), []⟩, true, []⟩,
 ⟨14, ⟨(some 119), .bin .lss (.t 118) (.c (.i .i64 0)), (some (108, true)), []⟩, false, []⟩,
 ⟨15, ⟨(some 120), .pick (.t 108) (.t 119) (.c (.b false)), none, []⟩, false, []⟩] [105, 106, 107, 108, 109, 110, 111, 112, 113, 114, 115, 116, 117, 118, 119])
 (.cond (.t 120) .skip
 (.exit 6)))
 (.blk 7 (.reg [⟨(some 121), .mv (.t 12), none, [12]⟩,
 ⟨(some 122), .bin .add (.t 121) (.c (.i .i64 1)), none, [121]⟩,
 ⟨(some 12), .asg (.t 122), none, [122]⟩])))))
 (.seq (.blk 8 (.loop (.seq (.seq (.dreg [⟨0, ⟨(some 123), .mv (.t 12), none, []⟩, false, []⟩,
 ⟨1, ⟨(some 124), .mv (.t 13), none, []⟩, false, []⟩,
 ⟨2, ⟨(some 125), .bin .leq (.t 123) (.t 124), none, []⟩, false, []⟩,
 ⟨3, ⟨(some 126), .mv (.t 125), none, []⟩, false, []⟩,
 ⟨4, ⟨(some 127), .mv (.t 4), (some (126, true)), []⟩, false, []⟩,
 ⟨5, ⟨(some 128), .mv (.t 0), (some (126, true)), []⟩, false, []⟩,
 ⟨6, ⟨(some 129), .mv (.t 13), (some (126, true)), []⟩, false, []⟩,
 ⟨7, ⟨(some 130), .iasl 16 (.t 128) (.t 129), (some (126, true)), []⟩, false, []⟩,
 ⟨8, ⟨(some 131), .load (some 16) (.t 130), (some (126, true)), []⟩, false, []⟩,
 ⟨9, ⟨(some 132), .mv (.t 0), (some (126, true)), []⟩, false, []⟩,
 ⟨10, ⟨(some 133), .mv (.t 1), (some (126, true)), []⟩, false, []⟩,
 ⟨11, ⟨(some 134), .iasl 16 (.t 132) (.t 133), (some (126, true)), []⟩, false, []⟩,
 ⟨12, ⟨(some 135), .load (some 16) (.t 134), (some (126, true)), []⟩, false, []⟩,
 ⟨13, ⟨(some 136), .callv (.t 127) [(.t 131), (.t 135)], (some (126, true)), []⟩, true, []⟩,
 ⟨14, ⟨(some 137), .bin .lss (.t 136) (.c (.i .i64 0)), (some (126, true)), []⟩, false, []⟩,
 ⟨15, ⟨(some 138), .un .not (.t 137), (some (126, true)), []⟩, false, []⟩,
 ⟨16, ⟨(some 139), .pick (.t 126) (.t 138) (.c (.b false)), none, []⟩, false, []⟩] [123, 124, 125, 126, 127, 128, 129, 130, 131, 132, 133, 134, 135, 136, 137, 138])
 (.cond (.t 139) .skip
 (.exit 8)))
 (.blk 9 (.reg [⟨(some 140), .mv (.t 13), none, [13]⟩,
 ⟨(some 141), .bin .sub (.t 140) (.c (.i .i64 1)), none, [140]⟩,
 ⟨(some 13), .asg (.t 141), none, [141]⟩])))))
 (.seq (.seq (.reg [⟨(some 142), .mv (.t 12), none, []⟩,
 ⟨(some 143), .mv (.t 13), none, []⟩,
 ⟨(some 144), .bin .gtr (.t 142) (.t 143), none, [142, 143]⟩])
 (.cond (.t 144) (.exit 4)
 .skip))
 (.seq (.dreg [⟨0, ⟨(some 145), .mv (.t 0), none, []⟩, false, []⟩,
 ⟨1, ⟨(some 146), .mv (.t 12), none, []⟩, false, []⟩,
 ⟨2, ⟨(some 147), .mv (.t 0), none, []⟩, false, []⟩,
 ⟨3, ⟨(some 148), .mv (.t 13), none, []⟩, false, []⟩,
 ⟨4, ⟨(some 149), .mv (.t 0), none, []⟩, false, []⟩,
 ⟨5, ⟨(some 150), .mv (.t 13), none, []⟩, false, []⟩,
 ⟨6, ⟨(some 151), .iasl 16 (.t 149) (.t 150), none, []⟩, false, []⟩,
 ⟨7, ⟨(some 152), .load (some 16) (.t 151), none, []⟩, false, []⟩,
 ⟨8, ⟨(some 153), .mv (.t 0), none, []⟩, false, []⟩,
 ⟨9, ⟨(some 154), .mv (.t 12), none, []⟩, false, []⟩,
 ⟨10, ⟨(some 155), .iasl 16 (.t 153) (.t 154), none, []⟩, false, []⟩,
 ⟨11, ⟨(some 156), .load (some 16) (.t 155), none, []⟩, false, []⟩,
 ⟨12, ⟨(some 157), .iasl 16 (.t 145) (.t 146), none, []⟩, false, []⟩,
 ⟨13, ⟨none, .store 16 (.t 157) (.t 152), none, []⟩, true, []⟩,
 ⟨14, ⟨(some 158), .iasl 16 (.t 147) (.t 148), none, []⟩, false, []⟩,
 ⟨15, ⟨none, .store 16 (.t 158) (.t 156), none, []⟩, true, []⟩] [145, 146, 147, 148, 149, 150, 151, 152, 153, 154, 155, 156, 157, 158])
 (.seq (.reg [⟨(some 159), .mv (.t 12), none, [12]⟩,
 ⟨(some 160), .bin .add (.t 159) (.c (.i .i64 1)), none, [159]⟩,
 ⟨(some 12), .asg (.t 160), none, [160]⟩])
 (.reg [⟨(some 161), .mv (.t 13), none, [13]⟩,
 ⟨(some 162), .bin .sub (.t 161) (.c (.i .i64 1)), none, [161]⟩,
 ⟨(some 13), .asg (.t 162), none, [162]⟩])))))))))
 (.seq (.dreg [⟨0, ⟨(some 163), .mv (.t 0), none, []⟩, false, []⟩,
 ⟨1, ⟨(some 164), .mv (.t 13), none, []⟩, false, []⟩,
 ⟨2, ⟨(some 165), .mv (.t 0), none, []⟩, false, []⟩,
 ⟨3, ⟨(some 166), .mv (.t 1), none, []⟩, false, []⟩,
 ⟨4, ⟨(some 167), .mv (.t 0), none, []⟩, false, []⟩,
 ⟨5, ⟨(some 168), .mv (.t 1), none, []⟩, false, []⟩,
 ⟨6, ⟨(some 169), .iasl 16 (.t 167) (.t 168), none, []⟩, false, []⟩,
 ⟨7, ⟨(some 170), .load (some 16) (.t 169), none, []⟩, false, []⟩,
 ⟨8, ⟨(some 171), .mv (.t 0), none, []⟩, false, []⟩,
 ⟨9, ⟨(some 172), .mv (.t 13), none, []⟩, false, []⟩,
 ⟨10, ⟨(some 173), .iasl 16 (.t 171) (.t 172), none, []⟩, false, []⟩,
 ⟨11, ⟨(some 174), .load (some 16) (.t 173), none, []⟩, false, []⟩,
 ⟨12, ⟨(some 175), .iasl 16 (.t 163) (.t 164), none, []⟩, false, []⟩,
 ⟨13, ⟨none, .store 16 (.t 175) (.t 170), none, []⟩, true, []⟩,
 ⟨14, ⟨(some 176), .iasl 16 (.t 165) (.t 166), none, []⟩, false, []⟩,
 ⟨15, ⟨none, .store 16 (.t 176) (.t 174), none, []⟩, true, []⟩] [0, 163, 164, 165, 1, 166, 167, 168, 169, 170, 171, 172, 173, 174, 175, 176])
 (.seq (.reg [⟨(some 177), .mv (.t 13), none, [13]⟩,
 ⟨(some 10), .asg (.t 177), none, [177]⟩,
 ⟨(some 11), .asg (.c (.b false)), none, []⟩])
 .ret)))))))))))), [.t 10, .t 11]⟩
/-- math/bits.Len32 -/
def f166 : AFn := ⟨1, (.seq (.reg [⟨(some 2), .asg (.c (.i .i64 0)), none, []⟩])
 (.seq (.seq (.reg [⟨(some 3), .mv (.t 0), none, []⟩,
 ⟨(some 4), .bin .geq (.t 3) (.c (.i .u32 65536)), none, [3]⟩])
 (.cond (.t 4) (.seq (.reg [⟨(some 5), .mv (.t 0), none, [0]⟩,
 ⟨(some 6), .bin .shr (.t 5) (.c (.i .u64 16)), none, [5]⟩,
 ⟨(some 0), .asg (.t 6), none, [6]⟩])
 (.reg [⟨(some 2), .asg (.c (.i .i64 16)), none, []⟩]))
 .skip))
 (.seq (.seq (.reg [⟨(some 7), .mv (.t 0), none, []⟩,
 ⟨(some 8), .bin .geq (.t 7) (.c (.i .u32 256)), none, [7]⟩])
 (.cond (.t 8) (.seq (.reg [⟨(some 9), .mv (.t 0), none, [0]⟩,
 ⟨(some 10), .bin .shr (.t 9) (.c (.i .u64 8)), none, [9]⟩,
 ⟨(some 0), .asg (.t 10), none, [10]⟩])
 (.reg [⟨(some 11), .mv (.t 2), none, [2]⟩,
 ⟨(some 12), .bin .add (.t 11) (.c (.i .i64 8)), none, [11]⟩,
 ⟨(some 2), .asg (.t 12), none, [12]⟩]))
 .skip))
 (.seq (.reg [⟨(some 13), .mv (.t 2), none, [2]⟩,
 ⟨(some 14), .mv (.t 0), none, [0]⟩,
 ⟨(some 15), .cvi .u8 (.t 14), none, [14]⟩,
 ⟨(some 16), .ixs (.c (.s [0, 1, 2, 2, 3, 3, 3, 3, 4, 4, 4, 4, 4, 4, 4, 4, 5, 5, 5, 5, 5, 5, 5, 5, 5, 5, 5, 5, 5, 5, 5, 5, 6, 6, 6, 6, 6, 6, 6, 6, 6, 6, 6, 6, 6, 6, 6, 6, 6, 6, 6, 6, 6, 6, 6, 6, 6, 6, 6, 6, 6, 6, 6, 6, 7, 7, 7, 7, 7, 7, 7, 7, 7, 7, 7, 7, 7, 7, 7, 7, 7, 7, 7, 7, 7, 7, 7, 7, 7, 7, 7, 7, 7, 7, 7, 7, 7, 7, 7, 7, 7, 7, 7, 7, 7, 7, 7, 7, 7, 7, 7, 7, 7, 7, 7, 7, 7, 7, 7, 7, 7, 7, 7, 7, 7, 7, 7, 7, 8, 8, 8, 8, 8, 8, 8, 8, 8, 8, 8, 8, 8, 8, 8, 8, 8, 8, 8, 8, 8, 8, 8, 8, 8, 8, 8, 8, 8, 8, 8, 8, 8, 8, 8, 8, 8, 8, 8, 8, 8, 8, 8, 8, 8, 8, 8, 8, 8, 8, 8, 8, 8, 8, 8, 8, 8, 8, 8, 8, 8, 8, 8, 8, 8, 8, 8, 8, 8, 8, 8, 8, 8, 8, 8, 8, 8, 8, 8, 8, 8, 8, 8, 8, 8, 8, 8, 8, 8, 8, 8, 8, 8, 8, 8, 8, 8, 8, 8, 8, 8, 8, 8, 8, 8, 8, 8, 8, 8, 8, 8, 8, 8, 8, 8, 8, 8, 8, 8, 8, 8, 8, 8, 8, 8, 8, 8, 8])) (.t 15), none, [15]⟩,
 ⟨(some 17), .cvi .i64 (.t 16), none, [16]⟩,
 ⟨(some 18), .bin .add (.t 13) (.t 17), none, [13, 17]⟩,
 ⟨(some 2), .asg (.t 18), none, [18]⟩])
 .ret)))), [.t 2]⟩
/-- math/bits.Len64 -/
def f167 : AFn := ⟨1, (.seq (.reg [⟨(some 2), .asg (.c (.i .i64 0)), none, []⟩])
 (.seq (.seq (.reg [⟨(some 3), .mv (.t 0), none, []⟩,
 ⟨(some 4), .bin .geq (.t 3) (.c (.i .u64 4294967296)), none, [3]⟩])
 (.cond (.t 4) (.seq (.reg [⟨(some 5), .mv (.t 0), none, [0]⟩,
 ⟨(some 6), .bin .shr (.t 5) (.c (.i .u64 32)), none, [5]⟩,
 ⟨(some 0), .asg (.t 6), none, [6]⟩])
 (.reg [⟨(some 2), .asg (.c (.i .i64 32)), none, []⟩]))
 .skip))
 (.seq (.seq (.reg [⟨(some 7), .mv (.t 0), none, []⟩,
 ⟨(some 8), .bin .geq (.t 7) (.c (.i .u64 65536)), none, [7]⟩])
 (.cond (.t 8) (.seq (.reg [⟨(some 9), .mv (.t 0), none, [0]⟩,
 ⟨(some 10), .bin .shr (.t 9) (.c (.i .u64 16)), none, [9]⟩,
 ⟨(some 0), .asg (.t 10), none, [10]⟩])
 (.reg [⟨(some 11), .mv (.t 2), none, [2]⟩,
 ⟨(some 12), .bin .add (.t 11) (.c (.i .i64 16)), none, [11]⟩,
 ⟨(some 2), .asg (.t 12), none, [12]⟩]))
 .skip))
 (.seq (.seq (.reg [⟨(some 13), .mv (.t 0), none, []⟩,
 ⟨(some 14), .bin .geq (.t 13) (.c (.i .u64 256)), none, [13]⟩])
 (.cond (.t 14) (.seq (.reg [⟨(some 15), .mv (.t 0), none, [0]⟩,
 ⟨(some 16), .bin .shr (.t 15) (.c (.i .u64 8)), none, [15]⟩,
 ⟨(some 0), .asg (.t 16), none, [16]⟩])
 (.reg [⟨(some 17), .mv (.t 2), none, [2]⟩,
 ⟨(some 18), .bin .add (.t 17) (.c (.i .i64 8)), none, [17]⟩,
 ⟨(some 2), .asg (.t 18), none, [18]⟩]))
 .skip))
 (.seq (.reg [⟨(some 19), .mv (.t 2), none, [2]⟩,
 ⟨(some 20), .mv (.t 0), none, [0]⟩,
 ⟨(some 21), .cvi .u8 (.t 20), none, [20]⟩,
 ⟨(some 22), .ixs (.c (.s [0, 1, 2, 2, 3, 3, 3, 3, 4, 4, 4, 4, 4, 4, 4, 4, 5, 5, 5, 5, 5, 5, 5, 5, 5, 5, 5, 5, 5, 5, 5, 5, 6, 6, 6, 6, 6, 6, 6, 6, 6, 6, 6, 6, 6, 6, 6, 6, 6, 6, 6, 6, 6, 6, 6, 6, 6, 6, 6, 6, 6, 6, 6, 6, 7, 7, 7, 7, 7, 7, 7, 7, 7, 7, 7, 7, 7, 7, 7, 7, 7, 7, 7, 7, 7, 7, 7, 7, 7, 7, 7, 7, 7, 7, 7, 7, 7, 7, 7, 7, 7, 7, 7, 7, 7, 7, 7, 7, 7, 7, 7, 7, 7, 7, 7, 7, 7, 7, 7, 7, 7, 7, 7, 7, 7, 7, 7, 7, 8, 8, 8, 8, 8, 8, 8, 8, 8, 8, 8, 8, 8, 8, 8, 8, 8, 8, 8, 8, 8, 8, 8, 8, 8, 8, 8, 8, 8, 8, 8, 8, 8, 8, 8, 8, 8, 8, 8, 8, 8, 8, 8, 8, 8, 8, 8, 8, 8, 8, 8, 8, 8, 8, 8, 8, 8, 8, 8, 8, 8, 8, 8, 8, 8, 8, 8, 8, 8, 8, 8, 8, 8, 8, 8, 8, 8, 8, 8, 8, 8, 8, 8, 8, 8, 8, 8, 8, 8, 8, 8, 8, 8, 8, 8, 8, 8, 8, 8, 8, 8, 8, 8, 8, 8, 8, 8, 8, 8, 8, 8, 8, 8, 8, 8, 8, 8, 8, 8, 8, 8, 8, 8, 8, 8, 8, 8, 8])) (.t 21), none, [21]⟩,
 ⟨(some 23), .cvi .i64 (.t 22), none, [22]⟩,
 ⟨(some 24), .bin .add (.t 19) (.t 23), none, [19, 23]⟩,
 ⟨(some 2), .asg (.t 24), none, [24]⟩])
 .ret))))), [.t 2]⟩
/-- slices.insertionSortCmpFunc interrex/api.Node  -/
def f169 : AFn := ⟨4, (.seq (.reg [⟨(some 10), .mv (.t 1), none, []⟩,
 ⟨(some 11), .bin .add (.t 10) (.c (.i .i64 1)), none, [10]⟩,
 ⟨(some 8), .asg (.t 11), none, [11]⟩])
 (.blk 0 (.loop (.seq (.seq (.reg [⟨(some 12), .mv (.t 8), none, []⟩,
 ⟨(some 13), .mv (.t 2), none, []⟩,
 ⟨(some 14), .bin .lss (.t 12) (.t 13), none, [12, 13]⟩])
 (.cond (.t 14) .skip
 (.exit 0)))
 (.seq (.blk 1 (.seq (.reg [⟨(some 17), .mv (.t 8), none, []⟩,
 ⟨(some 9), .asg (.t 17), none, [17]⟩])
 (.blk 2 (.loop (.seq (.seq (.dreg [⟨0, ⟨(some 18), .mv (.t 9), none, []⟩, false, []⟩,
 ⟨1, ⟨(some 19), .mv (.t 1), none, []⟩, false, []⟩,
 ⟨2, ⟨(some 20), .bin .gtr (.t 18) (.t 19), none, []⟩, false, []⟩,
 ⟨3, ⟨(some 21), .mv (.t 20), none, []⟩, false, []⟩,
 ⟨4, ⟨(some 22), .mv (.t 3), (some (21, true)), []⟩, false, []⟩,
 ⟨5, ⟨(some 23), .mv (.t 0), (some (21, true)), []⟩, false, []⟩,
 ⟨6, ⟨(some 24), .mv (.t 9), (some (21, true)), []⟩, false, []⟩,
 ⟨7, ⟨(some 25), .iasl 6 (.t 23) (.t 24), (some (21, true)), []⟩, false, []⟩,
 ⟨8, ⟨(some 26), .load (some 6) (.t 25), (some (21, true)), []⟩, false, []⟩,
 ⟨9, ⟨(some 27), .mv (.t 0), (some (21, true)), []⟩, false, []⟩,
 ⟨10, ⟨(some 28), .mv (.t 9), (some (21, true)), []⟩, false, []⟩,
 ⟨11, ⟨(some 29), .bin .sub (.t 28) (.c (.i .i64 1)), (some (21, true)), []⟩, false, []⟩,
 ⟨12, ⟨(some 30), .iasl 6 (.t 27) (.t 29), (some (21, true)), []⟩, false, []⟩,
 ⟨13, ⟨(some 31), .load (some 6) (.t 30), (some (21, true)), []⟩, false, []⟩,
 ⟨14, ⟨(some 32), .callv (.t 22) [(.t 26), (.t 31)], (some (21, true)), []⟩, true, []⟩,
 ⟨15, ⟨(some 33), .bin .lss (.t 32) (.c (.i .i64 0)), (some (21, true)), []⟩, false, []⟩,
 ⟨16, ⟨(some 34), .pick (.t 21) (.t 33) (.c (.b false)), none, []⟩, false, []⟩] [18, 19, 20, 21, 22, 23, 24, 25, 26, 27, 28, 29, 30, 31, 32, 33])
 (.cond (.t 34) .skip
 (.exit 2)))
 (.seq (.blk 3 (.dreg [⟨0, ⟨(some 37), .mv (.t 0), none, []⟩, false, []⟩,
 ⟨1, ⟨(some 38), .mv (.t 9), none, []⟩, false, []⟩,
 ⟨2, ⟨(some 39), .mv (.t 0), none, []⟩, false, []⟩,
 ⟨3, ⟨(some 40), .mv (.t 9), none, []⟩, false, []⟩,
 ⟨4, ⟨(some 41), .bin .sub (.t 40) (.c (.i .i64 1)), none, []⟩, false, []⟩,
 ⟨5, ⟨(some 42), .mv (.t 0), none, []⟩, false, []⟩,
 ⟨6, ⟨(some 43), .mv (.t 9), none, []⟩, false, []⟩,
 ⟨7, ⟨(some 44), .bin .sub (.t 43) (.c (.i .i64 1)), none, []⟩, false, []⟩,
 ⟨8, ⟨(some 45), .iasl 6 (.t 42) (.t 44), none, []⟩, false, []⟩,
 ⟨9, ⟨(some 46), .load (some 6) (.t 45), none, []⟩, false, []⟩,
 ⟨10, ⟨(some 47), .mv (.t 0), none, []⟩, false, []⟩,
 ⟨11, ⟨(some 48), .mv (.t 9), none, []⟩, false, []⟩,
 ⟨12, ⟨(some 49), .iasl 6 (.t 47) (.t 48), none, []⟩, false, []⟩,
 ⟨13, ⟨(some 50), .load (some 6) (.t 49), none, []⟩, false, []⟩,
 ⟨14, ⟨(some 51), .iasl 6 (.t 37) (.t 38), none, []⟩, false, []⟩,
 ⟨15, ⟨none, .store 6 (.t 51) (.t 46), none, []⟩, true, []⟩,
 ⟨16, ⟨(some 52), .iasl 6 (.t 39) (.t 41), none, []⟩, false, []⟩,
 ⟨17, ⟨none, .store 6 (.t 52) (.t 50), none, []⟩, true, []⟩] [37, 38, 39, 40, 41, 42, 43, 44, 45, 46, 47, 48, 49, 50, 51, 52]))
 (.reg [⟨(some 35), .mv (.t 9), none, [9]⟩,
 ⟨(some 36), .bin .sub (.t 35) (.c (.i .i64 1)), none, [35]⟩,
 ⟨(some 9), .asg (.t 36), none, [36]⟩])))))))
 (.reg [⟨(some 15), .mv (.t 8), none, [8]⟩,
 ⟨(some 16), .bin .add (.t 15) (.c (.i .i64 1)), none, [15]⟩,
 ⟨(some 8), .asg (.t 16), none, [16]⟩])))))), []⟩
/-- slices.heapSortCmpFunc interrex/api.Node  -/
def f170 : AFn := ⟨4, (.seq (.reg [⟨(some 13), .mv (.t 1), none, []⟩,
 ⟨(some 8), .asg (.t 13), none, [13]⟩])
 (.seq (.reg [⟨(some 9), .asg (.c (.i .i64 0)), none, []⟩])
 (.seq (.reg [⟨(some 14), .mv (.t 2), none, [2]⟩,
 ⟨(some 15), .mv (.t 1), none, [1]⟩,
 ⟨(some 16), .bin .sub (.t 14) (.t 15), none, [14, 15]⟩,
 ⟨(some 10), .asg (.t 16), none, [16]⟩])
 (.seq (.seq (.reg [⟨(some 17), .mv (.t 10), none, []⟩,
 ⟨(some 18), .bin .sub (.t 17) (.c (.i .i64 1)), none, [17]⟩,
 ⟨(some 19), .bin .quo (.t 18) (.c (.i .i64 2)), none, [18]⟩,
 ⟨(some 11), .asg (.t 19), none, [19]⟩])
 (.blk 0 (.loop (.seq (.seq (.reg [⟨(some 20), .mv (.t 11), none, []⟩,
 ⟨(some 21), .bin .geq (.t 20) (.c (.i .i64 0)), none, [20]⟩])
 (.cond (.t 21) .skip
 (.exit 0)))
 (.seq (.blk 1 (.reg [⟨(some 24), .mv (.t 0), none, []⟩,
 ⟨(some 25), .mv (.t 11), none, []⟩,
 ⟨(some 26), .mv (.t 10), none, []⟩,
 ⟨(some 27), .mv (.t 8), none, []⟩,
 ⟨(some 28), .mv (.t 3), none, []⟩,
 ⟨(some 29), .call 218 [(.t 24), (.t 25), (.t 26), (.t 27), (.t 28)], none, [24, 25, 26, 27, 28, 29]⟩]))
 (.reg [⟨(some 22), .mv (.t 11), none, [11]⟩,
 ⟨(some 23), .bin .sub (.t 22) (.c (.i .i64 1)), none, [22]⟩,
 ⟨(some 11), .asg (.t 23), none, [23]⟩]))))))
 (.seq (.reg [⟨(some 30), .mv (.t 10), none, [10]⟩,
 ⟨(some 31), .bin .sub (.t 30) (.c (.i .i64 1)), none, [30]⟩,
 ⟨(some 12), .asg (.t 31), none, [31]⟩])
 (.blk 2 (.loop (.seq (.seq (.reg [⟨(some 32), .mv (.t 12), none, []⟩,
 ⟨(some 33), .bin .geq (.t 32) (.c (.i .i64 0)), none, [32]⟩])
 (.cond (.t 33) .skip
 (.exit 2)))
 (.seq (.blk 3 (.seq (.dreg [⟨0, ⟨(some 36), .mv (.t 0), none, []⟩, false, []⟩,
 ⟨1, ⟨(some 37), .mv (.t 8), none, []⟩, false, []⟩,
 ⟨2, ⟨(some 38), .mv (.t 0), none, []⟩, false, []⟩,
 ⟨3, ⟨(some 39), .mv (.t 8), none, []⟩, false, []⟩,
 ⟨4, ⟨(some 40), .mv (.t 12), none, []⟩, false, []⟩,
 ⟨5, ⟨(some 41), .bin .add (.t 39) (.t 40), none, []⟩, false, []⟩,
 ⟨6, ⟨(some 42), .mv (.t 0), none, []⟩, false, []⟩,
 ⟨7, ⟨(some 43), .mv (.t 8), none, []⟩, false, []⟩,
 ⟨8, ⟨(some 44), .mv (.t 12), none, []⟩, false, []⟩,
 ⟨9, ⟨(some 45), .bin .add (.t 43) (.t 44), none, []⟩, false, []⟩,
 ⟨10, ⟨(some 46), .iasl 6 (.t 42) (.t 45), none, []⟩, false, []⟩,
 ⟨11, ⟨(some 47), .load (some 6) (.t 46), none, []⟩, false, []⟩,
 ⟨12, ⟨(some 48), .mv (.t 0), none, []⟩, false, []⟩,
 ⟨13, ⟨(some 49), .mv (.t 8), none, []⟩, false, []⟩,
 ⟨14, ⟨(some 50), .iasl 6 (.t 48) (.t 49), none, []⟩, false, []⟩,
 ⟨15, ⟨(some 51), .load (some 6) (.t 50), none, []⟩, false, []⟩,
 ⟨16, ⟨(some 52), .iasl 6 (.t 36) (.t 37), none, []⟩, false, []⟩,
 ⟨17, ⟨none, .store 6 (.t 52) (.t 47), none, []⟩, true, []⟩,
 ⟨18, ⟨(some 53), .iasl 6 (.t 38) (.t 41), none, []⟩, false, []⟩,
 ⟨19, ⟨none, .store 6 (.t 53) (.t 51), none, []⟩, true, []⟩] [36, 37, 38, 39, 40, 41, 42, 43, 44, 45, 46, 47, 48, 49, 50, 51, 52, 53])
 (.reg [⟨(some 54), .mv (.t 0), none, []⟩,
 ⟨(some 55), .mv (.t 9), none, []⟩,
 ⟨(some 56), .mv (.t 12), none, []⟩,
 ⟨(some 57), .mv (.t 8), none, []⟩,
 ⟨(some 58), .mv (.t 3), none, []⟩,
 ⟨(some 59), .call 218 [(.t 54), (.t 55), (.t 56), (.t 57), (.t 58)], none, [54, 55, 56, 57, 58, 59]⟩])))
 (.reg [⟨(some 34), .mv (.t 12), none, [12]⟩,
 ⟨(some 35), .bin .sub (.t 34) (.c (.i .i64 1)), none, [34]⟩,
 ⟨(some 12), .asg (.t 35), none, [35]⟩])))))))))), []⟩
/-- slices.breakPatternsCmpFunc interrex/api.Node  -/
def f171 : AFn := ⟨4, (.seq (.reg [⟨(some 13), .mv (.t 2), none, [2]⟩,
 ⟨(some 14), .mv (.t 1), none, []⟩,
 ⟨(some 15), .bin .sub (.t 13) (.t 14), none, [13, 14]⟩,
 ⟨(some 8), .asg (.t 15), none, [15]⟩])
 (.seq (.reg [⟨(some 16), .mv (.t 8), none, []⟩,
 ⟨(some 17), .bin .geq (.t 16) (.c (.i .i64 8)), none, [16]⟩])
 (.cond (.t 17) (.seq (.reg [⟨(some 18), .mv (.t 8), none, []⟩,
 ⟨(some 19), .cvi .u64 (.t 18), none, [18]⟩,
 ⟨(some 9), .alloc true [(.i .u64 0)], none, []⟩,
 ⟨none, .store 1 (.t 9) (.t 19), none, [19]⟩])
 (.seq (.reg [⟨(some 20), .mv (.t 8), none, []⟩,
 ⟨(some 21), .call 214 [(.t 20)], none, [20]⟩,
 ⟨(some 10), .asg (.t 21), none, [21]⟩])
 (.seq (.reg [⟨(some 22), .mv (.t 1), none, []⟩,
 ⟨(some 23), .mv (.t 8), none, []⟩,
 ⟨(some 24), .bin .quo (.t 23) (.c (.i .i64 4)), none, [23]⟩,
 ⟨(some 25), .bin .mul (.t 24) (.c (.i .i64 2)), none, [24]⟩,
 ⟨(some 26), .bin .add (.t 22) (.t 25), none, [22, 25]⟩,
 ⟨(some 27), .bin .sub (.t 26) (.c (.i .i64 1)), none, [26]⟩,
 ⟨(some 11), .asg (.t 27), none, [27]⟩])
 (.blk 0 (.loop (.seq (.seq (.reg [⟨(some 28), .mv (.t 11), none, []⟩,
 ⟨(some 29), .mv (.t 1), none, []⟩,
 ⟨(some 30), .mv (.t 8), none, []⟩,
 ⟨(some 31), .bin .quo (.t 30) (.c (.i .i64 4)), none, [30]⟩,
 ⟨(some 32), .bin .mul (.t 31) (.c (.i .i64 2)), none, [31]⟩,
 ⟨(some 33), .bin .add (.t 29) (.t 32), none, [29, 32]⟩,
 ⟨(some 34), .bin .add (.t 33) (.c (.i .i64 1)), none, [33]⟩,
 ⟨(some 35), .bin .leq (.t 28) (.t 34), none, [28, 34]⟩])
 (.cond (.t 35) .skip
 (.exit 0)))
 (.seq (.blk 1 (.seq (.reg [⟨(some 38), .call 215 [(.t 9)], none, []⟩,
 ⟨(some 39), .mv (.t 10), none, []⟩,
 ⟨(some 40), .bin .sub (.t 39) (.c (.i .u64 1)), none, [39]⟩,
 ⟨(some 41), .bin .and (.t 38) (.t 40), none, [38, 40]⟩,
 ⟨(some 42), .cvi .i64 (.t 41), none, [41]⟩,
 ⟨(some 12), .asg (.t 42), none, [42]⟩])
 (.seq (.seq (.reg [⟨(some 43), .mv (.t 12), none, []⟩,
 ⟨(some 44), .mv (.t 8), none, []⟩,
 ⟨(some 45), .bin .geq (.t 43) (.t 44), none, [43, 44]⟩])
 (.cond (.t 45) (.reg [⟨(some 46), .mv (.t 12), none, [12]⟩,
 ⟨(some 47), .mv (.t 8), none, []⟩,
 ⟨(some 48), .bin .sub (.t 46) (.t 47), none, [46, 47]⟩,
 ⟨(some 12), .asg (.t 48), none, [48]⟩])
 .skip))
 (.dreg [⟨0, ⟨(some 49), .mv (.t 0), none, []⟩, false, []⟩,
 ⟨1, ⟨(some 50), .mv (.t 11), none, []⟩, false, []⟩,
 ⟨2, ⟨(some 51), .mv (.t 0), none, []⟩, false, []⟩,
 ⟨3, ⟨(some 52), .mv (.t 1), none, []⟩, false, []⟩,
 ⟨4, ⟨(some 53), .mv (.t 12), none, []⟩, false, []⟩,
 ⟨5, ⟨(some 54), .bin .add (.t 52) (.t 53), none, []⟩, false, []⟩,
 ⟨6, ⟨(some 55), .mv (.t 0), none, []⟩, false, []⟩,
 ⟨7, ⟨(some 56), .mv (.t 1), none, []⟩, false, []⟩,
 ⟨8, ⟨(some 57), .mv (.t 12), none, []⟩, false, []⟩,
 ⟨9, ⟨(some 58), .bin .add (.t 56) (.t 57), none, []⟩, false, []⟩,
 ⟨10, ⟨(some 59), .iasl 6 (.t 55) (.t 58), none, []⟩, false, []⟩,
 ⟨11, ⟨(some 60), .load (some 6) (.t 59), none, []⟩, false, []⟩,
 ⟨12, ⟨(some 61), .mv (.t 0), none, []⟩, false, []⟩,
 ⟨13, ⟨(some 62), .mv (.t 11), none, []⟩, false, []⟩,
 ⟨14, ⟨(some 63), .iasl 6 (.t 61) (.t 62), none, []⟩, false, []⟩,
 ⟨15, ⟨(some 64), .load (some 6) (.t 63), none, []⟩, false, []⟩,
 ⟨16, ⟨(some 65), .iasl 6 (.t 49) (.t 50), none, []⟩, false, []⟩,
 ⟨17, ⟨none, .store 6 (.t 65) (.t 60), none, []⟩, true, []⟩,
 ⟨18, ⟨(some 66), .iasl 6 (.t 51) (.t 54), none, []⟩, false, []⟩,
 ⟨19, ⟨none, .store 6 (.t 66) (.t 64), none, []⟩, true, []⟩] [49, 50, 51, 52, 12, 53, 54, 55, 56, 57, 58, 59, 60, 61, 62, 63, 64, 65, 66]))))
 (.reg [⟨(some 36), .mv (.t 11), none, [11]⟩,
 ⟨(some 37), .bin .add (.t 36) (.c (.i .i64 1)), none, [36]⟩,
 ⟨(some 11), .asg (.t 37), none, [37]⟩]))))))))
 .skip))), []⟩
/-- slices.choosePivotCmpFunc interrex/api.Node  -/
def f172 : AFn := ⟨4, (.seq (.reg [⟨(some 8), .asg (.c (.i .i64 0)), none, [8]⟩,
 ⟨(some 9), .asg (.c (.i .i64 0)), none, [9]⟩])
 (.seq (.reg [⟨(some 15), .mv (.t 2), none, [2]⟩,
 ⟨(some 16), .mv (.t 1), none, []⟩,
 ⟨(some 17), .bin .sub (.t 15) (.t 16), none, [15, 16]⟩,
 ⟨(some 10), .asg (.t 17), none, [17]⟩])
 (.seq (.reg [⟨(some 11), .alloc true [(.i .i64 0)], none, []⟩])
 (.seq (.reg [⟨(some 18), .mv (.t 1), none, []⟩,
 ⟨(some 19), .mv (.t 10), none, []⟩,
 ⟨(some 20), .bin .quo (.t 19) (.c (.i .i64 4)), none, [19]⟩,
 ⟨(some 21), .bin .mul (.t 20) (.c (.i .i64 1)), none, [20]⟩,
 ⟨(some 22), .bin .add (.t 18) (.t 21), none, [18, 21]⟩,
 ⟨(some 12), .asg (.t 22), none, [22]⟩])
 (.seq (.reg [⟨(some 23), .mv (.t 1), none, []⟩,
 ⟨(some 24), .mv (.t 10), none, []⟩,
 ⟨(some 25), .bin .quo (.t 24) (.c (.i .i64 4)), none, [24]⟩,
 ⟨(some 26), .bin .mul (.t 25) (.c (.i .i64 2)), none, [25]⟩,
 ⟨(some 27), .bin .add (.t 23) (.t 26), none, [23, 26]⟩,
 ⟨(some 13), .asg (.t 27), none, [27]⟩])
 (.seq (.reg [⟨(some 28), .mv (.t 1), none, [1]⟩,
 ⟨(some 29), .mv (.t 10), none, []⟩,
 ⟨(some 30), .bin .quo (.t 29) (.c (.i .i64 4)), none, [29]⟩,
 ⟨(some 31), .bin .mul (.t 30) (.c (.i .i64 3)), none, [30]⟩,
 ⟨(some 32), .bin .add (.t 28) (.t 31), none, [28, 31]⟩,
 ⟨(some 14), .asg (.t 32), none, [32]⟩])
 (.seq (.seq (.reg [⟨(some 33), .mv (.t 10), none, []⟩,
 ⟨(some 34), .bin .geq (.t 33) (.c (.i .i64 8)), none, [33]⟩])
 (.cond (.t 34) (.seq (.seq (.reg [⟨(some 35), .mv (.t 10), none, [10]⟩,
 ⟨(some 36), .bin .geq (.t 35) (.c (.i .i64 50)), none, [35]⟩])
 (.cond (.t 36) (.seq (.reg [⟨(some 37), .mv (.t 0), none, []⟩,
 ⟨(some 38), .mv (.t 12), none, [12]⟩,
 ⟨(some 39), .mv (.t 3), none, []⟩,
 ⟨(some 40), .call 219 [(.t 37), (.t 38), (.t 11), (.t 39)], none, [37, 38, 39]⟩,
 ⟨(some 12), .asg (.t 40), none, [40]⟩])
 (.seq (.reg [⟨(some 41), .mv (.t 0), none, []⟩,
 ⟨(some 42), .mv (.t 13), none, [13]⟩,
 ⟨(some 43), .mv (.t 3), none, []⟩,
 ⟨(some 44), .call 219 [(.t 41), (.t 42), (.t 11), (.t 43)], none, [41, 42, 43]⟩,
 ⟨(some 13), .asg (.t 44), none, [44]⟩])
 (.reg [⟨(some 45), .mv (.t 0), none, []⟩,
 ⟨(some 46), .mv (.t 14), none, [14]⟩,
 ⟨(some 47), .mv (.t 3), none, []⟩,
 ⟨(some 48), .call 219 [(.t 45), (.t 46), (.t 11), (.t 47)], none, [45, 46, 47]⟩,
 ⟨(some 14), .asg (.t 48), none, [48]⟩])))
 .skip))
 (.reg [⟨(some 49), .mv (.t 0), none, [0]⟩,
 ⟨(some 50), .mv (.t 12), none, [12]⟩,
 ⟨(some 51), .mv (.t 13), none, [13]⟩,
 ⟨(some 52), .mv (.t 14), none, [14]⟩,
 ⟨(some 53), .mv (.t 3), none, [3]⟩,
 ⟨(some 54), .call 220 [(.t 49), (.t 50), (.t 51), (.t 52), (.t 11), (.t 53)], none, [49, 50, 51, 52, 53]⟩,
 ⟨(some 13), .asg (.t 54), none, [54]⟩]))
 .skip))
 (.seq (.reg [⟨(some 55), .load none (.t 11), none, [11]⟩])
 (.blk 0 (.seq (.reg [⟨(some 58), .bin .eql (.t 55) (.c (.i .i64 0)), none, []⟩,
 ⟨(some 57), .asg (.t 58), none, [58]⟩])
 (.cond (.t 57) (.seq (.reg [⟨(some 59), .mv (.t 13), none, [13]⟩,
 ⟨(some 8), .asg (.t 59), none, [59]⟩,
 ⟨(some 9), .asg (.c (.i .i64 1)), none, []⟩])
 .ret)
 (.seq (.reg [⟨(some 61), .bin .eql (.t 55) (.c (.i .i64 12)), none, [55]⟩,
 ⟨(some 60), .asg (.t 61), none, [61]⟩])
 (.cond (.t 60) (.seq (.reg [⟨(some 62), .mv (.t 13), none, [13]⟩,
 ⟨(some 8), .asg (.t 62), none, [62]⟩,
 ⟨(some 9), .asg (.c (.i .i64 2)), none, []⟩])
 .ret)
 (.seq (.reg [⟨(some 56), .mv (.t 13), none, [13]⟩,
 ⟨(some 8), .asg (.t 56), none, [56]⟩,
 ⟨(some 9), .asg (.c (.i .i64 0)), none, []⟩])
 .ret)))))))))))))), [.t 8, .t 9]⟩
/-- slices.reverseRangeCmpFunc interrex/api.Node  -/
def f173 : AFn := ⟨4, (.seq (.reg [⟨(some 10), .mv (.t 1), none, [1]⟩,
 ⟨(some 8), .asg (.t 10), none, [10]⟩])
 (.seq (.reg [⟨(some 11), .mv (.t 2), none, [2]⟩,
 ⟨(some 12), .bin .sub (.t 11) (.c (.i .i64 1)), none, [11]⟩,
 ⟨(some 9), .asg (.t 12), none, [12]⟩])
 (.blk 0 (.loop (.seq (.seq (.reg [⟨(some 13), .mv (.t 8), none, []⟩,
 ⟨(some 14), .mv (.t 9), none, []⟩,
 ⟨(some 15), .bin .lss (.t 13) (.t 14), none, [13, 14]⟩])
 (.cond (.t 15) .skip
 (.exit 0)))
 (.blk 1 (.seq (.dreg [⟨0, ⟨(some 16), .mv (.t 0), none, []⟩, false, []⟩,
 ⟨1, ⟨(some 17), .mv (.t 8), none, []⟩, false, []⟩,
 ⟨2, ⟨(some 18), .mv (.t 0), none, []⟩, false, []⟩,
 ⟨3, ⟨(some 19), .mv (.t 9), none, []⟩, false, []⟩,
 ⟨4, ⟨(some 20), .mv (.t 0), none, []⟩, false, []⟩,
 ⟨5, ⟨(some 21), .mv (.t 9), none, []⟩, false, []⟩,
 ⟨6, ⟨(some 22), .iasl 6 (.t 20) (.t 21), none, []⟩, false, []⟩,
 ⟨7, ⟨(some 23), .load (some 6) (.t 22), none, []⟩, false, []⟩,
 ⟨8, ⟨(some 24), .mv (.t 0), none, []⟩, false, []⟩,
 ⟨9, ⟨(some 25), .mv (.t 8), none, []⟩, false, []⟩,
 ⟨10, ⟨(some 26), .iasl 6 (.t 24) (.t 25), none, []⟩, false, []⟩,
 ⟨11, ⟨(some 27), .load (some 6) (.t 26), none, []⟩, false, []⟩,
 ⟨12, ⟨(some 28), .iasl 6 (.t 16) (.t 17), none, []⟩, false, []⟩,
 ⟨13, ⟨none, .store 6 (.t 28) (.t 23), none, []⟩, true, []⟩,
 ⟨14, ⟨(some 29), .iasl 6 (.t 18) (.t 19), none, []⟩, false, []⟩,
 ⟨15, ⟨none, .store 6 (.t 29) (.t 27), none, []⟩, true, []⟩] [16, 17, 18, 19, 20, 21, 22, 23, 24, 25, 26, 27, 28, 29])
 (.seq (.reg [⟨(some 30), .mv (.t 8), none, [8]⟩,
 ⟨(some 31), .bin .add (.t 30) (.c (.i .i64 1)), none, [30]⟩,
 ⟨(some 8), .asg (.t 31), none, [31]⟩])
 (.reg [⟨(some 32), .mv (.t 9), none, [9]⟩,
 ⟨(some 33), .bin .sub (.t 32) (.c (.i .i64 1)), none, [32]⟩,
 ⟨(some 9), .asg (.t 33), none, [33]⟩]))))))))), []⟩
/-- slices.partialInsertionSortCmpFunc interrex/api.Node  -/
def f174 : AFn := ⟨4, (.seq (.reg [⟨(some 8), .asg (.c (.b false)), none, [8]⟩])
 (.seq (.reg [⟨(some 13), .mv (.t 1), none, []⟩,
 ⟨(some 14), .bin .add (.t 13) (.c (.i .i64 1)), none, [13]⟩,
 ⟨(some 9), .asg (.t 14), none, [14]⟩])
 (.seq (.seq (.reg [⟨(some 10), .asg (.c (.i .i64 0)), none, []⟩])
 (.blk 0 (.loop (.seq (.seq (.reg [⟨(some 15), .mv (.t 10), none, []⟩,
 ⟨(some 16), .bin .lss (.t 15) (.c (.i .i64 5)), none, [15]⟩])
 (.cond (.t 16) .skip
 (.exit 0)))
 (.seq (.blk 1 (.seq (.blk 2 (.loop (.seq (.seq (.dreg [⟨0, ⟨(some 19), .mv (.t 9), none, []⟩, false, []⟩,
 ⟨1, ⟨(some 20), .mv (.t 2), none, []⟩, false, []⟩,
 ⟨2, ⟨(some 21), .bin .lss (.t 19) (.t 20), none, []⟩, false, []⟩,
 ⟨3, ⟨(some 22), .mv (.t 21), none, []⟩, false, []⟩,
 ⟨4, ⟨(some 23), .mv (.t 3), (some (22, true)), []⟩, false, []⟩,
 ⟨5, ⟨(some 24), .mv (.t 0), (some (22, true)), []⟩, false, []⟩,
 ⟨6, ⟨(some 25), .mv (.t 9), (some (22, true)), []⟩, false, []⟩,
 ⟨7, ⟨(some 26), .iasl 6 (.t 24) (.t 25), (some (22, true)), []⟩, false, []⟩,
 ⟨8, ⟨(some 27), .load (some 6) (.t 26), (some (22, true)), []⟩, false, []⟩,
 ⟨9, ⟨(some 28), .mv (.t 0), (some (22, true)), []⟩, false, []⟩,
 ⟨10, ⟨(some 29), .mv (.t 9), (some (22, true)), []⟩, false, []⟩,
 ⟨11, ⟨(some 30), .bin .sub (.t 29) (.c (.i .i64 1)), (some (22, true)), []⟩, false, []⟩,
 ⟨12, ⟨(some 31), .iasl 6 (.t 28) (.t 30), (some (22, true)), []⟩, false, []⟩,
 ⟨13, ⟨(some 32), .load (some 6) (.t 31), (some (22, true)), []⟩, false, []⟩,
 ⟨14, ⟨(some 33), .callv (.t 23) [(.t 27), (.t 32)], (some (22, true)), []⟩, true, []⟩,
 ⟨15, ⟨(some 34), .bin .lss (.t 33) (.c (.i .i64 0)), (some (22, true)), []⟩, false, []⟩,
 ⟨16, ⟨(some 35), .un .not (.t 34), (some (22, true)), []⟩, false, []⟩,
 ⟨17, ⟨(some 36), .pick (.t 22) (.t 35) (.c (.b false)), none, []⟩, false, []⟩] [19, 20, 21, 22, 23, 24, 25, 26, 27, 28, 29, 30, 31, 32, 33, 34, 35])
 (.cond (.t 36) .skip
 (.exit 2)))
 (.blk 3 (.reg [⟨(some 37), .mv (.t 9), none, [9]⟩,
 ⟨(some 38), .bin .add (.t 37) (.c (.i .i64 1)), none, [37]⟩,
 ⟨(some 9), .asg (.t 38), none, [38]⟩])))))
 (.seq (.seq (.reg [⟨(some 39), .mv (.t 9), none, []⟩,
 ⟨(some 40), .mv (.t 2), none, []⟩,
 ⟨(some 41), .bin .eql (.t 39) (.t 40), none, [39, 40]⟩])
 (.cond (.t 41) (.seq (.reg [⟨(some 8), .asg (.c (.b true)), none, []⟩])
 .ret)
 .skip))
 (.seq (.seq (.reg [⟨(some 42), .mv (.t 2), none, []⟩,
 ⟨(some 43), .mv (.t 1), none, []⟩,
 ⟨(some 44), .bin .sub (.t 42) (.t 43), none, [42, 43]⟩,
 ⟨(some 45), .bin .lss (.t 44) (.c (.i .i64 50)), none, [44]⟩])
 (.cond (.t 45) (.seq (.reg [⟨(some 8), .asg (.c (.b false)), none, []⟩])
 .ret)
 .skip))
 (.seq (.dreg [⟨0, ⟨(some 46), .mv (.t 0), none, []⟩, false, []⟩,
 ⟨1, ⟨(some 47), .mv (.t 9), none, []⟩, false, []⟩,
 ⟨2, ⟨(some 48), .mv (.t 0), none, []⟩, false, []⟩,
 ⟨3, ⟨(some 49), .mv (.t 9), none, []⟩, false, []⟩,
 ⟨4, ⟨(some 50), .bin .sub (.t 49) (.c (.i .i64 1)), none, []⟩, false, []⟩,
 ⟨5, ⟨(some 51), .mv (.t 0), none, []⟩, false, []⟩,
 ⟨6, ⟨(some 52), .mv (.t 9), none, []⟩, false, []⟩,
 ⟨7, ⟨(some 53), .bin .sub (.t 52) (.c (.i .i64 1)), none, []⟩, false, []⟩,
 ⟨8, ⟨(some 54), .iasl 6 (.t 51) (.t 53), none, []⟩, false, []⟩,
 ⟨9, ⟨(some 55), .load (some 6) (.t 54), none, []⟩, false, []⟩,
 ⟨10, ⟨(some 56), .mv (.t 0), none, []⟩, false, []⟩,
 ⟨11, ⟨(some 57), .mv (.t 9), none, []⟩, false, []⟩,
 ⟨12, ⟨(some 58), .iasl 6 (.t 56) (.t 57), none, []⟩, false, []⟩,
 ⟨13, ⟨(some 59), .load (some 6) (.t 58), none, []⟩, false, []⟩,
 ⟨14, ⟨(some 60), .iasl 6 (.t 46) (.t 47), none, []⟩, false, []⟩,
 ⟨15, ⟨none, .store 6 (.t 60) (.t 55), none, []⟩, true, []⟩,
 ⟨16, ⟨(some 61), .iasl 6 (.t 48) (.t 50), none, []⟩, false, []⟩,
 ⟨17, ⟨none, .store 6 (.t 61) (.t 59), none, []⟩, true, []⟩] [46, 47, 48, 49, 50, 51, 52, 53, 54, 55, 56, 57, 58, 59, 60, 61])
 (.seq (.seq (.reg [⟨(some 62), .mv (.t 9), none, []⟩,
 ⟨(some 63), .mv (.t 1), none, []⟩,
 ⟨(some 64), .bin .sub (.t 62) (.t 63), none, [62, 63]⟩,
 ⟨(some 65), .bin .geq (.t 64) (.c (.i .i64 2)), none, [64]⟩])
 (.cond (.t 65) (.seq (.reg [⟨(some 66), .mv (.t 9), none, []⟩,
 ⟨(some 67), .bin .sub (.t 66) (.c (.i .i64 1)), none, [66]⟩,
 ⟨(some 11), .asg (.t 67), none, [67]⟩])
 (.blk 4 (.loop (.seq (.seq (.reg [⟨(some 68), .mv (.t 11), none, []⟩,
 ⟨(some 69), .bin .geq (.t 68) (.c (.i .i64 1)), none, [68]⟩])
 (.cond (.t 69) .skip
 (.exit 4)))
 (.seq (.blk 5 (.seq (.seq (.dreg [⟨0, ⟨(some 72), .mv (.t 3), none, []⟩, false, []⟩,
 ⟨1, ⟨(some 73), .mv (.t 0), none, []⟩, false, []⟩,
 ⟨2, ⟨(some 74), .mv (.t 11), none, []⟩, false, []⟩,
 ⟨3, ⟨(some 75), .iasl 6 (.t 73) (.t 74), none, []⟩, false, []⟩,
 ⟨4, ⟨(some 76), .load (some 6) (.t 75), none, []⟩, false, []⟩,
 ⟨5, ⟨(some 77), .mv (.t 0), none, []⟩, false, []⟩,
 ⟨6, ⟨(some 78), .mv (.t 11), none, []⟩, false, []⟩,
 ⟨7, ⟨(some 79), .bin .sub (.t 78) (.c (.i .i64 1)), none, []⟩, false, []⟩,
 ⟨8, ⟨(some 80), .iasl 6 (.t 77) (.t 79), none, []⟩, false, []⟩,
 ⟨9, ⟨(some 81), .load (some 6) (.t 80), none, []⟩, false, []⟩,
 ⟨10, ⟨(some 82), .callv (.t 72) [(.t 76), (.t 81)], none, []⟩, true, []⟩,
 ⟨11, ⟨(some 83), .bin .lss (.t 82) (.c (.i .i64 0)), none, []⟩, false, []⟩,
 ⟨12, ⟨(some 84), .un .not (.t 83), none, []⟩, false, []⟩] [72, 73, 74, 75, 76, 77, 78, 79, 80, 81, 82, 83])
 (.cond (.t 84) (.exit 4)
 .skip))
 (.dreg [⟨0, ⟨(some 85), .mv (.t 0), none, []⟩, false, []⟩,
 ⟨1, ⟨(some 86), .mv (.t 11), none, []⟩, false, []⟩,
 ⟨2, ⟨(some 87), .mv (.t 0), none, []⟩, false, []⟩,
 ⟨3, ⟨(some 88), .mv (.t 11), none, []⟩, false, []⟩,
 ⟨4, ⟨(some 89), .bin .sub (.t 88) (.c (.i .i64 1)), none, []⟩, false, []⟩,
 ⟨5, ⟨(some 90), .mv (.t 0), none, []⟩, false, []⟩,
 ⟨6, ⟨(some 91), .mv (.t 11), none, []⟩, false, []⟩,
 ⟨7, ⟨(some 92), .bin .sub (.t 91) (.c (.i .i64 1)), none, []⟩, false, []⟩,
 ⟨8, ⟨(some 93), .iasl 6 (.t 90) (.t 92), none, []⟩, false, []⟩,
 ⟨9, ⟨(some 94), .load (some 6) (.t 93), none, []⟩, false, []⟩,
 ⟨10, ⟨(some 95), .mv (.t 0), none, []⟩, false, []⟩,
 ⟨11, ⟨(some 96), .mv (.t 11), none, []⟩, false, []⟩,
 ⟨12, ⟨(some 97), .iasl 6 (.t 95) (.t 96), none, []⟩, false, []⟩,
 ⟨13, ⟨(some 98), .load (some 6) (.t 97), none, []⟩, false, []⟩,
 ⟨14, ⟨(some 99), .iasl 6 (.t 85) (.t 86), none, []⟩, false, []⟩,
 ⟨15, ⟨none, .store 6 (.t 99) (.t 94), none, []⟩, true, []⟩,
 ⟨16, ⟨(some 100), .iasl 6 (.t 87) (.t 89), none, []⟩, false, []⟩,
 ⟨17, ⟨none, .store 6 (.t 100) (.t 98), none, []⟩, true, []⟩] [85, 86, 87, 88, 89, 90, 91, 92, 93, 94, 95, 96, 97, 98, 99, 100])))
 (.reg [⟨(some 70), .mv (.t 11), none, [11]⟩,
 ⟨(some 71), .bin .sub (.t 70) (.c (.i .i64 1)), none, [70]⟩,
 ⟨(some 11), .asg (.t 71), none, [71]⟩]))))))
 .skip))
 (.seq (.reg [⟨(some 101), .mv (.t 2), none, []⟩,
 ⟨(some 102), .mv (.t 9), none, []⟩,
 ⟨(some 103), .bin .sub (.t 101) (.t 102), none, [101, 102]⟩,
 ⟨(some 104), .bin .geq (.t 103) (.c (.i .i64 2)), none, [103]⟩])
 (.cond (.t 104) (.seq (.reg [⟨(some 105), .mv (.t 9), none, []⟩,
 ⟨(some 106), .bin .add (.t 105) (.c (.i .i64 1)), none, [105]⟩,
 ⟨(some 12), .asg (.t 106), none, [106]⟩])
 (.blk 6 (.loop (.seq (.seq (.reg [⟨(some 107), .mv (.t 12), none, []⟩,
 ⟨(some 108), .mv (.t 2), none, []⟩,
 ⟨(some 109), .bin .lss (.t 107) (.t 108), none, [107, 108]⟩])
 (.cond (.t 109) .skip
 (.exit 6)))
 (.seq (.blk 7 (.seq (.seq (.dreg [⟨0, ⟨(some 112), .mv (.t 3), none, []⟩, false, []⟩,
 ⟨1, ⟨(some 113), .mv (.t 0), none, []⟩, false, []⟩,
 ⟨2, ⟨(some 114), .mv (.t 12), none, []⟩, false, []⟩,
 ⟨3, ⟨(some 115), .iasl 6 (.t 113) (.t 114), none, []⟩, false, []⟩,
 ⟨4, ⟨(some 116), .load (some 6) (.t 115), none, []⟩, false, []⟩,
 ⟨5, ⟨(some 117), .mv (.t 0), none, []⟩, false, []⟩,
 ⟨6, ⟨(some 118), .mv (.t 12), none, []⟩, false, []⟩,
 ⟨7, ⟨(some 119), .bin .sub (.t 118) (.c (.i .i64 1)), none, []⟩, false, []⟩,
 ⟨8, ⟨(some 120), .iasl 6 (.t 117) (.t 119), none, []⟩, false, []⟩,
 ⟨9, ⟨(some 121), .load (some 6) (.t 120), none, []⟩, false, []⟩,
 ⟨10, ⟨(some 122), .callv (.t 112) [(.t 116), (.t 121)], none, []⟩, true, []⟩,
 ⟨11, ⟨(some 123), .bin .lss (.t 122) (.c (.i .i64 0)), none, []⟩, false, []⟩,
 ⟨12, ⟨(some 124), .un .not (.t 123), none, []⟩, false, []⟩] [112, 113, 114, 115, 116, 117, 118, 119, 120, 121, 122, 123])
 (.cond (.t 124) (.exit 6)
 .skip))
 (.dreg [⟨0, ⟨(some 125), .mv (.t 0), none, []⟩, false, []⟩,
 ⟨1, ⟨(some 126), .mv (.t 12), none, []⟩, false, []⟩,
 ⟨2, ⟨(some 127), .mv (.t 0), none, []⟩, false, []⟩,
 ⟨3, ⟨(some 128), .mv (.t 12), none, []⟩, false, []⟩,
 ⟨4, ⟨(some 129), .bin .sub (.t 128) (.c (.i .i64 1)), none, []⟩, false, []⟩,
 ⟨5, ⟨(some 130), .mv (.t 0), none, []⟩, false, []⟩,
 ⟨6, ⟨(some 131), .mv (.t 12), none, []⟩, false, []⟩,
 ⟨7, ⟨(some 132), .bin .sub (.t 131) (.c (.i .i64 1)), none, []⟩, false, []⟩,
 ⟨8, ⟨(some 133), .iasl 6 (.t 130) (.t 132), none, []⟩, false, []⟩,
 ⟨9, ⟨(some 134), .load (some 6) (.t 133), none, []⟩, false, []⟩,
 ⟨10, ⟨(some 135), .mv (.t 0), none, []⟩, false, []⟩,
 ⟨11, ⟨(some 136), .mv (.t 12), none, []⟩, false, []⟩,
 ⟨12, ⟨(some 137), .iasl 6 (.t 135) (.t 136), none, []⟩, false, []⟩,
 ⟨13, ⟨(some 138), .load (some 6) (.t 137), none, []⟩, false, []⟩,
 ⟨14, ⟨(some 139), .iasl 6 (.t 125) (.t 126), none, []⟩, false, []⟩,
 ⟨15, ⟨none, .store 6 (.t 139) (.t 134), none, []⟩, true, []⟩,
 ⟨16, ⟨(some 140), .iasl 6 (.t 127) (.t 129), none, []⟩, false, []⟩,
 ⟨17, ⟨none, .store 6 (.t 140) (.t 138), none, []⟩, true, []⟩] [125, 126, 127, 128, 129, 130, 131, 132, 133, 134, 135, 136, 137, 138, 139, 140])))
 (.reg [⟨(some 110), .mv (.t 12), none, [12]⟩,
 ⟨(some 111), .bin .add (.t 110) (.c (.i .i64 1)), none, [110]⟩,
 ⟨(some 12), .asg (.t 111), none, [111]⟩]))))))
 .skip))))))))
 (.reg [⟨(some 17), .mv (.t 10), none, [10]⟩,
 ⟨(some 18), .bin .add (.t 17) (.c (.i .i64 1)), none, [17]⟩,
 ⟨(some 10), .asg (.t 18), none, [18]⟩]))))))
 (.seq (.reg [⟨(some 8), .asg (.c (.b false)), none, []⟩])
 .ret)))), [.t 8]⟩
/-- slices.partitionEqualCmpFunc interrex/api.Node  -/
def f175 : AFn := ⟨5, (.seq (.reg [⟨(some 10), .asg (.c (.i .i64 0)), none, [10]⟩])
 (.seq (.dreg [⟨0, ⟨(some 13), .mv (.t 0), none, []⟩, false, []⟩,
 ⟨1, ⟨(some 14), .mv (.t 1), none, []⟩, false, []⟩,
 ⟨2, ⟨(some 15), .mv (.t 0), none, []⟩, false, []⟩,
 ⟨3, ⟨(some 16), .mv (.t 3), none, []⟩, false, []⟩,
 ⟨4, ⟨(some 17), .mv (.t 0), none, []⟩, false, []⟩,
 ⟨5, ⟨(some 18), .mv (.t 3), none, []⟩, false, []⟩,
 ⟨6, ⟨(some 19), .iasl 6 (.t 17) (.t 18), none, []⟩, false, []⟩,
 ⟨7, ⟨(some 20), .load (some 6) (.t 19), none, []⟩, false, []⟩,
 ⟨8, ⟨(some 21), .mv (.t 0), none, []⟩, false, []⟩,
 ⟨9, ⟨(some 22), .mv (.t 1), none, []⟩, false, []⟩,
 ⟨10, ⟨(some 23), .iasl 6 (.t 21) (.t 22), none, []⟩, false, []⟩,
 ⟨11, ⟨(some 24), .load (some 6) (.t 23), none, []⟩, false, []⟩,
 ⟨12, ⟨(some 25), .iasl 6 (.t 13) (.t 14), none, []⟩, false, []⟩,
 ⟨13, ⟨none, .store 6 (.t 25) (.t 20), none, []⟩, true, []⟩,
 ⟨14, ⟨(some 26), .iasl 6 (.t 15) (.t 16), none, []⟩, false, []⟩,
 ⟨15, ⟨none, .store 6 (.t 26) (.t 24), none, []⟩, true, []⟩] [13, 14, 15, 3, 16, 17, 18, 19, 20, 21, 22, 23, 24, 25, 26])
 (.seq (.reg [⟨(some 27), .mv (.t 1), none, []⟩,
 ⟨(some 28), .bin .add (.t 27) (.c (.i .i64 1)), none, [27]⟩,
 ⟨(some 29), .mv (.t 2), none, [2]⟩,
 ⟨(some 30), .bin .sub (.t 29) (.c (.i .i64 1)), none, [29]⟩,
 ⟨(some 11), .asg (.t 28), none, [28]⟩,
 ⟨(some 12), .asg (.t 30), none, [30]⟩])
 (.seq (.blk 0 (.loop (.blk 1 (.seq (.blk 2 (.loop (.seq (.seq (.dreg [⟨0, ⟨(some 31), .mv (.t 11), none, []⟩, false, []⟩,
 ⟨1, ⟨(some 32), .mv (.t 12), none, []⟩, false, []⟩,
 ⟨2, ⟨(some 33), .bin .leq (.t 31) (.t 32), none, []⟩, false, []⟩,
 ⟨3, ⟨(some 34), .mv (.t 33), none, []⟩, false, []⟩,
 ⟨4, ⟨(some 35), .mv (.t 4), (some (34, true)), []⟩, false, []⟩,
 ⟨5, ⟨(some 36), .mv (.t 0), (some (34, true)), []⟩, false, []⟩,
 ⟨6, ⟨(some 37), .mv (.t 1), (some (34, true)), []⟩, false, []⟩,
 ⟨7, ⟨(some 38), .iasl 6 (.t 36) (.t 37), (some (34, true)), []⟩, false, []⟩,
 ⟨8, ⟨(some 39), .load (some 6) (.t 38), (some (34, true)), []⟩, false, []⟩,
 ⟨9, ⟨(some 40), .mv (.t 0), (some (34, true)), []⟩, false, []⟩,
 ⟨10, ⟨(some 41), .mv (.t 11), (some (34, true)), []⟩, false, []⟩,
 ⟨11, ⟨(some 42), .iasl 6 (.t 40) (.t 41), (some (34, true)), []⟩, false, []⟩,
 ⟨12, ⟨(some 43), .load (some 6) (.t 42), (some (34, true)), []⟩, false, []⟩,
 ⟨13, ⟨(some 44), .callv (.t 35) [(.t 39), (.t 43)], (some (34, true)), []⟩, true, []⟩,
 ⟨14, ⟨(some 45), .bin .lss (.t 44) (.c (.i .i64 0)), (some (34, true)), []⟩, false, []⟩,
 ⟨15, ⟨(some 46), .un .not (.t 45), (some (34, true)), []⟩, false, []⟩,
 ⟨16, ⟨(some 47), .pick (.t 34) (.t 46) (.c (.b false)), none, []⟩, false, []⟩] [31, 32, 33, 34, 35, 36, 37, 38, 39, 40, 41, 42, 43, 44, 45, 46])
 (.cond (.t 47) .skip
 (.exit 2)))
 (.blk 3 (.reg [⟨(some 48), .mv (.t 11), none, [11]⟩,
 ⟨(some 49), .bin .add (.t 48) (.c (.i .i64 1)), none, [48]⟩,
 ⟨(some 11), .asg (.t 49), none, [49]⟩])))))
 (.seq (.blk 4 (.loop (.seq (.seq (.dreg [⟨0, ⟨(some 50), .mv (.t 11), none, []⟩, false, []⟩,
 ⟨1, ⟨(some 51), .mv (.t 12), none, []⟩, false, []⟩,
 ⟨2, ⟨(some 52), .bin .leq (.t 50) (.t 51), none, []⟩, false, []⟩,
 ⟨3, ⟨(some 53), .mv (.t 52), none, []⟩, false, []⟩,
 ⟨4, ⟨(some 54), .mv (.t 4), (some (53, true)), []⟩, false, []⟩,
 ⟨5, ⟨(some 55), .mv (.t 0), (some (53, true)), []⟩, false, []⟩,
 ⟨6, ⟨(some 56), .mv (.t 1), (some (53, true)), []⟩, false, []⟩,
 ⟨7, ⟨(some 57), .iasl 6 (.t 55) (.t 56), (some (53, true)), []⟩, false, []⟩,
 ⟨8, ⟨(some 58), .load (some 6) (.t 57), (some (53, true)), []⟩, false, []⟩,
 ⟨9, ⟨(some 59), .mv (.t 0), (some (53, true)), []⟩, false, []⟩,
 ⟨10, ⟨(some 60), .mv (.t 12), (some (53, true)), []⟩, false, []⟩,
 ⟨11, ⟨(some 61), .iasl 6 (.t 59) (.t 60), (some (53, true)), []⟩, false, []⟩,
 ⟨12, ⟨(some 62), .load (some 6) (.t 61), (some (53, true)), []⟩, false, []⟩,
 ⟨13, ⟨(some 63), .callv (.t 54) [(.t 58), (.t 62)], (some (53, true)), []⟩, true, []⟩,
 ⟨14, ⟨(some 64), .bin .lss (.t 63) (.c (.i .i64 0)), (some (53, true)), []⟩, false, []⟩,
 ⟨15, ⟨(some 65), .pick (.t 53) (.t 64) (.c (.b false)), none, []⟩, false, []⟩] [50, 51, 52, 53, 54, 55, 56, 57, 58, 59, 60, 61, 62, 63, 64])
 (.cond (.t 65) .skip
 (.exit 4)))
 (.blk 5 (.reg [⟨(some 66), .mv (.t 12), none, [12]⟩,
 ⟨(some 67), .bin .sub (.t 66) (.c (.i .i64 1)), none, [66]⟩,
 ⟨(some 12), .asg (.t 67), none, [67]⟩])))))
 (.seq (.seq (.reg [⟨(some 68), .mv (.t 11), none, []⟩,
 ⟨(some 69), .mv (.t 12), none, []⟩,
 ⟨(some 70), .bin .gtr (.t 68) (.t 69), none, [68, 69]⟩])
 (.cond (.t 70) (.exit 0)
 .skip))
 (.seq (.dreg [⟨0, ⟨(some 71), .mv (.t 0), none, []⟩, false, []⟩,
 ⟨1, ⟨(some 72), .mv (.t 11), none, []⟩, false, []⟩,
 ⟨2, ⟨(some 73), .mv (.t 0), none, []⟩, false, []⟩,
 ⟨3, ⟨(some 74), .mv (.t 12), none, []⟩, false, []⟩,
 ⟨4, ⟨(some 75), .mv (.t 0), none, []⟩, false, []⟩,
 ⟨5, ⟨(some 76), .mv (.t 12), none, []⟩, false, []⟩,
 ⟨6, ⟨(some 77), .iasl 6 (.t 75) (.t 76), none, []⟩, false, []⟩,
 ⟨7, ⟨(some 78), .load (some 6) (.t 77), none, []⟩, false, []⟩,
 ⟨8, ⟨(some 79), .mv (.t 0), none, []⟩, false, []⟩,
 ⟨9, ⟨(some 80), .mv (.t 11), none, []⟩, false, []⟩,
 ⟨10, ⟨(some 81), .iasl 6 (.t 79) (.t 80), none, []⟩, false, []⟩,
 ⟨11, ⟨(some 82), .load (some 6) (.t 81), none, []⟩, false, []⟩,
 ⟨12, ⟨(some 83), .iasl 6 (.t 71) (.t 72), none, []⟩, false, []⟩,
 ⟨13, ⟨none, .store 6 (.t 83) (.t 78), none, []⟩, true, []⟩,
 ⟨14, ⟨(some 84), .iasl 6 (.t 73) (.t 74), none, []⟩, false, []⟩,
 ⟨15, ⟨none, .store 6 (.t 84) (.t 82), none, []⟩, true, []⟩] [71, 72, 73, 74, 75, 76, 77, 78, 79, 80, 81, 82, 83, 84])
 (.seq (.reg [⟨(some 85), .mv (.t 11), none, [11]⟩,
 ⟨(some 86), .bin .add (.t 85) (.c (.i .i64 1)), none, [85]⟩,
 ⟨(some 11), .asg (.t 86), none, [86]⟩])
 (.reg [⟨(some 87), .mv (.t 12), none, [12]⟩,
 ⟨(some 88), .bin .sub (.t 87) (.c (.i .i64 1)), none, [87]⟩,
 ⟨(some 12), .asg (.t 88), none, [88]⟩])))))))))
 (.seq (.reg [⟨(some 89), .mv (.t 11), none, [11]⟩,
 ⟨(some 10), .asg (.t 89), none, [89]⟩])
 .ret))))), [.t 10]⟩
/-- slices.partitionCmpFunc interrex/api.Node  -/
def f176 : AFn := ⟨5, (.seq (.reg [⟨(some 10), .asg (.c (.i .i64 0)), none, [10]⟩,
 ⟨(some 11), .asg (.c (.b false)), none, [11]⟩])
 (.seq (.dreg [⟨0, ⟨(some 14), .mv (.t 0), none, []⟩, false, []⟩,
 ⟨1, ⟨(some 15), .mv (.t 1), none, []⟩, false, []⟩,
 ⟨2, ⟨(some 16), .mv (.t 0), none, []⟩, false, []⟩,
 ⟨3, ⟨(some 17), .mv (.t 3), none, []⟩, false, []⟩,
 ⟨4, ⟨(some 18), .mv (.t 0), none, []⟩, false, []⟩,
 ⟨5, ⟨(some 19), .mv (.t 3), none, []⟩, false, []⟩,
 ⟨6, ⟨(some 20), .iasl 6 (.t 18) (.t 19), none, []⟩, false, []⟩,
 ⟨7, ⟨(some 21), .load (some 6) (.t 20), none, []⟩, false, []⟩,
 ⟨8, ⟨(some 22), .mv (.t 0), none, []⟩, false, []⟩,
 ⟨9, ⟨(some 23), .mv (.t 1), none, []⟩, false, []⟩,
 ⟨10, ⟨(some 24), .iasl 6 (.t 22) (.t 23), none, []⟩, false, []⟩,
 ⟨11, ⟨(some 25), .load (some 6) (.t 24), none, []⟩, false, []⟩,
 ⟨12, ⟨(some 26), .iasl 6 (.t 14) (.t 15), none, []⟩, false, []⟩,
 ⟨13, ⟨none, .store 6 (.t 26) (.t 21), none, []⟩, true, []⟩,
 ⟨14, ⟨(some 27), .iasl 6 (.t 16) (.t 17), none, []⟩, false, []⟩,
 ⟨15, ⟨none, .store 6 (.t 27) (.t 25), none, []⟩, true, []⟩] [14, 15, 16, 3, 17, 18, 19, 20, 21, 22, 23, 24, 25, 26, 27])
 (.seq (.reg [⟨(some 28), .mv (.t 1), none, []⟩,
 ⟨(some 29), .bin .add (.t 28) (.c (.i .i64 1)), none, [28]⟩,
 ⟨(some 30), .mv (.t 2), none, [2]⟩,
 ⟨(some 31), .bin .sub (.t 30) (.c (.i .i64 1)), none, [30]⟩,
 ⟨(some 12), .asg (.t 29), none, [29]⟩,
 ⟨(some 13), .asg (.t 31), none, [31]⟩])
 (.seq (.blk 0 (.loop (.seq (.seq (.dreg [⟨0, ⟨(some 32), .mv (.t 12), none, []⟩, false, []⟩,
 ⟨1, ⟨(some 33), .mv (.t 13), none, []⟩, false, []⟩,
 ⟨2, ⟨(some 34), .bin .leq (.t 32) (.t 33), none, []⟩, false, []⟩,
 ⟨3, ⟨(some 35), .mv (.t 34), none, []⟩, false, []⟩,
 ⟨4, ⟨(some 36), .mv (.t 4), (some (35, true)), []⟩, false, []⟩,
 ⟨5, ⟨(some 37), .mv (.t 0), (some (35, true)), []⟩, false, []⟩,
 ⟨6, ⟨(some 38), .mv (.t 12), (some (35, true)), []⟩, false, []⟩,
 ⟨7, ⟨(some 39), .iasl 6 (.t 37) (.t 38), (some (35, true)), []⟩, false, []⟩,
 ⟨8, ⟨(some 40), .load (some 6) (.t 39), (some (35, true)), []⟩, false, []⟩,
 ⟨9, ⟨(some 41), .mv (.t 0), (some (35, true)), []⟩, false, []⟩,
 ⟨10, ⟨(some 42), .mv (.t 1), (some (35, true)), []⟩, false, []⟩,
 ⟨11, ⟨(some 43), .iasl 6 (.t 41) (.t 42), (some (35, true)), []⟩, false, []⟩,
 ⟨12, ⟨(some 44), .load (some 6) (.t 43), (some (35, true)), []⟩, false, []⟩,
 ⟨13, ⟨(some 45), .callv (.t 36) [(.t 40), (.t 44)], (some (35, true)), []⟩, true, []⟩,
 ⟨14, ⟨(some 46), .bin .lss (.t 45) (.c (.i .i64 0)), (some (35, true)), []⟩, false, []⟩,
 ⟨15, ⟨(some 47), .pick (.t 35) (.t 46) (.c (.b false)), none, []⟩, false, []⟩] [32, 33, 34, 35, 36, 37, 38, 39, 40, 41, 42, 43, 44, 45, 46])
 (.cond (.t 47) .skip
 (.exit 0)))
 (.blk 1 (.reg [⟨(some 48), .mv (.t 12), none, [12]⟩,
 ⟨(some 49), .bin .add (.t 48) (.c (.i .i64 1)), none, [48]⟩,
 ⟨(some 12), .asg (.t 49), none, [49]⟩])))))
 (.seq (.blk 2 (.loop (.seq (.seq (.dreg [⟨0, ⟨(some 50), .mv (.t 12), none, []⟩, false, []⟩,
 ⟨1, ⟨(some 51), .mv (.t 13), none, []⟩, false, []⟩,
 ⟨2, ⟨(some 52), .bin .leq (.t 50) (.t 51), none, []⟩, false, []⟩,
 ⟨3, ⟨(some 53), .mv (.t 52), none, []⟩, false, []⟩,
 ⟨4, ⟨(some 54), .mv (.t 4), (some (53, true)), []⟩, false, []⟩,
 ⟨5, ⟨(some 55), .mv (.t 0), (some (53, true)), []⟩, false, []⟩,
 ⟨6, ⟨(some 56), .mv (.t 13), (some (53, true)), []⟩, false, []⟩,
 ⟨7, ⟨(some 57), .iasl 6 (.t 55) (.t 56), (some (53, true)), []⟩, false, []⟩,
 ⟨8, ⟨(some 58), .load (some 6) (.t 57), (some (53, true)), []⟩, false, []⟩,
 ⟨9, ⟨(some 59), .mv (.t 0), (some (53, true)), []⟩, false, []⟩,
 ⟨10, ⟨(some 60), .mv (.t 1), (some (53, true)), []⟩, false, []⟩,
 ⟨11, ⟨(some 61), .iasl 6 (.t 59) (.t 60), (some (53, true)), []⟩, false, []⟩,
 ⟨12, ⟨(some 62), .load (some 6) (.t 61), (some (53, true)), []⟩, false, []⟩,
 ⟨13, ⟨(some 63), .callv (.t 54) [(.t 58), (.t 62)], (some (53, true)), []⟩, true, []⟩,
 ⟨14, ⟨(some 64), .bin .lss (.t 63) (.c (.i .i64 0)), (some (53, true)), []⟩, false, []⟩,
 ⟨15, ⟨(some 65), .un .not (.t 64), (some (53, true)), []⟩, false, []⟩,
 ⟨16, ⟨(some 66), .pick (.t 53) (.t 65) (.c (.b false)), none, []⟩, false, []⟩] [50, 51, 52, 53, 54, 55, 56, 57, 58, 59, 60, 61, 62, 63, 64, 65])
 (.cond (.t 66) .skip
 (.exit 2)))
 (.blk 3 (.reg [⟨(some 67), .mv (.t 13), none, [13]⟩,
 ⟨(some 68), .bin .sub (.t 67) (.c (.i .i64 1)), none, [67]⟩,
 ⟨(some 13), .asg (.t 68), none, [68]⟩])))))
 (.seq (.seq (.reg [⟨(some 69), .mv (.t 12), none, []⟩,
 ⟨(some 70), .mv (.t 13), none, []⟩,
 ⟨(some 71), .bin .gtr (.t 69) (.t 70), none, [69, 70]⟩])
 (.cond (.t 71) (.seq (.dreg [⟨0, ⟨(some 72), .mv (.t 0), none, []⟩, false, []⟩,
 ⟨1, ⟨(some 73), .mv (.t 13), none, []⟩, false, []⟩,
 ⟨2, ⟨(some 74), .mv (.t 0), none, []⟩, false, []⟩,
 ⟨3, ⟨(some 75), .mv (.t 1), none, []⟩, false, []⟩,
 ⟨4, ⟨(some 76), .mv (.t 0), none, []⟩, false, []⟩,
 ⟨5, ⟨(some 77), .mv (.t 1), none, []⟩, false, []⟩,
 ⟨6, ⟨(some 78), .iasl 6 (.t 76) (.t 77), none, []⟩, false, []⟩,
 ⟨7, ⟨(some 79), .load (some 6) (.t 78), none, []⟩, false, []⟩,
 ⟨8, ⟨(some 80), .mv (.t 0), none, []⟩, false, []⟩,
 ⟨9, ⟨(some 81), .mv (.t 13), none, []⟩, false, []⟩,
 ⟨10, ⟨(some 82), .iasl 6 (.t 80) (.t 81), none, []⟩, false, []⟩,
 ⟨11, ⟨(some 83), .load (some 6) (.t 82), none, []⟩, false, []⟩,
 ⟨12, ⟨(some 84), .iasl 6 (.t 72) (.t 73), none, []⟩, false, []⟩,
 ⟨13, ⟨none, .store 6 (.t 84) (.t 79), none, []⟩, true, []⟩,
 ⟨14, ⟨(some 85), .iasl 6 (.t 74) (.t 75), none, []⟩, false, []⟩,
 ⟨15, ⟨none, .store 6 (.t 85) (.t 83), none, []⟩, true, []⟩] [0, 72, 73, 74, 1, 75, 76, 77, 78, 79, 80, 81, 82, 83, 84, 85])
 (.seq (.reg [⟨(some 86), .mv (.t 13), none, [13]⟩,
 ⟨(some 10), .asg (.t 86), none, [86]⟩,
 ⟨(some 11), .asg (.c (.b true)), none, []⟩])
 .ret))
 .skip))
 (.seq (.dreg [⟨0, ⟨(some 87), .mv (.t 0), none, []⟩, false, []⟩,
 ⟨1, ⟨(some 88), .mv (.t 12), none, []⟩, false, []⟩,
 ⟨2, ⟨(some 89), .mv (.t 0), none, []⟩, false, []⟩,
 ⟨3, ⟨(some 90), .mv (.t 13), none, []⟩, false, []⟩,
 ⟨4, ⟨(some 91), .mv (.t 0), none, []⟩, false, []⟩,
 ⟨5, ⟨(some 92), .mv (.t 13), none, []⟩, false, []⟩,
 ⟨6, ⟨(some 93), .iasl 6 (.t 91) (.t 92), none, []⟩, false, []⟩,
 ⟨7, ⟨(some 94), .load (some 6) (.t 93), none, []⟩, false, []⟩,
 ⟨8, ⟨(some 95), .mv (.t 0), none, []⟩, false, []⟩,
 ⟨9, ⟨(some 96), .mv (.t 12), none, []⟩, false, []⟩,
 ⟨10, ⟨(some 97), .iasl 6 (.t 95) (.t 96), none, []⟩, false, []⟩,
 ⟨11, ⟨(some 98), .load (some 6) (.t 97), none, []⟩, false, []⟩,
 ⟨12, ⟨(some 99), .iasl 6 (.t 87) (.t 88), none, []⟩, false, []⟩,
 ⟨13, ⟨none, .store 6 (.t 99) (.t 94), none, []⟩, true, []⟩,
 ⟨14, ⟨(some 100), .iasl 6 (.t 89) (.t 90), none, []⟩, false, []⟩,
 ⟨15, ⟨none, .store 6 (.t 100) (.t 98), none, []⟩, true, []⟩] [87, 88, 89, 90, 91, 92, 93, 94, 95, 96, 97, 98, 99, 100])
 (.seq (.reg [⟨(some 101), .mv (.t 12), none, [12]⟩,
 ⟨(some 102), .bin .add (.t 101) (.c (.i .i64 1)), none, [101]⟩,
 ⟨(some 12), .asg (.t 102), none, [102]⟩])
 (.seq (.reg [⟨(some 103), .mv (.t 13), none, [13]⟩,
 ⟨(some 104), .bin .sub (.t 103) (.c (.i .i64 1)), none, [103]⟩,
 ⟨(some 13), .asg (.t 104), none, [104]⟩])
 (.seq (.blk 4 (.loop (.blk 5 (.seq (.blk 6 (.loop (.seq (.seq (.dreg [⟨0, ⟨(some 105), .mv (.t 12), none, []⟩, false, []⟩,
 ⟨1, ⟨(some 106), .mv (.t 13), none, []⟩, false, []⟩,
 ⟨2, ⟨(some 107), .bin .leq (.t 105) (.t 106), none, []⟩, false, []⟩,
 ⟨3, ⟨(some 108), .mv (.t 107), none, []⟩, false, []⟩,
 ⟨4, ⟨(some 109), .mv (.t 4), (some (108, true)), []⟩, false, []⟩,
 ⟨5, ⟨(some 110), .mv (.t 0), (some (108, true)), []⟩, false, []⟩,
 ⟨6, ⟨(some 111), .mv (.t 12), (some (108, true)), []⟩, false, []⟩,
 ⟨7, ⟨(some 112), .iasl 6 (.t 110) (.t 111), (some (108, true)), []⟩, false, []⟩,
 ⟨8, ⟨(some 113), .load (some 6) (.t 112), (some (108, true)), []⟩, false, []⟩,
 ⟨9, ⟨(some 114), .mv (.t 0), (some (108, true)), []⟩, false, []⟩,
 ⟨10, ⟨(some 115), .mv (.t 1), (some (108, true)), []⟩, false, []⟩,
 ⟨11, ⟨(some 116), .iasl 6 (.t 114) (.t 115), (some (108, true)), []⟩, false, []⟩,
 ⟨12, ⟨(some 117), .load (some 6) (.t 116), (some (108, true)), []⟩, false, []⟩,
 ⟨13, ⟨(some 118), .callv (.t 109) [(.t 113), (.t 117)], (some (108, true)), []⟩, true, []⟩,
 ⟨14, ⟨(some 119), .bin .lss (.t 118) (.c (.i .i64 0)), (some (108, true)), []⟩, false, []⟩,
 ⟨15, ⟨(some 120), .pick (.t 108) (.t 119) (.c (.b false)), none, []⟩, false, []⟩] [105, 106, 107, 108, 109, 110, 111, 112, 113, 114, 115, 116, 117, 118, 119])
 (.cond (.t 120) .skip
 (.exit 6)))
 (.blk 7 (.reg [⟨(some 121), .mv (.t 12), none, [12]⟩,
 ⟨(some 122), .bin .add (.t 121) (.c (.i .i64 1)), none, [121]⟩,
 ⟨(some 12), .asg (.t 122), none, [122]⟩])))))
 (.seq (.blk 8 (.loop (.seq (.seq (.dreg [⟨0, ⟨(some 123), .mv (.t 12), none, []⟩, false, []⟩,
 ⟨1, ⟨(some 124), .mv (.t 13), none, []⟩, false, []⟩,
 ⟨2, ⟨(some 125), .bin .leq (.t 123) (.t 124), none, []⟩, false, []⟩,
 ⟨3, ⟨(some 126), .mv (.t 125), none, []⟩, false, []⟩,
 ⟨4, ⟨(some 127), .mv (.t 4), (some (126, true)), []⟩, false, []⟩,
 ⟨5, ⟨(some 128), .mv (.t 0), (some (126, true)), []⟩, false, []⟩,
 ⟨6, ⟨(some 129), .mv (.t 13), (some (126, true)), []⟩, false, []⟩,
 ⟨7, ⟨(some 130), .iasl 6 (.t 128) (.t 129), (some (126, true)), []⟩, false, []⟩,
 ⟨8, ⟨(some 131), .load (some 6) (.t 130), (some (126, true)), []⟩, false, []⟩,
 ⟨9, ⟨(some 132), .mv (.t 0), (some (126, true)), []⟩, false, []⟩,
 ⟨10, ⟨(some 133), .mv (.t 1), (some (126, true)), []⟩, false, []⟩,
 ⟨11, ⟨(some 134), .iasl 6 (.t 132) (.t 133), (some (126, true)), []⟩, false, []⟩,
 ⟨12, ⟨(some 135), .load (some 6) (.t 134), (some (126, true)), []⟩, false, []⟩,
 ⟨13, ⟨(some 136), .callv (.t 127) [(.t 131), (.t 135)], (some (126, true)), []⟩, true, []⟩,
 ⟨14, ⟨(some 137), .bin .lss (.t 136) (.c (.i .i64 0)), (some (126, true)), []⟩, false, []⟩,
 ⟨15, ⟨(some 138), .un .not (.t 137), (some (126, true)), []⟩, false, []⟩,
 ⟨16, ⟨(some 139), .pick (.t 126) (.t 138) (.c (.b false)), none, []⟩, false, []⟩] [123, 124, 125, 126, 127, 128, 129, 130, 131, 132, 133, 134, 135, 136, 137, 138])
 (.cond (.t 139) .skip
 (.exit 8)))
 (.blk 9 (.reg [⟨(some 140), .mv (.t 13), none, [13]⟩,
 ⟨(some 141), .bin .sub (.t 140) (.c (.i .i64 1)), none, [140]⟩,
 ⟨(some 13), .asg (.t 141), none, [141]⟩])))))
 (.seq (.seq (.reg [⟨(some 142), .mv (.t 12), none, []⟩,
 ⟨(some 143), .mv (.t 13), none, []⟩,
 ⟨(some 144), .bin .gtr (.t 142) (.t 143), none, [142, 143]⟩])
 (.cond (.t 144) (.exit 4)
 .skip))
 (.seq (.dreg [⟨0, ⟨(some 145), .mv (.t 0), none, []⟩, false, []⟩,
 ⟨1, ⟨(some 146), .mv (.t 12), none, []⟩, false, []⟩,
 ⟨2, ⟨(some 147), .mv (.t 0), none, []⟩, false, []⟩,
 ⟨3, ⟨(some 148), .mv (.t 13), none, []⟩, false, []⟩,
 ⟨4, ⟨(some 149), .mv (.t 0), none, []⟩, false, []⟩,
 ⟨5, ⟨(some 150), .mv (.t 13), none, []⟩, false, []⟩,
 ⟨6, ⟨(some 151), .iasl 6 (.t 149) (.t 150), none, []⟩, false, []⟩,
 ⟨7, ⟨(some 152), .load (some 6) (.t 151), none, []⟩, false, []⟩,
 ⟨8, ⟨(some 153), .mv (.t 0), none, []⟩, false, []⟩,
 ⟨9, ⟨(some 154), .mv (.t 12), none, []⟩, false, []⟩,
 ⟨10, ⟨(some 155), .iasl 6 (.t 153) (.t 154), none, []⟩, false, []⟩,
 ⟨11, ⟨(some 156), .load (some 6) (.t 155), none, []⟩, false, []⟩,
 ⟨12, ⟨(some 157), .iasl 6 (.t 145) (.t 146), none, []⟩, false, []⟩,
 ⟨13, ⟨none, .store 6 (.t 157) (.t 152), none, []⟩, true, []⟩,
 ⟨14, ⟨(some 158), .iasl 6 (.t 147) (.t 148), none, []⟩, false, []⟩,
 ⟨15, ⟨none, .store 6 (.t 158) (.t 156), none, []⟩, true, []⟩] [145, 146, 147, 148, 149, 150, 151, 152, 153, 154, 155, 156, 157, 158])
 (.seq (.reg [⟨(some 159), .mv (.t 12), none, [12]⟩,
 ⟨(some 160), .bin .add (.t 159) (.c (.i .i64 1)), none, [159]⟩,
 ⟨(some 12), .asg (.t 160), none, [160]⟩])
 (.reg [⟨(some 161), .mv (.t 13), none, [13]⟩,
 ⟨(some 162), .bin .sub (.t 161) (.c (.i .i64 1)), none, [161]⟩,
 ⟨(some 13), .asg (.t 162), none, [162]⟩])))))))))
 (.seq (.dreg [⟨0, ⟨(some 163), .mv (.t 0), none, []⟩, false, []⟩,
 ⟨1, ⟨(some 164), .mv (.t 13), none, []⟩, false, []⟩,
 ⟨2, ⟨(some 165), .mv (.t 0), none, []⟩, false, []⟩,
 ⟨3, ⟨(some 166), .mv (.t 1), none, []⟩, false, []⟩,
 ⟨4, ⟨(some 167), .mv (.t 0), none, []⟩, false, []⟩,
 ⟨5, ⟨(some 168), .mv (.t 1), none, []⟩, false, []⟩,
 ⟨6, ⟨(some 169), .iasl 6 (.t 167) (.t 168), none, []⟩, false, []⟩,
 ⟨7, ⟨(some 170), .load (some 6) (.t 169), none, []⟩, false, []⟩,
 ⟨8, ⟨(some 171), .mv (.t 0), none, []⟩, false, []⟩,
 ⟨9, ⟨(some 172), .mv (.t 13), none, []⟩, false, []⟩,
 ⟨10, ⟨(some 173), .iasl 6 (.t 171) (.t 172), none, []⟩, false, []⟩,
 ⟨11, ⟨(some 174), .load (some 6) (.t 173), none, []⟩, false, []⟩,
 ⟨12, ⟨(some 175), .iasl 6 (.t 163) (.t 164), none, []⟩, false, []⟩,
 ⟨13, ⟨none, .store 6 (.t 175) (.t 170), none, []⟩, true, []⟩,
 ⟨14, ⟨(some 176), .iasl 6 (.t 165) (.t 166), none, []⟩, false, []⟩,
 ⟨15, ⟨none, .store 6 (.t 176) (.t 174), none, []⟩, true, []⟩] [0, 163, 164, 165, 1, 166, 167, 168, 169, 170, 171, 172, 173, 174, 175, 176])
 (.seq (.reg [⟨(some 177), .mv (.t 13), none, [13]⟩,
 ⟨(some 10), .asg (.t 177), none, [177]⟩,
 ⟨(some 11), .asg (.c (.b false)), none, []⟩])
 .ret)))))))))))), [.t 10, .t 11]⟩
/-- slices.ContainsFunc   interrex/api.Term interrex/api.Term  -/
def f177 : AFn := ⟨2, (.seq (.reg [⟨(some 4), .asg (.c (.b false)), none, [4]⟩])
 (.seq (.reg [⟨(some 5), .mv (.t 0), none, [0]⟩,
 ⟨(some 6), .mv (.t 1), none, [1]⟩,
 ⟨(some 7), .call 221 [(.t 5), (.t 6)], none, [5, 6]⟩,
 ⟨(some 8), .bin .geq (.t 7) (.c (.i .i64 0)), none, [7]⟩,
 ⟨(some 4), .asg (.t 8), none, [8]⟩])
 .ret)), [.t 4]⟩
/-- interrex/label.MayTerms 1 -/
def f178 : AFn := ⟨1, (.seq (.reg [⟨(some 1), .box false (.t 0), none, [0]⟩,
 ⟨(some 2), .asg (.c (.b false)), none, [2]⟩])
 (.seq (.reg [⟨(some 3), .load (some 3) (.t 1), none, [1]⟩,
 ⟨(some 4), .call 179 [(.t 3)], none, [3]⟩,
 ⟨(some 5), .un .not (.t 4), none, [4]⟩,
 ⟨(some 2), .asg (.t 5), none, [5]⟩])
 .ret)), [.t 2]⟩
/-- interrex/label.mayTerm -/
def f179 : AFn := ⟨1, (.seq (.reg [⟨(some 1), .box false (.t 0), none, [0]⟩,
 ⟨(some 2), .asg (.c (.b false)), none, [2]⟩])
 (.seq (.reg [⟨(some 3), .asg (.c (.i .i64 0)), none, []⟩,
 ⟨(some 4), .asg (.c (.i .i64 0)), none, []⟩])
 (.seq (.seq (.reg [⟨(some 5), .faddr 1 (.t 1), none, []⟩,
 ⟨(some 6), .load none (.t 5), none, [5]⟩])
 (.blk 0 (.seq (.seq (.reg [⟨(some 8), .bin .eql (.t 6) (.c (.i .i64 1)), none, []⟩,
 ⟨(some 7), .asg (.t 8), none, [8]⟩])
 (.cond (.t 7) .skip
 (.reg [⟨(some 9), .bin .eql (.t 6) (.c (.i .i64 2)), none, []⟩,
 ⟨(some 7), .asg (.t 9), none, [9]⟩])))
 (.cond (.t 7) (.reg [⟨(some 3), .asg (.c (.i .i64 1)), none, []⟩,
 ⟨(some 4), .asg (.c (.i .i64 6)), none, []⟩])
 (.seq (.seq (.reg [⟨(some 11), .bin .eql (.t 6) (.c (.i .i64 3)), none, []⟩,
 ⟨(some 10), .asg (.t 11), none, [11]⟩])
 (.cond (.t 10) .skip
 (.reg [⟨(some 12), .bin .eql (.t 6) (.c (.i .i64 4)), none, [6]⟩,
 ⟨(some 10), .asg (.t 12), none, [12]⟩])))
 (.cond (.t 10) .skip
 (.seq (.reg [⟨(some 2), .asg (.c (.b false)), none, []⟩])
 .ret)))))))
 (.seq (.reg [⟨(some 13), .faddr 0 (.t 1), none, []⟩,
 ⟨(some 14), .load none (.t 13), none, [13]⟩,
 ⟨(some 15), .call 102 [(.t 14)], none, [14]⟩,
 ⟨(some 16), .mv (.t 15), none, [15]⟩,
 ⟨(some 17), .faddr 2 (.t 1), (some (16, true)), []⟩,
 ⟨(some 18), .load none (.t 17), (some (16, true)), [17]⟩,
 ⟨(some 19), .lenL (.t 18), (some (16, true)), [18]⟩,
 ⟨(some 20), .mv (.t 3), (some (16, true)), [3]⟩,
 ⟨(some 21), .bin .geq (.t 19) (.t 20), (some (16, true)), [19, 20]⟩,
 ⟨(some 22), .pick (.t 16) (.t 21) (.c (.b false)), none, [16, 21]⟩,
 ⟨(some 23), .mv (.t 22), none, [22]⟩,
 ⟨(some 24), .faddr 2 (.t 1), (some (23, true)), []⟩,
 ⟨(some 25), .load none (.t 24), (some (23, true)), [24]⟩,
 ⟨(some 26), .lenL (.t 25), (some (23, true)), [25]⟩,
 ⟨(some 27), .mv (.t 4), (some (23, true)), [4]⟩,
 ⟨(some 28), .bin .leq (.t 26) (.t 27), (some (23, true)), [26, 27]⟩,
 ⟨(some 29), .pick (.t 23) (.t 28) (.c (.b false)), none, [23, 28]⟩,
 ⟨(some 30), .mv (.t 29), none, [29]⟩,
 ⟨(some 31), .faddr 2 (.t 1), (some (30, true)), [1]⟩,
 ⟨(some 32), .load none (.t 31), (some (30, true)), [31]⟩,
 ⟨(some 33), .call 222 [(.t 32), (.c (.fn 223 [] []))], (some (30, true)), [32]⟩,
 ⟨(some 34), .un .not (.t 33), (some (30, true)), [33]⟩,
 ⟨(some 35), .pick (.t 30) (.t 34) (.c (.b false)), none, [30, 34]⟩,
 ⟨(some 2), .asg (.t 35), none, [35]⟩])
 .ret)))), [.t 2]⟩
/-- slices.ContainsFunc   interrex/api.Toler interrex/api.Toler  -/
def f180 : AFn := ⟨2, (.seq (.reg [⟨(some 4), .asg (.c (.b false)), none, [4]⟩])
 (.seq (.reg [⟨(some 5), .mv (.t 0), none, [0]⟩,
 ⟨(some 6), .mv (.t 1), none, [1]⟩,
 ⟨(some 7), .call 224 [(.t 5), (.t 6)], none, [5, 6]⟩,
 ⟨(some 8), .bin .geq (.t 7) (.c (.i .i64 0)), none, [7]⟩,
 ⟨(some 4), .asg (.t 8), none, [8]⟩])
 .ret)), [.t 4]⟩
/-- interrex/taint.MayTols 1 -/
def f181 : AFn := ⟨1, (.seq (.reg [⟨(some 1), .box false (.t 0), none, [0]⟩,
 ⟨(some 2), .asg (.c (.b false)), none, [2]⟩])
 (.seq (.reg [⟨(some 3), .load (some 3) (.t 1), none, [1]⟩,
 ⟨(some 4), .call 182 [(.t 3)], none, [3]⟩,
 ⟨(some 5), .un .not (.t 4), none, [4]⟩,
 ⟨(some 2), .asg (.t 5), none, [5]⟩])
 .ret)), [.t 2]⟩
/-- interrex/taint.mayTol -/
def f182 : AFn := ⟨1, (.seq (.reg [⟨(some 1), .box false (.t 0), none, [0]⟩,
 ⟨(some 2), .asg (.c (.b false)), none, [2]⟩])
 (.seq (.seq (.reg [⟨(some 3), .faddr 0 (.t 1), none, []⟩,
 ⟨(some 4), .load none (.t 3), none, [3]⟩,
 ⟨(some 5), .bin .neq (.t 4) (.c (.s [])), none, [4]⟩,
 ⟨(some 6), .mv (.t 5), none, [5]⟩,
 ⟨(some 7), .faddr 0 (.t 1), (some (6, true)), []⟩,
 ⟨(some 8), .load none (.t 7), (some (6, true)), [7]⟩,
 ⟨(some 9), .call 102 [(.t 8)], (some (6, true)), [8]⟩,
 ⟨(some 10), .un .not (.t 9), (some (6, true)), [9]⟩,
 ⟨(some 11), .pick (.t 6) (.t 10) (.c (.b false)), none, [6, 10]⟩])
 (.cond (.t 11) (.seq (.reg [⟨(some 2), .asg (.c (.b false)), none, []⟩])
 .ret)
 .skip))
 (.seq (.seq (.reg [⟨(some 12), .faddr 2 (.t 1), none, []⟩,
 ⟨(some 13), .load none (.t 12), none, [12]⟩])
 (.cond (.t 13) (.seq (.reg [⟨(some 14), .faddr 1 (.t 1), none, [1]⟩,
 ⟨(some 15), .load none (.t 14), none, [14]⟩,
 ⟨(some 16), .bin .eql (.t 15) (.c (.s [])), none, [15]⟩,
 ⟨(some 2), .asg (.t 16), none, [16]⟩])
 .ret)
 .skip))
 (.seq (.reg [⟨(some 17), .faddr 1 (.t 1), none, [1]⟩,
 ⟨(some 18), .load none (.t 17), none, [17]⟩,
 ⟨(some 19), .call 102 [(.t 18)], none, [18]⟩,
 ⟨(some 2), .asg (.t 19), none, [19]⟩])
 .ret)))), [.t 2]⟩
/-- ( interrex/wire.table).make 1 -/
def f184 : AFn := ⟨1, (.seq (.reg [⟨(some 1), .alloc true [(.i .u64 0)], none, []⟩,
 ⟨none, .store 1 (.t 1) (.c (.i .u64 0)), none, []⟩])
 (.seq (.reg [⟨(some 5), .mkfn 185 [(.t 1), (.t 0)], none, [1, 0]⟩,
 ⟨(some 2), .asg (.t 5), none, [5]⟩])
 (.seq (.seq (.reg [⟨(some 6), .mv (.c (.i .u8 0)), none, []⟩])
 (.blk 0 (.loop (.seq (.reg [⟨(some 7), .bin .lss (.t 6) (.c (.i .u8 26)), none, []⟩])
 (.seq (.cond (.t 7) .skip
 (.exit 0))
 (.seq (.blk 1 (.seq (.reg [⟨(some 8), .mv (.t 6), none, []⟩,
 ⟨(some 3), .asg (.t 8), none, [8]⟩])
 (.reg [⟨(some 9), .mv (.t 2), none, []⟩,
 ⟨(some 10), .mv (.t 3), none, [3]⟩,
 ⟨(some 11), .bin .add (.c (.i .u8 97)) (.t 10), none, [10]⟩,
 ⟨(some 12), .callv (.t 9) [(.t 11)], none, [9, 11, 12]⟩])))
 (.reg [⟨(some 13), .bin .add (.t 6) (.c (.i .u8 1)), none, [6]⟩,
 ⟨(some 6), .mv (.t 13), none, [13]⟩])))))))
 (.seq (.seq (.reg [⟨(some 14), .mv (.c (.i .u8 0)), none, []⟩])
 (.blk 2 (.loop (.seq (.reg [⟨(some 15), .bin .lss (.t 14) (.c (.i .u8 10)), none, []⟩])
 (.seq (.cond (.t 15) .skip
 (.exit 2))
 (.seq (.blk 3 (.seq (.reg [⟨(some 16), .mv (.t 14), none, []⟩,
 ⟨(some 4), .asg (.t 16), none, [16]⟩])
 (.reg [⟨(some 17), .mv (.t 2), none, []⟩,
 ⟨(some 18), .mv (.t 4), none, [4]⟩,
 ⟨(some 19), .bin .add (.c (.i .u8 48)) (.t 18), none, [18]⟩,
 ⟨(some 20), .callv (.t 17) [(.t 19)], none, [17, 19, 20]⟩])))
 (.reg [⟨(some 21), .bin .add (.t 14) (.c (.i .u8 1)), none, [14]⟩,
 ⟨(some 14), .mv (.t 21), none, [21]⟩])))))))
 (.reg [⟨(some 22), .mv (.t 2), none, [2]⟩,
 ⟨(some 23), .callv (.t 22) [(.c (.i .u8 45))], none, [22, 23]⟩]))))), []⟩
/-- ( interrex/wire.table).make 1 1 -/
def f185 : AFn := ⟨3, (.seq (.reg [⟨(some 4), .load none (.t 1), none, []⟩,
 ⟨(some 5), .bin .add (.t 4) (.c (.i .u64 1)), none, [4]⟩,
 ⟨none, .store 1 (.t 1) (.t 5), none, [5]⟩])
 (.dreg [⟨0, ⟨(some 6), .load none (.t 2), none, []⟩, false, []⟩,
 ⟨1, ⟨(some 7), .mv (.t 0), none, []⟩, false, []⟩,
 ⟨2, ⟨(some 8), .load none (.t 2), none, []⟩, false, []⟩,
 ⟨3, ⟨(some 9), .load none (.t 1), none, []⟩, false, []⟩,
 ⟨4, ⟨(some 10), .load none (.t 1), none, []⟩, false, []⟩,
 ⟨5, ⟨(some 11), .mv (.t 0), none, []⟩, false, []⟩,
 ⟨6, ⟨(some 12), .nilc (.t 6), none, []⟩, false, []⟩,
 ⟨7, ⟨(some 13), .faddr 3 (.t 12), none, []⟩, false, []⟩,
 ⟨8, ⟨(some 14), .iaar 256 1 (.t 13) (.t 7), none, []⟩, false, []⟩,
 ⟨10, ⟨(some 15), .nilc (.t 8), none, []⟩, false, []⟩,
 ⟨11, ⟨(some 16), .faddr 259 (.t 15), none, []⟩, false, []⟩,
 ⟨9, ⟨none, .store 1 (.t 14) (.t 10), none, []⟩, true, [3, 2]⟩,
 ⟨12, ⟨(some 17), .iaar 38 1 (.t 16) (.t 9), none, []⟩, false, []⟩,
 ⟨13, ⟨none, .store 1 (.t 17) (.t 11), none, []⟩, true, []⟩] [2, 6, 0, 7, 8, 1, 9, 10, 11, 12, 13, 14, 15, 16, 17])), []⟩
/-- ( interrex/wire.Reader).Text -/
def f186 : AFn := ⟨1, (.seq (.reg [⟨(some 2), .asg (.c (.s [])), none, [2]⟩])
 (.seq (.reg [⟨(some 5), .mv (.t 0), none, []⟩,
 ⟨(some 6), .call 68 [(.t 5), (.c (.i .i64 2))], none, [5]⟩,
 ⟨(some 3), .asg (.t 6), none, [6]⟩])
 (.seq (.seq (.reg [⟨(some 7), .mv (.t 3), none, []⟩,
 ⟨(some 8), .mv (.t 0), none, []⟩,
 ⟨(some 9), .nilc (.t 8), none, [8]⟩,
 ⟨(some 10), .faddr 297 (.t 9), none, [9]⟩,
 ⟨(some 11), .load none (.t 10), none, [10]⟩,
 ⟨(some 12), .lenL (.t 11), none, [11]⟩,
 ⟨(some 13), .bin .gtr (.t 7) (.t 12), none, [7, 12]⟩])
 (.cond (.t 13) (.seq (.reg [⟨(some 14), .mv (.t 0), none, []⟩,
 ⟨(some 15), .mv (.t 0), none, [0]⟩,
 ⟨(some 16), .nilc (.t 14), none, [14]⟩,
 ⟨(some 17), .faddr 298 (.t 16), none, [16]⟩,
 ⟨none, .store 1 (.t 17) (.c (.b true)), none, [17]⟩,
 ⟨(some 18), .nilc (.t 15), none, [15]⟩,
 ⟨(some 19), .faddr 297 (.t 18), none, [18]⟩,
 ⟨none, .store 1 (.t 19) (.c .nils), none, [19]⟩])
 (.seq (.reg [⟨(some 2), .asg (.c (.s [])), none, []⟩])
 .ret))
 .skip))
 (.seq (.reg [⟨(some 20), .mv (.t 0), none, []⟩,
 ⟨(some 21), .nilc (.t 20), none, [20]⟩,
 ⟨(some 22), .faddr 297 (.t 21), none, [21]⟩,
 ⟨(some 23), .load none (.t 22), none, [22]⟩,
 ⟨(some 24), .mv (.t 3), none, []⟩,
 ⟨(some 25), .slsl 1 (.t 23) none (some (.t 24)) none, none, [23, 24]⟩,
 ⟨(some 26), .b2s (.t 25), none, [25]⟩,
 ⟨(some 4), .asg (.t 26), none, [26]⟩])
 (.seq (.reg [⟨(some 27), .mv (.t 0), none, []⟩,
 ⟨(some 28), .mv (.t 0), none, [0]⟩,
 ⟨(some 29), .nilc (.t 28), none, [28]⟩,
 ⟨(some 30), .faddr 297 (.t 29), none, [29]⟩,
 ⟨(some 31), .load none (.t 30), none, [30]⟩,
 ⟨(some 32), .mv (.t 3), none, [3]⟩,
 ⟨(some 33), .slsl 1 (.t 31) (some (.t 32)) none none, none, [31, 32]⟩,
 ⟨(some 34), .nilc (.t 27), none, [27]⟩,
 ⟨(some 35), .faddr 297 (.t 34), none, [34]⟩,
 ⟨none, .store 1 (.t 35) (.t 33), none, [35, 33]⟩])
 (.seq (.reg [⟨(some 36), .mv (.t 4), none, [4]⟩,
 ⟨(some 2), .asg (.t 36), none, [36]⟩])
 .ret)))))), [.t 2]⟩
/-- interrex/call.May -/
def f187 : AFn := ⟨1, (.seq (.reg [⟨(some 1), .box false (.t 0), none, [0]⟩,
 ⟨(some 2), .asg (.c (.b false)), none, [2]⟩])
 (.seq (.seq (.dreg [⟨0, ⟨(some 3), .faddr 0 (.t 1), none, []⟩, false, []⟩,
 ⟨1, ⟨(some 4), .load none (.t 3), none, []⟩, false, []⟩,
 ⟨2, ⟨(some 5), .bin .lss (.t 4) (.c (.i .i64 0)), none, []⟩, false, []⟩,
 ⟨3, ⟨(some 6), .mv (.t 5), none, []⟩, false, []⟩,
 ⟨4, ⟨(some 7), .faddr 0 (.t 1), (some (6, false)), []⟩, false, []⟩,
 ⟨5, ⟨(some 8), .load none (.t 7), (some (6, false)), []⟩, false, []⟩,
 ⟨6, ⟨(some 9), .bin .gtr (.t 8) (.c (.i .i64 7)), (some (6, false)), []⟩, false, []⟩,
 ⟨7, ⟨(some 10), .pick (.t 6) (.c (.b true)) (.t 9), none, []⟩, false, []⟩,
 ⟨8, ⟨(some 11), .mv (.t 10), none, []⟩, false, []⟩,
 ⟨9, ⟨(some 12), .faddr 1 (.t 1), (some (11, false)), []⟩, false, []⟩,
 ⟨10, ⟨(some 13), .load none (.t 12), (some (11, false)), []⟩, false, []⟩,
 ⟨11, ⟨(some 14), .bin .lss (.t 13) (.c (.i .i64 1)), (some (11, false)), []⟩, false, []⟩,
 ⟨12, ⟨(some 15), .pick (.t 11) (.c (.b true)) (.t 14), none, []⟩, false, []⟩,
 ⟨13, ⟨(some 16), .mv (.t 15), none, []⟩, false, []⟩,
 ⟨14, ⟨(some 17), .faddr 1 (.t 1), (some (16, false)), []⟩, false, []⟩,
 ⟨15, ⟨(some 18), .load none (.t 17), (some (16, false)), []⟩, false, []⟩,
 ⟨16, ⟨(some 19), .bin .gtr (.t 18) (.c (.i .i64 1099511627776)), (some (16, false)), []⟩, false, []⟩,
 ⟨17, ⟨(some 20), .pick (.t 16) (.c (.b true)) (.t 19), none, []⟩, false, []⟩,
 ⟨18, ⟨(some 21), .mv (.t 20), none, []⟩, false, []⟩,
 ⟨19, ⟨(some 22), .load (some 7) (.t 1), (some (21, false)), []⟩, false, []⟩,
 ⟨20, ⟨(some 23), .load (some 7) (.t 1), (some (21, false)), []⟩, false, []⟩,
 ⟨21, ⟨(some 24), .call 227 [(.t 23)], (some (21, false)), []⟩, true, [19]⟩,
 ⟨22, ⟨(some 25), .call 143 [(.t 22), (.t 24)], (some (21, false)), []⟩, true, []⟩,
 ⟨23, ⟨(some 26), .un .not (.t 25), (some (21, false)), []⟩, false, []⟩,
 ⟨24, ⟨(some 27), .pick (.t 21) (.c (.b true)) (.t 26), none, []⟩, false, []⟩] [3, 4, 5, 6, 7, 8, 9, 10, 11, 12, 13, 14, 15, 16, 17, 18, 19, 20, 21, 22, 23, 24, 25, 26])
 (.cond (.t 27) (.seq (.reg [⟨(some 2), .asg (.c (.b false)), none, []⟩])
 .ret)
 .skip))
 (.seq (.seq (.reg [⟨(some 28), .faddr 2 (.t 1), none, []⟩,
 ⟨(some 29), .load none (.t 28), none, [28]⟩])
 (.blk 0 (.seq (.reg [⟨(some 31), .bin .eql (.t 29) (.c (.i .i64 1)), none, []⟩,
 ⟨(some 30), .asg (.t 31), none, [31]⟩])
 (.cond (.t 30) (.seq (.reg [⟨(some 32), .faddr 3 (.t 1), none, [1]⟩,
 ⟨(some 33), .load none (.t 32), none, [32]⟩,
 ⟨(some 34), .call 228 [(.t 33)], none, [33]⟩,
 ⟨(some 2), .asg (.t 34), none, [34]⟩])
 .ret)
 (.seq (.reg [⟨(some 36), .bin .eql (.t 29) (.c (.i .i64 2)), none, []⟩,
 ⟨(some 35), .asg (.t 36), none, [36]⟩])
 (.cond (.t 35) (.seq (.reg [⟨(some 2), .asg (.c (.b true)), none, []⟩])
 .ret)
 (.seq (.reg [⟨(some 38), .bin .eql (.t 29) (.c (.i .i64 3)), none, []⟩,
 ⟨(some 37), .asg (.t 38), none, [38]⟩])
 (.cond (.t 37) (.seq (.reg [⟨(some 39), .faddr 4 (.t 1), none, [1]⟩,
 ⟨(some 40), .load none (.t 39), none, [39]⟩,
 ⟨(some 41), .call 229 [(.t 40)], none, [40]⟩,
 ⟨(some 2), .asg (.t 41), none, [41]⟩])
 .ret)
 (.seq (.reg [⟨(some 43), .bin .eql (.t 29) (.c (.i .i64 4)), none, [29]⟩,
 ⟨(some 42), .asg (.t 43), none, [43]⟩])
 (.cond (.t 42) (.seq (.reg [⟨(some 44), .faddr 5 (.t 1), none, [1]⟩,
 ⟨(some 45), .load (some 2) (.t 44), none, [44]⟩,
 ⟨(some 46), .call 230 [(.t 45)], none, [45]⟩,
 ⟨(some 2), .asg (.t 46), none, [46]⟩])
 .ret)
 .skip))))))))))
 (.seq (.reg [⟨(some 2), .asg (.c (.b false)), none, []⟩])
 .ret)))), [.t 2]⟩
/-- ( interrex/wire.Writer).Text -/
def f188 : AFn := ⟨2, (.seq (.reg [⟨(some 4), .mv (.t 0), none, []⟩,
 ⟨(some 5), .mv (.t 1), none, []⟩,
 ⟨(some 6), .lenS (.t 5), none, [5]⟩,
 ⟨(some 7), .call 80 [(.t 4), (.t 6), (.c (.i .i64 2))], none, [4, 6, 7]⟩])
 (.reg [⟨(some 8), .mv (.t 0), none, []⟩,
 ⟨(some 9), .mv (.t 0), none, [0]⟩,
 ⟨(some 10), .nilc (.t 9), none, [9]⟩,
 ⟨(some 11), .faddr 297 (.t 10), none, [10]⟩,
 ⟨(some 12), .load none (.t 11), none, [11]⟩,
 ⟨(some 13), .mv (.t 1), none, [1]⟩,
 ⟨(some 14), .append (.im true) 1 1 (.t 12) (.t 13), none, [12, 13]⟩,
 ⟨(some 15), .nilc (.t 8), none, [8]⟩,
 ⟨(some 16), .faddr 297 (.t 15), none, [15]⟩,
 ⟨none, .store 1 (.t 16) (.t 14), none, [16, 14]⟩])), []⟩
/-- ( interrex/store.Store).List -/
def f189 : AFn := ⟨1, (.seq (.reg [⟨(some 2), .asg (.c .nils), none, [2]⟩])
 (.seq (.seq (.reg [⟨(some 6), .mv (.t 0), none, []⟩,
 ⟨(some 7), .eqn false (.t 6) (.c .nilp), none, [6]⟩])
 (.cond (.t 7) (.seq (.reg [⟨(some 2), .asg (.c .nils), none, []⟩])
 .ret)
 .skip))
 (.seq (.reg [⟨(some 8), .mv (.t 0), none, []⟩,
 ⟨(some 9), .nilc (.t 8), none, [8]⟩,
 ⟨(some 10), .faddr 4 (.t 9), none, [9]⟩,
 ⟨(some 11), .call 62 [(.t 10), (.c (.i .i64 1))], none, [10, 11]⟩])
 (.seq (.reg [⟨(some 3), .asg (.c .nils), none, []⟩])
 (.seq (.seq (.reg [⟨(some 12), .mv (.t 0), none, []⟩,
 ⟨(some 13), .nilc (.t 12), none, [12]⟩,
 ⟨(some 14), .faddr 1 (.t 13), none, [13]⟩,
 ⟨(some 15), .load none (.t 14), none, [14]⟩,
 ⟨(some 16), .call 77 [(.t 15)], none, [15]⟩,
 ⟨(some 17), .call 76 [(.t 16)], none, [16]⟩,
 ⟨(some 18), .lenL (.t 17), none, []⟩,
 ⟨(some 19), .mv (.c (.i .i64 0)), none, []⟩])
 (.blk 0 (.loop (.seq (.reg [⟨(some 20), .bin .lss (.t 19) (.t 18), none, []⟩])
 (.seq (.cond (.t 20) .skip
 (.exit 0))
 (.seq (.blk 1 (.seq (.reg [⟨(some 21), .iasl 1 (.t 17) (.t 19), none, []⟩,
 ⟨(some 22), .load none (.t 21), none, [21]⟩,
 ⟨(some 5), .asg (.t 22), none, [22]⟩])
 (.reg [⟨(some 23), .mv (.t 3), none, [3]⟩,
 ⟨(some 24), .mv (.t 0), none, []⟩,
 ⟨(some 25), .nilc (.t 24), none, [24]⟩,
 ⟨(some 26), .faddr 1 (.t 25), none, [25]⟩,
 ⟨(some 27), .load none (.t 26), none, [26]⟩,
 ⟨(some 28), .mv (.t 5), none, [5]⟩,
 ⟨(some 29), .lkp none (.agg [(.s []), (.i .i64 0), .nils]) (.t 27) (.t 28) false, none, [27, 28]⟩,
 ⟨(some 30), .call 64 [(.t 29)], none, [29]⟩,
 ⟨(some 31), .bsl (.im false) 3 1 [(.s []), (.i .i64 0), .nils] [(0, (.t 30))], none, [30]⟩,
 ⟨(some 32), .append (.im false) 3 48 (.t 23) (.t 31), none, [23, 31]⟩,
 ⟨(some 3), .asg (.t 32), none, [32]⟩])))
 (.reg [⟨(some 33), .bin .add (.t 19) (.c (.i .i64 1)), none, [19]⟩,
 ⟨(some 19), .mv (.t 33), none, [33]⟩])))))))
 (.seq (.reg [⟨(some 34), .mv (.t 3), none, [3]⟩,
 ⟨(some 2), .asg (.t 34), none, [34]⟩])
 .ret)))))), [.t 2]⟩
/-- ( interrex/store.Store).Watch -/
def f190 : AFn := ⟨2, (.seq (.reg [⟨(some 4), .asg (.c .nils), none, [4]⟩,
 ⟨(some 5), .asg (.c (.i .i64 0)), none, [5]⟩])
 (.seq (.seq (.reg [⟨(some 6), .mv (.t 0), none, []⟩,
 ⟨(some 7), .eqn false (.t 6) (.c .nilp), none, [6]⟩])
 (.cond (.t 7) (.seq (.reg [⟨(some 4), .asg (.c .nils), none, []⟩,
 ⟨(some 5), .asg (.c (.i .i64 9)), none, []⟩])
 .ret)
 .skip))
 (.seq (.reg [⟨(some 8), .mv (.t 0), none, []⟩,
 ⟨(some 9), .nilc (.t 8), none, [8]⟩,
 ⟨(some 10), .faddr 4 (.t 9), none, [9]⟩,
 ⟨(some 11), .call 62 [(.t 10), (.c (.i .i64 1))], none, [10, 11]⟩])
 (.seq (.reg [⟨(some 12), .mv (.t 0), none, [0]⟩,
 ⟨(some 13), .nilc (.t 12), none, [12]⟩,
 ⟨(some 14), .faddr 3 (.t 13), none, [13]⟩,
 ⟨(some 15), .load none (.t 14), none, [14]⟩,
 ⟨(some 16), .mv (.t 1), none, [1]⟩,
 ⟨(some 17), .call 136 [(.t 15), (.t 16)], none, [15, 16]⟩,
 ⟨(some 18), .ext (.t 17) 0, none, []⟩,
 ⟨(some 19), .ext (.t 17) 1, none, [17]⟩,
 ⟨(some 4), .asg (.t 18), none, [18]⟩,
 ⟨(some 5), .asg (.t 19), none, [19]⟩])
 .ret)))), [.t 4, .t 5]⟩
/-- ( interrex/store.Store).Rev -/
def f191 : AFn := ⟨1, (.seq (.reg [⟨(some 2), .asg (.c (.i .i64 0)), none, [2]⟩])
 (.seq (.seq (.reg [⟨(some 3), .mv (.t 0), none, []⟩,
 ⟨(some 4), .eqn false (.t 3) (.c .nilp), none, [3]⟩])
 (.cond (.t 4) (.seq (.reg [⟨(some 2), .asg (.c (.i .i64 0)), none, []⟩])
 .ret)
 .skip))
 (.seq (.reg [⟨(some 5), .mv (.t 0), none, [0]⟩,
 ⟨(some 6), .nilc (.t 5), none, [5]⟩,
 ⟨(some 7), .faddr 0 (.t 6), none, [6]⟩,
 ⟨(some 8), .load none (.t 7), none, [7]⟩,
 ⟨(some 2), .asg (.t 8), none, [8]⟩])
 .ret))), [.t 2]⟩
/-- interrex/reply.May -/
def f192 : AFn := ⟨1, (.seq (.reg [⟨(some 1), .box false (.t 0), none, [0]⟩,
 ⟨(some 2), .asg (.c (.b false)), none, [2]⟩])
 (.seq (.seq (.reg [⟨(some 4), .faddr 0 (.t 1), none, []⟩,
 ⟨(some 5), .load none (.t 4), none, [4]⟩,
 ⟨(some 6), .bin .lss (.t 5) (.c (.i .i64 0)), none, [5]⟩,
 ⟨(some 7), .mv (.t 6), none, [6]⟩,
 ⟨(some 8), .faddr 0 (.t 1), (some (7, false)), []⟩,
 ⟨(some 9), .load none (.t 8), (some (7, false)), [8]⟩,
 ⟨(some 10), .bin .gtr (.t 9) (.c (.i .i64 7)), (some (7, false)), [9]⟩,
 ⟨(some 11), .pick (.t 7) (.c (.b true)) (.t 10), none, [7, 10]⟩,
 ⟨(some 12), .mv (.t 11), none, [11]⟩,
 ⟨(some 13), .faddr 1 (.t 1), (some (12, false)), []⟩,
 ⟨(some 14), .load none (.t 13), (some (12, false)), [13]⟩,
 ⟨(some 15), .bin .lss (.t 14) (.c (.i .i64 1)), (some (12, false)), [14]⟩,
 ⟨(some 16), .pick (.t 12) (.c (.b true)) (.t 15), none, [12, 15]⟩,
 ⟨(some 17), .mv (.t 16), none, [16]⟩,
 ⟨(some 18), .faddr 1 (.t 1), (some (17, false)), []⟩,
 ⟨(some 19), .load none (.t 18), (some (17, false)), [18]⟩,
 ⟨(some 20), .bin .gtr (.t 19) (.c (.i .i64 1099511627776)), (some (17, false)), [19]⟩,
 ⟨(some 21), .pick (.t 17) (.c (.b true)) (.t 20), none, [17, 20]⟩,
 ⟨(some 22), .mv (.t 21), none, [21]⟩,
 ⟨(some 23), .faddr 2 (.t 1), (some (22, false)), []⟩,
 ⟨(some 24), .load none (.t 23), (some (22, false)), [23]⟩,
 ⟨(some 25), .bin .lss (.t 24) (.c (.i .i64 1)), (some (22, false)), [24]⟩,
 ⟨(some 26), .pick (.t 22) (.c (.b true)) (.t 25), none, [22, 25]⟩,
 ⟨(some 27), .mv (.t 26), none, [26]⟩,
 ⟨(some 28), .faddr 2 (.t 1), (some (27, false)), []⟩,
 ⟨(some 29), .load none (.t 28), (some (27, false)), [28]⟩,
 ⟨(some 30), .bin .gtr (.t 29) (.c (.i .i64 4)), (some (27, false)), [29]⟩,
 ⟨(some 31), .pick (.t 27) (.c (.b true)) (.t 30), none, [27, 30]⟩,
 ⟨(some 32), .mv (.t 31), none, [31]⟩,
 ⟨(some 33), .faddr 3 (.t 1), (some (32, false)), []⟩,
 ⟨(some 34), .load none (.t 33), (some (32, false)), [33]⟩,
 ⟨(some 35), .bin .lss (.t 34) (.c (.i .i64 0)), (some (32, false)), [34]⟩,
 ⟨(some 36), .pick (.t 32) (.c (.b true)) (.t 35), none, [32, 35]⟩,
 ⟨(some 37), .mv (.t 36), none, [36]⟩,
 ⟨(some 38), .faddr 3 (.t 1), (some (37, false)), []⟩,
 ⟨(some 39), .load none (.t 38), (some (37, false)), [38]⟩,
 ⟨(some 40), .bin .gtr (.t 39) (.c (.i .i64 9)), (some (37, false)), [39]⟩,
 ⟨(some 41), .pick (.t 37) (.c (.b true)) (.t 40), none, [37, 40]⟩,
 ⟨(some 42), .mv (.t 41), none, [41]⟩,
 ⟨(some 43), .faddr 4 (.t 1), (some (42, false)), []⟩,
 ⟨(some 44), .load none (.t 43), (some (42, false)), [43]⟩,
 ⟨(some 45), .bin .lss (.t 44) (.c (.i .i64 0)), (some (42, false)), [44]⟩,
 ⟨(some 46), .pick (.t 42) (.c (.b true)) (.t 45), none, [42, 45]⟩,
 ⟨(some 47), .mv (.t 46), none, [46]⟩,
 ⟨(some 48), .faddr 4 (.t 1), (some (47, false)), []⟩,
 ⟨(some 49), .load none (.t 48), (some (47, false)), [48]⟩,
 ⟨(some 50), .bin .gtr (.t 49) (.c (.i .i64 1099511627776)), (some (47, false)), [49]⟩,
 ⟨(some 51), .pick (.t 47) (.c (.b true)) (.t 50), none, [47, 50]⟩])
 (.cond (.t 51) (.seq (.reg [⟨(some 2), .asg (.c (.b false)), none, []⟩])
 .ret)
 .skip))
 (.seq (.reg [⟨(some 52), .faddr 5 (.t 1), none, []⟩,
 ⟨(some 53), .load none (.t 52), none, [52]⟩,
 ⟨(some 54), .call 231 [(.t 53), (.c (.fn 232 [] []))], none, [53]⟩,
 ⟨(some 3), .asg (.t 54), none, [54]⟩])
 (.seq (.reg [⟨(some 55), .mv (.t 3), none, [3]⟩,
 ⟨(some 56), .mv (.t 55), none, [55]⟩,
 ⟨(some 57), .faddr 6 (.t 1), (some (56, false)), []⟩,
 ⟨(some 58), .load none (.t 57), (some (56, false)), [57]⟩,
 ⟨(some 59), .call 234 [(.t 58), (.c (.fn 235 [] []))], (some (56, false)), [58]⟩,
 ⟨(some 60), .pick (.t 56) (.c (.b true)) (.t 59), none, [56, 59]⟩,
 ⟨(some 3), .asg (.t 60), none, [60]⟩])
 (.seq (.reg [⟨(some 61), .mv (.t 3), none, [3]⟩,
 ⟨(some 62), .un .not (.t 61), none, [61]⟩,
 ⟨(some 63), .mv (.t 62), none, [62]⟩,
 ⟨(some 64), .faddr 5 (.t 1), (some (63, true)), []⟩,
 ⟨(some 65), .load none (.t 64), (some (63, true)), [64]⟩,
 ⟨(some 66), .lenL (.t 65), (some (63, true)), [65]⟩,
 ⟨(some 67), .bin .leq (.t 66) (.c (.i .i64 100)), (some (63, true)), [66]⟩,
 ⟨(some 68), .pick (.t 63) (.t 67) (.c (.b false)), none, [63, 67]⟩,
 ⟨(some 69), .mv (.t 68), none, [68]⟩,
 ⟨(some 70), .faddr 6 (.t 1), (some (69, true)), [1]⟩,
 ⟨(some 71), .load none (.t 70), (some (69, true)), [70]⟩,
 ⟨(some 72), .lenL (.t 71), (some (69, true)), [71]⟩,
 ⟨(some 73), .bin .leq (.t 72) (.c (.i .i64 100)), (some (69, true)), [72]⟩,
 ⟨(some 74), .pick (.t 69) (.t 73) (.c (.b false)), none, [69, 73]⟩,
 ⟨(some 2), .asg (.t 74), none, [74]⟩])
 .ret))))), [.t 2]⟩
/-- interrex/interrexlaw1.begun -/
def f193 : AFn := ⟨0, (.seq (.reg [⟨(some 0), .asg (.c (.b false)), none, [0]⟩])
 (.seq (.reg [⟨(some 10), .bld [(.i .i64 0), (.i .i64 0), (.i .i64 0)] [(0, 1, (.c (.i .i64 1))), (1, 1, (.c (.i .i64 2))), (2, 1, (.c (.i .i64 3)))], none, []⟩,
 ⟨(some 11), .bld [(.i .i64 0), (.i .i64 0), (.i .i64 0)] [(0, 1, (.c (.i .i64 4))), (1, 1, (.c (.i .i64 5))), (2, 1, (.c (.i .i64 6)))], none, []⟩,
 ⟨(some 12), .bsl (.im false) 3 2 [(.i .i64 0), (.i .i64 0), (.i .i64 0)] [(0, (.t 10)), (1, (.t 11))], none, [10, 11]⟩,
 ⟨(some 13), .call 236 [(.t 12)], none, [12]⟩,
 ⟨(some 9), .mv (.t 13), none, [13]⟩,
 ⟨(some 14), .ext (.t 9) 0, none, []⟩,
 ⟨(some 15), .ext (.t 9) 1, none, [9]⟩,
 ⟨(some 1), .alloc false [(.i .i64 0), (.i .i64 0), (.i .i64 0)], none, []⟩,
 ⟨none, .store 3 (.t 1) (.t 14), none, [14]⟩,
 ⟨(some 2), .asg (.t 15), none, [15]⟩])
 (.seq (.reg [⟨(some 16), .call 48 [], none, []⟩,
 ⟨(some 3), .alloc false [(.s []), (.i .i64 0), (.i .i64 0), (.i .i64 0), (.i .i64 0), (.i .i64 0), .nils, .nils, .nils, .nils, (.s []), .nils, (.i .i64 0), .nils, (.s []), (.i .i64 0)], none, []⟩,
 ⟨none, .store 16 (.t 3) (.t 16), none, [16]⟩])
 (.seq (.reg [⟨(some 17), .load (some 16) (.t 3), none, []⟩,
 ⟨(some 18), .call 47 [(.t 17)], none, [17]⟩,
 ⟨(some 4), .asg (.t 18), none, [18]⟩])
 (.seq (.reg [⟨(some 20), .mv (.t 4), none, []⟩,
 ⟨(some 21), .call 84 [(.t 20)], none, [20]⟩,
 ⟨(some 19), .mv (.t 21), none, [21]⟩,
 ⟨(some 22), .ext (.t 19) 0, none, []⟩,
 ⟨(some 23), .ext (.t 19) 1, none, [19]⟩,
 ⟨(some 5), .alloc false [(.s []), (.i .i64 0), (.i .i64 0), (.i .i64 0), (.i .i64 0), (.i .i64 0), .nils, .nils, .nils, .nils, (.s []), .nils, (.i .i64 0), .nils, (.s []), (.i .i64 0)], none, []⟩,
 ⟨none, .store 16 (.t 5) (.t 22), none, [22]⟩,
 ⟨(some 6), .asg (.t 23), none, [23]⟩])
 (.seq (.reg [⟨(some 25), .bld [(.i .i64 0), (.i .i64 0)] [(0, 1, (.c (.i .i64 3))), (1, 1, (.c (.i .i64 1000)))], none, []⟩,
 ⟨(some 26), .call 44 [(.t 25)], none, [25]⟩,
 ⟨(some 27), .call 26 [(.t 26)], none, [26]⟩,
 ⟨(some 24), .mv (.t 27), none, [27]⟩,
 ⟨(some 28), .ext (.t 24) 0, none, []⟩,
 ⟨(some 29), .ext (.t 24) 1, none, [24]⟩,
 ⟨(some 7), .alloc false [(.i .i64 0), (.i .i64 0)], none, []⟩,
 ⟨none, .store 2 (.t 7) (.t 28), none, [28]⟩,
 ⟨(some 8), .asg (.t 29), none, [29]⟩])
 (.seq (.reg [⟨(some 30), .mv (.t 2), none, [2]⟩,
 ⟨(some 31), .mv (.t 30), none, [30]⟩,
 ⟨(some 32), .load (some 3) (.t 1), (some (31, true)), [1]⟩,
 ⟨(some 33), .bld [(.i .i64 0), (.i .i64 0), (.i .i64 0)] [(0, 1, (.c (.i .i64 5))), (1, 1, (.c (.i .i64 7))), (2, 1, (.c (.i .i64 9)))], (some (31, true)), []⟩,
 ⟨(some 34), .eqc true [.i, .i, .i] false (.t 32) (.t 33), (some (31, true)), [32, 33]⟩,
 ⟨(some 35), .pick (.t 31) (.t 34) (.c (.b false)), none, [31, 34]⟩,
 ⟨(some 36), .mv (.t 35), none, [35]⟩,
 ⟨(some 37), .call 237 [(.c (.i .i64 1)), (.c (.i .i64 3))], (some (36, true)), []⟩,
 ⟨(some 38), .bin .eql (.t 37) (.c (.i .i64 33)), (some (36, true)), [37]⟩,
 ⟨(some 39), .pick (.t 36) (.t 38) (.c (.b false)), none, [36, 38]⟩,
 ⟨(some 40), .mv (.t 39), none, [39]⟩,
 ⟨(some 41), .faddr 8 (.t 3), (some (40, true)), []⟩,
 ⟨(some 42), .load none (.t 41), (some (40, true)), [41]⟩,
 ⟨(some 43), .bld [(.s []), (.s [])] [(0, 1, (.c (.s [122, 111, 110, 101]))), (1, 1, (.c (.s [98])))], (some (40, true)), []⟩,
 ⟨(some 44), .bsl (.im false) 2 1 [(.s []), (.s [])] [(0, (.t 43))], (some (40, true)), [43]⟩,
 ⟨(some 45), .call 238 [(.t 42), (.t 44)], (some (40, true)), [42, 44]⟩,
 ⟨(some 46), .pick (.t 40) (.t 45) (.c (.b false)), none, [40, 45]⟩,
 ⟨(some 47), .mv (.t 46), none, [46]⟩,
 ⟨(some 48), .faddr 9 (.t 3), (some (47, true)), []⟩,
 ⟨(some 49), .load none (.t 48), (some (47, true)), [48]⟩,
 ⟨(some 50), .bld [(.s []), (.s [])] [(0, 1, (.c (.s [120]))), (1, 1, (.c (.s [121])))], (some (47, true)), []⟩,
 ⟨(some 51), .bsl (.im false) 2 1 [(.s []), (.s [])] [(0, (.t 50))], (some (47, true)), [50]⟩,
 ⟨(some 52), .call 239 [(.t 49), (.t 51)], (some (47, true)), [49, 51]⟩,
 ⟨(some 53), .pick (.t 47) (.t 52) (.c (.b false)), none, [47, 52]⟩,
 ⟨(some 54), .mv (.t 53), none, [53]⟩,
 ⟨(some 55), .load (some 16) (.t 3), (some (54, true)), []⟩,
 ⟨(some 56), .call 91 [(.t 55)], (some (54, true)), [55]⟩,
 ⟨(some 57), .pick (.t 54) (.t 56) (.c (.b false)), none, [54, 56]⟩,
 ⟨(some 58), .mv (.t 57), none, [57]⟩,
 ⟨(some 59), .mv (.t 6), (some (58, true)), [6]⟩,
 ⟨(some 60), .pick (.t 58) (.t 59) (.c (.b false)), none, [58, 59]⟩,
 ⟨(some 61), .mv (.t 60), none, [60]⟩,
 ⟨(some 62), .load (some 16) (.t 3), (some (61, true)), [3]⟩,
 ⟨(some 63), .load (some 16) (.t 5), (some (61, true)), [5]⟩,
 ⟨(some 64), .call 240 [(.t 62), (.t 63)], (some (61, true)), [62, 63]⟩,
 ⟨(some 65), .pick (.t 61) (.t 64) (.c (.b false)), none, [61, 64]⟩,
 ⟨(some 66), .mv (.t 65), none, [65]⟩,
 ⟨(some 67), .mv (.t 4), (some (66, true)), [4]⟩,
 ⟨(some 68), .lenL (.t 67), (some (66, true)), [67]⟩,
 ⟨(some 69), .bin .gtr (.t 68) (.c (.i .i64 0)), (some (66, true)), [68]⟩,
 ⟨(some 70), .pick (.t 66) (.t 69) (.c (.b false)), none, [66, 69]⟩,
 ⟨(some 71), .mv (.t 70), none, [70]⟩,
 ⟨(some 72), .mv (.t 8), (some (71, true)), [8]⟩,
 ⟨(some 73), .pick (.t 71) (.t 72) (.c (.b false)), none, [71, 72]⟩,
 ⟨(some 74), .mv (.t 73), none, [73]⟩,
 ⟨(some 75), .faddr 0 (.t 7), (some (74, true)), [7]⟩,
 ⟨(some 76), .load none (.t 75), (some (74, true)), [75]⟩,
 ⟨(some 77), .bin .eql (.t 76) (.c (.i .i64 3)), (some (74, true)), [76]⟩,
 ⟨(some 78), .pick (.t 74) (.t 77) (.c (.b false)), none, [74, 77]⟩,
 ⟨(some 79), .mv (.t 78), none, [78]⟩,
 ⟨(some 80), .call 61 [(.c (.i .i64 1)), (.c (.s [97]))], (some (79, true)), []⟩,
 ⟨(some 81), .bin .eql (.t 80) (.c (.s [112, 47, 97])), (some (79, true)), [80]⟩,
 ⟨(some 82), .pick (.t 79) (.t 81) (.c (.b false)), none, [79, 81]⟩,
 ⟨(some 83), .mv (.t 82), none, [82]⟩,
 ⟨(some 84), .call 83 [(.c (.s [110, 47, 98]))], (some (83, true)), []⟩,
 ⟨(some 85), .bin .eql (.t 84) (.c (.i .i64 2)), (some (83, true)), [84]⟩,
 ⟨(some 86), .pick (.t 83) (.t 85) (.c (.b false)), none, [83, 85]⟩,
 ⟨(some 0), .asg (.t 86), none, [86]⟩])
 .ret))))))), [.t 0]⟩
/-- slices.Equal   interrex/api.Guard interrex/api.Guard  -/
def f194 : AFn := ⟨2, (.seq (.reg [⟨(some 4), .asg (.c (.b false)), none, [4]⟩])
 (.seq (.seq (.reg [⟨(some 6), .mv (.t 0), none, []⟩,
 ⟨(some 7), .lenL (.t 6), none, [6]⟩,
 ⟨(some 8), .mv (.t 1), none, []⟩,
 ⟨(some 9), .lenL (.t 8), none, [8]⟩,
 ⟨(some 10), .bin .neq (.t 7) (.t 9), none, [7, 9]⟩])
 (.cond (.t 10) (.seq (.reg [⟨(some 4), .asg (.c (.b false)), none, []⟩])
 .ret)
 .skip))
 (.seq (.seq (.reg [⟨(some 11), .mv (.t 0), none, []⟩,
 ⟨(some 12), .lenL (.t 11), none, [11]⟩,
 ⟨(some 13), .mv (.c (.i .i64 0)), none, []⟩])
 (.blk 0 (.loop (.seq (.reg [⟨(some 14), .bin .lss (.t 13) (.t 12), none, []⟩])
 (.seq (.cond (.t 14) .skip
 (.exit 0))
 (.seq (.blk 1 (.seq (.reg [⟨(some 15), .mv (.t 13), none, []⟩,
 ⟨(some 5), .asg (.t 15), none, [15]⟩])
 (.seq (.dreg [⟨0, ⟨(some 16), .mv (.t 0), none, []⟩, false, []⟩,
 ⟨1, ⟨(some 17), .mv (.t 5), none, []⟩, false, []⟩,
 ⟨2, ⟨(some 18), .iasl 3 (.t 16) (.t 17), none, []⟩, false, []⟩,
 ⟨3, ⟨(some 19), .load (some 3) (.t 18), none, []⟩, false, []⟩,
 ⟨4, ⟨(some 20), .mv (.t 1), none, []⟩, false, []⟩,
 ⟨5, ⟨(some 21), .mv (.t 5), none, []⟩, false, []⟩,
 ⟨6, ⟨(some 22), .iasl 3 (.t 20) (.t 21), none, []⟩, false, []⟩,
 ⟨7, ⟨(some 23), .load (some 3) (.t 22), none, []⟩, false, []⟩,
 ⟨8, ⟨(some 24), .eqc true [.s, .i, .b] true (.t 19) (.t 23), none, []⟩, false, []⟩] [16, 5, 17, 18, 19, 20, 21, 22, 23])
 (.cond (.t 24) (.seq (.reg [⟨(some 4), .asg (.c (.b false)), none, []⟩])
 .ret)
 .skip))))
 (.reg [⟨(some 25), .bin .add (.t 13) (.c (.i .i64 1)), none, [13]⟩,
 ⟨(some 13), .mv (.t 25), none, [25]⟩])))))))
 (.seq (.reg [⟨(some 4), .asg (.c (.b true)), none, []⟩])
 .ret)))), [.t 4]⟩
/-- slices.EqualFunc   interrex/api.Write   interrex/api.Write interrex/api.Write interrex/api.Write  -/
def f195 : AFn := ⟨3, (.seq (.reg [⟨(some 6), .asg (.c (.b false)), none, [6]⟩])
 (.seq (.seq (.reg [⟨(some 10), .mv (.t 0), none, []⟩,
 ⟨(some 11), .lenL (.t 10), none, [10]⟩,
 ⟨(some 12), .mv (.t 1), none, []⟩,
 ⟨(some 13), .lenL (.t 12), none, [12]⟩,
 ⟨(some 14), .bin .neq (.t 11) (.t 13), none, [11, 13]⟩])
 (.cond (.t 14) (.seq (.reg [⟨(some 6), .asg (.c (.b false)), none, []⟩])
 .ret)
 .skip))
 (.seq (.seq (.reg [⟨(some 15), .mv (.t 0), none, [0]⟩,
 ⟨(some 16), .lenL (.t 15), none, []⟩,
 ⟨(some 17), .mv (.c (.i .i64 0)), none, []⟩])
 (.blk 0 (.loop (.seq (.reg [⟨(some 18), .bin .lss (.t 17) (.t 16), none, []⟩])
 (.seq (.cond (.t 18) .skip
 (.exit 0))
 (.seq (.blk 1 (.seq (.reg [⟨(some 19), .mv (.t 17), none, []⟩,
 ⟨(some 20), .iasl 3 (.t 15) (.t 17), none, []⟩,
 ⟨(some 21), .load (some 3) (.t 20), none, [20]⟩,
 ⟨(some 8), .alloc false [(.s []), .nils, (.b false)], none, []⟩,
 ⟨(some 7), .asg (.t 19), none, [19]⟩,
 ⟨none, .store 3 (.t 8) (.t 21), none, [21]⟩])
 (.seq (.reg [⟨(some 22), .mv (.t 1), none, []⟩,
 ⟨(some 23), .mv (.t 7), none, [7]⟩,
 ⟨(some 24), .iasl 3 (.t 22) (.t 23), none, [22, 23]⟩,
 ⟨(some 25), .load (some 3) (.t 24), none, [24]⟩,
 ⟨(some 9), .alloc false [(.s []), .nils, (.b false)], none, []⟩,
 ⟨none, .store 3 (.t 9) (.t 25), none, [25]⟩])
 (.seq (.reg [⟨(some 26), .mv (.t 2), none, []⟩,
 ⟨(some 27), .load (some 3) (.t 8), none, [8]⟩,
 ⟨(some 28), .load (some 3) (.t 9), none, [9]⟩,
 ⟨(some 29), .callv (.t 26) [(.t 27), (.t 28)], none, [26, 27, 28]⟩,
 ⟨(some 30), .un .not (.t 29), none, [29]⟩])
 (.cond (.t 30) (.seq (.reg [⟨(some 6), .asg (.c (.b false)), none, []⟩])
 .ret)
 .skip)))))
 (.reg [⟨(some 31), .bin .add (.t 17) (.c (.i .i64 1)), none, [17]⟩,
 ⟨(some 17), .mv (.t 31), none, [31]⟩])))))))
 (.seq (.reg [⟨(some 6), .asg (.c (.b true)), none, []⟩])
 .ret)))), [.t 6]⟩
/-- interrex/call.Eq 1 -/
def f196 : AFn := ⟨2, (.seq (.reg [⟨(some 2), .box false (.t 0), none, [0]⟩,
 ⟨(some 3), .box false (.t 1), none, [1]⟩,
 ⟨(some 4), .asg (.c (.b false)), none, [4]⟩])
 (.seq (.reg [⟨(some 5), .faddr 0 (.t 2), none, []⟩,
 ⟨(some 6), .load none (.t 5), none, [5]⟩,
 ⟨(some 7), .faddr 0 (.t 3), none, []⟩,
 ⟨(some 8), .load none (.t 7), none, [7]⟩,
 ⟨(some 9), .bin .eql (.t 6) (.t 8), none, [6, 8]⟩,
 ⟨(some 10), .mv (.t 9), none, [9]⟩,
 ⟨(some 11), .faddr 1 (.t 2), (some (10, true)), []⟩,
 ⟨(some 12), .load none (.t 11), (some (10, true)), [11]⟩,
 ⟨(some 13), .faddr 1 (.t 3), (some (10, true)), []⟩,
 ⟨(some 14), .load none (.t 13), (some (10, true)), [13]⟩,
 ⟨(some 15), .call 70 [(.t 12), (.t 14)], (some (10, true)), [12, 14]⟩,
 ⟨(some 16), .pick (.t 10) (.t 15) (.c (.b false)), none, [10, 15]⟩,
 ⟨(some 17), .mv (.t 16), none, [16]⟩,
 ⟨(some 18), .faddr 2 (.t 2), (some (17, true)), [2]⟩,
 ⟨(some 19), .load none (.t 18), (some (17, true)), [18]⟩,
 ⟨(some 20), .faddr 2 (.t 3), (some (17, true)), [3]⟩,
 ⟨(some 21), .load none (.t 20), (some (17, true)), [20]⟩,
 ⟨(some 22), .eqc false [.b] false (.t 19) (.t 21), (some (17, true)), [19, 21]⟩,
 ⟨(some 23), .pick (.t 17) (.t 22) (.c (.b false)), none, [17, 22]⟩,
 ⟨(some 4), .asg (.t 23), none, [23]⟩])
 .ret)), [.t 4]⟩
/-- slices.EqualFunc   interrex/api.Entry   interrex/api.Entry interrex/api.Entry interrex/api.Entry  -/
def f197 : AFn := ⟨3, (.seq (.reg [⟨(some 6), .asg (.c (.b false)), none, [6]⟩])
 (.seq (.seq (.reg [⟨(some 10), .mv (.t 0), none, []⟩,
 ⟨(some 11), .lenL (.t 10), none, [10]⟩,
 ⟨(some 12), .mv (.t 1), none, []⟩,
 ⟨(some 13), .lenL (.t 12), none, [12]⟩,
 ⟨(some 14), .bin .neq (.t 11) (.t 13), none, [11, 13]⟩])
 (.cond (.t 14) (.seq (.reg [⟨(some 6), .asg (.c (.b false)), none, []⟩])
 .ret)
 .skip))
 (.seq (.seq (.reg [⟨(some 15), .mv (.t 0), none, [0]⟩,
 ⟨(some 16), .lenL (.t 15), none, []⟩,
 ⟨(some 17), .mv (.c (.i .i64 0)), none, []⟩])
 (.blk 0 (.loop (.seq (.reg [⟨(some 18), .bin .lss (.t 17) (.t 16), none, []⟩])
 (.seq (.cond (.t 18) .skip
 (.exit 0))
 (.seq (.blk 1 (.seq (.reg [⟨(some 19), .mv (.t 17), none, []⟩,
 ⟨(some 20), .iasl 3 (.t 15) (.t 17), none, []⟩,
 ⟨(some 21), .load (some 3) (.t 20), none, [20]⟩,
 ⟨(some 8), .alloc false [(.s []), (.i .i64 0), .nils], none, []⟩,
 ⟨(some 7), .asg (.t 19), none, [19]⟩,
 ⟨none, .store 3 (.t 8) (.t 21), none, [21]⟩])
 (.seq (.reg [⟨(some 22), .mv (.t 1), none, []⟩,
 ⟨(some 23), .mv (.t 7), none, [7]⟩,
 ⟨(some 24), .iasl 3 (.t 22) (.t 23), none, [22, 23]⟩,
 ⟨(some 25), .load (some 3) (.t 24), none, [24]⟩,
 ⟨(some 9), .alloc false [(.s []), (.i .i64 0), .nils], none, []⟩,
 ⟨none, .store 3 (.t 9) (.t 25), none, [25]⟩])
 (.seq (.reg [⟨(some 26), .mv (.t 2), none, []⟩,
 ⟨(some 27), .load (some 3) (.t 8), none, [8]⟩,
 ⟨(some 28), .load (some 3) (.t 9), none, [9]⟩,
 ⟨(some 29), .callv (.t 26) [(.t 27), (.t 28)], none, [26, 27, 28]⟩,
 ⟨(some 30), .un .not (.t 29), none, [29]⟩])
 (.cond (.t 30) (.seq (.reg [⟨(some 6), .asg (.c (.b false)), none, []⟩])
 .ret)
 .skip)))))
 (.reg [⟨(some 31), .bin .add (.t 17) (.c (.i .i64 1)), none, [17]⟩,
 ⟨(some 17), .mv (.t 31), none, [31]⟩])))))))
 (.seq (.reg [⟨(some 6), .asg (.c (.b true)), none, []⟩])
 .ret)))), [.t 6]⟩
/-- interrex/reply.Eq 1 -/
def f198 : AFn := ⟨2, (.seq (.reg [⟨(some 2), .box false (.t 0), none, [0]⟩,
 ⟨(some 3), .box false (.t 1), none, [1]⟩,
 ⟨(some 4), .asg (.c (.b false)), none, [4]⟩])
 (.seq (.reg [⟨(some 5), .faddr 0 (.t 2), none, []⟩,
 ⟨(some 6), .load none (.t 5), none, [5]⟩,
 ⟨(some 7), .faddr 0 (.t 3), none, []⟩,
 ⟨(some 8), .load none (.t 7), none, [7]⟩,
 ⟨(some 9), .bin .eql (.t 6) (.t 8), none, [6, 8]⟩,
 ⟨(some 10), .mv (.t 9), none, [9]⟩,
 ⟨(some 11), .faddr 1 (.t 2), (some (10, true)), []⟩,
 ⟨(some 12), .load none (.t 11), (some (10, true)), [11]⟩,
 ⟨(some 13), .faddr 1 (.t 3), (some (10, true)), []⟩,
 ⟨(some 14), .load none (.t 13), (some (10, true)), [13]⟩,
 ⟨(some 15), .bin .eql (.t 12) (.t 14), (some (10, true)), [12, 14]⟩,
 ⟨(some 16), .pick (.t 10) (.t 15) (.c (.b false)), none, [10, 15]⟩,
 ⟨(some 17), .mv (.t 16), none, [16]⟩,
 ⟨(some 18), .faddr 2 (.t 2), (some (17, true)), [2]⟩,
 ⟨(some 19), .load none (.t 18), (some (17, true)), [18]⟩,
 ⟨(some 20), .faddr 2 (.t 3), (some (17, true)), [3]⟩,
 ⟨(some 21), .load none (.t 20), (some (17, true)), [20]⟩,
 ⟨(some 22), .call 70 [(.t 19), (.t 21)], (some (17, true)), [19, 21]⟩,
 ⟨(some 23), .pick (.t 17) (.t 22) (.c (.b false)), none, [17, 22]⟩,
 ⟨(some 4), .asg (.t 23), none, [23]⟩])
 .ret)), [.t 4]⟩
/-- slices.EqualFunc   interrex/api.Event   interrex/api.Event interrex/api.Event interrex/api.Event  -/
def f199 : AFn := ⟨3, (.seq (.reg [⟨(some 6), .asg (.c (.b false)), none, [6]⟩])
 (.seq (.seq (.reg [⟨(some 10), .mv (.t 0), none, []⟩,
 ⟨(some 11), .lenL (.t 10), none, [10]⟩,
 ⟨(some 12), .mv (.t 1), none, []⟩,
 ⟨(some 13), .lenL (.t 12), none, [12]⟩,
 ⟨(some 14), .bin .neq (.t 11) (.t 13), none, [11, 13]⟩])
 (.cond (.t 14) (.seq (.reg [⟨(some 6), .asg (.c (.b false)), none, []⟩])
 .ret)
 .skip))
 (.seq (.seq (.reg [⟨(some 15), .mv (.t 0), none, [0]⟩,
 ⟨(some 16), .lenL (.t 15), none, []⟩,
 ⟨(some 17), .mv (.c (.i .i64 0)), none, []⟩])
 (.blk 0 (.loop (.seq (.reg [⟨(some 18), .bin .lss (.t 17) (.t 16), none, []⟩])
 (.seq (.cond (.t 18) .skip
 (.exit 0))
 (.seq (.blk 1 (.seq (.reg [⟨(some 19), .mv (.t 17), none, []⟩,
 ⟨(some 20), .iasl 4 (.t 15) (.t 17), none, []⟩,
 ⟨(some 21), .load (some 4) (.t 20), none, [20]⟩,
 ⟨(some 8), .alloc false [(.i .i64 0), (.s []), .nils, (.b false)], none, []⟩,
 ⟨(some 7), .asg (.t 19), none, [19]⟩,
 ⟨none, .store 4 (.t 8) (.t 21), none, [21]⟩])
 (.seq (.reg [⟨(some 22), .mv (.t 1), none, []⟩,
 ⟨(some 23), .mv (.t 7), none, [7]⟩,
 ⟨(some 24), .iasl 4 (.t 22) (.t 23), none, [22, 23]⟩,
 ⟨(some 25), .load (some 4) (.t 24), none, [24]⟩,
 ⟨(some 9), .alloc false [(.i .i64 0), (.s []), .nils, (.b false)], none, []⟩,
 ⟨none, .store 4 (.t 9) (.t 25), none, [25]⟩])
 (.seq (.reg [⟨(some 26), .mv (.t 2), none, []⟩,
 ⟨(some 27), .load (some 4) (.t 8), none, [8]⟩,
 ⟨(some 28), .load (some 4) (.t 9), none, [9]⟩,
 ⟨(some 29), .callv (.t 26) [(.t 27), (.t 28)], none, [26, 27, 28]⟩,
 ⟨(some 30), .un .not (.t 29), none, [29]⟩])
 (.cond (.t 30) (.seq (.reg [⟨(some 6), .asg (.c (.b false)), none, []⟩])
 .ret)
 .skip)))))
 (.reg [⟨(some 31), .bin .add (.t 17) (.c (.i .i64 1)), none, [17]⟩,
 ⟨(some 17), .mv (.t 31), none, [31]⟩])))))))
 (.seq (.reg [⟨(some 6), .asg (.c (.b true)), none, []⟩])
 .ret)))), [.t 6]⟩
/-- interrex/reply.Eq 2 -/
def f200 : AFn := ⟨2, (.seq (.reg [⟨(some 2), .box false (.t 0), none, [0]⟩,
 ⟨(some 3), .box false (.t 1), none, [1]⟩,
 ⟨(some 4), .asg (.c (.b false)), none, [4]⟩])
 (.seq (.reg [⟨(some 5), .faddr 1 (.t 2), none, []⟩,
 ⟨(some 6), .load none (.t 5), none, [5]⟩,
 ⟨(some 7), .faddr 1 (.t 3), none, []⟩,
 ⟨(some 8), .load none (.t 7), none, [7]⟩,
 ⟨(some 9), .bin .eql (.t 6) (.t 8), none, [6, 8]⟩,
 ⟨(some 10), .mv (.t 9), none, [9]⟩,
 ⟨(some 11), .faddr 0 (.t 2), (some (10, true)), []⟩,
 ⟨(some 12), .load none (.t 11), (some (10, true)), [11]⟩,
 ⟨(some 13), .faddr 0 (.t 3), (some (10, true)), []⟩,
 ⟨(some 14), .load none (.t 13), (some (10, true)), [13]⟩,
 ⟨(some 15), .bin .eql (.t 12) (.t 14), (some (10, true)), [12, 14]⟩,
 ⟨(some 16), .pick (.t 10) (.t 15) (.c (.b false)), none, [10, 15]⟩,
 ⟨(some 17), .mv (.t 16), none, [16]⟩,
 ⟨(some 18), .faddr 2 (.t 2), (some (17, true)), []⟩,
 ⟨(some 19), .load none (.t 18), (some (17, true)), [18]⟩,
 ⟨(some 20), .faddr 2 (.t 3), (some (17, true)), []⟩,
 ⟨(some 21), .load none (.t 20), (some (17, true)), [20]⟩,
 ⟨(some 22), .call 70 [(.t 19), (.t 21)], (some (17, true)), [19, 21]⟩,
 ⟨(some 23), .pick (.t 17) (.t 22) (.c (.b false)), none, [17, 22]⟩,
 ⟨(some 24), .mv (.t 23), none, [23]⟩,
 ⟨(some 25), .faddr 3 (.t 2), (some (24, true)), [2]⟩,
 ⟨(some 26), .load none (.t 25), (some (24, true)), [25]⟩,
 ⟨(some 27), .faddr 3 (.t 3), (some (24, true)), [3]⟩,
 ⟨(some 28), .load none (.t 27), (some (24, true)), [27]⟩,
 ⟨(some 29), .eqc false [.b] false (.t 26) (.t 28), (some (24, true)), [26, 28]⟩,
 ⟨(some 30), .pick (.t 24) (.t 29) (.c (.b false)), none, [24, 29]⟩,
 ⟨(some 4), .asg (.t 30), none, [30]⟩])
 .ret)), [.t 4]⟩
/-- internal/stringslite.HasPrefix -/
def f201 : AFn := ⟨2, (.seq (.reg [⟨(some 4), .asg (.c (.b false)), none, [4]⟩])
 (.seq (.reg [⟨(some 5), .mv (.t 0), none, []⟩,
 ⟨(some 6), .lenS (.t 5), none, [5]⟩,
 ⟨(some 7), .mv (.t 1), none, []⟩,
 ⟨(some 8), .lenS (.t 7), none, [7]⟩,
 ⟨(some 9), .bin .geq (.t 6) (.t 8), none, [6, 8]⟩,
 ⟨(some 10), .mv (.t 9), none, [9]⟩,
 ⟨(some 11), .mv (.t 0), (some (10, true)), [0]⟩,
 ⟨(some 12), .mv (.t 1), (some (10, true)), []⟩,
 ⟨(some 13), .lenS (.t 12), (some (10, true)), [12]⟩,
 ⟨(some 14), .slstr (.t 11) none (some (.t 13)), (some (10, true)), [11, 13]⟩,
 ⟨(some 15), .mv (.t 1), (some (10, true)), [1]⟩,
 ⟨(some 16), .bin .eql (.t 14) (.t 15), (some (10, true)), [14, 15]⟩,
 ⟨(some 17), .pick (.t 10) (.t 16) (.c (.b false)), none, [10, 16]⟩,
 ⟨(some 4), .asg (.t 17), none, [17]⟩])
 .ret)), [.t 4]⟩
/-- slices.IndexFunc   interrex/api.Event interrex/api.Event  -/
def f202 : AFn := ⟨2, (.seq (.reg [⟨(some 4), .asg (.c (.i .i64 0)), none, [4]⟩])
 (.seq (.seq (.reg [⟨(some 6), .mv (.t 0), none, []⟩,
 ⟨(some 7), .lenL (.t 6), none, [6]⟩,
 ⟨(some 8), .mv (.c (.i .i64 0)), none, []⟩])
 (.blk 0 (.loop (.seq (.reg [⟨(some 9), .bin .lss (.t 8) (.t 7), none, []⟩])
 (.seq (.cond (.t 9) .skip
 (.exit 0))
 (.seq (.blk 1 (.seq (.reg [⟨(some 10), .mv (.t 8), none, []⟩,
 ⟨(some 5), .asg (.t 10), none, [10]⟩])
 (.seq (.reg [⟨(some 11), .mv (.t 1), none, []⟩,
 ⟨(some 12), .mv (.t 0), none, []⟩,
 ⟨(some 13), .mv (.t 5), none, []⟩,
 ⟨(some 14), .iasl 4 (.t 12) (.t 13), none, [12, 13]⟩,
 ⟨(some 15), .load (some 4) (.t 14), none, [14]⟩,
 ⟨(some 16), .callv (.t 11) [(.t 15)], none, [11, 15]⟩])
 (.cond (.t 16) (.seq (.reg [⟨(some 17), .mv (.t 5), none, [5]⟩,
 ⟨(some 4), .asg (.t 17), none, [17]⟩])
 .ret)
 .skip))))
 (.reg [⟨(some 18), .bin .add (.t 8) (.c (.i .i64 1)), none, [8]⟩,
 ⟨(some 8), .mv (.t 18), none, [18]⟩])))))))
 (.seq (.reg [⟨(some 4), .asg (.c (.i .i64 (-1))), none, []⟩])
 .ret))), [.t 4]⟩
/-- interrex/taint.May -/
def f212 : AFn := ⟨1, (.seq (.reg [⟨(some 2), .asg (.c (.b false)), none, [2]⟩])
 (.seq (.seq (.reg [⟨(some 5), .mv (.t 0), none, []⟩,
 ⟨(some 6), .lenL (.t 5), none, []⟩,
 ⟨(some 7), .mv (.c (.i .i64 0)), none, []⟩])
 (.blk 0 (.loop (.seq (.reg [⟨(some 8), .bin .lss (.t 7) (.t 6), none, []⟩])
 (.seq (.cond (.t 8) .skip
 (.exit 0))
 (.seq (.blk 1 (.seq (.reg [⟨(some 9), .mv (.t 7), none, []⟩,
 ⟨(some 10), .iasl 2 (.t 5) (.t 7), none, []⟩,
 ⟨(some 11), .load (some 2) (.t 10), none, [10]⟩,
 ⟨(some 4), .alloc false [(.s []), (.s [])], none, []⟩,
 ⟨(some 3), .asg (.t 9), none, [9]⟩,
 ⟨none, .store 2 (.t 4) (.t 11), none, [11]⟩])
 (.seq (.dreg [⟨0, ⟨(some 12), .faddr 0 (.t 4), none, []⟩, false, []⟩,
 ⟨1, ⟨(some 13), .load none (.t 12), none, []⟩, false, []⟩,
 ⟨2, ⟨(some 14), .call 102 [(.t 13)], none, []⟩, true, []⟩,
 ⟨3, ⟨(some 15), .un .not (.t 14), none, []⟩, false, []⟩,
 ⟨4, ⟨(some 16), .mv (.t 15), none, []⟩, false, []⟩,
 ⟨5, ⟨(some 17), .faddr 1 (.t 4), (some (16, false)), []⟩, false, []⟩,
 ⟨6, ⟨(some 18), .load none (.t 17), (some (16, false)), []⟩, false, []⟩,
 ⟨7, ⟨(some 19), .call 102 [(.t 18)], (some (16, false)), []⟩, true, []⟩,
 ⟨8, ⟨(some 20), .un .not (.t 19), (some (16, false)), []⟩, false, []⟩,
 ⟨9, ⟨(some 21), .pick (.t 16) (.c (.b true)) (.t 20), none, []⟩, false, []⟩,
 ⟨10, ⟨(some 22), .mv (.t 21), none, []⟩, false, []⟩,
 ⟨11, ⟨(some 23), .mv (.t 3), (some (22, false)), []⟩, false, []⟩,
 ⟨12, ⟨(some 24), .bin .gtr (.t 23) (.c (.i .i64 0)), (some (22, false)), []⟩, false, []⟩,
 ⟨13, ⟨(some 25), .mv (.t 24), (some (22, false)), []⟩, false, []⟩,
 ⟨14, ⟨(some 26), .mv (.t 0), (some (25, true)), []⟩, false, []⟩,
 ⟨15, ⟨(some 27), .mv (.t 3), (some (25, true)), []⟩, false, []⟩,
 ⟨16, ⟨(some 28), .bin .sub (.t 27) (.c (.i .i64 1)), (some (25, true)), []⟩, false, []⟩,
 ⟨17, ⟨(some 29), .iasl 2 (.t 26) (.t 28), (some (25, true)), []⟩, false, []⟩,
 ⟨18, ⟨(some 30), .faddr 0 (.t 29), (some (25, true)), []⟩, false, []⟩,
 ⟨19, ⟨(some 31), .load none (.t 30), (some (25, true)), []⟩, false, []⟩,
 ⟨20, ⟨(some 32), .faddr 0 (.t 4), (some (25, true)), []⟩, false, []⟩,
 ⟨21, ⟨(some 33), .load none (.t 32), (some (25, true)), []⟩, false, []⟩,
 ⟨22, ⟨(some 34), .bin .geq (.t 31) (.t 33), (some (25, true)), []⟩, false, []⟩,
 ⟨23, ⟨(some 35), .pick (.t 25) (.t 34) (.c (.b false)), (some (22, false)), []⟩, false, []⟩,
 ⟨24, ⟨(some 36), .pick (.t 22) (.c (.b true)) (.t 35), none, []⟩, false, []⟩] [4, 12, 13, 14, 15, 16, 17, 18, 19, 20, 21, 22, 3, 23, 24, 25, 26, 27, 28, 29, 30, 31, 32, 33, 34, 35])
 (.cond (.t 36) (.seq (.reg [⟨(some 2), .asg (.c (.b false)), none, []⟩])
 .ret)
 .skip))))
 (.reg [⟨(some 37), .bin .add (.t 7) (.c (.i .i64 1)), none, [7]⟩,
 ⟨(some 7), .mv (.t 37), none, [37]⟩])))))))
 (.seq (.reg [⟨(some 38), .mv (.t 0), none, [0]⟩,
 ⟨(some 39), .lenL (.t 38), none, [38]⟩,
 ⟨(some 40), .bin .leq (.t 39) (.c (.i .i64 6)), none, [39]⟩,
 ⟨(some 2), .asg (.t 40), none, [40]⟩])
 .ret))), [.t 2]⟩
/-- slices.siftDownCmpFunc interrex/api.Pod  -/
def f213 : AFn := ⟨5, (.seq (.reg [⟨(some 12), .mv (.t 1), none, [1]⟩,
 ⟨(some 10), .asg (.t 12), none, [12]⟩])
 (.blk 0 (.loop (.blk 1 (.seq (.reg [⟨(some 13), .mv (.t 10), none, []⟩,
 ⟨(some 14), .bin .mul (.c (.i .i64 2)) (.t 13), none, [13]⟩,
 ⟨(some 15), .bin .add (.t 14) (.c (.i .i64 1)), none, [14]⟩,
 ⟨(some 11), .asg (.t 15), none, [15]⟩])
 (.seq (.seq (.reg [⟨(some 16), .mv (.t 11), none, []⟩,
 ⟨(some 17), .mv (.t 2), none, []⟩,
 ⟨(some 18), .bin .geq (.t 16) (.t 17), none, [16, 17]⟩])
 (.cond (.t 18) (.exit 0)
 .skip))
 (.seq (.seq (.dreg [⟨0, ⟨(some 19), .mv (.t 11), none, []⟩, false, []⟩,
 ⟨1, ⟨(some 20), .bin .add (.t 19) (.c (.i .i64 1)), none, []⟩, false, []⟩,
 ⟨2, ⟨(some 21), .mv (.t 2), none, []⟩, false, []⟩,
 ⟨3, ⟨(some 22), .bin .lss (.t 20) (.t 21), none, []⟩, false, []⟩,
 ⟨4, ⟨(some 23), .mv (.t 22), none, []⟩, false, []⟩,
 ⟨5, ⟨(some 24), .mv (.t 4), (some (23, true)), []⟩, false, []⟩,
 ⟨6, ⟨(some 25), .mv (.t 0), (some (23, true)), []⟩, false, []⟩,
 ⟨7, ⟨(some 26), .mv (.t 3), (some (23, true)), []⟩, false, []⟩,
 ⟨8, ⟨(some 27), .mv (.t 11), (some (23, true)), []⟩, false, []⟩,
 ⟨9, ⟨(some 28), .bin .add (.t 26) (.t 27), (some (23, true)), []⟩, false, []⟩,
 ⟨10, ⟨(some 29), .iasl 16 (.t 25) (.t 28), (some (23, true)), []⟩, false, []⟩,
 ⟨11, ⟨(some 30), .load (some 16) (.t 29), (some (23, true)), []⟩, false, []⟩,
 ⟨12, ⟨(some 31), .mv (.t 0), (some (23, true)), []⟩, false, []⟩,
 ⟨13, ⟨(some 32), .mv (.t 3), (some (23, true)), []⟩, false, []⟩,
 ⟨14, ⟨(some 33), .mv (.t 11), (some (23, true)), []⟩, false, []⟩,
 ⟨15, ⟨(some 34), .bin .add (.t 32) (.t 33), (some (23, true)), []⟩, false, []⟩,
 ⟨16, ⟨(some 35), .bin .add (.t 34) (.c (.i .i64 1)), (some (23, true)), []⟩, false, []⟩,
 ⟨17, ⟨(some 36), .iasl 16 (.t 31) (.t 35), (some (23, true)), []⟩, false, []⟩,
 ⟨18, ⟨(some 37), .load (some 16) (.t 36), (some (23, true)), []⟩, false, []⟩,
 ⟨19, ⟨(some 38), .callv (.t 24) [(.t 30), (.t 37)], (some (23, true)), []⟩, true, []⟩,
 ⟨20, ⟨(some 39), .bin .lss (.t 38) (.c (.i .i64 0)), (some (23, true)), []⟩, false, []⟩,
 ⟨21, ⟨(some 40), .pick (.t 23) (.t 39) (.c (.b false)), none, []⟩, false, []⟩] [19, 20, 21, 22, 23, 24, 25, 26, 27, 28, 29, 30, 31, 32, 33, 34, 35, 36, 37, 38, 39])
 (.cond (.t 40) (.reg [⟨(some 41), .mv (.t 11), none, [11]⟩,
 ⟨(some 42), .bin .add (.t 41) (.c (.i .i64 1)), none, [41]⟩,
 ⟨(some 11), .asg (.t 42), none, [42]⟩])
 .skip))
 (.seq (.seq (.dreg [⟨0, ⟨(some 43), .mv (.t 4), none, []⟩, false, []⟩,
 ⟨1, ⟨(some 44), .mv (.t 0), none, []⟩, false, []⟩,
 ⟨2, ⟨(some 45), .mv (.t 3), none, []⟩, false, []⟩,
 ⟨3, ⟨(some 46), .mv (.t 10), none, []⟩, false, []⟩,
 ⟨4, ⟨(some 47), .bin .add (.t 45) (.t 46), none, []⟩, false, []⟩,
 ⟨5, ⟨(some 48), .iasl 16 (.t 44) (.t 47), none, []⟩, false, []⟩,
 ⟨6, ⟨(some 49), .load (some 16) (.t 48), none, []⟩, false, []⟩,
 ⟨7, ⟨(some 50), .mv (.t 0), none, []⟩, false, []⟩,
 ⟨8, ⟨(some 51), .mv (.t 3), none, []⟩, false, []⟩,
 ⟨9, ⟨(some 52), .mv (.t 11), none, []⟩, false, []⟩,
 ⟨10, ⟨(some 53), .bin .add (.t 51) (.t 52), none, []⟩, false, []⟩,
 ⟨11, ⟨(some 54), .iasl 16 (.t 50) (.t 53), none, []⟩, false, []⟩,
 ⟨12, ⟨(some 55), .load (some 16) (.t 54), none, []⟩, false, []⟩,
 ⟨13, ⟨(some 56), .callv (.t 43) [(.t 49), (.t 55)], none, []⟩, true, []⟩,
 ⟨14, ⟨(some 57), .bin .lss (.t 56) (.c (.i .i64 0)), none, []⟩, false, []⟩,
 ⟨15, ⟨(some 58), .un .not (.t 57), none, []⟩, false, []⟩] [43, 44, 45, 46, 47, 48, 49, 50, 51, 52, 53, 54, 55, 56, 57])
 (.cond (.t 58) .ret
 .skip))
 (.seq (.dreg [⟨0, ⟨(some 59), .mv (.t 0), none, []⟩, false, []⟩,
 ⟨1, ⟨(some 60), .mv (.t 3), none, []⟩, false, []⟩,
 ⟨2, ⟨(some 61), .mv (.t 10), none, []⟩, false, []⟩,
 ⟨3, ⟨(some 62), .bin .add (.t 60) (.t 61), none, []⟩, false, []⟩,
 ⟨4, ⟨(some 63), .mv (.t 0), none, []⟩, false, []⟩,
 ⟨5, ⟨(some 64), .mv (.t 3), none, []⟩, false, []⟩,
 ⟨6, ⟨(some 65), .mv (.t 11), none, []⟩, false, []⟩,
 ⟨7, ⟨(some 66), .bin .add (.t 64) (.t 65), none, []⟩, false, []⟩,
 ⟨8, ⟨(some 67), .mv (.t 0), none, []⟩, false, []⟩,
 ⟨9, ⟨(some 68), .mv (.t 3), none, []⟩, false, []⟩,
 ⟨10, ⟨(some 69), .mv (.t 11), none, []⟩, false, []⟩,
 ⟨11, ⟨(some 70), .bin .add (.t 68) (.t 69), none, []⟩, false, []⟩,
 ⟨12, ⟨(some 71), .iasl 16 (.t 67) (.t 70), none, []⟩, false, []⟩,
 ⟨13, ⟨(some 72), .load (some 16) (.t 71), none, []⟩, false, []⟩,
 ⟨14, ⟨(some 73), .mv (.t 0), none, []⟩, false, []⟩,
 ⟨15, ⟨(some 74), .mv (.t 3), none, []⟩, false, []⟩,
 ⟨16, ⟨(some 75), .mv (.t 10), none, []⟩, false, []⟩,
 ⟨17, ⟨(some 76), .bin .add (.t 74) (.t 75), none, []⟩, false, []⟩,
 ⟨18, ⟨(some 77), .iasl 16 (.t 73) (.t 76), none, []⟩, false, []⟩,
 ⟨19, ⟨(some 78), .load (some 16) (.t 77), none, []⟩, false, []⟩,
 ⟨20, ⟨(some 79), .iasl 16 (.t 59) (.t 62), none, []⟩, false, []⟩,
 ⟨21, ⟨none, .store 16 (.t 79) (.t 72), none, []⟩, true, []⟩,
 ⟨22, ⟨(some 80), .iasl 16 (.t 63) (.t 66), none, []⟩, false, []⟩,
 ⟨23, ⟨none, .store 16 (.t 80) (.t 78), none, []⟩, true, []⟩] [59, 60, 10, 61, 62, 63, 64, 65, 66, 67, 68, 69, 70, 71, 72, 73, 74, 75, 76, 77, 78, 79, 80])
 (.reg [⟨(some 81), .mv (.t 11), none, [11]⟩,
 ⟨(some 10), .asg (.t 81), none, [81]⟩])))))))))), []⟩
/-- slices.nextPowerOfTwo -/
def f214 : AFn := ⟨1, (.seq (.reg [⟨(some 2), .asg (.c (.i .u64 0)), none, [2]⟩])
 (.seq (.reg [⟨(some 3), .mv (.t 0), none, [0]⟩,
 ⟨(some 4), .cvi .u64 (.t 3), none, [3]⟩,
 ⟨(some 5), .call 126 [(.t 4)], none, [4]⟩,
 ⟨(some 6), .bin .shl (.c (.i .u64 1)) (.t 5), none, [5]⟩,
 ⟨(some 2), .asg (.t 6), none, [6]⟩])
 .ret)), [.t 2]⟩
/-- ( slices.xorshift).Next -/
def f215 : AFn := ⟨1, (.seq (.reg [⟨(some 2), .asg (.c (.i .u64 0)), none, [2]⟩])
 (.seq (.dreg [⟨0, ⟨(some 3), .mv (.t 0), none, []⟩, false, []⟩,
 ⟨1, ⟨(some 4), .nilc (.t 3), none, []⟩, false, []⟩,
 ⟨2, ⟨(some 5), .load none (.t 4), none, []⟩, false, []⟩,
 ⟨3, ⟨(some 6), .mv (.t 0), none, []⟩, false, []⟩,
 ⟨4, ⟨(some 7), .nilc (.t 6), none, []⟩, false, []⟩,
 ⟨5, ⟨(some 8), .load none (.t 7), none, []⟩, false, []⟩,
 ⟨6, ⟨(some 9), .bin .shl (.t 8) (.c (.i .u64 13)), none, []⟩, false, []⟩,
 ⟨7, ⟨(some 10), .bin .xor (.t 5) (.t 9), none, []⟩, false, []⟩,
 ⟨8, ⟨(some 11), .nilc (.t 3), none, []⟩, false, []⟩,
 ⟨9, ⟨none, .store 1 (.t 11) (.t 10), none, []⟩, true, []⟩] [3, 4, 5, 6, 7, 8, 9, 10, 11])
 (.seq (.dreg [⟨0, ⟨(some 12), .mv (.t 0), none, []⟩, false, []⟩,
 ⟨1, ⟨(some 13), .nilc (.t 12), none, []⟩, false, []⟩,
 ⟨2, ⟨(some 14), .load none (.t 13), none, []⟩, false, []⟩,
 ⟨3, ⟨(some 15), .mv (.t 0), none, []⟩, false, []⟩,
 ⟨4, ⟨(some 16), .nilc (.t 15), none, []⟩, false, []⟩,
 ⟨5, ⟨(some 17), .load none (.t 16), none, []⟩, false, []⟩,
 ⟨6, ⟨(some 18), .bin .shr (.t 17) (.c (.i .u64 7)), none, []⟩, false, []⟩,
 ⟨7, ⟨(some 19), .bin .xor (.t 14) (.t 18), none, []⟩, false, []⟩,
 ⟨8, ⟨(some 20), .nilc (.t 12), none, []⟩, false, []⟩,
 ⟨9, ⟨none, .store 1 (.t 20) (.t 19), none, []⟩, true, []⟩] [12, 13, 14, 15, 16, 17, 18, 19, 20])
 (.seq (.dreg [⟨0, ⟨(some 21), .mv (.t 0), none, []⟩, false, []⟩,
 ⟨1, ⟨(some 22), .nilc (.t 21), none, []⟩, false, []⟩,
 ⟨2, ⟨(some 23), .load none (.t 22), none, []⟩, false, []⟩,
 ⟨3, ⟨(some 24), .mv (.t 0), none, []⟩, false, []⟩,
 ⟨4, ⟨(some 25), .nilc (.t 24), none, []⟩, false, []⟩,
 ⟨5, ⟨(some 26), .load none (.t 25), none, []⟩, false, []⟩,
 ⟨6, ⟨(some 27), .bin .shl (.t 26) (.c (.i .u64 17)), none, []⟩, false, []⟩,
 ⟨7, ⟨(some 28), .bin .xor (.t 23) (.t 27), none, []⟩, false, []⟩,
 ⟨8, ⟨(some 29), .nilc (.t 21), none, []⟩, false, []⟩,
 ⟨9, ⟨none, .store 1 (.t 29) (.t 28), none, []⟩, true, []⟩] [21, 22, 23, 24, 25, 26, 27, 28, 29])
 (.seq (.reg [⟨(some 30), .mv (.t 0), none, [0]⟩,
 ⟨(some 31), .nilc (.t 30), none, [30]⟩,
 ⟨(some 32), .load none (.t 31), none, [31]⟩,
 ⟨(some 2), .asg (.t 32), none, [32]⟩])
 .ret))))), [.t 2]⟩
/-- slices.medianAdjacentCmpFunc interrex/api.Pod  -/
def f216 : AFn := ⟨4, (.seq (.reg [⟨(some 8), .asg (.c (.i .i64 0)), none, [8]⟩])
 (.seq (.reg [⟨(some 9), .mv (.t 0), none, [0]⟩,
 ⟨(some 10), .mv (.t 1), none, []⟩,
 ⟨(some 11), .bin .sub (.t 10) (.c (.i .i64 1)), none, [10]⟩,
 ⟨(some 12), .mv (.t 1), none, []⟩,
 ⟨(some 13), .mv (.t 1), none, [1]⟩,
 ⟨(some 14), .bin .add (.t 13) (.c (.i .i64 1)), none, [13]⟩,
 ⟨(some 15), .mv (.t 2), none, [2]⟩,
 ⟨(some 16), .mv (.t 3), none, [3]⟩,
 ⟨(some 17), .call 217 [(.t 9), (.t 11), (.t 12), (.t 14), (.t 15), (.t 16)], none, [9, 11, 12, 14, 15, 16]⟩,
 ⟨(some 8), .asg (.t 17), none, [17]⟩])
 .ret)), [.t 8]⟩
/-- slices.medianCmpFunc interrex/api.Pod  -/
def f217 : AFn := ⟨6, (.seq (.reg [⟨(some 12), .asg (.c (.i .i64 0)), none, [12]⟩])
 (.seq (.reg [⟨(some 14), .mv (.t 0), none, []⟩,
 ⟨(some 15), .mv (.t 1), none, [1]⟩,
 ⟨(some 16), .mv (.t 2), none, [2]⟩,
 ⟨(some 17), .mv (.t 4), none, []⟩,
 ⟨(some 18), .mv (.t 5), none, []⟩,
 ⟨(some 19), .call 245 [(.t 14), (.t 15), (.t 16), (.t 17), (.t 18)], none, [14, 15, 16, 17, 18]⟩,
 ⟨(some 13), .mv (.t 19), none, [19]⟩,
 ⟨(some 20), .ext (.t 13) 0, none, []⟩,
 ⟨(some 21), .ext (.t 13) 1, none, [13]⟩,
 ⟨(some 1), .asg (.t 20), none, [20]⟩,
 ⟨(some 2), .asg (.t 21), none, [21]⟩])
 (.seq (.reg [⟨(some 23), .mv (.t 0), none, []⟩,
 ⟨(some 24), .mv (.t 2), none, [2]⟩,
 ⟨(some 25), .mv (.t 3), none, [3]⟩,
 ⟨(some 26), .mv (.t 4), none, []⟩,
 ⟨(some 27), .mv (.t 5), none, []⟩,
 ⟨(some 28), .call 245 [(.t 23), (.t 24), (.t 25), (.t 26), (.t 27)], none, [23, 24, 25, 26, 27]⟩,
 ⟨(some 22), .mv (.t 28), none, [28]⟩,
 ⟨(some 29), .ext (.t 22) 0, none, []⟩,
 ⟨(some 30), .ext (.t 22) 1, none, [22]⟩,
 ⟨(some 2), .asg (.t 29), none, [29]⟩,
 ⟨(some 3), .asg (.t 30), none, [30, 3]⟩])
 (.seq (.reg [⟨(some 32), .mv (.t 0), none, [0]⟩,
 ⟨(some 33), .mv (.t 1), none, [1]⟩,
 ⟨(some 34), .mv (.t 2), none, [2]⟩,
 ⟨(some 35), .mv (.t 4), none, [4]⟩,
 ⟨(some 36), .mv (.t 5), none, [5]⟩,
 ⟨(some 37), .call 245 [(.t 32), (.t 33), (.t 34), (.t 35), (.t 36)], none, [32, 33, 34, 35, 36]⟩,
 ⟨(some 31), .mv (.t 37), none, [37]⟩,
 ⟨(some 38), .ext (.t 31) 0, none, []⟩,
 ⟨(some 39), .ext (.t 31) 1, none, [31]⟩,
 ⟨(some 1), .asg (.t 38), none, [38, 1]⟩,
 ⟨(some 2), .asg (.t 39), none, [39]⟩])
 (.seq (.reg [⟨(some 40), .mv (.t 2), none, [2]⟩,
 ⟨(some 12), .asg (.t 40), none, [40]⟩])
 .ret))))), [.t 12]⟩
/-- slices.siftDownCmpFunc interrex/api.Node  -/
def f218 : AFn := ⟨5, (.seq (.reg [⟨(some 12), .mv (.t 1), none, [1]⟩,
 ⟨(some 10), .asg (.t 12), none, [12]⟩])
 (.blk 0 (.loop (.blk 1 (.seq (.reg [⟨(some 13), .mv (.t 10), none, []⟩,
 ⟨(some 14), .bin .mul (.c (.i .i64 2)) (.t 13), none, [13]⟩,
 ⟨(some 15), .bin .add (.t 14) (.c (.i .i64 1)), none, [14]⟩,
 ⟨(some 11), .asg (.t 15), none, [15]⟩])
 (.seq (.seq (.reg [⟨(some 16), .mv (.t 11), none, []⟩,
 ⟨(some 17), .mv (.t 2), none, []⟩,
 ⟨(some 18), .bin .geq (.t 16) (.t 17), none, [16, 17]⟩])
 (.cond (.t 18) (.exit 0)
 .skip))
 (.seq (.seq (.dreg [⟨0, ⟨(some 19), .mv (.t 11), none, []⟩, false, []⟩,
 ⟨1, ⟨(some 20), .bin .add (.t 19) (.c (.i .i64 1)), none, []⟩, false, []⟩,
 ⟨2, ⟨(some 21), .mv (.t 2), none, []⟩, false, []⟩,
 ⟨3, ⟨(some 22), .bin .lss (.t 20) (.t 21), none, []⟩, false, []⟩,
 ⟨4, ⟨(some 23), .mv (.t 22), none, []⟩, false, []⟩,
 ⟨5, ⟨(some 24), .mv (.t 4), (some (23, true)), []⟩, false, []⟩,
 ⟨6, ⟨(some 25), .mv (.t 0), (some (23, true)), []⟩, false, []⟩,
 ⟨7, ⟨(some 26), .mv (.t 3), (some (23, true)), []⟩, false, []⟩,
 ⟨8, ⟨(some 27), .mv (.t 11), (some (23, true)), []⟩, false, []⟩,
 ⟨9, ⟨(some 28), .bin .add (.t 26) (.t 27), (some (23, true)), []⟩, false, []⟩,
 ⟨10, ⟨(some 29), .iasl 6 (.t 25) (.t 28), (some (23, true)), []⟩, false, []⟩,
 ⟨11, ⟨(some 30), .load (some 6) (.t 29), (some (23, true)), []⟩, false, []⟩,
 ⟨12, ⟨(some 31), .mv (.t 0), (some (23, true)), []⟩, false, []⟩,
 ⟨13, ⟨(some 32), .mv (.t 3), (some (23, true)), []⟩, false, []⟩,
 ⟨14, ⟨(some 33), .mv (.t 11), (some (23, true)), []⟩, false, []⟩,
 ⟨15, ⟨(some 34), .bin .add (.t 32) (.t 33), (some (23, true)), []⟩, false, []⟩,
 ⟨16, ⟨(some 35), .bin .add (.t 34) (.c (.i .i64 1)), (some (23, true)), []⟩, false, []⟩,
 ⟨17, ⟨(some 36), .iasl 6 (.t 31) (.t 35), (some (23, true)), []⟩, false, []⟩,
 ⟨18, ⟨(some 37), .load (some 6) (.t 36), (some (23, true)), []⟩, false, []⟩,
 ⟨19, ⟨(some 38), .callv (.t 24) [(.t 30), (.t 37)], (some (23, true)), []⟩, true, []⟩,
 ⟨20, ⟨(some 39), .bin .lss (.t 38) (.c (.i .i64 0)), (some (23, true)), []⟩, false, []⟩,
 ⟨21, ⟨(some 40), .pick (.t 23) (.t 39) (.c (.b false)), none, []⟩, false, []⟩] [19, 20, 21, 22, 23, 24, 25, 26, 27, 28, 29, 30, 31, 32, 33, 34, 35, 36, 37, 38, 39])
 (.cond (.t 40) (.reg [⟨(some 41), .mv (.t 11), none, [11]⟩,
 ⟨(some 42), .bin .add (.t 41) (.c (.i .i64 1)), none, [41]⟩,
 ⟨(some 11), .asg (.t 42), none, [42]⟩])
 .skip))
 (.seq (.seq (.dreg [⟨0, ⟨(some 43), .mv (.t 4), none, []⟩, false, []⟩,
 ⟨1, ⟨(some 44), .mv (.t 0), none, []⟩, false, []⟩,
 ⟨2, ⟨(some 45), .mv (.t 3), none, []⟩, false, []⟩,
 ⟨3, ⟨(some 46), .mv (.t 10), none, []⟩, false, []⟩,
 ⟨4, ⟨(some 47), .bin .add (.t 45) (.t 46), none, []⟩, false, []⟩,
 ⟨5, ⟨(some 48), .iasl 6 (.t 44) (.t 47), none, []⟩, false, []⟩,
 ⟨6, ⟨(some 49), .load (some 6) (.t 48), none, []⟩, false, []⟩,
 ⟨7, ⟨(some 50), .mv (.t 0), none, []⟩, false, []⟩,
 ⟨8, ⟨(some 51), .mv (.t 3), none, []⟩, false, []⟩,
 ⟨9, ⟨(some 52), .mv (.t 11), none, []⟩, false, []⟩,
 ⟨10, ⟨(some 53), .bin .add (.t 51) (.t 52), none, []⟩, false, []⟩,
 ⟨11, ⟨(some 54), .iasl 6 (.t 50) (.t 53), none, []⟩, false, []⟩,
 ⟨12, ⟨(some 55), .load (some 6) (.t 54), none, []⟩, false, []⟩,
 ⟨13, ⟨(some 56), .callv (.t 43) [(.t 49), (.t 55)], none, []⟩, true, []⟩,
 ⟨14, ⟨(some 57), .bin .lss (.t 56) (.c (.i .i64 0)), none, []⟩, false, []⟩,
 ⟨15, ⟨(some 58), .un .not (.t 57), none, []⟩, false, []⟩] [43, 44, 45, 46, 47, 48, 49, 50, 51, 52, 53, 54, 55, 56, 57])
 (.cond (.t 58) .ret
 .skip))
 (.seq (.dreg [⟨0, ⟨(some 59), .mv (.t 0), none, []⟩, false, []⟩,
 ⟨1, ⟨(some 60), .mv (.t 3), none, []⟩, false, []⟩,
 ⟨2, ⟨(some 61), .mv (.t 10), none, []⟩, false, []⟩,
 ⟨3, ⟨(some 62), .bin .add (.t 60) (.t 61), none, []⟩, false, []⟩,
 ⟨4, ⟨(some 63), .mv (.t 0), none, []⟩, false, []⟩,
 ⟨5, ⟨(some 64), .mv (.t 3), none, []⟩, false, []⟩,
 ⟨6, ⟨(some 65), .mv (.t 11), none, []⟩, false, []⟩,
 ⟨7, ⟨(some 66), .bin .add (.t 64) (.t 65), none, []⟩, false, []⟩,
 ⟨8, ⟨(some 67), .mv (.t 0), none, []⟩, false, []⟩,
 ⟨9, ⟨(some 68), .mv (.t 3), none, []⟩, false, []⟩,
 ⟨10, ⟨(some 69), .mv (.t 11), none, []⟩, false, []⟩,
 ⟨11, ⟨(some 70), .bin .add (.t 68) (.t 69), none, []⟩, false, []⟩,
 ⟨12, ⟨(some 71), .iasl 6 (.t 67) (.t 70), none, []⟩, false, []⟩,
 ⟨13, ⟨(some 72), .load (some 6) (.t 71), none, []⟩, false, []⟩,
 ⟨14, ⟨(some 73), .mv (.t 0), none, []⟩, false, []⟩,
 ⟨15, ⟨(some 74), .mv (.t 3), none, []⟩, false, []⟩,
 ⟨16, ⟨(some 75), .mv (.t 10), none, []⟩, false, []⟩,
 ⟨17, ⟨(some 76), .bin .add (.t 74) (.t 75), none, []⟩, false, []⟩,
 ⟨18, ⟨(some 77), .iasl 6 (.t 73) (.t 76), none, []⟩, false, []⟩,
 ⟨19, ⟨(some 78), .load (some 6) (.t 77), none, []⟩, false, []⟩,
 ⟨20, ⟨(some 79), .iasl 6 (.t 59) (.t 62), none, []⟩, false, []⟩,
 ⟨21, ⟨none, .store 6 (.t 79) (.t 72), none, []⟩, true, []⟩,
 ⟨22, ⟨(some 80), .iasl 6 (.t 63) (.t 66), none, []⟩, false, []⟩,
 ⟨23, ⟨none, .store 6 (.t 80) (.t 78), none, []⟩, true, []⟩] [59, 60, 10, 61, 62, 63, 64, 65, 66, 67, 68, 69, 70, 71, 72, 73, 74, 75, 76, 77, 78, 79, 80])
 (.reg [⟨(some 81), .mv (.t 11), none, [11]⟩,
 ⟨(some 10), .asg (.t 81), none, [81]⟩])))))))))), []⟩
/-- slices.medianAdjacentCmpFunc interrex/api.Node  -/
def f219 : AFn := ⟨4, (.seq (.reg [⟨(some 8), .asg (.c (.i .i64 0)), none, [8]⟩])
 (.seq (.reg [⟨(some 9), .mv (.t 0), none, [0]⟩,
 ⟨(some 10), .mv (.t 1), none, []⟩,
 ⟨(some 11), .bin .sub (.t 10) (.c (.i .i64 1)), none, [10]⟩,
 ⟨(some 12), .mv (.t 1), none, []⟩,
 ⟨(some 13), .mv (.t 1), none, [1]⟩,
 ⟨(some 14), .bin .add (.t 13) (.c (.i .i64 1)), none, [13]⟩,
 ⟨(some 15), .mv (.t 2), none, [2]⟩,
 ⟨(some 16), .mv (.t 3), none, [3]⟩,
 ⟨(some 17), .call 220 [(.t 9), (.t 11), (.t 12), (.t 14), (.t 15), (.t 16)], none, [9, 11, 12, 14, 15, 16]⟩,
 ⟨(some 8), .asg (.t 17), none, [17]⟩])
 .ret)), [.t 8]⟩
/-- slices.medianCmpFunc interrex/api.Node  -/
def f220 : AFn := ⟨6, (.seq (.reg [⟨(some 12), .asg (.c (.i .i64 0)), none, [12]⟩])
 (.seq (.reg [⟨(some 14), .mv (.t 0), none, []⟩,
 ⟨(some 15), .mv (.t 1), none, [1]⟩,
 ⟨(some 16), .mv (.t 2), none, [2]⟩,
 ⟨(some 17), .mv (.t 4), none, []⟩,
 ⟨(some 18), .mv (.t 5), none, []⟩,
 ⟨(some 19), .call 246 [(.t 14), (.t 15), (.t 16), (.t 17), (.t 18)], none, [14, 15, 16, 17, 18]⟩,
 ⟨(some 13), .mv (.t 19), none, [19]⟩,
 ⟨(some 20), .ext (.t 13) 0, none, []⟩,
 ⟨(some 21), .ext (.t 13) 1, none, [13]⟩,
 ⟨(some 1), .asg (.t 20), none, [20]⟩,
 ⟨(some 2), .asg (.t 21), none, [21]⟩])
 (.seq (.reg [⟨(some 23), .mv (.t 0), none, []⟩,
 ⟨(some 24), .mv (.t 2), none, [2]⟩,
 ⟨(some 25), .mv (.t 3), none, [3]⟩,
 ⟨(some 26), .mv (.t 4), none, []⟩,
 ⟨(some 27), .mv (.t 5), none, []⟩,
 ⟨(some 28), .call 246 [(.t 23), (.t 24), (.t 25), (.t 26), (.t 27)], none, [23, 24, 25, 26, 27]⟩,
 ⟨(some 22), .mv (.t 28), none, [28]⟩,
 ⟨(some 29), .ext (.t 22) 0, none, []⟩,
 ⟨(some 30), .ext (.t 22) 1, none, [22]⟩,
 ⟨(some 2), .asg (.t 29), none, [29]⟩,
 ⟨(some 3), .asg (.t 30), none, [30, 3]⟩])
 (.seq (.reg [⟨(some 32), .mv (.t 0), none, [0]⟩,
 ⟨(some 33), .mv (.t 1), none, [1]⟩,
 ⟨(some 34), .mv (.t 2), none, [2]⟩,
 ⟨(some 35), .mv (.t 4), none, [4]⟩,
 ⟨(some 36), .mv (.t 5), none, [5]⟩,
 ⟨(some 37), .call 246 [(.t 32), (.t 33), (.t 34), (.t 35), (.t 36)], none, [32, 33, 34, 35, 36]⟩,
 ⟨(some 31), .mv (.t 37), none, [37]⟩,
 ⟨(some 38), .ext (.t 31) 0, none, []⟩,
 ⟨(some 39), .ext (.t 31) 1, none, [31]⟩,
 ⟨(some 1), .asg (.t 38), none, [38, 1]⟩,
 ⟨(some 2), .asg (.t 39), none, [39]⟩])
 (.seq (.reg [⟨(some 40), .mv (.t 2), none, [2]⟩,
 ⟨(some 12), .asg (.t 40), none, [40]⟩])
 .ret))))), [.t 12]⟩
/-- slices.IndexFunc   interrex/api.Term interrex/api.Term  -/
def f221 : AFn := ⟨2, (.seq (.reg [⟨(some 4), .asg (.c (.i .i64 0)), none, [4]⟩])
 (.seq (.seq (.reg [⟨(some 6), .mv (.t 0), none, []⟩,
 ⟨(some 7), .lenL (.t 6), none, [6]⟩,
 ⟨(some 8), .mv (.c (.i .i64 0)), none, []⟩])
 (.blk 0 (.loop (.seq (.reg [⟨(some 9), .bin .lss (.t 8) (.t 7), none, []⟩])
 (.seq (.cond (.t 9) .skip
 (.exit 0))
 (.seq (.blk 1 (.seq (.reg [⟨(some 10), .mv (.t 8), none, []⟩,
 ⟨(some 5), .asg (.t 10), none, [10]⟩])
 (.seq (.reg [⟨(some 11), .mv (.t 1), none, []⟩,
 ⟨(some 12), .mv (.t 0), none, []⟩,
 ⟨(some 13), .mv (.t 5), none, []⟩,
 ⟨(some 14), .iasl 3 (.t 12) (.t 13), none, [12, 13]⟩,
 ⟨(some 15), .load (some 3) (.t 14), none, [14]⟩,
 ⟨(some 16), .callv (.t 11) [(.t 15)], none, [11, 15]⟩])
 (.cond (.t 16) (.seq (.reg [⟨(some 17), .mv (.t 5), none, [5]⟩,
 ⟨(some 4), .asg (.t 17), none, [17]⟩])
 .ret)
 .skip))))
 (.reg [⟨(some 18), .bin .add (.t 8) (.c (.i .i64 1)), none, [8]⟩,
 ⟨(some 8), .mv (.t 18), none, [18]⟩])))))))
 (.seq (.reg [⟨(some 4), .asg (.c (.i .i64 (-1))), none, []⟩])
 .ret))), [.t 4]⟩
/-- slices.ContainsFunc   string string  -/
def f222 : AFn := ⟨2, (.seq (.reg [⟨(some 4), .asg (.c (.b false)), none, [4]⟩])
 (.seq (.reg [⟨(some 5), .mv (.t 0), none, [0]⟩,
 ⟨(some 6), .mv (.t 1), none, [1]⟩,
 ⟨(some 7), .call 247 [(.t 5), (.t 6)], none, [5, 6]⟩,
 ⟨(some 8), .bin .geq (.t 7) (.c (.i .i64 0)), none, [7]⟩,
 ⟨(some 4), .asg (.t 8), none, [8]⟩])
 .ret)), [.t 4]⟩
/-- interrex/label.mayTerm 1 -/
def f223 : AFn := ⟨1, (.seq (.reg [⟨(some 2), .asg (.c (.b false)), none, [2]⟩])
 (.seq (.reg [⟨(some 3), .mv (.t 0), none, [0]⟩,
 ⟨(some 4), .call 102 [(.t 3)], none, [3]⟩,
 ⟨(some 5), .un .not (.t 4), none, [4]⟩,
 ⟨(some 2), .asg (.t 5), none, [5]⟩])
 .ret)), [.t 2]⟩
/-- slices.IndexFunc   interrex/api.Toler interrex/api.Toler  -/
def f224 : AFn := ⟨2, (.seq (.reg [⟨(some 4), .asg (.c (.i .i64 0)), none, [4]⟩])
 (.seq (.seq (.reg [⟨(some 6), .mv (.t 0), none, []⟩,
 ⟨(some 7), .lenL (.t 6), none, [6]⟩,
 ⟨(some 8), .mv (.c (.i .i64 0)), none, []⟩])
 (.blk 0 (.loop (.seq (.reg [⟨(some 9), .bin .lss (.t 8) (.t 7), none, []⟩])
 (.seq (.cond (.t 9) .skip
 (.exit 0))
 (.seq (.blk 1 (.seq (.reg [⟨(some 10), .mv (.t 8), none, []⟩,
 ⟨(some 5), .asg (.t 10), none, [10]⟩])
 (.seq (.reg [⟨(some 11), .mv (.t 1), none, []⟩,
 ⟨(some 12), .mv (.t 0), none, []⟩,
 ⟨(some 13), .mv (.t 5), none, []⟩,
 ⟨(some 14), .iasl 3 (.t 12) (.t 13), none, [12, 13]⟩,
 ⟨(some 15), .load (some 3) (.t 14), none, [14]⟩,
 ⟨(some 16), .callv (.t 11) [(.t 15)], none, [11, 15]⟩])
 (.cond (.t 16) (.seq (.reg [⟨(some 17), .mv (.t 5), none, [5]⟩,
 ⟨(some 4), .asg (.t 17), none, [17]⟩])
 .ret)
 .skip))))
 (.reg [⟨(some 18), .bin .add (.t 8) (.c (.i .i64 1)), none, [8]⟩,
 ⟨(some 8), .mv (.t 18), none, [18]⟩])))))))
 (.seq (.reg [⟨(some 4), .asg (.c (.i .i64 (-1))), none, []⟩])
 .ret))), [.t 4]⟩
/-- interrex/call.bare -/
def f227 : AFn := ⟨1, (.seq (.reg [⟨(some 1), .box false (.t 0), none, [0]⟩,
 ⟨(some 2), .alloc false [(.i .i64 0), (.i .i64 0), (.i .i64 0), (.s []), (.i .i64 0), .nils, .nils], none, []⟩])
 (.seq (.reg [⟨(some 4), .faddr 0 (.t 1), none, []⟩,
 ⟨(some 5), .load none (.t 4), none, [4]⟩,
 ⟨(some 6), .faddr 1 (.t 1), none, []⟩,
 ⟨(some 7), .load none (.t 6), none, [6]⟩,
 ⟨(some 8), .faddr 2 (.t 1), none, []⟩,
 ⟨(some 9), .load none (.t 8), none, [8]⟩,
 ⟨(some 10), .bld [(.i .i64 0), (.i .i64 0), (.i .i64 0), (.s []), (.i .i64 0), .nils, .nils] [(0, 1, (.t 5)), (1, 1, (.t 7)), (2, 1, (.t 9))], none, [5, 7, 9]⟩,
 ⟨(some 3), .alloc false [(.i .i64 0), (.i .i64 0), (.i .i64 0), (.s []), (.i .i64 0), .nils, .nils], none, []⟩,
 ⟨none, .store 7 (.t 3) (.t 10), none, [10]⟩])
 (.seq (.seq (.reg [⟨(some 11), .faddr 2 (.t 1), none, []⟩,
 ⟨(some 12), .load none (.t 11), none, [11]⟩])
 (.blk 0 (.seq (.reg [⟨(some 14), .bin .eql (.t 12) (.c (.i .i64 1)), none, []⟩,
 ⟨(some 13), .asg (.t 14), none, [14]⟩])
 (.cond (.t 13) (.reg [⟨(some 15), .faddr 3 (.t 1), none, [1]⟩,
 ⟨(some 16), .load none (.t 15), none, [15]⟩,
 ⟨(some 17), .faddr 3 (.t 3), none, []⟩,
 ⟨none, .store 1 (.t 17) (.t 16), none, [17, 16]⟩])
 (.seq (.reg [⟨(some 19), .bin .eql (.t 12) (.c (.i .i64 3)), none, []⟩,
 ⟨(some 18), .asg (.t 19), none, [19]⟩])
 (.cond (.t 18) (.reg [⟨(some 20), .faddr 4 (.t 1), none, [1]⟩,
 ⟨(some 21), .load none (.t 20), none, [20]⟩,
 ⟨(some 22), .faddr 4 (.t 3), none, []⟩,
 ⟨none, .store 1 (.t 22) (.t 21), none, [22, 21]⟩])
 (.seq (.reg [⟨(some 24), .bin .eql (.t 12) (.c (.i .i64 4)), none, [12]⟩,
 ⟨(some 23), .asg (.t 24), none, [24]⟩])
 (.cond (.t 23) (.reg [⟨(some 25), .faddr 5 (.t 1), none, [1]⟩,
 ⟨(some 26), .load (some 2) (.t 25), none, [25]⟩,
 ⟨(some 27), .faddr 5 (.t 3), none, []⟩,
 ⟨none, .store 2 (.t 27) (.t 26), none, [27, 26]⟩])
 .skip))))))))
 (.seq (.reg [⟨(some 28), .load (some 7) (.t 3), none, [3]⟩,
 ⟨none, .store 7 (.t 2) (.t 28), none, [28]⟩])
 .ret)))), [.cell 2 (some 7)]⟩
/-- interrex/call.key -/
def f228 : AFn := ⟨1, (.seq (.reg [⟨(some 2), .asg (.c (.b false)), none, [2]⟩])
 (.seq (.reg [⟨(some 3), .mv (.t 0), none, []⟩,
 ⟨(some 4), .lenS (.t 3), none, [3]⟩,
 ⟨(some 5), .bin .geq (.t 4) (.c (.i .i64 1)), none, [4]⟩,
 ⟨(some 6), .mv (.t 5), none, [5]⟩,
 ⟨(some 7), .mv (.t 0), (some (6, true)), [0]⟩,
 ⟨(some 8), .lenS (.t 7), (some (6, true)), [7]⟩,
 ⟨(some 9), .bin .leq (.t 8) (.c (.i .i64 20)), (some (6, true)), [8]⟩,
 ⟨(some 10), .pick (.t 6) (.t 9) (.c (.b false)), none, [6, 9]⟩,
 ⟨(some 2), .asg (.t 10), none, [10]⟩])
 .ret)), [.t 2]⟩
/-- interrex/call.rev -/
def f229 : AFn := ⟨1, (.seq (.reg [⟨(some 2), .asg (.c (.b false)), none, [2]⟩])
 (.seq (.reg [⟨(some 3), .mv (.t 0), none, []⟩,
 ⟨(some 4), .bin .geq (.t 3) (.c (.i .i64 0)), none, [3]⟩,
 ⟨(some 5), .mv (.t 4), none, [4]⟩,
 ⟨(some 6), .mv (.t 0), (some (5, true)), [0]⟩,
 ⟨(some 7), .bin .leq (.t 6) (.c (.i .i64 1099511627776)), (some (5, true)), [6]⟩,
 ⟨(some 8), .pick (.t 5) (.t 7) (.c (.b false)), none, [5, 7]⟩,
 ⟨(some 2), .asg (.t 8), none, [8]⟩])
 .ret)), [.t 2]⟩
/-- interrex/call.mayTxn -/
def f230 : AFn := ⟨1, (.seq (.reg [⟨(some 1), .box false (.t 0), none, [0]⟩,
 ⟨(some 2), .asg (.c (.b false)), none, [2]⟩])
 (.seq (.seq (.reg [⟨(some 7), .faddr 0 (.t 1), none, []⟩,
 ⟨(some 8), .load none (.t 7), none, [7]⟩,
 ⟨(some 9), .lenL (.t 8), none, [8]⟩,
 ⟨(some 10), .bin .gtr (.t 9) (.c (.i .i64 20)), none, [9]⟩,
 ⟨(some 11), .mv (.t 10), none, [10]⟩,
 ⟨(some 12), .faddr 1 (.t 1), (some (11, false)), []⟩,
 ⟨(some 13), .load none (.t 12), (some (11, false)), [12]⟩,
 ⟨(some 14), .lenL (.t 13), (some (11, false)), [13]⟩,
 ⟨(some 15), .bin .gtr (.t 14) (.c (.i .i64 64)), (some (11, false)), [14]⟩,
 ⟨(some 16), .pick (.t 11) (.c (.b true)) (.t 15), none, [11, 15]⟩])
 (.cond (.t 16) (.seq (.reg [⟨(some 2), .asg (.c (.b false)), none, []⟩])
 .ret)
 .skip))
 (.seq (.seq (.reg [⟨(some 17), .faddr 0 (.t 1), none, []⟩,
 ⟨(some 18), .load none (.t 17), none, [17]⟩,
 ⟨(some 19), .lenL (.t 18), none, []⟩,
 ⟨(some 20), .mv (.c (.i .i64 0)), none, []⟩])
 (.blk 0 (.loop (.seq (.reg [⟨(some 21), .bin .lss (.t 20) (.t 19), none, []⟩])
 (.seq (.cond (.t 21) .skip
 (.exit 0))
 (.seq (.blk 1 (.seq (.reg [⟨(some 22), .iasl 3 (.t 18) (.t 20), none, []⟩,
 ⟨(some 23), .load (some 3) (.t 22), none, [22]⟩,
 ⟨(some 4), .alloc false [(.s []), (.i .i64 0), (.b false)], none, []⟩,
 ⟨none, .store 3 (.t 4) (.t 23), none, [23]⟩])
 (.seq (.reg [⟨(some 24), .faddr 0 (.t 4), none, []⟩,
 ⟨(some 25), .load none (.t 24), none, [24]⟩,
 ⟨(some 26), .call 228 [(.t 25)], none, [25]⟩,
 ⟨(some 27), .un .not (.t 26), none, [26]⟩,
 ⟨(some 28), .mv (.t 27), none, [27]⟩,
 ⟨(some 29), .faddr 1 (.t 4), (some (28, false)), [4]⟩,
 ⟨(some 30), .load none (.t 29), (some (28, false)), [29]⟩,
 ⟨(some 31), .call 229 [(.t 30)], (some (28, false)), [30]⟩,
 ⟨(some 32), .un .not (.t 31), (some (28, false)), [31]⟩,
 ⟨(some 33), .pick (.t 28) (.c (.b true)) (.t 32), none, [28, 32]⟩])
 (.cond (.t 33) (.seq (.reg [⟨(some 2), .asg (.c (.b false)), none, []⟩])
 .ret)
 .skip))))
 (.reg [⟨(some 34), .bin .add (.t 20) (.c (.i .i64 1)), none, [20]⟩,
 ⟨(some 20), .mv (.t 34), none, [34]⟩])))))))
 (.seq (.seq (.reg [⟨(some 35), .faddr 1 (.t 1), none, [1]⟩,
 ⟨(some 36), .load none (.t 35), none, [35]⟩,
 ⟨(some 37), .lenL (.t 36), none, []⟩,
 ⟨(some 38), .mv (.c (.i .i64 0)), none, []⟩])
 (.blk 2 (.loop (.seq (.reg [⟨(some 39), .bin .lss (.t 38) (.t 37), none, []⟩])
 (.seq (.cond (.t 39) .skip
 (.exit 2))
 (.seq (.blk 3 (.seq (.reg [⟨(some 40), .iasl 3 (.t 36) (.t 38), none, []⟩,
 ⟨(some 41), .load (some 3) (.t 40), none, [40]⟩,
 ⟨(some 6), .alloc false [(.s []), .nils, (.b false)], none, []⟩,
 ⟨none, .store 3 (.t 6) (.t 41), none, [41]⟩])
 (.seq (.reg [⟨(some 42), .faddr 0 (.t 6), none, []⟩,
 ⟨(some 43), .load none (.t 42), none, [42]⟩,
 ⟨(some 44), .call 228 [(.t 43)], none, [43]⟩,
 ⟨(some 45), .un .not (.t 44), none, [44]⟩,
 ⟨(some 46), .mv (.t 45), none, [45]⟩,
 ⟨(some 47), .faddr 1 (.t 6), (some (46, false)), [6]⟩,
 ⟨(some 48), .load none (.t 47), (some (46, false)), [47]⟩,
 ⟨(some 49), .lenL (.t 48), (some (46, false)), [48]⟩,
 ⟨(some 50), .bin .gtr (.t 49) (.c (.i .i64 4000)), (some (46, false)), [49]⟩,
 ⟨(some 51), .pick (.t 46) (.c (.b true)) (.t 50), none, [46, 50]⟩])
 (.cond (.t 51) (.seq (.reg [⟨(some 2), .asg (.c (.b false)), none, []⟩])
 .ret)
 .skip))))
 (.reg [⟨(some 52), .bin .add (.t 38) (.c (.i .i64 1)), none, [38]⟩,
 ⟨(some 38), .mv (.t 52), none, [52]⟩])))))))
 (.seq (.reg [⟨(some 2), .asg (.c (.b true)), none, []⟩])
 .ret))))), [.t 2]⟩
/-- slices.ContainsFunc   interrex/api.Entry interrex/api.Entry  -/
def f231 : AFn := ⟨2, (.seq (.reg [⟨(some 4), .asg (.c (.b false)), none, [4]⟩])
 (.seq (.reg [⟨(some 5), .mv (.t 0), none, [0]⟩,
 ⟨(some 6), .mv (.t 1), none, [1]⟩,
 ⟨(some 7), .call 252 [(.t 5), (.t 6)], none, [5, 6]⟩,
 ⟨(some 8), .bin .geq (.t 7) (.c (.i .i64 0)), none, [7]⟩,
 ⟨(some 4), .asg (.t 8), none, [8]⟩])
 .ret)), [.t 4]⟩
/-- interrex/reply.May 1 -/
def f232 : AFn := ⟨1, (.seq (.reg [⟨(some 1), .box false (.t 0), none, [0]⟩,
 ⟨(some 2), .asg (.c (.b false)), none, [2]⟩])
 (.seq (.reg [⟨(some 3), .faddr 0 (.t 1), none, []⟩,
 ⟨(some 4), .load none (.t 3), none, [3]⟩,
 ⟨(some 5), .faddr 1 (.t 1), none, []⟩,
 ⟨(some 6), .load none (.t 5), none, [5]⟩,
 ⟨(some 7), .faddr 2 (.t 1), none, [1]⟩,
 ⟨(some 8), .load none (.t 7), none, [7]⟩,
 ⟨(some 9), .call 233 [(.t 4), (.t 6), (.t 8)], none, [4, 6, 8]⟩,
 ⟨(some 10), .un .not (.t 9), none, [9]⟩,
 ⟨(some 2), .asg (.t 10), none, [10]⟩])
 .ret)), [.t 2]⟩
/-- interrex/reply.row -/
def f233 : AFn := ⟨3, (.seq (.reg [⟨(some 6), .asg (.c (.b false)), none, [6]⟩])
 (.seq (.reg [⟨(some 7), .mv (.t 0), none, []⟩,
 ⟨(some 8), .lenS (.t 7), none, [7]⟩,
 ⟨(some 9), .bin .geq (.t 8) (.c (.i .i64 1)), none, [8]⟩,
 ⟨(some 10), .mv (.t 9), none, [9]⟩,
 ⟨(some 11), .mv (.t 0), (some (10, true)), [0]⟩,
 ⟨(some 12), .lenS (.t 11), (some (10, true)), [11]⟩,
 ⟨(some 13), .bin .leq (.t 12) (.c (.i .i64 20)), (some (10, true)), [12]⟩,
 ⟨(some 14), .pick (.t 10) (.t 13) (.c (.b false)), none, [10, 13]⟩,
 ⟨(some 15), .mv (.t 14), none, [14]⟩,
 ⟨(some 16), .mv (.t 1), (some (15, true)), []⟩,
 ⟨(some 17), .bin .geq (.t 16) (.c (.i .i64 1)), (some (15, true)), [16]⟩,
 ⟨(some 18), .pick (.t 15) (.t 17) (.c (.b false)), none, [15, 17]⟩,
 ⟨(some 19), .mv (.t 18), none, [18]⟩,
 ⟨(some 20), .mv (.t 1), (some (19, true)), [1]⟩,
 ⟨(some 21), .bin .leq (.t 20) (.c (.i .i64 1099511627776)), (some (19, true)), [20]⟩,
 ⟨(some 22), .pick (.t 19) (.t 21) (.c (.b false)), none, [19, 21]⟩,
 ⟨(some 23), .mv (.t 22), none, [22]⟩,
 ⟨(some 24), .mv (.t 2), (some (23, true)), [2]⟩,
 ⟨(some 25), .lenL (.t 24), (some (23, true)), [24]⟩,
 ⟨(some 26), .bin .leq (.t 25) (.c (.i .i64 4000)), (some (23, true)), [25]⟩,
 ⟨(some 27), .pick (.t 23) (.t 26) (.c (.b false)), none, [23, 26]⟩,
 ⟨(some 6), .asg (.t 27), none, [27]⟩])
 .ret)), [.t 6]⟩
/-- slices.ContainsFunc   interrex/api.Event interrex/api.Event  -/
def f234 : AFn := ⟨2, (.seq (.reg [⟨(some 4), .asg (.c (.b false)), none, [4]⟩])
 (.seq (.reg [⟨(some 5), .mv (.t 0), none, [0]⟩,
 ⟨(some 6), .mv (.t 1), none, [1]⟩,
 ⟨(some 7), .call 202 [(.t 5), (.t 6)], none, [5, 6]⟩,
 ⟨(some 8), .bin .geq (.t 7) (.c (.i .i64 0)), none, [7]⟩,
 ⟨(some 4), .asg (.t 8), none, [8]⟩])
 .ret)), [.t 4]⟩
/-- interrex/reply.May 2 -/
def f235 : AFn := ⟨1, (.seq (.reg [⟨(some 1), .box false (.t 0), none, [0]⟩,
 ⟨(some 2), .asg (.c (.b false)), none, [2]⟩])
 (.seq (.reg [⟨(some 3), .faddr 1 (.t 1), none, []⟩,
 ⟨(some 4), .load none (.t 3), none, [3]⟩,
 ⟨(some 5), .faddr 0 (.t 1), none, []⟩,
 ⟨(some 6), .load none (.t 5), none, [5]⟩,
 ⟨(some 7), .faddr 2 (.t 1), none, []⟩,
 ⟨(some 8), .load none (.t 7), none, [7]⟩,
 ⟨(some 9), .call 233 [(.t 4), (.t 6), (.t 8)], none, [4, 6, 8]⟩,
 ⟨(some 10), .un .not (.t 9), none, [9]⟩,
 ⟨(some 11), .mv (.t 10), none, [10]⟩,
 ⟨(some 12), .faddr 3 (.t 1), (some (11, false)), []⟩,
 ⟨(some 13), .load none (.t 12), (some (11, false)), [12]⟩,
 ⟨(some 14), .mv (.t 13), (some (11, false)), [13]⟩,
 ⟨(some 15), .faddr 2 (.t 1), (some (14, true)), [1]⟩,
 ⟨(some 16), .load none (.t 15), (some (14, true)), [15]⟩,
 ⟨(some 17), .lenL (.t 16), (some (14, true)), [16]⟩,
 ⟨(some 18), .bin .gtr (.t 17) (.c (.i .i64 0)), (some (14, true)), [17]⟩,
 ⟨(some 19), .pick (.t 14) (.t 18) (.c (.b false)), (some (11, false)), [14, 18]⟩,
 ⟨(some 20), .pick (.t 11) (.c (.b true)) (.t 19), none, [11, 19]⟩,
 ⟨(some 2), .asg (.t 20), none, [20]⟩])
 .ret)), [.t 2]⟩
/-- interrex/qty.Sum -/
def f236 : AFn := ⟨1, (.seq (.reg [⟨(some 2), .alloc false [(.i .i64 0), (.i .i64 0), (.i .i64 0)], none, []⟩,
 ⟨(some 3), .asg (.c (.b false)), none, [3]⟩])
 (.seq (.reg [⟨(some 4), .alloc false [(.i .i64 0), (.i .i64 0), (.i .i64 0)], none, []⟩])
 (.seq (.seq (.reg [⟨(some 9), .mv (.t 0), none, [0]⟩,
 ⟨(some 10), .lenL (.t 9), none, []⟩,
 ⟨(some 11), .mv (.c (.i .i64 0)), none, []⟩])
 (.blk 0 (.loop (.seq (.reg [⟨(some 12), .bin .lss (.t 11) (.t 10), none, []⟩])
 (.seq (.cond (.t 12) .skip
 (.exit 0))
 (.seq (.blk 1 (.seq (.reg [⟨(some 13), .iasl 3 (.t 9) (.t 11), none, []⟩,
 ⟨(some 14), .load (some 3) (.t 13), none, [13]⟩,
 ⟨(some 6), .alloc false [(.i .i64 0), (.i .i64 0), (.i .i64 0)], none, []⟩,
 ⟨none, .store 3 (.t 6) (.t 14), none, [14]⟩])
 (.seq (.reg [⟨(some 16), .load (some 3) (.t 4), none, []⟩,
 ⟨(some 17), .load (some 3) (.t 6), none, [6]⟩,
 ⟨(some 18), .call 253 [(.t 16), (.t 17)], none, [16, 17]⟩,
 ⟨(some 15), .mv (.t 18), none, [18]⟩,
 ⟨(some 19), .ext (.t 15) 0, none, []⟩,
 ⟨(some 20), .ext (.t 15) 1, none, [15]⟩,
 ⟨(some 7), .alloc false [(.i .i64 0), (.i .i64 0), (.i .i64 0)], none, []⟩,
 ⟨none, .store 3 (.t 7) (.t 19), none, [19]⟩,
 ⟨(some 8), .asg (.t 20), none, [20]⟩])
 (.seq (.seq (.reg [⟨(some 21), .mv (.t 8), none, [8]⟩,
 ⟨(some 22), .un .not (.t 21), none, [21]⟩])
 (.cond (.t 22) (.seq (.reg [⟨(some 23), .bld [(.i .i64 0), (.i .i64 0), (.i .i64 0)] [], none, []⟩,
 ⟨none, .store 3 (.t 2) (.t 23), none, [23]⟩,
 ⟨(some 3), .asg (.c (.b false)), none, []⟩])
 .ret)
 .skip))
 (.reg [⟨(some 24), .load (some 3) (.t 7), none, [7]⟩,
 ⟨none, .store 3 (.t 4) (.t 24), none, [24]⟩])))))
 (.reg [⟨(some 25), .bin .add (.t 11) (.c (.i .i64 1)), none, [11]⟩,
 ⟨(some 11), .mv (.t 25), none, [25]⟩])))))))
 (.seq (.reg [⟨(some 26), .load (some 3) (.t 4), none, [4]⟩,
 ⟨none, .store 3 (.t 2) (.t 26), none, [26]⟩,
 ⟨(some 3), .asg (.c (.b true)), none, []⟩])
 .ret)))), [.cell 2 (some 3), .t 3]⟩
/-- interrex/qty.Share -/
def f237 : AFn := ⟨2, (.seq (.reg [⟨(some 4), .asg (.c (.i .i64 0)), none, [4]⟩])
 (.seq (.seq (.reg [⟨(some 5), .mv (.t 1), none, []⟩,
 ⟨(some 6), .bin .lss (.t 5) (.c (.i .i64 1)), none, [5]⟩,
 ⟨(some 7), .mv (.t 6), none, [6]⟩,
 ⟨(some 8), .mv (.t 1), (some (7, false)), []⟩,
 ⟨(some 9), .bin .gtr (.t 8) (.c (.i .i64 1000000000)), (some (7, false)), [8]⟩,
 ⟨(some 10), .pick (.t 7) (.c (.b true)) (.t 9), none, [7, 9]⟩])
 (.cond (.t 10) (.seq (.reg [⟨(some 4), .asg (.c (.i .i64 0)), none, []⟩])
 .ret)
 .skip))
 (.seq (.reg [⟨(some 11), .mv (.t 0), none, [0]⟩,
 ⟨(some 12), .mnmx true [(.t 11), (.c (.i .i64 0))], none, [11]⟩,
 ⟨(some 13), .mv (.t 1), none, []⟩,
 ⟨(some 14), .mnmx false [(.t 12), (.t 13)], none, [12, 13]⟩,
 ⟨(some 15), .bin .mul (.c (.i .i64 100)) (.t 14), none, [14]⟩,
 ⟨(some 16), .mv (.t 1), none, [1]⟩,
 ⟨(some 17), .bin .quo (.t 15) (.t 16), none, [15, 16]⟩,
 ⟨(some 4), .asg (.t 17), none, [17]⟩])
 .ret))), [.t 4]⟩
/-- interrex/label.Match -/
def f238 : AFn := ⟨2, (.seq (.reg [⟨(some 3), .box true (.t 1), none, [1]⟩,
 ⟨(some 4), .asg (.c (.b false)), none, [4]⟩])
 (.seq (.reg [⟨(some 5), .mv (.t 0), none, [0]⟩,
 ⟨(some 6), .mkfn 254 [(.t 3)], none, [3]⟩,
 ⟨(some 7), .call 177 [(.t 5), (.t 6)], none, [5, 6]⟩,
 ⟨(some 8), .un .not (.t 7), none, [7]⟩,
 ⟨(some 4), .asg (.t 8), none, [8]⟩])
 .ret)), [.t 4]⟩
end Go.Eng.AF
