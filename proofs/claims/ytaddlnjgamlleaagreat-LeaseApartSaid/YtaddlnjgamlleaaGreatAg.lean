/-
Functions' abstract texts, beyond those of begun.
-/
import Derived.Test.YtaddlnjgamlleaaGreatEngExec
set_option maxRecDepth 100000
namespace Go.Eng.AF
open Go Go.Eng
/-- interrex/interrexlaw10.LeaseAll -/
def f4 : AFn := ⟨3, (.seq (.reg [⟨(some 6), .asg (.c (.b false)), none, [6]⟩])
 (.seq (.reg [⟨(some 8), .call 20 [], none, []⟩,
 ⟨(some 7), .asg (.t 8), none, [8]⟩])
 (.seq (.seq (.reg [⟨(some 9), .mv (.t 7), none, [7]⟩,
 ⟨(some 10), .un .not (.t 9), none, [9]⟩])
 (.cond (.t 10) (.seq (.reg [⟨(some 6), .asg (.c (.b false)), none, []⟩])
 .ret)
 .skip))
 (.seq (.reg [⟨(some 11), .mv (.t 1), none, []⟩,
 ⟨(some 12), .call 42 [(.t 11)], none, [11]⟩,
 ⟨(some 13), .mv (.t 1), none, []⟩,
 ⟨(some 14), .call 43 [(.t 13)], none, [13]⟩,
 ⟨(some 15), .bin .eql (.t 12) (.t 14), none, [12, 14]⟩,
 ⟨(some 16), .mv (.t 15), none, [15]⟩,
 ⟨(some 17), .mv (.t 0), (some (16, true)), []⟩,
 ⟨(some 18), .mv (.t 1), (some (16, true)), []⟩,
 ⟨(some 19), .call 44 [(.t 17), (.t 18)], (some (16, true)), [17, 18]⟩,
 ⟨(some 20), .mv (.t 0), (some (16, true)), []⟩,
 ⟨(some 21), .mv (.t 1), (some (16, true)), []⟩,
 ⟨(some 22), .call 45 [(.t 20), (.t 21)], (some (16, true)), [20, 21]⟩,
 ⟨(some 23), .eqc false [.b] false (.t 19) (.t 22), (some (16, true)), [19, 22]⟩,
 ⟨(some 24), .pick (.t 16) (.t 23) (.c (.b false)), none, [16, 23]⟩,
 ⟨(some 25), .mv (.t 24), none, [24]⟩,
 ⟨(some 26), .mv (.t 0), (some (25, true)), []⟩,
 ⟨(some 27), .mv (.t 1), (some (25, true)), []⟩,
 ⟨(some 28), .mv (.t 2), (some (25, true)), []⟩,
 ⟨(some 29), .call 46 [(.t 26), (.t 27), (.t 28)], (some (25, true)), [26, 27, 28]⟩,
 ⟨(some 30), .mv (.t 0), (some (25, true)), []⟩,
 ⟨(some 31), .mv (.t 1), (some (25, true)), []⟩,
 ⟨(some 32), .mv (.t 2), (some (25, true)), [2]⟩,
 ⟨(some 33), .call 47 [(.t 30), (.t 31), (.t 32)], (some (25, true)), [30, 31, 32]⟩,
 ⟨(some 34), .eqc false [.b] false (.t 29) (.t 33), (some (25, true)), [29, 33]⟩,
 ⟨(some 35), .pick (.t 25) (.t 34) (.c (.b false)), none, [25, 34]⟩,
 ⟨(some 36), .mv (.t 35), none, [35]⟩,
 ⟨(some 37), .mv (.t 0), (some (36, true)), []⟩,
 ⟨(some 38), .mv (.t 1), (some (36, true)), []⟩,
 ⟨(some 39), .call 48 [(.t 37), (.t 38)], (some (36, true)), [37, 38]⟩,
 ⟨(some 40), .mv (.t 0), (some (36, true)), []⟩,
 ⟨(some 41), .mv (.t 1), (some (36, true)), []⟩,
 ⟨(some 42), .call 49 [(.t 40), (.t 41)], (some (36, true)), [40, 41]⟩,
 ⟨(some 43), .eqc false [.b] false (.t 39) (.t 42), (some (36, true)), [39, 42]⟩,
 ⟨(some 44), .pick (.t 36) (.t 43) (.c (.b false)), none, [36, 43]⟩,
 ⟨(some 45), .mv (.t 44), none, [44]⟩,
 ⟨(some 46), .mv (.t 0), (some (45, true)), []⟩,
 ⟨(some 47), .mv (.t 1), (some (45, true)), []⟩,
 ⟨(some 48), .call 44 [(.t 46), (.t 47)], (some (45, true)), [46, 47]⟩,
 ⟨(some 49), .mv (.t 48), (some (45, true)), [48]⟩,
 ⟨(some 50), .mv (.t 0), (some (49, true)), [0]⟩,
 ⟨(some 51), .mv (.t 1), (some (49, true)), [1]⟩,
 ⟨(some 52), .call 46 [(.t 50), (.t 51), (.c (.i .i64 1000))], (some (49, true)), [50, 51]⟩,
 ⟨(some 53), .pick (.t 49) (.t 52) (.c (.b false)), (some (45, true)), [49, 52]⟩,
 ⟨(some 54), .un .not (.t 53), (some (45, true)), [53]⟩,
 ⟨(some 55), .pick (.t 45) (.t 54) (.c (.b false)), none, [45, 54]⟩,
 ⟨(some 6), .asg (.t 55), none, [55]⟩])
 .ret)))), [.t 6]⟩
/-- interrex/interrexlaw10.LeaseApart -/
def f5 : AFn := ⟨4, (.seq (.reg [⟨(some 8), .asg (.c (.b false)), none, [8]⟩])
 (.seq (.reg [⟨(some 12), .call 20 [], none, []⟩,
 ⟨(some 9), .asg (.t 12), none, [12]⟩])
 (.seq (.seq (.reg [⟨(some 13), .mv (.t 9), none, [9]⟩,
 ⟨(some 14), .un .not (.t 13), none, [13]⟩])
 (.cond (.t 14) (.seq (.reg [⟨(some 8), .asg (.c (.b false)), none, []⟩])
 .ret)
 .skip))
 (.seq (.reg [⟨(some 15), .mv (.t 0), none, [0]⟩,
 ⟨(some 16), .mnmx false [(.t 15), (.c (.i .i64 1099511627776))], none, [15]⟩,
 ⟨(some 17), .mnmx true [(.c (.i .i64 0)), (.t 16)], none, [16]⟩,
 ⟨(some 18), .mv (.t 1), none, [1]⟩,
 ⟨(some 19), .mnmx false [(.t 18), (.c (.i .i64 1099511627776))], none, [18]⟩,
 ⟨(some 20), .mnmx true [(.c (.i .i64 0)), (.t 19)], none, [19]⟩,
 ⟨(some 21), .mv (.t 2), none, [2]⟩,
 ⟨(some 22), .mnmx false [(.t 21), (.c (.i .i64 10000))], none, [21]⟩,
 ⟨(some 23), .mnmx true [(.c (.i .i64 0)), (.t 22)], none, [22]⟩,
 ⟨(some 24), .mv (.t 3), none, [3]⟩,
 ⟨(some 25), .mnmx false [(.t 24), (.c (.i .i64 100))], none, [24]⟩,
 ⟨(some 26), .mnmx true [(.c (.i .i64 (-100))), (.t 25)], none, [25]⟩,
 ⟨(some 0), .asg (.t 17), none, [17]⟩,
 ⟨(some 1), .asg (.t 20), none, [20]⟩,
 ⟨(some 2), .asg (.t 23), none, [23]⟩,
 ⟨(some 3), .asg (.t 26), none, [26]⟩])
 (.seq (.reg [⟨(some 27), .mv (.t 0), none, []⟩,
 ⟨(some 28), .mv (.t 2), none, []⟩,
 ⟨(some 29), .bin .add (.t 27) (.t 28), none, [27, 28]⟩,
 ⟨(some 30), .mv (.t 1), none, []⟩,
 ⟨(some 31), .mv (.t 2), none, [2]⟩,
 ⟨(some 32), .bin .add (.t 30) (.t 31), none, [30, 31]⟩,
 ⟨(some 33), .mv (.t 3), none, [3]⟩,
 ⟨(some 34), .bin .add (.t 32) (.t 33), none, [32, 33]⟩,
 ⟨(some 10), .asg (.t 29), none, [29]⟩,
 ⟨(some 11), .asg (.t 34), none, [34]⟩])
 (.seq (.seq (.reg [⟨(some 35), .mv (.t 10), none, [10]⟩,
 ⟨(some 36), .mv (.t 0), none, []⟩,
 ⟨(some 37), .call 44 [(.t 35), (.t 36)], none, [35, 36]⟩,
 ⟨(some 38), .mv (.t 37), none, [37]⟩,
 ⟨(some 39), .mv (.t 11), (some (38, true)), [11]⟩,
 ⟨(some 40), .mv (.t 1), (some (38, true)), []⟩,
 ⟨(some 41), .call 46 [(.t 39), (.t 40), (.c (.i .i64 1000))], (some (38, true)), [39, 40]⟩,
 ⟨(some 42), .pick (.t 38) (.t 41) (.c (.b false)), none, [38, 41]⟩])
 (.cond (.t 42) (.seq (.reg [⟨(some 8), .asg (.c (.b false)), none, []⟩])
 .ret)
 .skip))
 (.seq (.reg [⟨(some 43), .mv (.t 1), none, []⟩,
 ⟨(some 44), .bin .add (.t 43) (.c (.i .i64 1000)), none, [43]⟩,
 ⟨(some 45), .mv (.t 1), none, [1]⟩,
 ⟨(some 46), .call 46 [(.t 44), (.t 45), (.c (.i .i64 1000))], none, [44, 45]⟩,
 ⟨(some 47), .mv (.t 46), none, [46]⟩,
 ⟨(some 48), .mv (.t 0), (some (47, true)), []⟩,
 ⟨(some 49), .call 42 [(.t 48)], (some (47, true)), [48]⟩,
 ⟨(some 50), .mv (.t 0), (some (47, true)), []⟩,
 ⟨(some 51), .call 44 [(.t 49), (.t 50)], (some (47, true)), [49, 50]⟩,
 ⟨(some 52), .un .not (.t 51), (some (47, true)), [51]⟩,
 ⟨(some 53), .pick (.t 47) (.t 52) (.c (.b false)), none, [47, 52]⟩,
 ⟨(some 54), .mv (.t 53), none, [53]⟩,
 ⟨(some 55), .mv (.t 0), (some (54, true)), []⟩,
 ⟨(some 56), .call 42 [(.t 55)], (some (54, true)), [55]⟩,
 ⟨(some 57), .bin .sub (.t 56) (.c (.i .i64 1)), (some (54, true)), [56]⟩,
 ⟨(some 58), .mv (.t 0), (some (54, true)), []⟩,
 ⟨(some 59), .call 44 [(.t 57), (.t 58)], (some (54, true)), [57, 58]⟩,
 ⟨(some 60), .pick (.t 54) (.t 59) (.c (.b false)), none, [54, 59]⟩,
 ⟨(some 61), .mv (.t 60), none, [60]⟩,
 ⟨(some 62), .mv (.t 0), (some (61, true)), []⟩,
 ⟨(some 63), .bin .add (.t 62) (.c (.i .i64 300)), (some (61, true)), [62]⟩,
 ⟨(some 64), .mv (.t 0), (some (61, true)), []⟩,
 ⟨(some 65), .call 48 [(.t 63), (.t 64)], (some (61, true)), [63, 64]⟩,
 ⟨(some 66), .pick (.t 61) (.t 65) (.c (.b false)), none, [61, 65]⟩,
 ⟨(some 67), .mv (.t 66), none, [66]⟩,
 ⟨(some 68), .mv (.t 0), (some (67, true)), []⟩,
 ⟨(some 69), .bin .add (.t 68) (.c (.i .i64 300)), (some (67, true)), [68]⟩,
 ⟨(some 70), .bin .sub (.t 69) (.c (.i .i64 1)), (some (67, true)), [69]⟩,
 ⟨(some 71), .mv (.t 0), (some (67, true)), [0]⟩,
 ⟨(some 72), .call 48 [(.t 70), (.t 71)], (some (67, true)), [70, 71]⟩,
 ⟨(some 73), .un .not (.t 72), (some (67, true)), [72]⟩,
 ⟨(some 74), .pick (.t 67) (.t 73) (.c (.b false)), none, [67, 73]⟩,
 ⟨(some 8), .asg (.t 74), none, [74]⟩])
 .ret))))))), [.t 8]⟩
/-- interrex/interrexref1.Until -/
def f43 : AFn := ⟨1, (.seq (.reg [⟨(some 2), .asg (.c (.i .i64 0)), none, [2]⟩])
 (.seq (.reg [⟨(some 3), .mv (.t 0), none, [0]⟩,
 ⟨(some 4), .call 80 [(.t 3)], none, [3]⟩,
 ⟨(some 5), .bin .add (.t 4) (.c (.i .i64 1000)), none, [4]⟩,
 ⟨(some 6), .bin .sub (.t 5) (.c (.i .i64 100)), none, [5]⟩,
 ⟨(some 2), .asg (.t 6), none, [6]⟩])
 .ret)), [.t 2]⟩
/-- interrex/interrexref1.Leads -/
def f45 : AFn := ⟨2, (.seq (.reg [⟨(some 4), .asg (.c (.b false)), none, [4]⟩])
 (.seq (.reg [⟨(some 5), .mv (.t 0), none, [0]⟩,
 ⟨(some 6), .call 80 [(.t 5)], none, [5]⟩,
 ⟨(some 7), .mv (.t 1), none, [1]⟩,
 ⟨(some 8), .call 43 [(.t 7)], none, [7]⟩,
 ⟨(some 9), .bin .lss (.t 6) (.t 8), none, [6, 8]⟩,
 ⟨(some 4), .asg (.t 9), none, [9]⟩])
 .ret)), [.t 4]⟩
/-- interrex/interrexref1.Free -/
def f47 : AFn := ⟨3, (.seq (.reg [⟨(some 6), .asg (.c (.b false)), none, [6]⟩])
 (.seq (.reg [⟨(some 7), .mv (.t 2), none, []⟩,
 ⟨(some 8), .bin .geq (.t 7) (.c (.i .i64 1)), none, [7]⟩,
 ⟨(some 9), .mv (.t 8), none, [8]⟩,
 ⟨(some 10), .mv (.t 2), (some (9, true)), []⟩,
 ⟨(some 11), .bin .leq (.t 10) (.c (.i .i64 1099511627776)), (some (9, true)), [10]⟩,
 ⟨(some 12), .pick (.t 9) (.t 11) (.c (.b false)), none, [9, 11]⟩,
 ⟨(some 13), .mv (.t 12), none, [12]⟩,
 ⟨(some 14), .mv (.t 0), (some (13, true)), [0]⟩,
 ⟨(some 15), .call 80 [(.t 14)], (some (13, true)), [14]⟩,
 ⟨(some 16), .mv (.t 1), (some (13, true)), [1]⟩,
 ⟨(some 17), .call 80 [(.t 16)], (some (13, true)), [16]⟩,
 ⟨(some 18), .bin .sub (.t 15) (.t 17), (some (13, true)), [15, 17]⟩,
 ⟨(some 19), .mv (.t 2), (some (13, true)), [2]⟩,
 ⟨(some 20), .bin .geq (.t 18) (.t 19), (some (13, true)), [18, 19]⟩,
 ⟨(some 21), .pick (.t 13) (.t 20) (.c (.b false)), none, [13, 20]⟩,
 ⟨(some 6), .asg (.t 21), none, [21]⟩])
 .ret)), [.t 6]⟩
/-- interrex/interrexref1.Due -/
def f49 : AFn := ⟨2, (.seq (.reg [⟨(some 4), .asg (.c (.b false)), none, [4]⟩])
 (.seq (.reg [⟨(some 5), .mv (.t 0), none, [0]⟩,
 ⟨(some 6), .call 80 [(.t 5)], none, [5]⟩,
 ⟨(some 7), .mv (.t 1), none, [1]⟩,
 ⟨(some 8), .call 80 [(.t 7)], none, [7]⟩,
 ⟨(some 9), .bin .sub (.t 6) (.t 8), none, [6, 8]⟩,
 ⟨(some 10), .bin .geq (.t 9) (.c (.i .i64 300)), none, [9]⟩,
 ⟨(some 4), .asg (.t 10), none, [10]⟩])
 .ret)), [.t 4]⟩
/-- interrex/interrexref1.clip -/
def f80 : AFn := ⟨1, (.seq (.reg [⟨(some 2), .asg (.c (.i .i64 0)), none, [2]⟩])
 (.seq (.reg [⟨(some 3), .mv (.t 0), none, [0]⟩,
 ⟨(some 4), .mnmx false [(.t 3), (.c (.i .i64 1152921504606846976))], none, [3]⟩,
 ⟨(some 5), .mnmx true [(.c (.i .i64 0)), (.t 4)], none, [4]⟩,
 ⟨(some 2), .asg (.t 5), none, [5]⟩])
 .ret)), [.t 2]⟩
def gns : FT := (.node (.node (.node .nil 4 f4 .nil) 5 f5 (.node .nil 43 f43 .nil)) 45 f45 (.node (.node .nil 47 f47 .nil) 49 f49 (.node .nil 80 f80 .nil)))
end Go.Eng.AF
