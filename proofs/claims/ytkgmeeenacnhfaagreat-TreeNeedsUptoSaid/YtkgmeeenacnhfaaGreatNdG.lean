/- The seat's functions as abstract code, the first part. No condition. -/
import Derived.Test.YtkgmeeenacnhfaaGreatNdA
set_option linter.unusedVariables false
set_option linter.unusedSimpArgs false
namespace Go.Proofs.YtkgmeeenacnhfaaGreat.Eng
def c9 : AFn := { nparams := 1, ntmps := 69, results := [.tmp 2], body :=
 (.seq (.region [⟨(some 1), .boxL [21, 29, 47] (.t 0), none, []⟩,
 ⟨(some 2), .mv (.c (.bool false)), none, []⟩])
 (.seq (.seq (.region [⟨(some 8), .call 12 [], none, []⟩,
 ⟨(some 9), .un .not (.t 8), none, []⟩])
 (.cond (.t 9)
 (.seq (.region [⟨(some 2), .mv (.c (.bool false)), none, []⟩])
 .ret)
 .skip))
 (.seq (.seq (.region [⟨(some 10), .load (some 11) (.t 1), none, []⟩,
 ⟨(some 11), .call 34 [(.t 10), (.c (.int .i64 3000)), (.c (.int .i64 60))], none, []⟩,
 ⟨(some 12), .bin .gtr (.t 11) (.c (.int .i64 3000)), none, []⟩,
 ⟨(some 13), .mv (.t 12), none, []⟩,
 ⟨(some 14), .load (some 11) (.t 1), (some (13, false)), []⟩,
 ⟨(some 15), .call 35 [(.t 14)], (some (13, false)), []⟩,
 ⟨(some 16), .pick (.t 13) (.c (.bool true)) (.t 15), none, []⟩])
 (.cond (.t 16)
 (.seq (.region [⟨(some 2), .mv (.c (.bool true)), none, []⟩])
 .ret)
 .skip))
 (.seq (.region [⟨(some 17), .load (some 11) (.t 1), none, []⟩,
 ⟨(some 18), .call 36 [(.t 17)], none, []⟩,
 ⟨(some 3), .mv (.t 18), none, []⟩])
 (.seq (.region [⟨(some 4), .mv (.c (.int .i64 0)), none, []⟩])
 (.seq (.region [⟨(some 19), .load (some 11) (.t 1), none, []⟩,
 ⟨(some 5), .boxL [20, 45, 54] (.c (.agg [(.int .i64 0), (.int .i64 0), (.int .u32 0), (.int .u32 0), (.int .u32 0), (.int .u32 0), (.int .i64 0), (.int .i64 0), (.int .i64 0), (.int .i64 0), (.list 1 [])])), none, []⟩,
 ⟨none, .store 11 (.t 5) (.t 19), none, []⟩])
 (.seq (.region [⟨(some 20), .faddr 10 (some 5) (.t 5), none, []⟩,
 ⟨none, .store 1 (.t 20) (.c (.list 1 [])), none, []⟩])
 (.seq (.seq (.region [⟨(some 21), .faddr 10 (some 1) (.t 1), none, []⟩,
 ⟨(some 22), .load none (.t 21), none, []⟩,
 ⟨(some 23), .len (.t 22), none, []⟩,
 ⟨(some 24), .bin .sub (.t 23) (.c (.int .i64 1)), none, []⟩,
 ⟨(some 6), .mv (.t 24), none, []⟩])
 (.block 0
 (.loop
 (.seq (.seq (.region [⟨(some 25), .mv (.t 6), none, []⟩,
 ⟨(some 26), .bin .geq (.t 25) (.c (.int .i64 0)), none, []⟩])
 (.cond (.t 26)
 .skip
 (.exit 0)))
 (.seq (.block 1
 (.seq (.region [⟨(some 29), .faddr 10 (some 1) (.t 1), none, []⟩,
 ⟨(some 30), .load none (.t 29), none, []⟩,
 ⟨(some 31), .mv (.t 6), none, []⟩,
 ⟨(some 32), .iaddr 11 (.t 30) (.t 31), none, []⟩,
 ⟨(some 33), .load (some 11) (.t 32), none, []⟩,
 ⟨(some 34), .call 36 [(.t 33)], none, []⟩,
 ⟨(some 7), .mv (.t 34), none, []⟩])
 (.seq (.seq (.region [⟨(some 35), .mv (.t 7), none, []⟩,
 ⟨(some 36), .mv (.t 3), none, []⟩,
 ⟨(some 37), .bin .gtr (.t 35) (.t 36), none, []⟩,
 ⟨(some 38), .mv (.t 37), none, []⟩,
 ⟨(some 39), .mv (.t 7), (some (38, false)), []⟩,
 ⟨(some 40), .bin .lss (.t 39) (.c (.int .i64 0)), (some (38, false)), []⟩,
 ⟨(some 41), .pick (.t 38) (.c (.bool true)) (.t 40), none, []⟩])
 (.cond (.t 41)
 (.seq (.region [⟨(some 2), .mv (.c (.bool false)), none, []⟩])
 .ret)
 .skip))
 (.seq (.region [⟨(some 42), .mv (.t 4), none, []⟩,
 ⟨(some 43), .mv (.t 7), none, []⟩,
 ⟨(some 44), .bin .add (.t 42) (.t 43), none, []⟩,
 ⟨(some 4), .mv (.t 44), none, []⟩])
 (.region [⟨(some 45), .faddr 10 (some 5) (.t 5), none, []⟩,
 ⟨(some 46), .load none (.t 45), none, []⟩,
 ⟨(some 47), .faddr 10 (some 1) (.t 1), none, []⟩,
 ⟨(some 48), .load none (.t 47), none, []⟩,
 ⟨(some 49), .mv (.t 6), none, []⟩,
 ⟨(some 50), .iaddr 11 (.t 48) (.t 49), none, []⟩,
 ⟨(some 51), .load (some 11) (.t 50), none, []⟩,
 ⟨(some 52), .mkslice 11 1 [(.int .i64 0), (.int .i64 0), (.int .u32 0), (.int .u32 0), (.int .u32 0), (.int .u32 0), (.int .i64 0), (.int .i64 0), (.int .i64 0), (.int .i64 0), (.list 1 [])] [(0, (.t 51))], none, []⟩,
 ⟨(some 53), .append 11 88 false (.t 46) (.t 52), none, []⟩,
 ⟨(some 54), .faddr 10 (some 5) (.t 5), none, []⟩,
 ⟨none, .store 1 (.t 54) (.t 53), none, []⟩])))))
 (.region [⟨(some 27), .mv (.t 6), none, []⟩,
 ⟨(some 28), .bin .sub (.t 27) (.c (.int .i64 1)), none, []⟩,
 ⟨(some 6), .mv (.t 28), none, []⟩]))))))
 (.seq (.region [⟨(some 55), .mv (.t 3), none, []⟩,
 ⟨(some 56), .bin .geq (.t 55) (.c (.int .i64 1)), none, []⟩,
 ⟨(some 57), .mv (.t 56), none, []⟩,
 ⟨(some 58), .mv (.t 3), (some (57, true)), []⟩,
 ⟨(some 59), .mv (.t 4), (some (57, true)), []⟩,
 ⟨(some 60), .mx [(.t 59), (.c (.int .i64 1))], (some (57, true)), []⟩,
 ⟨(some 61), .bin .leq (.t 58) (.t 60), (some (57, true)), []⟩,
 ⟨(some 62), .pick (.t 57) (.t 61) (.c (.bool false)), none, []⟩,
 ⟨(some 63), .mv (.t 62), none, []⟩,
 ⟨(some 64), .load (some 11) (.t 5), (some (63, true)), []⟩,
 ⟨(some 65), .call 36 [(.t 64)], (some (63, true)), []⟩,
 ⟨(some 66), .mv (.t 3), (some (63, true)), []⟩,
 ⟨(some 67), .bin .eql (.t 65) (.t 66), (some (63, true)), []⟩,
 ⟨(some 68), .pick (.t 63) (.t 67) (.c (.bool false)), none, []⟩,
 ⟨(some 2), .mv (.t 68), none, []⟩])
 .ret))))))))) }
def c12 : AFn := { nparams := 0, ntmps := 246, results := [.tmp 0], body :=
 (.seq (.region [⟨(some 0), .mv (.c (.bool false)), none, []⟩])
 (.seq (.region [⟨(some 14), .call 43 [(.c (.int .i64 4))], none, []⟩,
 ⟨(some 15), .call 38 [(.c (.int .i64 0)), (.t 14)], none, []⟩,
 ⟨(some 1), .boxL [] (.c (.agg [(.int .i64 0), (.int .i64 0), (.int .i64 0), (.int .i64 0), (.int .i64 0), (.int .u32 0), (.int .u32 0), (.int .i64 0), (.int .i64 0), (.int .i64 0), (.int .i64 0), (.list 1 []), (.list 1 [])])), none, []⟩,
 ⟨none, .store 13 (.t 1) (.t 15), none, []⟩])
 (.seq (.region [⟨(some 16), .call 37 [(.c (.int .i64 0))], none, []⟩,
 ⟨(some 17), .call 45 [(.c (.int .u32 1))], none, []⟩,
 ⟨(some 18), .call 44 [(.c (.int .i64 1)), (.t 16), (.t 17)], none, []⟩,
 ⟨(some 19), .call 38 [(.c (.int .i64 1)), (.t 18)], none, []⟩,
 ⟨(some 2), .boxL [] (.c (.agg [(.int .i64 0), (.int .i64 0), (.int .i64 0), (.int .i64 0), (.int .i64 0), (.int .u32 0), (.int .u32 0), (.int .i64 0), (.int .i64 0), (.int .i64 0), (.int .i64 0), (.list 1 []), (.list 1 [])])), none, []⟩,
 ⟨none, .store 13 (.t 2) (.t 19), none, []⟩])
 (.seq (.region [⟨(some 21), .load (some 13) (.t 1), none, []⟩,
 ⟨(some 22), .load (some 13) (.t 2), none, []⟩,
 ⟨(some 23), .call 37 [(.c (.int .i64 1))], none, [⟨(some 13), (.t 2), 22, none⟩, ⟨(some 13), (.t 1), 21, none⟩]⟩,
 ⟨(some 24), .call 47 [(.c (.int .i64 4)), (.t 23)], none, [⟨(some 13), (.t 2), 22, none⟩, ⟨(some 13), (.t 1), 21, none⟩]⟩,
 ⟨(some 25), .mkslice 13 3 [(.int .i64 0), (.int .i64 0), (.int .i64 0), (.int .i64 0), (.int .i64 0), (.int .u32 0), (.int .u32 0), (.int .i64 0), (.int .i64 0), (.int .i64 0), (.int .i64 0), (.list 1 []), (.list 1 [])] [(0, (.t 21)), (1, (.t 22)), (2, (.t 24))], none, []⟩,
 ⟨(some 26), .call 46 [(.c (.int .i64 2)), (.t 25)], none, []⟩,
 ⟨(some 27), .call 14 [(.t 26)], none, []⟩,
 ⟨(some 20), .mv (.t 27), none, []⟩,
 ⟨(some 28), .ext (.t 20) 0, none, []⟩,
 ⟨(some 29), .ext (.t 20) 1, none, []⟩,
 ⟨(some 3), .boxL [38, 44, 53, 79, 85, 108, 127, 133, 142] (.c (.agg [(.list 1 []), (.list 1 []), (.int .i64 0), (.int .i64 0), (.int .u32 0), (.int .u32 0), (.int .u32 0), (.int .u32 0), (.int .i64 0), (.int .i64 0), (.int .i64 0), (.int .i64 0), (.list 1 []), (.int .i64 0), (.list 1 [])])), none, [⟨(some 13), (.t 2), 22, none⟩, ⟨(some 13), (.t 1), 21, none⟩]⟩,
 ⟨none, .store 15 (.t 3) (.t 28), none, []⟩,
 ⟨(some 4), .mv (.t 29), none, []⟩])
 (.seq (.region [⟨(some 30), .call 48 [(.c (.int .i64 2)), (.c (.int .i64 0)), (.c (.int .i64 4)), (.c (.list 1 []))], none, []⟩,
 ⟨(some 31), .call 45 [(.c (.int .u32 1))], none, []⟩,
 ⟨(some 32), .call 49 [(.t 31)], none, []⟩,
 ⟨(some 33), .mkslice 11 2 [(.int .i64 0), (.int .i64 0), (.int .u32 0), (.int .u32 0), (.int .u32 0), (.int .u32 0), (.int .i64 0), (.int .i64 0), (.int .i64 0), (.int .i64 0), (.list 1 [])] [(0, (.t 30)), (1, (.t 32))], none, []⟩,
 ⟨(some 34), .call 48 [(.c (.int .i64 4)), (.c (.int .i64 1)), (.c (.int .i64 0)), (.t 33)], none, []⟩,
 ⟨(some 5), .boxL [] (.c (.agg [(.int .i64 0), (.int .i64 0), (.int .u32 0), (.int .u32 0), (.int .u32 0), (.int .u32 0), (.int .i64 0), (.int .i64 0), (.int .i64 0), (.int .i64 0), (.list 1 [])])), none, []⟩,
 ⟨none, .store 11 (.t 5) (.t 34), none, []⟩])
 (.seq (.seq (.region [⟨(some 35), .mv (.t 4), none, []⟩,
 ⟨(some 36), .bin .neq (.t 35) (.c (.int .i64 0)), none, []⟩,
 ⟨(some 37), .mv (.t 36), none, []⟩,
 ⟨(some 38), .faddr 1 (some 3) (.t 3), (some (37, false)), []⟩,
 ⟨(some 39), .load none (.t 38), (some (37, false)), []⟩,
 ⟨(some 40), .len (.t 39), (some (37, false)), []⟩,
 ⟨(some 41), .bin .neq (.t 40) (.c (.int .i64 1)), (some (37, false)), []⟩,
 ⟨(some 42), .pick (.t 37) (.c (.bool true)) (.t 41), none, []⟩,
 ⟨(some 43), .mv (.t 42), none, []⟩,
 ⟨(some 44), .faddr 1 (some 3) (.t 3), (some (43, false)), []⟩,
 ⟨(some 45), .load none (.t 44), (some (43, false)), []⟩,
 ⟨(some 46), .iaddr 19 (.t 45) (.c (.int .i64 0)), (some (43, false)), []⟩,
 ⟨(some 47), .faddr 18 none (.t 46), (some (43, false)), []⟩,
 ⟨(some 48), .load none (.t 47), (some (43, false)), []⟩,
 ⟨(some 49), .len (.t 48), (some (43, false)), []⟩,
 ⟨(some 50), .bin .neq (.t 49) (.c (.int .i64 1)), (some (43, false)), []⟩,
 ⟨(some 51), .pick (.t 43) (.c (.bool true)) (.t 50), none, []⟩,
 ⟨(some 52), .mv (.t 51), none, []⟩,
 ⟨(some 53), .faddr 1 (some 3) (.t 3), (some (52, false)), []⟩,
 ⟨(some 54), .load none (.t 53), (some (52, false)), []⟩,
 ⟨(some 55), .iaddr 19 (.t 54) (.c (.int .i64 0)), (some (52, false)), []⟩,
 ⟨(some 56), .faddr 18 none (.t 55), (some (52, false)), []⟩,
 ⟨(some 57), .load none (.t 56), (some (52, false)), []⟩,
 ⟨(some 58), .iaddr 11 (.t 57) (.c (.int .i64 0)), (some (52, false)), []⟩,
 ⟨(some 59), .load (some 11) (.t 58), (some (52, false)), []⟩,
 ⟨(some 60), .load (some 11) (.t 5), (some (52, false)), []⟩,
 ⟨(some 61), .call 40 [(.t 59), (.t 60)], (some (52, false)), []⟩,
 ⟨(some 62), .un .not (.t 61), (some (52, false)), []⟩,
 ⟨(some 63), .pick (.t 52) (.c (.bool true)) (.t 62), none, []⟩])
 (.cond (.t 63)
 (.seq (.region [⟨(some 0), .mv (.c (.bool false)), none, []⟩])
 .ret)
 .skip))
 (.seq (.region [⟨(some 65), .load (some 13) (.t 1), none, []⟩,
 ⟨(some 66), .load (some 13) (.t 2), none, []⟩,
 ⟨(some 67), .call 37 [(.c (.int .i64 1))], none, [⟨(some 13), (.t 2), 66, none⟩, ⟨(some 13), (.t 1), 65, none⟩]⟩,
 ⟨(some 68), .call 47 [(.c (.int .i64 4)), (.t 67)], none, [⟨(some 13), (.t 2), 66, none⟩, ⟨(some 13), (.t 1), 65, none⟩]⟩,
 ⟨(some 69), .call 37 [(.c (.int .i64 0))], none, [⟨(some 13), (.t 2), 66, none⟩, ⟨(some 13), (.t 1), 65, none⟩]⟩,
 ⟨(some 70), .call 47 [(.c (.int .i64 8)), (.t 69)], none, [⟨(some 13), (.t 2), 66, none⟩, ⟨(some 13), (.t 1), 65, none⟩]⟩,
 ⟨(some 71), .mkslice 13 4 [(.int .i64 0), (.int .i64 0), (.int .i64 0), (.int .i64 0), (.int .i64 0), (.int .u32 0), (.int .u32 0), (.int .i64 0), (.int .i64 0), (.int .i64 0), (.int .i64 0), (.list 1 []), (.list 1 [])] [(0, (.t 65)), (1, (.t 66)), (2, (.t 68)), (3, (.t 70))], none, []⟩,
 ⟨(some 72), .call 46 [(.c (.int .i64 2)), (.t 71)], none, []⟩,
 ⟨(some 73), .call 14 [(.t 72)], none, []⟩,
 ⟨(some 64), .mv (.t 73), none, []⟩,
 ⟨(some 74), .ext (.t 64) 0, none, []⟩,
 ⟨(some 75), .ext (.t 64) 1, none, []⟩,
 ⟨none, .store 15 (.t 3) (.t 74), none, []⟩,
 ⟨(some 4), .mv (.t 75), none, []⟩])
 (.seq (.seq (.region [⟨(some 76), .mv (.t 4), none, []⟩,
 ⟨(some 77), .bin .neq (.t 76) (.c (.int .i64 0)), none, []⟩,
 ⟨(some 78), .mv (.t 77), none, []⟩,
 ⟨(some 79), .faddr 1 (some 3) (.t 3), (some (78, false)), []⟩,
 ⟨(some 80), .load none (.t 79), (some (78, false)), []⟩,
 ⟨(some 81), .len (.t 80), (some (78, false)), []⟩,
 ⟨(some 82), .bin .neq (.t 81) (.c (.int .i64 3)), (some (78, false)), []⟩,
 ⟨(some 83), .pick (.t 78) (.c (.bool true)) (.t 82), none, []⟩,
 ⟨(some 84), .mv (.t 83), none, []⟩,
 ⟨(some 85), .faddr 1 (some 3) (.t 3), (some (84, false)), []⟩,
 ⟨(some 86), .load none (.t 85), (some (84, false)), []⟩,
 ⟨(some 87), .iaddr 19 (.t 86) (.c (.int .i64 0)), (some (84, false)), []⟩,
 ⟨(some 88), .faddr 7 none (.t 87), (some (84, false)), []⟩,
 ⟨(some 89), .load (some 11) (.t 88), (some (84, false)), []⟩,
 ⟨(some 90), .call 48 [(.c (.int .i64 2)), (.c (.int .i64 0)), (.c (.int .i64 4)), (.c (.list 1 []))], (some (84, false)), [⟨(some 11), (.t 88), 89, (some (84, false))⟩, ⟨none, (.t 85), 86, (some (84, false))⟩]⟩,
 ⟨(some 91), .call 40 [(.t 89), (.t 90)], (some (84, false)), []⟩,
 ⟨(some 92), .un .not (.t 91), (some (84, false)), []⟩,
 ⟨(some 93), .pick (.t 84) (.c (.bool true)) (.t 92), none, []⟩])
 (.cond (.t 93)
 (.seq (.region [⟨(some 0), .mv (.c (.bool false)), none, []⟩])
 .ret)
 .skip))
 (.seq (.region [⟨(some 95), .load (some 13) (.t 1), none, []⟩,
 ⟨(some 96), .call 45 [(.c (.int .u32 0))], none, [⟨(some 13), (.t 1), 95, none⟩]⟩,
 ⟨(some 97), .call 47 [(.c (.int .i64 4)), (.t 96)], none, [⟨(some 13), (.t 1), 95, none⟩]⟩,
 ⟨(some 98), .call 37 [(.c (.int .i64 0))], none, [⟨(some 13), (.t 1), 95, none⟩]⟩,
 ⟨(some 99), .call 47 [(.c (.int .i64 8)), (.t 98)], none, [⟨(some 13), (.t 1), 95, none⟩]⟩,
 ⟨(some 100), .mkslice 13 3 [(.int .i64 0), (.int .i64 0), (.int .i64 0), (.int .i64 0), (.int .i64 0), (.int .u32 0), (.int .u32 0), (.int .i64 0), (.int .i64 0), (.int .i64 0), (.int .i64 0), (.list 1 []), (.list 1 [])] [(0, (.t 95)), (1, (.t 97)), (2, (.t 99))], none, []⟩,
 ⟨(some 101), .call 46 [(.c (.int .i64 1)), (.t 100)], none, []⟩,
 ⟨(some 102), .call 14 [(.t 101)], none, []⟩,
 ⟨(some 94), .mv (.t 102), none, []⟩,
 ⟨(some 103), .ext (.t 94) 0, none, []⟩,
 ⟨(some 104), .ext (.t 94) 1, none, []⟩,
 ⟨none, .store 15 (.t 3) (.t 103), none, []⟩,
 ⟨(some 4), .mv (.t 104), none, []⟩])
 (.seq (.seq (.region [⟨(some 105), .mv (.t 4), none, []⟩,
 ⟨(some 106), .bin .neq (.t 105) (.c (.int .i64 0)), none, []⟩,
 ⟨(some 107), .mv (.t 106), none, []⟩,
 ⟨(some 108), .faddr 1 (some 3) (.t 3), (some (107, false)), []⟩,
 ⟨(some 109), .load none (.t 108), (some (107, false)), []⟩,
 ⟨(some 110), .len (.t 109), (some (107, false)), []⟩,
 ⟨(some 111), .bin .neq (.t 110) (.c (.int .i64 3)), (some (107, false)), []⟩,
 ⟨(some 112), .pick (.t 107) (.c (.bool true)) (.t 111), none, []⟩])
 (.cond (.t 112)
 (.seq (.region [⟨(some 0), .mv (.c (.bool false)), none, []⟩])
 .ret)
 .skip))
 (.seq (.region [⟨(some 114), .load (some 13) (.t 1), none, []⟩,
 ⟨(some 115), .call 45 [(.c (.int .u32 0))], none, [⟨(some 13), (.t 1), 114, none⟩]⟩,
 ⟨(some 116), .call 47 [(.c (.int .i64 8)), (.t 115)], none, [⟨(some 13), (.t 1), 114, none⟩]⟩,
 ⟨(some 117), .call 37 [(.c (.int .i64 0))], none, [⟨(some 13), (.t 1), 114, none⟩]⟩,
 ⟨(some 118), .call 47 [(.c (.int .i64 12)), (.t 117)], none, [⟨(some 13), (.t 1), 114, none⟩]⟩,
 ⟨(some 119), .mkslice 13 3 [(.int .i64 0), (.int .i64 0), (.int .i64 0), (.int .i64 0), (.int .i64 0), (.int .u32 0), (.int .u32 0), (.int .i64 0), (.int .i64 0), (.int .i64 0), (.int .i64 0), (.list 1 []), (.list 1 [])] [(0, (.t 114)), (1, (.t 116)), (2, (.t 118))], none, []⟩,
 ⟨(some 120), .call 46 [(.c (.int .i64 1)), (.t 119)], none, []⟩,
 ⟨(some 121), .call 14 [(.t 120)], none, []⟩,
 ⟨(some 113), .mv (.t 121), none, []⟩,
 ⟨(some 122), .ext (.t 113) 0, none, []⟩,
 ⟨(some 123), .ext (.t 113) 1, none, []⟩,
 ⟨none, .store 15 (.t 3) (.t 122), none, []⟩,
 ⟨(some 4), .mv (.t 123), none, []⟩])
 (.seq (.seq (.region [⟨(some 124), .mv (.t 4), none, []⟩,
 ⟨(some 125), .bin .neq (.t 124) (.c (.int .i64 0)), none, []⟩,
 ⟨(some 126), .mv (.t 125), none, []⟩,
 ⟨(some 127), .faddr 1 (some 3) (.t 3), (some (126, false)), []⟩,
 ⟨(some 128), .load none (.t 127), (some (126, false)), []⟩,
 ⟨(some 129), .len (.t 128), (some (126, false)), []⟩,
 ⟨(some 130), .bin .neq (.t 129) (.c (.int .i64 2)), (some (126, false)), []⟩,
 ⟨(some 131), .pick (.t 126) (.c (.bool true)) (.t 130), none, []⟩,
 ⟨(some 132), .mv (.t 131), none, []⟩,
 ⟨(some 133), .faddr 1 (some 3) (.t 3), (some (132, false)), []⟩,
 ⟨(some 134), .load none (.t 133), (some (132, false)), []⟩,
 ⟨(some 135), .iaddr 19 (.t 134) (.c (.int .i64 1)), (some (132, false)), []⟩,
 ⟨(some 136), .faddr 18 none (.t 135), (some (132, false)), []⟩,
 ⟨(some 137), .load none (.t 136), (some (132, false)), []⟩,
 ⟨(some 138), .len (.t 137), (some (132, false)), []⟩,
 ⟨(some 139), .bin .neq (.t 138) (.c (.int .i64 1)), (some (132, false)), []⟩,
 ⟨(some 140), .pick (.t 132) (.c (.bool true)) (.t 139), none, []⟩,
 ⟨(some 141), .mv (.t 140), none, []⟩,
 ⟨(some 142), .faddr 1 (some 3) (.t 3), (some (141, false)), []⟩,
 ⟨(some 143), .load none (.t 142), (some (141, false)), []⟩,
 ⟨(some 144), .iaddr 19 (.t 143) (.c (.int .i64 1)), (some (141, false)), []⟩,
 ⟨(some 145), .faddr 18 none (.t 144), (some (141, false)), []⟩,
 ⟨(some 146), .load none (.t 145), (some (141, false)), []⟩,
 ⟨(some 147), .iaddr 11 (.t 146) (.c (.int .i64 0)), (some (141, false)), []⟩,
 ⟨(some 148), .load (some 11) (.t 147), (some (141, false)), []⟩,
 ⟨(some 149), .call 48 [(.c (.int .i64 2)), (.c (.int .i64 0)), (.c (.int .i64 4)), (.c (.list 1 []))], (some (141, false)), [⟨(some 11), (.t 147), 148, (some (141, false))⟩, ⟨none, (.t 145), 146, (some (141, false))⟩, ⟨none, (.t 142), 143, (some (141, false))⟩]⟩,
 ⟨(some 150), .call 40 [(.t 148), (.t 149)], (some (141, false)), []⟩,
 ⟨(some 151), .un .not (.t 150), (some (141, false)), []⟩,
 ⟨(some 152), .pick (.t 141) (.c (.bool true)) (.t 151), none, []⟩])
 (.cond (.t 152)
 (.seq (.region [⟨(some 0), .mv (.c (.bool false)), none, []⟩])
 .ret)
 .skip))
 (.seq (.region [⟨(some 154), .load (some 15) (.t 3), none, []⟩,
 ⟨(some 155), .call 20 [(.t 154)], none, []⟩,
 ⟨(some 153), .mv (.t 155), none, []⟩,
 ⟨(some 156), .ext (.t 153) 0, none, []⟩,
 ⟨(some 157), .ext (.t 153) 1, none, []⟩,
 ⟨(some 6), .boxL [180] (.c (.agg [(.list 1 []), (.list 1 []), (.int .i64 0), (.int .i64 0), (.int .u32 0), (.int .u32 0), (.int .u32 0), (.int .u32 0), (.int .i64 0), (.list 1 [])])), none, []⟩,
 ⟨none, .store 10 (.t 6) (.t 156), none, []⟩,
 ⟨(some 7), .mv (.t 157), none, []⟩])
 (.seq (.region [⟨(some 159), .load (some 13) (.t 1), none, []⟩,
 ⟨(some 160), .mkslice 13 1 [(.int .i64 0), (.int .i64 0), (.int .i64 0), (.int .i64 0), (.int .i64 0), (.int .u32 0), (.int .u32 0), (.int .i64 0), (.int .i64 0), (.int .i64 0), (.int .i64 0), (.list 1 []), (.list 1 [])] [(0, (.t 159))], none, []⟩,
 ⟨(some 161), .call 46 [(.c (.int .i64 1)), (.t 160)], none, []⟩,
 ⟨(some 162), .call 18 [(.t 161)], none, []⟩,
 ⟨(some 158), .mv (.t 162), none, []⟩,
 ⟨(some 163), .ext (.t 158) 0, none, []⟩,
 ⟨(some 164), .ext (.t 158) 1, none, []⟩,
 ⟨(some 8), .boxL [190] (.c (.agg [(.list 1 []), (.list 1 []), (.int .i64 0), (.int .i64 0), (.int .u32 0), (.int .u32 0), (.int .u32 0), (.int .u32 0), (.int .i64 0), (.int .i64 0), (.int .i64 0), (.int .i64 0), (.list 1 []), (.int .i64 0), (.list 1 [])])), none, []⟩,
 ⟨none, .store 15 (.t 8) (.t 163), none, []⟩,
 ⟨(some 9), .mv (.t 164), none, []⟩])
 (.seq (.region [⟨(some 166), .load (some 15) (.t 3), none, []⟩,
 ⟨(some 167), .call 50 [(.t 166)], none, []⟩,
 ⟨(some 165), .mv (.t 167), none, []⟩,
 ⟨(some 168), .ext (.t 165) 0, none, []⟩,
 ⟨(some 169), .ext (.t 165) 1, none, []⟩,
 ⟨(some 170), .ext (.t 165) 2, none, []⟩,
 ⟨(some 10), .mv (.t 168), none, []⟩,
 ⟨(some 11), .mv (.t 169), none, []⟩,
 ⟨(some 12), .mv (.t 170), none, []⟩])
 (.seq (.region [⟨(some 171), .call 37 [(.c (.int .i64 0))], none, []⟩,
 ⟨(some 172), .call 49 [(.t 171)], none, []⟩,
 ⟨(some 173), .call 37 [(.c (.int .i64 1))], none, []⟩,
 ⟨(some 174), .call 49 [(.t 173)], none, []⟩,
 ⟨(some 175), .mkslice 11 2 [(.int .i64 0), (.int .i64 0), (.int .u32 0), (.int .u32 0), (.int .u32 0), (.int .u32 0), (.int .i64 0), (.int .i64 0), (.int .i64 0), (.int .i64 0), (.list 1 [])] [(0, (.t 172)), (1, (.t 174))], none, []⟩,
 ⟨(some 176), .call 48 [(.c (.int .i64 4)), (.c (.int .i64 1)), (.c (.int .i64 0)), (.t 175)], none, []⟩,
 ⟨(some 13), .boxL [] (.c (.agg [(.int .i64 0), (.int .i64 0), (.int .u32 0), (.int .u32 0), (.int .u32 0), (.int .u32 0), (.int .i64 0), (.int .i64 0), (.int .i64 0), (.int .i64 0), (.list 1 [])])), none, []⟩,
 ⟨none, .store 11 (.t 13) (.t 176), none, []⟩])
 (.seq (.seq (.region [⟨(some 177), .mv (.t 7), none, []⟩,
 ⟨(some 178), .bin .neq (.t 177) (.c (.int .i64 0)), none, []⟩,
 ⟨(some 179), .mv (.t 178), none, []⟩,
 ⟨(some 180), .faddr 1 (some 6) (.t 6), (some (179, false)), []⟩,
 ⟨(some 181), .load none (.t 180), (some (179, false)), []⟩,
 ⟨(some 182), .len (.t 181), (some (179, false)), []⟩,
 ⟨(some 183), .bin .neq (.t 182) (.c (.int .i64 3)), (some (179, false)), []⟩,
 ⟨(some 184), .pick (.t 179) (.c (.bool true)) (.t 183), none, []⟩,
 ⟨(some 185), .mv (.t 184), none, []⟩,
 ⟨(some 186), .mv (.t 9), (some (185, false)), []⟩,
 ⟨(some 187), .bin .neq (.t 186) (.c (.int .i64 0)), (some (185, false)), []⟩,
 ⟨(some 188), .pick (.t 185) (.c (.bool true)) (.t 187), none, []⟩,
 ⟨(some 189), .mv (.t 188), none, []⟩,
 ⟨(some 190), .faddr 1 (some 8) (.t 8), (some (189, false)), []⟩,
 ⟨(some 191), .load none (.t 190), (some (189, false)), []⟩,
 ⟨(some 192), .len (.t 191), (some (189, false)), []⟩,
 ⟨(some 193), .bin .neq (.t 192) (.c (.int .i64 1)), (some (189, false)), []⟩,
 ⟨(some 194), .pick (.t 189) (.c (.bool true)) (.t 193), none, []⟩,
 ⟨(some 195), .mv (.t 194), none, []⟩,
 ⟨(some 196), .mv (.t 10), (some (195, false)), []⟩,
 ⟨(some 197), .bin .neq (.t 196) (.c (.int .i64 2)), (some (195, false)), []⟩,
 ⟨(some 198), .pick (.t 195) (.c (.bool true)) (.t 197), none, []⟩,
 ⟨(some 199), .mv (.t 198), none, []⟩,
 ⟨(some 200), .mv (.t 11), (some (199, false)), []⟩,
 ⟨(some 201), .bin .neq (.t 200) (.c (.int .i64 1)), (some (199, false)), []⟩,
 ⟨(some 202), .pick (.t 199) (.c (.bool true)) (.t 201), none, []⟩,
 ⟨(some 203), .mv (.t 202), none, []⟩,
 ⟨(some 204), .mv (.t 12), (some (203, false)), []⟩,
 ⟨(some 205), .bin .neq (.t 204) (.c (.int .i64 1)), (some (203, false)), []⟩,
 ⟨(some 206), .pick (.t 203) (.c (.bool true)) (.t 205), none, []⟩,
 ⟨(some 207), .mv (.t 206), none, []⟩,
 ⟨(some 208), .load (some 15) (.t 3), (some (207, false)), []⟩,
 ⟨(some 209), .call 51 [(.t 208)], (some (207, false)), []⟩,
 ⟨(some 210), .bin .neq (.t 209) (.c (.int .i64 0)), (some (207, false)), []⟩,
 ⟨(some 211), .pick (.t 207) (.c (.bool true)) (.t 210), none, []⟩,
 ⟨(some 212), .mv (.t 211), none, []⟩,
 ⟨(some 213), .load (some 15) (.t 3), (some (212, false)), []⟩,
 ⟨(some 214), .load (some 15) (.t 3), (some (212, false)), []⟩,
 ⟨(some 215), .call 52 [(.t 213), (.t 214)], (some (212, false)), []⟩,
 ⟨(some 216), .un .not (.t 215), (some (212, false)), []⟩,
 ⟨(some 217), .pick (.t 212) (.c (.bool true)) (.t 216), none, []⟩])
 (.cond (.t 217)
 (.seq (.region [⟨(some 0), .mv (.c (.bool false)), none, []⟩])
 .ret)
 .skip))
 (.seq (.region [⟨(some 218), .load (some 11) (.t 13), none, []⟩,
 ⟨(some 219), .load (some 11) (.t 13), none, []⟩,
 ⟨(some 220), .mkslice 11 2 [(.int .i64 0), (.int .i64 0), (.int .u32 0), (.int .u32 0), (.int .u32 0), (.int .u32 0), (.int .i64 0), (.int .i64 0), (.int .i64 0), (.int .i64 0), (.list 1 [])] [(0, (.t 218)), (1, (.t 219))], none, []⟩,
 ⟨(some 221), .call 48 [(.c (.int .i64 4)), (.c (.int .i64 1)), (.c (.int .i64 0)), (.t 220)], none, []⟩,
 ⟨(some 222), .call 36 [(.t 221)], none, []⟩,
 ⟨(some 223), .bin .eql (.t 222) (.c (.int .i64 3)), none, []⟩,
 ⟨(some 224), .mv (.t 223), none, []⟩,
 ⟨(some 225), .call 37 [(.c (.int .i64 0))], (some (224, true)), []⟩,
 ⟨(some 226), .call 49 [(.t 225)], (some (224, true)), []⟩,
 ⟨(some 227), .call 45 [(.c (.int .u32 1))], (some (224, true)), []⟩,
 ⟨(some 228), .call 49 [(.t 227)], (some (224, true)), []⟩,
 ⟨(some 229), .mkslice 11 2 [(.int .i64 0), (.int .i64 0), (.int .u32 0), (.int .u32 0), (.int .u32 0), (.int .u32 0), (.int .i64 0), (.int .i64 0), (.int .i64 0), (.int .i64 0), (.list 1 [])] [(0, (.t 226)), (1, (.t 228))], (some (224, true)), []⟩,
 ⟨(some 230), .call 48 [(.c (.int .i64 4)), (.c (.int .i64 1)), (.c (.int .i64 0)), (.t 229)], (some (224, true)), []⟩,
 ⟨(some 231), .call 36 [(.t 230)], (some (224, true)), []⟩,
 ⟨(some 232), .bin .eql (.t 231) (.c (.int .i64 1)), (some (224, true)), []⟩,
 ⟨(some 233), .pick (.t 224) (.t 232) (.c (.bool false)), none, []⟩,
 ⟨(some 234), .mv (.t 233), none, []⟩,
 ⟨(some 235), .call 37 [(.c (.int .i64 0))], (some (234, true)), []⟩,
 ⟨(some 236), .call 49 [(.t 235)], (some (234, true)), []⟩,
 ⟨(some 237), .call 37 [(.c (.int .i64 1))], (some (234, true)), []⟩,
 ⟨(some 238), .call 49 [(.t 237)], (some (234, true)), []⟩,
 ⟨(some 239), .call 37 [(.c (.int .i64 2))], (some (234, true)), []⟩,
 ⟨(some 240), .call 49 [(.t 239)], (some (234, true)), []⟩,
 ⟨(some 241), .mkslice 11 3 [(.int .i64 0), (.int .i64 0), (.int .u32 0), (.int .u32 0), (.int .u32 0), (.int .u32 0), (.int .i64 0), (.int .i64 0), (.int .i64 0), (.int .i64 0), (.list 1 [])] [(0, (.t 236)), (1, (.t 238)), (2, (.t 240))], (some (234, true)), []⟩,
 ⟨(some 242), .call 48 [(.c (.int .i64 7)), (.c (.int .i64 0)), (.c (.int .i64 0)), (.t 241)], (some (234, true)), []⟩,
 ⟨(some 243), .call 36 [(.t 242)], (some (234, true)), []⟩,
 ⟨(some 244), .bin .eql (.t 243) (.c (.int .i64 3)), (some (234, true)), []⟩,
 ⟨(some 245), .pick (.t 234) (.t 244) (.c (.bool false)), none, []⟩,
 ⟨(some 0), .mv (.t 245), none, []⟩])
 .ret)))))))))))))))))) }
def c14 : AFn := { nparams := 1, ntmps := 120, results := [.cell 2 (some 15), .tmp 3], body :=
 (.seq (.region [⟨(some 1), .boxL [20, 45, 48, 110] (.t 0), none, []⟩,
 ⟨(some 2), .boxL [] (.c (.agg [(.list 1 []), (.list 1 []), (.int .i64 0), (.int .i64 0), (.int .u32 0), (.int .u32 0), (.int .u32 0), (.int .u32 0), (.int .i64 0), (.int .i64 0), (.int .i64 0), (.int .i64 0), (.list 1 []), (.int .i64 0), (.list 1 [])])), none, []⟩,
 ⟨(some 3), .mv (.c (.int .i64 0)), none, []⟩])
 (.seq (.seq (.region [⟨(some 13), .load (some 10) (.t 1), none, []⟩,
 ⟨(some 14), .call 54 [(.t 13)], none, []⟩,
 ⟨(some 15), .bin .neq (.t 14) (.c (.int .i64 0)), none, []⟩])
 (.cond (.t 15)
 (.seq (.region [⟨(some 16), .build [(.list 1 []), (.list 1 []), (.int .i64 0), (.int .i64 0), (.int .u32 0), (.int .u32 0), (.int .u32 0), (.int .u32 0), (.int .i64 0), (.int .i64 0), (.int .i64 0), (.int .i64 0), (.list 1 []), (.int .i64 0), (.list 1 [])] [], none, []⟩,
 ⟨none, .store 15 (.t 2) (.t 16), none, []⟩,
 ⟨(some 3), .mv (.c (.int .i64 7)), none, []⟩])
 .ret)
 .skip))
 (.seq (.region [⟨(some 17), .load (some 10) (.t 1), none, []⟩,
 ⟨(some 18), .call 55 [(.t 17)], none, []⟩,
 ⟨(some 4), .boxG (.c .nilp), none, []⟩,
 ⟨none, .store 1 (.t 4) (.t 18), none, []⟩])
 (.seq (.region [⟨(some 19), .mkfn 56 [] [(.t 4)], none, []⟩,
 ⟨(some 5), .mv (.t 19), none, []⟩])
 (.seq (.seq (.region [⟨(some 20), .faddr 1 (some 1) (.t 1), none, []⟩,
 ⟨(some 21), .load none (.t 20), none, []⟩,
 ⟨(some 22), .len (.t 21), none, []⟩,
 ⟨(some 23), .mv (.c (.int .i64 0)), none, []⟩])
 (.block 0
 (.loop
 (.seq (.region [⟨(some 24), .bin .lss (.t 23) (.t 22), none, []⟩])
 (.seq (.cond (.t 24)
 .skip
 (.exit 0))
 (.seq (.block 1
 (.seq (.region [⟨(some 25), .iaddr 13 (.t 21) (.t 23), none, []⟩,
 ⟨(some 26), .load (some 13) (.t 25), none, []⟩,
 ⟨(some 7), .boxL [27, 28, 31] (.c (.agg [(.int .i64 0), (.int .i64 0), (.int .i64 0), (.int .i64 0), (.int .i64 0), (.int .u32 0), (.int .u32 0), (.int .i64 0), (.int .i64 0), (.int .i64 0), (.int .i64 0), (.list 1 []), (.list 1 [])])), none, []⟩,
 ⟨none, .store 13 (.t 7) (.t 26), none, []⟩])
 (.seq (.region [⟨(some 27), .faddr 7 (some 7) (.t 7), none, []⟩,
 ⟨(some 28), .faddr 4 (some 7) (.t 27), none, []⟩,
 ⟨(some 29), .load none (.t 28), none, []⟩,
 ⟨(some 31), .faddr 12 (some 7) (.t 7), none, []⟩,
 ⟨(some 32), .load none (.t 31), none, []⟩,
 ⟨(some 35), .mv (.c (.int .i64 0)), none, []⟩,
 ⟨(some 30), .call 57 [(.t 29)], none, [⟨none, (.t 31), 32, none⟩]⟩,
 ⟨(some 33), .append 6 32 false (.t 30) (.t 32), none, []⟩,
 ⟨(some 34), .len (.t 33), none, []⟩])
 (.block 2
 (.loop
 (.seq (.region [⟨(some 36), .bin .lss (.t 35) (.t 34), none, []⟩])
 (.seq (.cond (.t 36)
 .skip
 (.exit 2))
 (.seq (.block 3
 (.seq (.region [⟨(some 37), .iaddr 6 (.t 33) (.t 35), none, []⟩,
 ⟨(some 38), .load (some 6) (.t 37), none, []⟩,
 ⟨(some 9), .boxL [] (.c (.agg [(.int .i64 0), (.int .i64 0), (.int .u32 0), (.int .u32 0), (.int .u32 0), (.int .u32 0)])), none, []⟩,
 ⟨none, .store 6 (.t 9) (.t 38), none, []⟩])
 (.region [⟨(some 39), .mv (.t 5), none, []⟩,
 ⟨(some 40), .load (some 6) (.t 9), none, []⟩,
 ⟨(some 41), .callv (.t 39) [(.t 40)], none, []⟩])))
 (.region [⟨(some 42), .bin .add (.t 35) (.c (.int .i64 1)), none, []⟩,
 ⟨(some 35), .mv (.t 42), none, []⟩])))))))))
 (.region [⟨(some 43), .bin .add (.t 23) (.c (.int .i64 1)), none, []⟩,
 ⟨(some 23), .mv (.t 43), none, []⟩])))))))
 (.seq (.region [⟨(some 44), .mv (.t 5), none, []⟩,
 ⟨(some 45), .faddr 2 (some 1) (.t 1), none, []⟩,
 ⟨(some 46), .load (some 6) (.t 45), none, []⟩,
 ⟨(some 47), .callv (.t 44) [(.t 46)], none, []⟩])
 (.seq (.seq (.region [⟨(some 48), .faddr 1 (some 1) (.t 1), none, []⟩,
 ⟨(some 49), .load none (.t 48), none, []⟩,
 ⟨(some 50), .len (.t 49), none, []⟩,
 ⟨(some 51), .mv (.c (.int .i64 0)), none, []⟩])
 (.block 4
 (.loop
 (.seq (.region [⟨(some 52), .bin .lss (.t 51) (.t 50), none, []⟩])
 (.seq (.cond (.t 52)
 .skip
 (.exit 4))
 (.seq (.block 5
 (.seq (.region [⟨(some 53), .iaddr 13 (.t 49) (.t 51), none, []⟩,
 ⟨(some 54), .load (some 13) (.t 53), none, []⟩,
 ⟨(some 11), .boxL [62, 70, 76, 77, 86] (.c (.agg [(.int .i64 0), (.int .i64 0), (.int .i64 0), (.int .i64 0), (.int .i64 0), (.int .u32 0), (.int .u32 0), (.int .i64 0), (.int .i64 0), (.int .i64 0), (.int .i64 0), (.list 1 []), (.list 1 [])])), none, []⟩,
 ⟨none, .store 13 (.t 11) (.t 54), none, []⟩])
 (.seq (.region [⟨(some 55), .load (some 13) (.t 11), none, []⟩,
 ⟨(some 56), .load none (.t 4), none, []⟩,
 ⟨(some 57), .mkfn 59 [(.t 56)] [], none, []⟩,
 ⟨(some 58), .call 58 [(.t 55), (.t 57)], none, []⟩,
 ⟨(some 12), .boxL [88] (.c (.agg [(.int .i64 0), (.int .i64 0), (.int .i64 0), (.int .i64 0), (.int .i64 0), (.int .u32 0), (.int .u32 0), (.int .i64 0), (.int .i64 0), (.int .u32 0), (.int .u32 0), (.int .u32 0), (.int .u32 0), (.int .i64 0), (.int .i64 0), (.int .i64 0), (.int .i64 0), (.list 1 []), (.list 1 [])])), none, []⟩,
 ⟨none, .store 19 (.t 12) (.t 58), none, []⟩])
 (.seq (.region [⟨(some 59), .load none (.t 4), none, []⟩,
 ⟨(some 60), .load (some 19) (.t 12), none, []⟩,
 ⟨(some 61), .call 60 [(.t 59), (.t 60)], none, []⟩])
 (.seq (.seq (.region [⟨(some 62), .faddr 0 (some 11) (.t 11), none, []⟩,
 ⟨(some 63), .load none (.t 62), none, []⟩,
 ⟨(some 64), .bin .eql (.t 63) (.c (.int .i64 2)), none, []⟩,
 ⟨(some 65), .mv (.t 64), none, []⟩,
 ⟨(some 66), .load none (.t 4), (some (65, true)), []⟩,
 ⟨(some 67), .nilc none (.t 66), (some (65, true)), []⟩,
 ⟨(some 68), .faddr 15 none (.t 67), (some (65, true)), []⟩,
 ⟨(some 69), .load none (.t 68), (some (65, true)), []⟩,
 ⟨(some 70), .faddr 1 (some 11) (.t 11), (some (65, true)), []⟩,
 ⟨(some 71), .load none (.t 70), (some (65, true)), []⟩,
 ⟨(some 72), .look .i64 (.int .i64 0) false (.t 69) (.t 71), (some (65, true)), []⟩,
 ⟨(some 73), .bin .eql (.t 72) (.c (.int .i64 1)), (some (65, true)), []⟩,
 ⟨(some 74), .pick (.t 65) (.t 73) (.c (.bool false)), none, []⟩,
 ⟨(some 75), .mv (.t 74), none, []⟩,
 ⟨(some 76), .faddr 7 (some 11) (.t 11), (some (75, true)), []⟩,
 ⟨(some 77), .faddr 0 (some 11) (.t 76), (some (75, true)), []⟩,
 ⟨(some 78), .load none (.t 77), (some (75, true)), []⟩,
 ⟨(some 79), .bin .neq (.t 78) (.c (.int .i64 1)), (some (75, true)), []⟩,
 ⟨(some 80), .pick (.t 75) (.t 79) (.c (.bool false)), none, []⟩])
 (.cond (.t 80)
 (.seq (.region [⟨(some 81), .load none (.t 4), none, []⟩,
 ⟨(some 82), .load none (.t 4), none, []⟩,
 ⟨(some 83), .nilc none (.t 82), none, []⟩,
 ⟨(some 84), .faddr 16 none (.t 83), none, []⟩,
 ⟨(some 85), .load none (.t 84), none, []⟩,
 ⟨(some 86), .faddr 1 (some 11) (.t 11), none, []⟩,
 ⟨(some 87), .load none (.t 86), none, []⟩,
 ⟨(some 88), .faddr 7 (some 12) (.t 12), none, []⟩,
 ⟨(some 89), .load (some 11) (.t 88), none, []⟩,
 ⟨(some 90), .build [(.int .i64 0), (.int .i64 0), (.int .i64 0), (.int .u32 0), (.int .u32 0), (.int .u32 0), (.int .u32 0), (.int .i64 0), (.int .i64 0), (.int .i64 0), (.int .i64 0), (.list 1 [])] [(0, 1, (.t 87)), (1, 11, (.t 89))], none, []⟩,
 ⟨(some 91), .mkslice 12 1 [(.int .i64 0), (.int .i64 0), (.int .i64 0), (.int .u32 0), (.int .u32 0), (.int .u32 0), (.int .u32 0), (.int .i64 0), (.int .i64 0), (.int .i64 0), (.int .i64 0), (.list 1 [])] [(0, (.t 90))], none, []⟩,
 ⟨(some 92), .append 12 96 true (.t 85) (.t 91), none, [⟨none, (.t 4), 81, none⟩]⟩,
 ⟨(some 93), .nilc none (.t 81), none, []⟩,
 ⟨(some 94), .faddr 16 none (.t 93), none, []⟩,
 ⟨none, .store 1 (.t 94) (.t 92), none, []⟩])
 (.exit 5))
 .skip))
 (.region [⟨(some 95), .load none (.t 4), none, []⟩,
 ⟨(some 96), .load none (.t 4), none, []⟩,
 ⟨(some 97), .nilc none (.t 96), none, []⟩,
 ⟨(some 98), .faddr 0 none (.t 97), none, []⟩,
 ⟨(some 99), .faddr 1 none (.t 98), none, []⟩,
 ⟨(some 100), .load none (.t 99), none, []⟩,
 ⟨(some 101), .load (some 19) (.t 12), none, []⟩,
 ⟨(some 102), .mkslice 19 1 [(.int .i64 0), (.int .i64 0), (.int .i64 0), (.int .i64 0), (.int .i64 0), (.int .u32 0), (.int .u32 0), (.int .i64 0), (.int .i64 0), (.int .u32 0), (.int .u32 0), (.int .u32 0), (.int .u32 0), (.int .i64 0), (.int .i64 0), (.int .i64 0), (.int .i64 0), (.list 1 []), (.list 1 [])] [(0, (.t 101))], none, []⟩,
 ⟨(some 103), .append 19 160 false (.t 100) (.t 102), none, [⟨none, (.t 4), 95, none⟩]⟩,
 ⟨(some 104), .nilc none (.t 95), none, []⟩,
 ⟨(some 105), .faddr 0 none (.t 104), none, []⟩,
 ⟨(some 106), .faddr 1 none (.t 105), none, []⟩,
 ⟨none, .store 1 (.t 106) (.t 103), none, []⟩]))))))
 (.region [⟨(some 107), .bin .add (.t 51) (.c (.int .i64 1)), none, []⟩,
 ⟨(some 51), .mv (.t 107), none, []⟩])))))))
 (.seq (.region [⟨(some 108), .load none (.t 4), none, []⟩,
 ⟨(some 109), .load none (.t 4), none, []⟩,
 ⟨(some 110), .faddr 2 (some 1) (.t 1), none, []⟩,
 ⟨(some 111), .load (some 6) (.t 110), none, []⟩,
 ⟨(some 112), .call 59 [(.t 109), (.t 111)], none, [⟨none, (.t 4), 108, none⟩]⟩,
 ⟨(some 113), .nilc none (.t 108), none, []⟩,
 ⟨(some 114), .faddr 0 none (.t 113), none, []⟩,
 ⟨(some 115), .faddr 2 none (.t 114), none, []⟩,
 ⟨none, .store 11 (.t 115) (.t 112), none, []⟩])
 (.seq (.region [⟨(some 116), .load none (.t 4), none, []⟩,
 ⟨(some 117), .nilc none (.t 116), none, []⟩,
 ⟨(some 118), .faddr 0 none (.t 117), none, []⟩,
 ⟨(some 119), .load (some 15) (.t 118), none, []⟩,
 ⟨none, .store 15 (.t 2) (.t 119), none, []⟩,
 ⟨(some 3), .mv (.c (.int .i64 0)), none, []⟩])
 .ret))))))))) }
def c18 : AFn := { nparams := 1, ntmps := 29, results := [.cell 2 (some 15), .tmp 3], body :=
 (.seq (.region [⟨(some 1), .boxL [12, 19] (.t 0), none, []⟩,
 ⟨(some 2), .boxL [] (.c (.agg [(.list 1 []), (.list 1 []), (.int .i64 0), (.int .i64 0), (.int .u32 0), (.int .u32 0), (.int .u32 0), (.int .u32 0), (.int .i64 0), (.int .i64 0), (.int .i64 0), (.int .i64 0), (.list 1 []), (.int .i64 0), (.list 1 [])])), none, []⟩,
 ⟨(some 3), .mv (.c (.int .i64 0)), none, []⟩])
 (.seq (.seq (.region [⟨(some 5), .load (some 10) (.t 1), none, []⟩,
 ⟨(some 6), .call 54 [(.t 5)], none, []⟩,
 ⟨(some 7), .bin .neq (.t 6) (.c (.int .i64 0)), none, []⟩])
 (.cond (.t 7)
 (.seq (.region [⟨(some 8), .build [(.list 1 []), (.list 1 []), (.int .i64 0), (.int .i64 0), (.int .u32 0), (.int .u32 0), (.int .u32 0), (.int .u32 0), (.int .i64 0), (.int .i64 0), (.int .i64 0), (.int .i64 0), (.list 1 []), (.int .i64 0), (.list 1 [])] [], none, []⟩,
 ⟨none, .store 15 (.t 2) (.t 8), none, []⟩,
 ⟨(some 3), .mv (.c (.int .i64 7)), none, []⟩])
 .ret)
 .skip))
 (.seq (.region [⟨(some 9), .load (some 10) (.t 1), none, []⟩,
 ⟨(some 10), .call 55 [(.t 9)], none, []⟩,
 ⟨(some 4), .mv (.t 10), none, []⟩])
 (.seq (.region [⟨(some 11), .mv (.t 4), none, []⟩,
 ⟨(some 12), .faddr 1 (some 1) (.t 1), none, []⟩,
 ⟨(some 13), .load none (.t 12), none, []⟩,
 ⟨(some 14), .call 65 [(.t 13), (.c (.fn 66 [] []))], none, []⟩,
 ⟨(some 15), .nilc none (.t 11), none, []⟩,
 ⟨(some 16), .faddr 0 none (.t 15), none, []⟩,
 ⟨(some 17), .faddr 1 none (.t 16), none, []⟩,
 ⟨none, .store 1 (.t 17) (.t 14), none, []⟩])
 (.seq (.region [⟨(some 18), .mv (.t 4), none, []⟩,
 ⟨(some 19), .faddr 2 (some 1) (.t 1), none, []⟩,
 ⟨(some 20), .load (some 6) (.t 19), none, []⟩,
 ⟨(some 21), .call 67 [(.t 20)], none, []⟩,
 ⟨(some 22), .nilc none (.t 18), none, []⟩,
 ⟨(some 23), .faddr 0 none (.t 22), none, []⟩,
 ⟨(some 24), .faddr 2 none (.t 23), none, []⟩,
 ⟨none, .store 11 (.t 24) (.t 21), none, []⟩])
 (.seq (.region [⟨(some 25), .mv (.t 4), none, []⟩,
 ⟨(some 26), .nilc none (.t 25), none, []⟩,
 ⟨(some 27), .faddr 0 none (.t 26), none, []⟩,
 ⟨(some 28), .load (some 15) (.t 27), none, []⟩,
 ⟨none, .store 15 (.t 2) (.t 28), none, []⟩,
 ⟨(some 3), .mv (.c (.int .i64 0)), none, []⟩])
 .ret)))))) }
def c20 : AFn := { nparams := 1, ntmps := 101, results := [.cell 2 (some 10), .tmp 3], body :=
 (.seq (.region [⟨(some 1), .boxL [12, 15, 18, 23, 74] (.t 0), none, []⟩,
 ⟨(some 2), .boxL [] (.c (.agg [(.list 1 []), (.list 1 []), (.int .i64 0), (.int .i64 0), (.int .u32 0), (.int .u32 0), (.int .u32 0), (.int .u32 0), (.int .i64 0), (.list 1 [])])), none, []⟩,
 ⟨(some 3), .mv (.c (.int .i64 0)), none, []⟩])
 (.seq (.seq (.region [⟨(some 8), .load (some 15) (.t 1), none, []⟩,
 ⟨(some 9), .call 51 [(.t 8)], none, []⟩,
 ⟨(some 10), .bin .neq (.t 9) (.c (.int .i64 0)), none, []⟩])
 (.cond (.t 10)
 (.seq (.region [⟨(some 11), .build [(.list 1 []), (.list 1 []), (.int .i64 0), (.int .i64 0), (.int .u32 0), (.int .u32 0), (.int .u32 0), (.int .u32 0), (.int .i64 0), (.list 1 [])] [], none, []⟩,
 ⟨none, .store 10 (.t 2) (.t 11), none, []⟩,
 ⟨(some 3), .mv (.c (.int .i64 160)), none, []⟩])
 .ret)
 .skip))
 (.seq (.region [⟨(some 12), .faddr 0 (some 1) (.t 1), none, []⟩,
 ⟨(some 13), .load none (.t 12), none, []⟩,
 ⟨(some 15), .faddr 14 (some 1) (.t 1), none, []⟩,
 ⟨(some 16), .load none (.t 15), none, []⟩,
 ⟨(some 18), .faddr 13 (some 1) (.t 1), none, []⟩,
 ⟨(some 19), .load none (.t 18), none, []⟩,
 ⟨(some 14), .call 69 [(.t 13)], none, [⟨none, (.t 18), 19, none⟩, ⟨none, (.t 15), 16, none⟩]⟩,
 ⟨(some 17), .call 70 [(.t 16)], none, [⟨none, (.t 18), 19, none⟩]⟩,
 ⟨(some 20), .build [(.list 1 []), (.list 1 []), (.int .i64 0), (.int .i64 0), (.int .u32 0), (.int .u32 0), (.int .u32 0), (.int .u32 0), (.int .i64 0), (.list 1 [])] [(0, 1, (.t 14)), (9, 1, (.t 17)), (8, 1, (.t 19))], none, []⟩,
 ⟨(some 21), .build [(.list 1 []), (.list 1 []), (.int .i64 0), (.int .i64 0), (.int .u32 0), (.int .u32 0), (.int .u32 0), (.int .u32 0), (.int .i64 0), (.list 1 [])] [(0, 10, (.t 20))], none, []⟩,
 ⟨(some 22), .boxG (.t 21), none, []⟩,
 ⟨(some 4), .mv (.t 22), none, []⟩])
 (.seq (.seq (.region [⟨(some 23), .faddr 1 (some 1) (.t 1), none, []⟩,
 ⟨(some 24), .load none (.t 23), none, []⟩,
 ⟨(some 25), .len (.t 24), none, []⟩,
 ⟨(some 26), .mv (.c (.int .i64 0)), none, []⟩])
 (.block 0
 (.loop
 (.seq (.region [⟨(some 27), .bin .lss (.t 26) (.t 25), none, []⟩])
 (.seq (.cond (.t 27)
 .skip
 (.exit 0))
 (.seq (.block 1
 (.seq (.region [⟨(some 28), .iaddr 19 (.t 24) (.t 26), none, []⟩,
 ⟨(some 29), .load (some 19) (.t 28), none, []⟩,
 ⟨(some 6), .boxL [30, 32, 34, 36, 38, 40, 42, 45, 49, 53] (.c (.agg [(.int .i64 0), (.int .i64 0), (.int .i64 0), (.int .i64 0), (.int .i64 0), (.int .u32 0), (.int .u32 0), (.int .i64 0), (.int .i64 0), (.int .u32 0), (.int .u32 0), (.int .u32 0), (.int .u32 0), (.int .i64 0), (.int .i64 0), (.int .i64 0), (.int .i64 0), (.list 1 []), (.list 1 [])])), none, []⟩,
 ⟨none, .store 19 (.t 6) (.t 29), none, []⟩])
 (.seq (.region [⟨(some 30), .faddr 0 (some 6) (.t 6), none, []⟩,
 ⟨(some 31), .load none (.t 30), none, []⟩,
 ⟨(some 32), .faddr 1 (some 6) (.t 6), none, []⟩,
 ⟨(some 33), .load none (.t 32), none, []⟩,
 ⟨(some 34), .faddr 2 (some 6) (.t 6), none, []⟩,
 ⟨(some 35), .load none (.t 34), none, []⟩,
 ⟨(some 36), .faddr 3 (some 6) (.t 6), none, []⟩,
 ⟨(some 37), .load none (.t 36), none, []⟩,
 ⟨(some 38), .faddr 4 (some 6) (.t 6), none, []⟩,
 ⟨(some 39), .load none (.t 38), none, []⟩,
 ⟨(some 40), .faddr 5 (some 6) (.t 6), none, []⟩,
 ⟨(some 41), .load none (.t 40), none, []⟩,
 ⟨(some 42), .faddr 6 (some 6) (.t 6), none, []⟩,
 ⟨(some 43), .load none (.t 42), none, []⟩,
 ⟨(some 44), .build [(.int .i64 0), (.int .i64 0), (.int .i64 0), (.int .i64 0), (.int .i64 0), (.int .u32 0), (.int .u32 0), (.int .i64 0), (.int .i64 0), (.int .i64 0), (.int .i64 0), (.list 1 []), (.list 1 [])] [(0, 1, (.t 31)), (1, 1, (.t 33)), (2, 1, (.t 35)), (3, 1, (.t 37)), (4, 1, (.t 39)), (5, 1, (.t 41)), (6, 1, (.t 43))], none, []⟩,
 ⟨(some 7), .boxL [52, 58] (.c (.agg [(.int .i64 0), (.int .i64 0), (.int .i64 0), (.int .i64 0), (.int .i64 0), (.int .u32 0), (.int .u32 0), (.int .i64 0), (.int .i64 0), (.int .i64 0), (.int .i64 0), (.list 1 []), (.list 1 [])])), none, []⟩,
 ⟨none, .store 13 (.t 7) (.t 44), none, []⟩])
 (.seq (.seq (.region [⟨(some 45), .faddr 0 (some 6) (.t 6), none, []⟩,
 ⟨(some 46), .load none (.t 45), none, []⟩,
 ⟨(some 47), .bin .eql (.t 46) (.c (.int .i64 2)), none, []⟩])
 (.cond (.t 47)
 (.region [⟨(some 48), .mv (.t 4), none, []⟩,
 ⟨(some 49), .faddr 7 (some 6) (.t 6), none, []⟩,
 ⟨(some 50), .load (some 11) (.t 49), none, []⟩,
 ⟨(some 51), .call 71 [(.t 48), (.t 50)], none, []⟩,
 ⟨(some 52), .faddr 7 (some 7) (.t 7), none, []⟩,
 ⟨none, .store 5 (.t 52) (.t 51), none, []⟩])
 .skip))
 (.seq (.region [⟨(some 53), .faddr 18 (some 6) (.t 6), none, []⟩,
 ⟨(some 54), .load none (.t 53), none, []⟩,
 ⟨(some 55), .mv (.t 4), none, []⟩,
 ⟨(some 56), .mkfn 73 [(.t 55)] [], none, []⟩,
 ⟨(some 57), .call 72 [(.t 54), (.t 56)], none, []⟩,
 ⟨(some 58), .faddr 12 (some 7) (.t 7), none, []⟩,
 ⟨none, .store 1 (.t 58) (.t 57), none, []⟩])
 (.region [⟨(some 59), .mv (.t 4), none, []⟩,
 ⟨(some 60), .mv (.t 4), none, []⟩,
 ⟨(some 61), .nilc none (.t 60), none, []⟩,
 ⟨(some 62), .faddr 0 none (.t 61), none, []⟩,
 ⟨(some 63), .faddr 1 none (.t 62), none, []⟩,
 ⟨(some 64), .load none (.t 63), none, []⟩,
 ⟨(some 65), .load (some 13) (.t 7), none, []⟩,
 ⟨(some 66), .mkslice 13 1 [(.int .i64 0), (.int .i64 0), (.int .i64 0), (.int .i64 0), (.int .i64 0), (.int .u32 0), (.int .u32 0), (.int .i64 0), (.int .i64 0), (.int .i64 0), (.int .i64 0), (.list 1 []), (.list 1 [])] [(0, (.t 65))], none, []⟩,
 ⟨(some 67), .append 13 128 false (.t 64) (.t 66), none, []⟩,
 ⟨(some 68), .nilc none (.t 59), none, []⟩,
 ⟨(some 69), .faddr 0 none (.t 68), none, []⟩,
 ⟨(some 70), .faddr 1 none (.t 69), none, []⟩,
 ⟨none, .store 1 (.t 70) (.t 67), none, []⟩]))))))
 (.region [⟨(some 71), .bin .add (.t 26) (.c (.int .i64 1)), none, []⟩,
 ⟨(some 26), .mv (.t 71), none, []⟩])))))))
 (.seq (.region [⟨(some 72), .mv (.t 4), none, []⟩,
 ⟨(some 73), .mv (.t 4), none, []⟩,
 ⟨(some 74), .faddr 2 (some 1) (.t 1), none, []⟩,
 ⟨(some 75), .load (some 11) (.t 74), none, []⟩,
 ⟨(some 76), .call 73 [(.t 73), (.t 75)], none, []⟩,
 ⟨(some 77), .nilc none (.t 72), none, []⟩,
 ⟨(some 78), .faddr 0 none (.t 77), none, []⟩,
 ⟨(some 79), .faddr 2 none (.t 78), none, []⟩,
 ⟨none, .store 6 (.t 79) (.t 76), none, []⟩])
 (.seq (.seq (.region [⟨(some 80), .mv (.t 4), none, []⟩,
 ⟨(some 81), .nilc none (.t 80), none, []⟩,
 ⟨(some 82), .faddr 0 none (.t 81), none, []⟩,
 ⟨(some 83), .faddr 0 none (.t 82), none, []⟩,
 ⟨(some 84), .load none (.t 83), none, []⟩,
 ⟨(some 85), .len (.t 84), none, []⟩,
 ⟨(some 86), .bin .gtr (.t 85) (.c (.int .i64 4000)), none, []⟩,
 ⟨(some 87), .mv (.t 86), none, []⟩,
 ⟨(some 88), .mv (.t 4), (some (87, false)), []⟩,
 ⟨(some 89), .nilc none (.t 88), (some (87, false)), []⟩,
 ⟨(some 90), .faddr 0 none (.t 89), (some (87, false)), []⟩,
 ⟨(some 91), .faddr 1 none (.t 90), (some (87, false)), []⟩,
 ⟨(some 92), .load none (.t 91), (some (87, false)), []⟩,
 ⟨(some 93), .len (.t 92), (some (87, false)), []⟩,
 ⟨(some 94), .bin .gtr (.t 93) (.c (.int .i64 2000)), (some (87, false)), []⟩,
 ⟨(some 95), .pick (.t 87) (.c (.bool true)) (.t 94), none, []⟩])
 (.cond (.t 95)
 (.seq (.region [⟨(some 96), .build [(.list 1 []), (.list 1 []), (.int .i64 0), (.int .i64 0), (.int .u32 0), (.int .u32 0), (.int .u32 0), (.int .u32 0), (.int .i64 0), (.list 1 [])] [], none, []⟩,
 ⟨none, .store 10 (.t 2) (.t 96), none, []⟩,
 ⟨(some 3), .mv (.c (.int .i64 2)), none, []⟩])
 .ret)
 .skip))
 (.seq (.region [⟨(some 97), .mv (.t 4), none, []⟩,
 ⟨(some 98), .nilc none (.t 97), none, []⟩,
 ⟨(some 99), .faddr 0 none (.t 98), none, []⟩,
 ⟨(some 100), .load (some 10) (.t 99), none, []⟩,
 ⟨none, .store 10 (.t 2) (.t 100), none, []⟩,
 ⟨(some 3), .mv (.c (.int .i64 0)), none, []⟩])
 .ret))))))) }
def c34 : AFn := { nparams := 3, ntmps := 39, results := [.tmp 6], body :=
 (.seq (.region [⟨(some 3), .boxL [14, 26] (.t 0), none, []⟩,
 ⟨(some 6), .mv (.c (.int .i64 0)), none, []⟩])
 (.seq (.seq (.region [⟨(some 9), .mv (.t 2), none, []⟩,
 ⟨(some 10), .bin .eql (.t 9) (.c (.int .i64 0)), none, []⟩])
 (.cond (.t 10)
 (.seq (.region [⟨(some 11), .mv (.t 1), none, []⟩,
 ⟨(some 12), .bin .add (.t 11) (.c (.int .i64 1)), none, []⟩,
 ⟨(some 6), .mv (.t 12), none, []⟩])
 .ret)
 .skip))
 (.seq (.region [⟨(some 7), .mv (.c (.int .i64 1)), none, []⟩])
 (.seq (.seq (.region [⟨(some 8), .mv (.c (.int .i64 0)), none, []⟩])
 (.block 0
 (.loop
 (.seq (.seq (.region [⟨(some 13), .mv (.t 8), none, []⟩,
 ⟨(some 14), .faddr 10 (some 3) (.t 3), none, []⟩,
 ⟨(some 15), .load none (.t 14), none, []⟩,
 ⟨(some 16), .len (.t 15), none, []⟩,
 ⟨(some 17), .bin .lss (.t 13) (.t 16), none, []⟩,
 ⟨(some 18), .mv (.t 17), none, []⟩,
 ⟨(some 19), .mv (.t 7), (some (18, true)), []⟩,
 ⟨(some 20), .mv (.t 1), (some (18, true)), []⟩,
 ⟨(some 21), .bin .leq (.t 19) (.t 20), (some (18, true)), []⟩,
 ⟨(some 22), .pick (.t 18) (.t 21) (.c (.bool false)), none, []⟩])
 (.cond (.t 22)
 .skip
 (.exit 0)))
 (.seq (.block 1
 (.region [⟨(some 25), .mv (.t 7), none, []⟩,
 ⟨(some 26), .faddr 10 (some 3) (.t 3), none, []⟩,
 ⟨(some 27), .load none (.t 26), none, []⟩,
 ⟨(some 28), .mv (.t 8), none, []⟩,
 ⟨(some 29), .iaddr 11 (.t 27) (.t 28), none, []⟩,
 ⟨(some 30), .load (some 11) (.t 29), none, []⟩,
 ⟨(some 31), .mv (.t 1), none, []⟩,
 ⟨(some 32), .mv (.t 7), none, []⟩,
 ⟨(some 33), .bin .sub (.t 31) (.t 32), none, []⟩,
 ⟨(some 34), .mv (.t 2), none, []⟩,
 ⟨(some 35), .bin .sub (.t 34) (.c (.int .i64 1)), none, []⟩,
 ⟨(some 36), .call 34 [(.t 30), (.t 33), (.t 35)], none, []⟩,
 ⟨(some 37), .bin .add (.t 25) (.t 36), none, []⟩,
 ⟨(some 7), .mv (.t 37), none, []⟩]))
 (.region [⟨(some 23), .mv (.t 8), none, []⟩,
 ⟨(some 24), .bin .add (.t 23) (.c (.int .i64 1)), none, []⟩,
 ⟨(some 8), .mv (.t 24), none, []⟩]))))))
 (.seq (.region [⟨(some 38), .mv (.t 7), none, []⟩,
 ⟨(some 6), .mv (.t 38), none, []⟩])
 .ret))))) }
def c35 : AFn := { nparams := 1, ntmps := 6, results := [.tmp 2], body :=
 (.seq (.region [⟨(some 1), .boxL [3] (.t 0), none, []⟩,
 ⟨(some 2), .mv (.c (.bool false)), none, []⟩])
 (.seq (.region [⟨(some 3), .faddr 6 (some 1) (.t 1), none, []⟩,
 ⟨(some 4), .load none (.t 3), none, []⟩,
 ⟨(some 5), .bin .eql (.t 4) (.c (.int .i64 0)), none, []⟩,
 ⟨(some 2), .mv (.t 5), none, []⟩])
 .ret)) }
def c36 : AFn := { nparams := 1, ntmps := 35, results := [.tmp 2], body :=
 (.seq (.region [⟨(some 1), .boxL [7, 10, 11, 14] (.t 0), none, []⟩,
 ⟨(some 2), .mv (.c (.int .i64 0)), none, []⟩])
 (.seq (.seq (.region [⟨(some 7), .faddr 6 (some 1) (.t 1), none, []⟩,
 ⟨(some 8), .load none (.t 7), none, []⟩,
 ⟨(some 9), .bin .eql (.t 8) (.c (.int .i64 0)), none, []⟩])
 (.cond (.t 9)
 (.seq (.seq (.region [⟨(some 10), .faddr 0 (some 1) (.t 1), none, []⟩,
 ⟨(some 11), .faddr 0 (some 1) (.t 10), none, []⟩,
 ⟨(some 12), .load none (.t 11), none, []⟩,
 ⟨(some 13), .bin .lss (.t 12) (.c (.int .i64 0)), none, []⟩])
 (.cond (.t 13)
 (.seq (.region [⟨(some 2), .mv (.c (.int .i64 0)), none, []⟩])
 .ret)
 .skip))
 (.seq (.region [⟨(some 2), .mv (.c (.int .i64 1)), none, []⟩])
 .ret))
 .skip))
 (.seq (.region [⟨(some 14), .faddr 10 (some 1) (.t 1), none, []⟩,
 ⟨(some 15), .load none (.t 14), none, []⟩,
 ⟨(some 16), .call 91 [(.t 15), (.c (.fn 36 [] []))], none, []⟩,
 ⟨(some 3), .mv (.t 16), none, []⟩])
 (.seq (.region [⟨(some 17), .mv (.t 3), none, []⟩,
 ⟨(some 18), .call 92 [(.t 17), (.c (.fn 93 [] []))], none, []⟩])
 (.seq (.region [⟨(some 4), .mv (.c (.int .i64 1)), none, []⟩])
 (.seq (.seq (.region [⟨(some 19), .mv (.t 3), none, []⟩,
 ⟨(some 20), .len (.t 19), none, []⟩,
 ⟨(some 21), .mv (.c (.int .i64 0)), none, []⟩])
 (.block 0
 (.loop
 (.seq (.region [⟨(some 22), .bin .lss (.t 21) (.t 20), none, []⟩])
 (.seq (.cond (.t 22)
 .skip
 (.exit 0))
 (.seq (.block 1
 (.seq (.region [⟨(some 23), .mv (.t 21), none, []⟩,
 ⟨(some 24), .iaddr 1 (.t 19) (.t 21), none, []⟩,
 ⟨(some 25), .load none (.t 24), none, []⟩,
 ⟨(some 5), .mv (.t 23), none, []⟩,
 ⟨(some 6), .mv (.t 25), none, []⟩])
 (.seq (.region [⟨(some 26), .mv (.t 6), none, []⟩,
 ⟨(some 27), .bin .gtr (.t 26) (.c (.int .i64 0)), none, []⟩])
 (.cond (.t 27)
 (.region [⟨(some 28), .mv (.t 4), none, []⟩,
 ⟨(some 29), .mv (.t 6), none, []⟩,
 ⟨(some 30), .mv (.t 5), none, []⟩,
 ⟨(some 31), .bin .add (.t 29) (.t 30), none, []⟩,
 ⟨(some 32), .mx [(.t 28), (.t 31)], none, []⟩,
 ⟨(some 4), .mv (.t 32), none, []⟩])
 .skip))))
 (.region [⟨(some 33), .bin .add (.t 21) (.c (.int .i64 1)), none, []⟩,
 ⟨(some 21), .mv (.t 33), none, []⟩])))))))
 (.seq (.region [⟨(some 34), .mv (.t 4), none, []⟩,
 ⟨(some 2), .mv (.t 34), none, []⟩])
 .ret))))))) }
def c37 : AFn := { nparams := 1, ntmps := 5, results := [.cell 2 (some 6)], body :=
 (.seq (.region [⟨(some 2), .boxL [] (.c (.agg [(.int .i64 0), (.int .i64 0), (.int .u32 0), (.int .u32 0), (.int .u32 0), (.int .u32 0)])), none, []⟩])
 (.seq (.region [⟨(some 3), .mv (.t 0), none, []⟩,
 ⟨(some 4), .build [(.int .i64 0), (.int .i64 0), (.int .u32 0), (.int .u32 0), (.int .u32 0), (.int .u32 0)] [(0, 1, (.t 3))], none, []⟩,
 ⟨none, .store 6 (.t 2) (.t 4), none, []⟩])
 .ret)) }
def c38 : AFn := { nparams := 2, ntmps := 8, results := [.cell 4 (some 13)], body :=
 (.seq (.region [⟨(some 3), .boxL [] (.t 1), none, []⟩,
 ⟨(some 4), .boxL [] (.c (.agg [(.int .i64 0), (.int .i64 0), (.int .i64 0), (.int .i64 0), (.int .i64 0), (.int .u32 0), (.int .u32 0), (.int .i64 0), (.int .i64 0), (.int .i64 0), (.int .i64 0), (.list 1 []), (.list 1 [])])), none, []⟩])
 (.seq (.region [⟨(some 5), .mv (.t 0), none, []⟩,
 ⟨(some 6), .load (some 5) (.t 3), none, []⟩,
 ⟨(some 7), .build [(.int .i64 0), (.int .i64 0), (.int .i64 0), (.int .i64 0), (.int .i64 0), (.int .u32 0), (.int .u32 0), (.int .i64 0), (.int .i64 0), (.int .i64 0), (.int .i64 0), (.list 1 []), (.list 1 [])] [(0, 1, (.c (.int .i64 2))), (1, 1, (.t 5)), (7, 5, (.t 6))], none, []⟩,
 ⟨none, .store 13 (.t 4) (.t 7), none, []⟩])
 .ret)) }
def c40 : AFn := { nparams := 2, ntmps := 45, results := [.tmp 4], body :=
 (.seq (.region [⟨(some 2), .boxL [5, 11, 18, 25, 32, 39] (.t 0), none, []⟩,
 ⟨(some 3), .boxL [7, 13, 20, 27, 34, 41] (.t 1), none, []⟩,
 ⟨(some 4), .mv (.c (.bool false)), none, []⟩])
 (.seq (.region [⟨(some 5), .faddr 0 (some 2) (.t 2), none, []⟩,
 ⟨(some 6), .load (some 6) (.t 5), none, []⟩,
 ⟨(some 7), .faddr 0 (some 3) (.t 3), none, []⟩,
 ⟨(some 8), .load (some 6) (.t 7), none, []⟩,
 ⟨(some 9), .eqA [true, true, true, true, true, true] false (.t 6) (.t 8), none, []⟩,
 ⟨(some 10), .mv (.t 9), none, []⟩,
 ⟨(some 11), .faddr 6 (some 2) (.t 2), (some (10, true)), []⟩,
 ⟨(some 12), .load none (.t 11), (some (10, true)), []⟩,
 ⟨(some 13), .faddr 6 (some 3) (.t 3), (some (10, true)), []⟩,
 ⟨(some 14), .load none (.t 13), (some (10, true)), []⟩,
 ⟨(some 15), .bin .eql (.t 12) (.t 14), (some (10, true)), []⟩,
 ⟨(some 16), .pick (.t 10) (.t 15) (.c (.bool false)), none, []⟩,
 ⟨(some 17), .mv (.t 16), none, []⟩,
 ⟨(some 18), .faddr 7 (some 2) (.t 2), (some (17, true)), []⟩,
 ⟨(some 19), .load none (.t 18), (some (17, true)), []⟩,
 ⟨(some 20), .faddr 7 (some 3) (.t 3), (some (17, true)), []⟩,
 ⟨(some 21), .load none (.t 20), (some (17, true)), []⟩,
 ⟨(some 22), .bin .eql (.t 19) (.t 21), (some (17, true)), []⟩,
 ⟨(some 23), .pick (.t 17) (.t 22) (.c (.bool false)), none, []⟩,
 ⟨(some 24), .mv (.t 23), none, []⟩,
 ⟨(some 25), .faddr 8 (some 2) (.t 2), (some (24, true)), []⟩,
 ⟨(some 26), .load none (.t 25), (some (24, true)), []⟩,
 ⟨(some 27), .faddr 8 (some 3) (.t 3), (some (24, true)), []⟩,
 ⟨(some 28), .load none (.t 27), (some (24, true)), []⟩,
 ⟨(some 29), .bin .eql (.t 26) (.t 28), (some (24, true)), []⟩,
 ⟨(some 30), .pick (.t 24) (.t 29) (.c (.bool false)), none, []⟩,
 ⟨(some 31), .mv (.t 30), none, []⟩,
 ⟨(some 32), .faddr 9 (some 2) (.t 2), (some (31, true)), []⟩,
 ⟨(some 33), .load none (.t 32), (some (31, true)), []⟩,
 ⟨(some 34), .faddr 9 (some 3) (.t 3), (some (31, true)), []⟩,
 ⟨(some 35), .load none (.t 34), (some (31, true)), []⟩,
 ⟨(some 36), .bin .eql (.t 33) (.t 35), (some (31, true)), []⟩,
 ⟨(some 37), .pick (.t 31) (.t 36) (.c (.bool false)), none, []⟩,
 ⟨(some 38), .mv (.t 37), none, []⟩,
 ⟨(some 39), .faddr 10 (some 2) (.t 2), (some (38, true)), []⟩,
 ⟨(some 40), .load none (.t 39), (some (38, true)), []⟩,
 ⟨(some 41), .faddr 10 (some 3) (.t 3), (some (38, true)), []⟩,
 ⟨(some 42), .load none (.t 41), (some (38, true)), []⟩,
 ⟨(some 43), .call 96 [(.t 40), (.t 42)], (some (38, true)), []⟩,
 ⟨(some 44), .pick (.t 38) (.t 43) (.c (.bool false)), none, []⟩,
 ⟨(some 4), .mv (.t 44), none, []⟩])
 .ret)) }
def c43 : AFn := { nparams := 1, ntmps := 5, results := [.cell 2 (some 5)], body :=
 (.seq (.region [⟨(some 2), .boxL [] (.c (.agg [(.int .i64 0), (.int .i64 0), (.int .i64 0), (.int .i64 0), (.list 1 [])])), none, []⟩])
 (.seq (.region [⟨(some 3), .mv (.t 0), none, []⟩,
 ⟨(some 4), .build [(.int .i64 0), (.int .i64 0), (.int .i64 0), (.int .i64 0), (.list 1 [])] [(0, 1, (.c (.int .i64 2))), (1, 1, (.c (.int .i64 32))), (3, 1, (.t 3))], none, []⟩,
 ⟨none, .store 5 (.t 2) (.t 4), none, []⟩])
 .ret)) }
def c44 : AFn := { nparams := 3, ntmps := 12, results := [.cell 6 (some 5)], body :=
 (.seq (.region [⟨(some 4), .boxL [] (.t 1), none, []⟩,
 ⟨(some 5), .boxL [] (.t 2), none, []⟩,
 ⟨(some 6), .boxL [] (.c (.agg [(.int .i64 0), (.int .i64 0), (.int .i64 0), (.int .i64 0), (.list 1 [])])), none, []⟩])
 (.seq (.region [⟨(some 7), .mv (.t 0), none, []⟩,
 ⟨(some 8), .load (some 6) (.t 4), none, []⟩,
 ⟨(some 9), .load (some 6) (.t 5), none, []⟩,
 ⟨(some 10), .mkslice 6 2 [(.int .i64 0), (.int .i64 0), (.int .u32 0), (.int .u32 0), (.int .u32 0), (.int .u32 0)] [(0, (.t 8)), (1, (.t 9))], none, []⟩,
 ⟨(some 11), .build [(.int .i64 0), (.int .i64 0), (.int .i64 0), (.int .i64 0), (.list 1 [])] [(0, 1, (.c (.int .i64 4))), (2, 1, (.t 7)), (1, 1, (.c (.int .i64 32))), (4, 1, (.t 10))], none, []⟩,
 ⟨none, .store 5 (.t 6) (.t 11), none, []⟩])
 .ret)) }
def c45 : AFn := { nparams := 1, ntmps := 6, results := [.cell 2 (some 6)], body :=
 (.seq (.region [⟨(some 2), .boxL [] (.c (.agg [(.int .i64 0), (.int .i64 0), (.int .u32 0), (.int .u32 0), (.int .u32 0), (.int .u32 0)])), none, []⟩])
 (.seq (.region [⟨(some 3), .mv (.t 0), none, []⟩,
 ⟨(some 4), .build [(.int .u32 0), (.int .u32 0), (.int .u32 0), (.int .u32 0)] [(0, 1, (.t 3))], none, []⟩,
 ⟨(some 5), .build [(.int .i64 0), (.int .i64 0), (.int .u32 0), (.int .u32 0), (.int .u32 0), (.int .u32 0)] [(0, 1, (.c (.int .i64 (-1)))), (1, 1, (.c (.int .i64 32))), (2, 4, (.t 4))], none, []⟩,
 ⟨none, .store 6 (.t 2) (.t 5), none, []⟩])
 .ret)) }
def c46 : AFn := { nparams := 2, ntmps := 21, results := [.cell 4 (some 10)], body :=
 (.seq (.region [⟨(some 4), .boxL [] (.c (.agg [(.list 1 []), (.list 1 []), (.int .i64 0), (.int .i64 0), (.int .u32 0), (.int .u32 0), (.int .u32 0), (.int .u32 0), (.int .i64 0), (.list 1 [])])), none, []⟩])
 (.seq (.region [⟨(some 7), .mv (.t 1), none, []⟩,
 ⟨(some 8), .call 45 [(.c (.int .u32 0))], none, []⟩,
 ⟨(some 9), .build [(.list 1 []), (.list 1 []), (.int .i64 0), (.int .i64 0), (.int .u32 0), (.int .u32 0), (.int .u32 0), (.int .u32 0), (.int .i64 0), (.list 1 [])] [(1, 1, (.t 7)), (2, 6, (.t 8)), (8, 1, (.c (.int .i64 1)))], none, []⟩,
 ⟨(some 5), .boxL [15, 19] (.c (.agg [(.list 1 []), (.list 1 []), (.int .i64 0), (.int .i64 0), (.int .u32 0), (.int .u32 0), (.int .u32 0), (.int .u32 0), (.int .i64 0), (.list 1 [])])), none, []⟩,
 ⟨none, .store 10 (.t 5) (.t 9), none, []⟩])
 (.seq (.seq (.region [⟨(some 6), .mv (.c (.int .i64 0)), none, []⟩])
 (.block 0
 (.loop
 (.seq (.seq (.region [⟨(some 10), .mv (.t 6), none, []⟩,
 ⟨(some 11), .mv (.t 0), none, []⟩,
 ⟨(some 12), .bin .lss (.t 10) (.t 11), none, []⟩])
 (.cond (.t 12)
 .skip
 (.exit 0)))
 (.seq (.block 1
 (.region [⟨(some 15), .faddr 0 (some 5) (.t 5), none, []⟩,
 ⟨(some 16), .load none (.t 15), none, []⟩,
 ⟨(some 17), .mkslice 1 1 [(.int .i64 0)] [(0, (.c (.int .i64 32)))], none, []⟩,
 ⟨(some 18), .append 1 8 false (.t 16) (.t 17), none, []⟩,
 ⟨(some 19), .faddr 0 (some 5) (.t 5), none, []⟩,
 ⟨none, .store 1 (.t 19) (.t 18), none, []⟩]))
 (.region [⟨(some 13), .mv (.t 6), none, []⟩,
 ⟨(some 14), .bin .add (.t 13) (.c (.int .i64 1)), none, []⟩,
 ⟨(some 6), .mv (.t 14), none, []⟩]))))))
 (.seq (.region [⟨(some 20), .load (some 10) (.t 5), none, []⟩,
 ⟨none, .store 10 (.t 4) (.t 20), none, []⟩])
 .ret)))) }
def c47 : AFn := { nparams := 2, ntmps := 9, results := [.cell 4 (some 13)], body :=
 (.seq (.region [⟨(some 3), .boxL [] (.t 1), none, []⟩,
 ⟨(some 4), .boxL [] (.c (.agg [(.int .i64 0), (.int .i64 0), (.int .i64 0), (.int .i64 0), (.int .i64 0), (.int .u32 0), (.int .u32 0), (.int .i64 0), (.int .i64 0), (.int .i64 0), (.int .i64 0), (.list 1 []), (.list 1 [])])), none, []⟩])
 (.seq (.region [⟨(some 5), .mv (.t 0), none, []⟩,
 ⟨(some 6), .load (some 6) (.t 3), none, []⟩,
 ⟨(some 7), .mkslice 6 1 [(.int .i64 0), (.int .i64 0), (.int .u32 0), (.int .u32 0), (.int .u32 0), (.int .u32 0)] [(0, (.t 6))], none, []⟩,
 ⟨(some 8), .build [(.int .i64 0), (.int .i64 0), (.int .i64 0), (.int .i64 0), (.int .i64 0), (.int .u32 0), (.int .u32 0), (.int .i64 0), (.int .i64 0), (.int .i64 0), (.int .i64 0), (.list 1 []), (.list 1 [])] [(0, 1, (.c (.int .i64 3))), (2, 1, (.t 5)), (12, 1, (.t 7))], none, []⟩,
 ⟨none, .store 13 (.t 4) (.t 8), none, []⟩])
 .ret)) }
def c48 : AFn := { nparams := 4, ntmps := 14, results := [.cell 8 (some 11)], body :=
 (.seq (.region [⟨(some 8), .boxL [] (.c (.agg [(.int .i64 0), (.int .i64 0), (.int .u32 0), (.int .u32 0), (.int .u32 0), (.int .u32 0), (.int .i64 0), (.int .i64 0), (.int .i64 0), (.int .i64 0), (.list 1 [])])), none, []⟩])
 (.seq (.region [⟨(some 9), .mv (.t 0), none, []⟩,
 ⟨(some 10), .mv (.t 1), none, []⟩,
 ⟨(some 11), .mv (.t 2), none, []⟩,
 ⟨(some 12), .mv (.t 3), none, []⟩,
 ⟨(some 13), .build [(.int .i64 0), (.int .i64 0), (.int .u32 0), (.int .u32 0), (.int .u32 0), (.int .u32 0), (.int .i64 0), (.int .i64 0), (.int .i64 0), (.int .i64 0), (.list 1 [])] [(6, 1, (.t 9)), (7, 1, (.c (.int .i64 32))), (8, 1, (.t 10)), (9, 1, (.t 11)), (10, 1, (.t 12))], none, []⟩,
 ⟨none, .store 11 (.t 8) (.t 13), none, []⟩])
 .ret)) }
def c49 : AFn := { nparams := 1, ntmps := 5, results := [.cell 2 (some 11)], body :=
 (.seq (.region [⟨(some 1), .boxL [] (.t 0), none, []⟩,
 ⟨(some 2), .boxL [] (.c (.agg [(.int .i64 0), (.int .i64 0), (.int .u32 0), (.int .u32 0), (.int .u32 0), (.int .u32 0), (.int .i64 0), (.int .i64 0), (.int .i64 0), (.int .i64 0), (.list 1 [])])), none, []⟩])
 (.seq (.region [⟨(some 3), .load (some 6) (.t 1), none, []⟩,
 ⟨(some 4), .build [(.int .i64 0), (.int .i64 0), (.int .u32 0), (.int .u32 0), (.int .u32 0), (.int .u32 0), (.int .i64 0), (.int .i64 0), (.int .i64 0), (.int .i64 0), (.list 1 [])] [(0, 6, (.t 3))], none, []⟩,
 ⟨none, .store 11 (.t 2) (.t 4), none, []⟩])
 .ret)) }
def c50 : AFn := { nparams := 1, ntmps := 33, results := [.tmp 2, .cell 3 none, .cell 4 none], body :=
 (.seq (.region [⟨(some 1), .boxG (.t 0), none, []⟩,
 ⟨(some 2), .mv (.c (.int .i64 0)), none, []⟩,
 ⟨(some 3), .boxG (.c (.int .i64 0)), none, []⟩,
 ⟨(some 4), .boxG (.c (.int .i64 0)), none, []⟩])
 (.seq (.region [⟨(some 9), .mkfn 97 [] [(.t 4), (.t 3)], none, []⟩,
 ⟨(some 5), .boxG (.c .nilf), none, []⟩,
 ⟨none, .store 1 (.t 5) (.t 9), none, []⟩])
 (.seq (.seq (.region [⟨(some 10), .faddr 1 none (.t 1), none, []⟩,
 ⟨(some 11), .load none (.t 10), none, []⟩,
 ⟨(some 12), .len (.t 11), none, []⟩,
 ⟨(some 13), .mv (.c (.int .i64 0)), none, []⟩])
 (.block 0
 (.loop
 (.seq (.region [⟨(some 14), .bin .lss (.t 13) (.t 12), none, []⟩])
 (.seq (.cond (.t 14)
 .skip
 (.exit 0))
 (.seq (.block 1
 (.seq (.region [⟨(some 15), .iaddr 19 (.t 11) (.t 13), none, []⟩,
 ⟨(some 16), .load (some 19) (.t 15), none, []⟩,
 ⟨(some 7), .boxG (.c (.agg [(.int .i64 0), (.int .i64 0), (.int .i64 0), (.int .i64 0), (.int .i64 0), (.int .u32 0), (.int .u32 0), (.int .i64 0), (.int .i64 0), (.int .u32 0), (.int .u32 0), (.int .u32 0), (.int .u32 0), (.int .i64 0), (.int .i64 0), (.int .i64 0), (.int .i64 0), (.list 1 []), (.list 1 [])])), none, []⟩,
 ⟨none, .store 19 (.t 7) (.t 16), none, []⟩])
 (.seq (.region [⟨(some 17), .load (some 19) (.t 7), none, []⟩,
 ⟨(some 18), .call 100 [(.t 17)], none, []⟩])
 (.block 2
 (.rangeFunc (.t 18) [19]
 (.region [⟨(some 8), .boxG (.c (.agg [(.int .i64 0), (.int .i64 0), (.int .u32 0), (.int .u32 0), (.int .u32 0), (.int .u32 0), (.int .i64 0), (.int .i64 0), (.int .i64 0), (.int .i64 0), (.list 1 [])])), none, []⟩,
 ⟨none, .store 11 (.t 8) (.t 19), none, []⟩])
 (.block 3
 (.region [⟨(some 20), .load none (.t 5), none, []⟩,
 ⟨(some 21), .load (some 11) (.t 8), none, []⟩,
 ⟨(some 22), .callv (.t 20) [(.t 21)], none, []⟩])))))))
 (.region [⟨(some 23), .bin .add (.t 13) (.c (.int .i64 1)), none, []⟩,
 ⟨(some 13), .mv (.t 23), none, []⟩])))))))
 (.seq (.region [⟨(some 24), .load none (.t 5), none, []⟩,
 ⟨(some 25), .faddr 2 none (.t 1), none, []⟩,
 ⟨(some 26), .load (some 11) (.t 25), none, []⟩,
 ⟨(some 27), .callv (.t 24) [(.t 26)], none, []⟩])
 (.seq (.region [⟨(some 28), .faddr 1 none (.t 1), none, []⟩,
 ⟨(some 29), .load none (.t 28), none, []⟩,
 ⟨(some 30), .len (.t 29), none, []⟩,
 ⟨(some 31), .load none (.t 3), none, []⟩,
 ⟨(some 32), .load none (.t 4), none, []⟩,
 ⟨(some 2), .mv (.t 30), none, []⟩,
 ⟨none, .store 1 (.t 3) (.t 31), none, [⟨none, (.t 4), 32, none⟩]⟩,
 ⟨none, .store 1 (.t 4) (.t 32), none, []⟩])
 .ret))))) }
def c51 : AFn := { nparams := 1, ntmps := 53, results := [.tmp 2], body :=
 (.seq (.region [⟨(some 1), .boxL [7, 10, 12, 15, 28, 41, 46, 48] (.t 0), none, []⟩,
 ⟨(some 2), .mv (.c (.int .i64 0)), none, []⟩])
 (.seq (.region [⟨(some 7), .faddr 0 (some 1) (.t 1), none, []⟩,
 ⟨(some 8), .load none (.t 7), none, []⟩,
 ⟨(some 9), .build [(.int .i64 0), (.int .i64 0), (.int .u32 0), (.int .u32 0), (.int .u32 0), (.int .u32 0)] [(0, 1, (.c (.int .i64 (-1)))), (1, 1, (.c (.int .i64 32)))], none, []⟩,
 ⟨(some 10), .faddr 13 (some 1) (.t 1), none, []⟩,
 ⟨(some 11), .load none (.t 10), none, []⟩,
 ⟨(some 12), .faddr 14 (some 1) (.t 1), none, []⟩,
 ⟨(some 13), .load none (.t 12), none, []⟩,
 ⟨(some 14), .build [(.list 1 []), (.list 1 []), (.int .i64 0), (.int .i64 0), (.int .u32 0), (.int .u32 0), (.int .u32 0), (.int .u32 0), (.int .i64 0), (.list 1 [])] [(0, 1, (.t 8)), (2, 6, (.t 9)), (8, 1, (.t 11)), (9, 1, (.t 13))], none, []⟩,
 ⟨(some 3), .boxL [] (.c (.agg [(.list 1 []), (.list 1 []), (.int .i64 0), (.int .i64 0), (.int .u32 0), (.int .u32 0), (.int .u32 0), (.int .u32 0), (.int .i64 0), (.list 1 [])])), none, []⟩,
 ⟨none, .store 10 (.t 3) (.t 14), none, []⟩])
 (.seq (.seq (.region [⟨(some 15), .faddr 1 (some 1) (.t 1), none, []⟩,
 ⟨(some 16), .load none (.t 15), none, []⟩,
 ⟨(some 17), .len (.t 16), none, []⟩,
 ⟨(some 18), .bin .gtr (.t 17) (.c (.int .i64 2000)), none, []⟩,
 ⟨(some 19), .mv (.t 18), none, []⟩,
 ⟨(some 20), .load (some 10) (.t 3), (some (19, false)), []⟩,
 ⟨(some 21), .call 54 [(.t 20)], (some (19, false)), []⟩,
 ⟨(some 22), .bin .neq (.t 21) (.c (.int .i64 0)), (some (19, false)), []⟩,
 ⟨(some 23), .pick (.t 19) (.c (.bool true)) (.t 22), none, []⟩])
 (.cond (.t 23)
 (.seq (.region [⟨(some 2), .mv (.c (.int .i64 160)), none, []⟩])
 .ret)
 .skip))
 (.seq (.region [⟨(some 24), .load (some 15) (.t 1), none, []⟩,
 ⟨(some 25), .mkmap, none, []⟩,
 ⟨(some 26), .build [(.list 1 []), (.list 1 []), (.int .i64 0), (.int .i64 0), (.int .u32 0), (.int .u32 0), (.int .u32 0), (.int .u32 0), (.int .i64 0), (.int .i64 0), (.int .i64 0), (.int .i64 0), (.list 1 []), (.int .i64 0), (.list 1 []), .nilm, (.int .i64 0)] [(0, 15, (.t 24)), (15, 1, (.t 25)), (16, 1, (.c (.int .i64 20000)))], none, []⟩,
 ⟨(some 27), .boxG (.t 26), none, []⟩,
 ⟨(some 4), .mv (.t 27), none, []⟩])
 (.seq (.seq (.region [⟨(some 28), .faddr 1 (some 1) (.t 1), none, []⟩,
 ⟨(some 29), .load none (.t 28), none, []⟩,
 ⟨(some 30), .len (.t 29), none, []⟩,
 ⟨(some 31), .mv (.c (.int .i64 0)), none, []⟩])
 (.block 0
 (.loop
 (.seq (.region [⟨(some 32), .bin .lss (.t 31) (.t 30), none, []⟩])
 (.seq (.cond (.t 32)
 .skip
 (.exit 0))
 (.seq (.block 1
 (.seq (.region [⟨(some 33), .iaddr 19 (.t 29) (.t 31), none, []⟩,
 ⟨(some 34), .load (some 19) (.t 33), none, []⟩,
 ⟨(some 6), .boxL [] (.c (.agg [(.int .i64 0), (.int .i64 0), (.int .i64 0), (.int .i64 0), (.int .i64 0), (.int .u32 0), (.int .u32 0), (.int .i64 0), (.int .i64 0), (.int .u32 0), (.int .u32 0), (.int .u32 0), (.int .u32 0), (.int .i64 0), (.int .i64 0), (.int .i64 0), (.int .i64 0), (.list 1 []), (.list 1 [])])), none, []⟩,
 ⟨none, .store 19 (.t 6) (.t 34), none, []⟩])
 (.seq (.region [⟨(some 35), .mv (.t 4), none, []⟩,
 ⟨(some 36), .load (some 19) (.t 6), none, []⟩,
 ⟨(some 37), .call 101 [(.t 35), (.t 36)], none, []⟩,
 ⟨(some 38), .un .not (.t 37), none, []⟩])
 (.cond (.t 38)
 (.seq (.region [⟨(some 2), .mv (.c (.int .i64 160)), none, []⟩])
 .ret)
 .skip))))
 (.region [⟨(some 39), .bin .add (.t 31) (.c (.int .i64 1)), none, []⟩,
 ⟨(some 31), .mv (.t 39), none, []⟩])))))))
 (.seq (.seq (.region [⟨(some 40), .mv (.t 4), none, []⟩,
 ⟨(some 41), .faddr 2 (some 1) (.t 1), none, []⟩,
 ⟨(some 42), .load (some 11) (.t 41), none, []⟩,
 ⟨(some 43), .call 102 [(.t 40), (.t 42), (.c (.bool false))], none, []⟩,
 ⟨(some 44), .un .not (.t 43), none, []⟩,
 ⟨(some 45), .mv (.t 44), none, []⟩,
 ⟨(some 46), .faddr 0 (some 1) (.t 1), (some (45, false)), []⟩,
 ⟨(some 47), .load none (.t 46), (some (45, false)), []⟩,
 ⟨(some 48), .faddr 2 (some 1) (.t 1), (some (45, false)), []⟩,
 ⟨(some 49), .load (some 11) (.t 48), (some (45, false)), []⟩,
 ⟨(some 50), .call 103 [(.t 47), (.t 49)], (some (45, false)), []⟩,
 ⟨(some 51), .bin .neq (.t 50) (.c (.int .i64 32)), (some (45, false)), []⟩,
 ⟨(some 52), .pick (.t 45) (.c (.bool true)) (.t 51), none, []⟩])
 (.cond (.t 52)
 (.seq (.region [⟨(some 2), .mv (.c (.int .i64 160)), none, []⟩])
 .ret)
 .skip))
 (.seq (.region [⟨(some 2), .mv (.c (.int .i64 0)), none, []⟩])
 .ret))))))) }
def c52 : AFn := { nparams := 2, ntmps := 38, results := [.tmp 4], body :=
 (.seq (.region [⟨(some 2), .boxL [5, 11, 18, 25, 32] (.t 0), none, []⟩,
 ⟨(some 3), .boxL [7, 13, 20, 27, 34] (.t 1), none, []⟩,
 ⟨(some 4), .mv (.c (.bool false)), none, []⟩])
 (.seq (.region [⟨(some 5), .faddr 0 (some 2) (.t 2), none, []⟩,
 ⟨(some 6), .load none (.t 5), none, []⟩,
 ⟨(some 7), .faddr 0 (some 3) (.t 3), none, []⟩,
 ⟨(some 8), .load none (.t 7), none, []⟩,
 ⟨(some 9), .call 104 [(.t 6), (.t 8)], none, []⟩,
 ⟨(some 10), .mv (.t 9), none, []⟩,
 ⟨(some 11), .faddr 1 (some 2) (.t 2), (some (10, true)), []⟩,
 ⟨(some 12), .load none (.t 11), (some (10, true)), []⟩,
 ⟨(some 13), .faddr 1 (some 3) (.t 3), (some (10, true)), []⟩,
 ⟨(some 14), .load none (.t 13), (some (10, true)), []⟩,
 ⟨(some 15), .call 105 [(.t 12), (.t 14), (.c (.fn 106 [] []))], (some (10, true)), []⟩,
 ⟨(some 16), .pick (.t 10) (.t 15) (.c (.bool false)), none, []⟩,
 ⟨(some 17), .mv (.t 16), none, []⟩,
 ⟨(some 18), .faddr 2 (some 2) (.t 2), (some (17, true)), []⟩,
 ⟨(some 19), .load (some 11) (.t 18), (some (17, true)), []⟩,
 ⟨(some 20), .faddr 2 (some 3) (.t 3), (some (17, true)), []⟩,
 ⟨(some 21), .load (some 11) (.t 20), (some (17, true)), []⟩,
 ⟨(some 22), .call 107 [(.t 19), (.t 21)], (some (17, true)), []⟩,
 ⟨(some 23), .pick (.t 17) (.t 22) (.c (.bool false)), none, []⟩,
 ⟨(some 24), .mv (.t 23), none, []⟩,
 ⟨(some 25), .faddr 13 (some 2) (.t 2), (some (24, true)), []⟩,
 ⟨(some 26), .load none (.t 25), (some (24, true)), []⟩,
 ⟨(some 27), .faddr 13 (some 3) (.t 3), (some (24, true)), []⟩,
 ⟨(some 28), .load none (.t 27), (some (24, true)), []⟩,
 ⟨(some 29), .bin .eql (.t 26) (.t 28), (some (24, true)), []⟩,
 ⟨(some 30), .pick (.t 24) (.t 29) (.c (.bool false)), none, []⟩,
 ⟨(some 31), .mv (.t 30), none, []⟩,
 ⟨(some 32), .faddr 14 (some 2) (.t 2), (some (31, true)), []⟩,
 ⟨(some 33), .load none (.t 32), (some (31, true)), []⟩,
 ⟨(some 34), .faddr 14 (some 3) (.t 3), (some (31, true)), []⟩,
 ⟨(some 35), .load none (.t 34), (some (31, true)), []⟩,
 ⟨(some 36), .call 108 [(.t 33), (.t 35)], (some (31, true)), []⟩,
 ⟨(some 37), .pick (.t 31) (.t 36) (.c (.bool false)), none, []⟩,
 ⟨(some 4), .mv (.t 37), none, []⟩])
 .ret)) }
def c54 : AFn := { nparams := 1, ntmps := 98, results := [.tmp 2], body :=
 (.seq (.region [⟨(some 1), .boxL [8, 13, 19, 25, 30, 34, 39, 46, 68, 70, 75, 76, 81, 82, 89, 94] (.t 0), none, []⟩,
 ⟨(some 2), .mv (.c (.int .i64 0)), none, []⟩])
 (.seq (.seq (.region [⟨(some 8), .faddr 0 (some 1) (.t 1), none, []⟩,
 ⟨(some 9), .load none (.t 8), none, []⟩,
 ⟨(some 10), .len (.t 9), none, []⟩,
 ⟨(some 11), .bin .gtr (.t 10) (.c (.int .i64 4000)), none, []⟩,
 ⟨(some 12), .mv (.t 11), none, []⟩,
 ⟨(some 13), .faddr 1 (some 1) (.t 1), (some (12, false)), []⟩,
 ⟨(some 14), .load none (.t 13), (some (12, false)), []⟩,
 ⟨(some 15), .len (.t 14), (some (12, false)), []⟩,
 ⟨(some 16), .bin .gtr (.t 15) (.c (.int .i64 2000)), (some (12, false)), []⟩,
 ⟨(some 17), .pick (.t 12) (.c (.bool true)) (.t 16), none, []⟩,
 ⟨(some 18), .mv (.t 17), none, []⟩,
 ⟨(some 19), .faddr 9 (some 1) (.t 1), (some (18, false)), []⟩,
 ⟨(some 20), .load none (.t 19), (some (18, false)), []⟩,
 ⟨(some 21), .len (.t 20), (some (18, false)), []⟩,
 ⟨(some 22), .bin .gtr (.t 21) (.c (.int .i64 100)), (some (18, false)), []⟩,
 ⟨(some 23), .pick (.t 18) (.c (.bool true)) (.t 22), none, []⟩,
 ⟨(some 24), .mv (.t 23), none, []⟩,
 ⟨(some 25), .faddr 0 (some 1) (.t 1), (some (24, false)), []⟩,
 ⟨(some 26), .load none (.t 25), (some (24, false)), []⟩,
 ⟨(some 27), .call 109 [(.t 26), (.c (.fn 110 [] []))], (some (24, false)), []⟩,
 ⟨(some 28), .pick (.t 24) (.c (.bool true)) (.t 27), none, []⟩,
 ⟨(some 29), .mv (.t 28), none, []⟩,
 ⟨(some 30), .faddr 9 (some 1) (.t 1), (some (29, false)), []⟩,
 ⟨(some 31), .load none (.t 30), (some (29, false)), []⟩,
 ⟨(some 32), .call 112 [(.t 31), (.c (.fn 113 [] []))], (some (29, false)), []⟩,
 ⟨(some 33), .pick (.t 29) (.c (.bool true)) (.t 32), none, []⟩])
 (.cond (.t 33)
 (.seq (.region [⟨(some 2), .mv (.c (.int .i64 7)), none, []⟩])
 .ret)
 .skip))
 (.seq (.region [⟨(some 34), .faddr 0 (some 1) (.t 1), none, []⟩,
 ⟨(some 35), .load none (.t 34), none, []⟩,
 ⟨(some 36), .len (.t 35), none, []⟩,
 ⟨(some 37), .mks 1 1 [(.bool false)] (.t 36) (.t 36), none, []⟩,
 ⟨(some 3), .boxG (.c (.list 1 [])), none, []⟩,
 ⟨none, .store 1 (.t 3) (.t 37), none, []⟩])
 (.seq (.region [⟨(some 38), .mkfn 114 [] [(.t 3)], none, []⟩,
 ⟨(some 4), .boxG (.c .nilf), none, []⟩,
 ⟨none, .store 1 (.t 4) (.t 38), none, []⟩])
 (.seq (.seq (.region [⟨(some 39), .faddr 1 (some 1) (.t 1), none, []⟩,
 ⟨(some 40), .load none (.t 39), none, []⟩,
 ⟨(some 41), .len (.t 40), none, []⟩,
 ⟨(some 42), .mv (.c (.int .i64 0)), none, []⟩])
 (.block 0
 (.loop
 (.seq (.region [⟨(some 43), .bin .lss (.t 42) (.t 41), none, []⟩])
 (.seq (.cond (.t 43)
 .skip
 (.exit 0))
 (.seq (.block 1
 (.seq (.region [⟨(some 44), .iaddr 13 (.t 40) (.t 42), none, []⟩,
 ⟨(some 45), .load (some 13) (.t 44), none, []⟩,
 ⟨(some 6), .boxL [] (.c (.agg [(.int .i64 0), (.int .i64 0), (.int .i64 0), (.int .i64 0), (.int .i64 0), (.int .u32 0), (.int .u32 0), (.int .i64 0), (.int .i64 0), (.int .i64 0), (.int .i64 0), (.list 1 []), (.list 1 [])])), none, []⟩,
 ⟨none, .store 13 (.t 6) (.t 45), none, []⟩])
 (.seq (.seq (.region [⟨(some 46), .faddr 0 (some 1) (.t 1), none, []⟩,
 ⟨(some 47), .load none (.t 46), none, []⟩,
 ⟨(some 48), .load (some 13) (.t 6), none, []⟩,
 ⟨(some 49), .call 115 [(.t 47), (.t 48)], none, []⟩,
 ⟨(some 50), .un .not (.t 49), none, []⟩,
 ⟨(some 51), .mv (.t 50), none, []⟩,
 ⟨(some 52), .load (some 13) (.t 6), (some (51, false)), []⟩,
 ⟨(some 53), .call 116 [(.t 52)], (some (51, false)), []⟩,
 ⟨(some 54), .mkfn 117 [] [(.t 4)], (some (51, false)), []⟩,
 ⟨(some 55), .call 109 [(.t 53), (.t 54)], (some (51, false)), []⟩,
 ⟨(some 56), .pick (.t 51) (.c (.bool true)) (.t 55), none, []⟩])
 (.cond (.t 56)
 (.seq (.region [⟨(some 2), .mv (.c (.int .i64 7)), none, []⟩])
 .ret)
 .skip))
 (.seq (.region [⟨(some 57), .load (some 13) (.t 6), none, []⟩,
 ⟨(some 58), .call 118 [(.t 57)], none, []⟩,
 ⟨(some 7), .mv (.t 58), none, []⟩])
 (.seq (.region [⟨(some 59), .mv (.t 7), none, []⟩,
 ⟨(some 60), .bin .geq (.t 59) (.c (.int .i64 0)), none, []⟩])
 (.cond (.t 60)
 (.seq (.seq (.region [⟨(some 61), .load none (.t 4), none, []⟩,
 ⟨(some 62), .mv (.t 7), none, []⟩,
 ⟨(some 63), .callv (.t 61) [(.t 62)], none, []⟩])
 (.cond (.t 63)
 (.seq (.region [⟨(some 2), .mv (.c (.int .i64 7)), none, []⟩])
 .ret)
 .skip))
 (.region [⟨(some 64), .load none (.t 3), none, []⟩,
 ⟨(some 65), .mv (.t 7), none, []⟩,
 ⟨(some 66), .iaddr 1 (.t 64) (.t 65), none, []⟩,
 ⟨none, .store 1 (.t 66) (.c (.bool true)), none, []⟩]))
 .skip))))))
 (.region [⟨(some 67), .bin .add (.t 42) (.c (.int .i64 1)), none, []⟩,
 ⟨(some 42), .mv (.t 67), none, []⟩])))))))
 (.seq (.seq (.region [⟨(some 68), .faddr 0 (some 1) (.t 1), none, []⟩,
 ⟨(some 69), .load none (.t 68), none, []⟩,
 ⟨(some 70), .faddr 2 (some 1) (.t 1), none, []⟩,
 ⟨(some 71), .load (some 6) (.t 70), none, []⟩,
 ⟨(some 72), .call 119 [(.t 69), (.t 71)], none, []⟩,
 ⟨(some 73), .bin .neq (.t 72) (.c (.int .i64 32)), none, []⟩,
 ⟨(some 74), .mv (.t 73), none, []⟩,
 ⟨(some 75), .faddr 2 (some 1) (.t 1), (some (74, false)), []⟩,
 ⟨(some 76), .faddr 0 (some 1) (.t 75), (some (74, false)), []⟩,
 ⟨(some 77), .load none (.t 76), (some (74, false)), []⟩,
 ⟨(some 78), .bin .geq (.t 77) (.c (.int .i64 0)), (some (74, false)), []⟩,
 ⟨(some 79), .mv (.t 78), (some (74, false)), []⟩,
 ⟨(some 80), .load none (.t 4), (some (79, true)), []⟩,
 ⟨(some 81), .faddr 2 (some 1) (.t 1), (some (79, true)), []⟩,
 ⟨(some 82), .faddr 0 (some 1) (.t 81), (some (79, true)), []⟩,
 ⟨(some 83), .load none (.t 82), (some (79, true)), []⟩,
 ⟨(some 84), .callv (.t 80) [(.t 83)], (some (79, true)), []⟩,
 ⟨(some 85), .un .not (.t 84), (some (79, true)), []⟩,
 ⟨(some 86), .pick (.t 79) (.t 85) (.c (.bool false)), (some (74, false)), []⟩,
 ⟨(some 87), .pick (.t 74) (.c (.bool true)) (.t 86), none, []⟩,
 ⟨(some 88), .mv (.t 87), none, []⟩,
 ⟨(some 89), .faddr 8 (some 1) (.t 1), (some (88, false)), []⟩,
 ⟨(some 90), .load none (.t 89), (some (88, false)), []⟩,
 ⟨(some 91), .bin .lss (.t 90) (.c (.int .i64 1)), (some (88, false)), []⟩,
 ⟨(some 92), .pick (.t 88) (.c (.bool true)) (.t 91), none, []⟩,
 ⟨(some 93), .mv (.t 92), none, []⟩,
 ⟨(some 94), .faddr 8 (some 1) (.t 1), (some (93, false)), []⟩,
 ⟨(some 95), .load none (.t 94), (some (93, false)), []⟩,
 ⟨(some 96), .bin .gtr (.t 95) (.c (.int .i64 9)), (some (93, false)), []⟩,
 ⟨(some 97), .pick (.t 93) (.c (.bool true)) (.t 96), none, []⟩])
 (.cond (.t 97)
 (.seq (.region [⟨(some 2), .mv (.c (.int .i64 7)), none, []⟩])
 .ret)
 .skip))
 (.seq (.region [⟨(some 2), .mv (.c (.int .i64 0)), none, []⟩])
 .ret))))))) }
def c55 : AFn := { nparams := 1, ntmps := 28, results := [.tmp 2], body :=
 (.seq (.region [⟨(some 1), .boxL [10, 13, 16] (.t 0), none, []⟩,
 ⟨(some 2), .mv (.c .nilp), none, []⟩])
 (.seq (.region [⟨(some 4), .mkmap, none, []⟩,
 ⟨(some 5), .build [(.list 1 []), (.list 1 []), (.int .i64 0), (.int .i64 0), (.int .u32 0), (.int .u32 0), (.int .u32 0), (.int .u32 0), (.int .i64 0), (.int .i64 0), (.int .i64 0), (.int .i64 0), (.list 1 []), (.int .i64 0), (.list 1 []), .nilm, (.list 1 [])] [(15, 1, (.t 4))], none, []⟩,
 ⟨(some 6), .boxG (.t 5), none, []⟩,
 ⟨(some 3), .mv (.t 6), none, []⟩])
 (.seq (.region [⟨(some 7), .mv (.t 3), none, []⟩,
 ⟨(some 8), .mv (.t 3), none, []⟩,
 ⟨(some 9), .mv (.t 3), none, []⟩,
 ⟨(some 10), .faddr 0 (some 1) (.t 1), none, []⟩,
 ⟨(some 11), .load none (.t 10), none, []⟩,
 ⟨(some 13), .faddr 9 (some 1) (.t 1), none, []⟩,
 ⟨(some 14), .load none (.t 13), none, []⟩,
 ⟨(some 16), .faddr 8 (some 1) (.t 1), none, []⟩,
 ⟨(some 17), .load none (.t 16), none, []⟩,
 ⟨(some 12), .call 69 [(.t 11)], none, [⟨none, (.t 16), 17, none⟩, ⟨none, (.t 13), 14, none⟩]⟩,
 ⟨(some 15), .call 70 [(.t 14)], none, [⟨none, (.t 16), 17, none⟩]⟩,
 ⟨(some 18), .nilc none (.t 7), none, []⟩,
 ⟨(some 19), .faddr 0 none (.t 18), none, []⟩,
 ⟨(some 20), .faddr 0 none (.t 19), none, []⟩,
 ⟨none, .store 1 (.t 20) (.t 12), none, [⟨none, (.t 16), 17, none⟩]⟩,
 ⟨(some 21), .nilc none (.t 8), none, []⟩,
 ⟨(some 22), .faddr 0 none (.t 21), none, []⟩,
 ⟨(some 23), .faddr 14 none (.t 22), none, []⟩,
 ⟨none, .store 1 (.t 23) (.t 15), none, [⟨none, (.t 16), 17, none⟩]⟩,
 ⟨(some 24), .nilc none (.t 9), none, []⟩,
 ⟨(some 25), .faddr 0 none (.t 24), none, []⟩,
 ⟨(some 26), .faddr 13 none (.t 25), none, []⟩,
 ⟨none, .store 1 (.t 26) (.t 17), none, []⟩])
 (.seq (.region [⟨(some 27), .mv (.t 3), none, []⟩,
 ⟨(some 2), .mv (.t 27), none, []⟩])
 .ret)))) }
def c56 : AFn := { nparams := 2, ntmps := 11, results := [], body :=
 (.seq (.region [⟨(some 2), .boxL [7] (.t 0), none, []⟩])
 (.region [⟨(some 3), .load none (.t 1), none, []⟩,
 ⟨(some 4), .nilc none (.t 3), none, []⟩,
 ⟨(some 5), .faddr 15 none (.t 4), none, []⟩,
 ⟨(some 6), .load none (.t 5), none, []⟩,
 ⟨(some 7), .faddr 0 (some 2) (.t 2), none, []⟩,
 ⟨(some 8), .load none (.t 7), none, []⟩,
 ⟨(some 9), .look .i64 (.int .i64 0) false (.t 6) (.t 8), none, []⟩,
 ⟨(some 10), .bin .add (.t 9) (.c (.int .i64 1)), none, []⟩,
 ⟨none, .upd .i64 (.t 6) (.t 8) (.t 10), none, []⟩])) }
def c57 : AFn := { nparams := 1, ntmps := 8, results := [.tmp 2], body :=
 (.seq (.region [⟨(some 2), .mv (.c (.list 1 [])), none, []⟩])
 (.seq (.seq (.region [⟨(some 3), .mv (.t 0), none, []⟩,
 ⟨(some 4), .isnil false (.t 3), none, []⟩])
 (.cond (.t 4)
 (.seq (.region [⟨(some 2), .mv (.c (.list 1 [])), none, []⟩])
 .ret)
 .skip))
 (.seq (.region [⟨(some 5), .mkslice 6 0 [(.int .i64 0), (.int .i64 0), (.int .u32 0), (.int .u32 0), (.int .u32 0), (.int .u32 0)] [], none, []⟩,
 ⟨(some 6), .mv (.t 0), none, []⟩,
 ⟨(some 7), .append 6 32 false (.t 5) (.t 6), none, []⟩,
 ⟨(some 2), .mv (.t 7), none, []⟩])
 .ret))) }
def c58 : AFn := { nparams := 2, ntmps := 26, results := [.cell 4 (some 19)], body :=
 (.seq (.region [⟨(some 2), .boxL [8, 11, 13, 14, 20] (.t 0), none, []⟩,
 ⟨(some 4), .boxL [] (.c (.agg [(.int .i64 0), (.int .i64 0), (.int .i64 0), (.int .i64 0), (.int .i64 0), (.int .u32 0), (.int .u32 0), (.int .i64 0), (.int .i64 0), (.int .u32 0), (.int .u32 0), (.int .u32 0), (.int .u32 0), (.int .i64 0), (.int .i64 0), (.int .i64 0), (.int .i64 0), (.list 1 []), (.list 1 [])])), none, []⟩])
 (.seq (.region [⟨(some 6), .load (some 13) (.t 2), none, []⟩,
 ⟨(some 7), .call 120 [(.t 6)], none, []⟩,
 ⟨(some 5), .boxL [19, 24] (.c (.agg [(.int .i64 0), (.int .i64 0), (.int .i64 0), (.int .i64 0), (.int .i64 0), (.int .u32 0), (.int .u32 0), (.int .i64 0), (.int .i64 0), (.int .u32 0), (.int .u32 0), (.int .u32 0), (.int .u32 0), (.int .i64 0), (.int .i64 0), (.int .i64 0), (.int .i64 0), (.list 1 []), (.list 1 [])])), none, []⟩,
 ⟨none, .store 19 (.t 5) (.t 7), none, []⟩])
 (.seq (.seq (.region [⟨(some 8), .faddr 0 (some 2) (.t 2), none, []⟩,
 ⟨(some 9), .load none (.t 8), none, []⟩,
 ⟨(some 10), .bin .eql (.t 9) (.c (.int .i64 2)), none, []⟩])
 (.cond (.t 10)
 (.region [⟨(some 11), .faddr 7 (some 2) (.t 2), none, []⟩,
 ⟨(some 12), .load (some 5) (.t 11), none, []⟩,
 ⟨(some 13), .faddr 7 (some 2) (.t 2), none, []⟩,
 ⟨(some 14), .faddr 4 (some 2) (.t 13), none, []⟩,
 ⟨(some 15), .load none (.t 14), none, []⟩,
 ⟨(some 16), .mv (.t 1), none, []⟩,
 ⟨(some 17), .call 122 [(.t 15), (.t 16)], none, [⟨(some 5), (.t 11), 12, none⟩]⟩,
 ⟨(some 18), .call 121 [(.t 12), (.t 17)], none, []⟩,
 ⟨(some 19), .faddr 7 (some 5) (.t 5), none, []⟩,
 ⟨none, .store 11 (.t 19) (.t 18), none, []⟩])
 .skip))
 (.seq (.region [⟨(some 20), .faddr 12 (some 2) (.t 2), none, []⟩,
 ⟨(some 21), .load none (.t 20), none, []⟩,
 ⟨(some 22), .mv (.t 1), none, []⟩,
 ⟨(some 23), .call 122 [(.t 21), (.t 22)], none, []⟩,
 ⟨(some 24), .faddr 18 (some 5) (.t 5), none, []⟩,
 ⟨none, .store 1 (.t 24) (.t 23), none, []⟩])
 (.seq (.region [⟨(some 25), .load (some 19) (.t 5), none, []⟩,
 ⟨none, .store 19 (.t 4) (.t 25), none, []⟩])
 .ret))))) }
def c59 : AFn := { nparams := 2, ntmps := 37, results := [.cell 4 (some 11)], body :=
 (.seq (.region [⟨(some 3), .boxG (.t 1), none, []⟩,
 ⟨(some 4), .boxL [] (.c (.agg [(.int .i64 0), (.int .i64 0), (.int .u32 0), (.int .u32 0), (.int .u32 0), (.int .u32 0), (.int .i64 0), (.int .i64 0), (.int .i64 0), (.int .i64 0), (.list 1 [])])), none, []⟩])
 (.seq (.region [⟨(some 7), .mv (.t 0), none, []⟩,
 ⟨(some 8), .nilc none (.t 7), none, []⟩,
 ⟨(some 9), .faddr 16 none (.t 8), none, []⟩,
 ⟨(some 10), .load none (.t 9), none, []⟩,
 ⟨(some 11), .mkfn 124 [] [(.t 3)], none, []⟩,
 ⟨(some 12), .call 123 [(.t 10), (.t 11)], none, []⟩,
 ⟨(some 5), .mv (.t 12), none, []⟩])
 (.seq (.seq (.region [⟨(some 13), .mv (.t 5), none, []⟩,
 ⟨(some 14), .bin .lss (.t 13) (.c (.int .i64 0)), none, []⟩])
 (.cond (.t 14)
 (.seq (.region [⟨(some 15), .load (some 6) (.t 3), none, []⟩,
 ⟨(some 16), .call 67 [(.t 15)], none, []⟩,
 ⟨none, .store 11 (.t 4) (.t 16), none, []⟩])
 .ret)
 .skip))
 (.seq (.region [⟨(some 17), .mv (.t 0), none, []⟩,
 ⟨(some 18), .nilc none (.t 17), none, []⟩,
 ⟨(some 19), .faddr 16 none (.t 18), none, []⟩,
 ⟨(some 20), .load none (.t 19), none, []⟩,
 ⟨(some 21), .mv (.t 5), none, []⟩,
 ⟨(some 22), .iaddr 12 (.t 20) (.t 21), none, []⟩,
 ⟨(some 23), .faddr 1 none (.t 22), none, []⟩,
 ⟨(some 24), .load (some 11) (.t 23), none, []⟩,
 ⟨(some 6), .boxL [] (.c (.agg [(.int .i64 0), (.int .i64 0), (.int .u32 0), (.int .u32 0), (.int .u32 0), (.int .u32 0), (.int .i64 0), (.int .i64 0), (.int .i64 0), (.int .i64 0), (.list 1 [])])), none, []⟩,
 ⟨none, .store 11 (.t 6) (.t 24), none, []⟩])
 (.seq (.region [⟨(some 25), .mv (.t 0), none, []⟩,
 ⟨(some 26), .mv (.t 0), none, []⟩,
 ⟨(some 27), .nilc none (.t 26), none, []⟩,
 ⟨(some 28), .faddr 16 none (.t 27), none, []⟩,
 ⟨(some 29), .load none (.t 28), none, []⟩,
 ⟨(some 30), .mv (.t 5), none, []⟩,
 ⟨(some 31), .mv (.t 5), none, []⟩,
 ⟨(some 32), .bin .add (.t 31) (.c (.int .i64 1)), none, []⟩,
 ⟨(some 33), .call 125 [(.t 29), (.t 30), (.t 32)], none, []⟩,
 ⟨(some 34), .nilc none (.t 25), none, []⟩,
 ⟨(some 35), .faddr 16 none (.t 34), none, []⟩,
 ⟨none, .store 1 (.t 35) (.t 33), none, []⟩])
 (.seq (.region [⟨(some 36), .load (some 11) (.t 6), none, []⟩,
 ⟨none, .store 11 (.t 4) (.t 36), none, []⟩])
 .ret)))))) }
def c60 : AFn := { nparams := 2, ntmps := 50, results := [], body :=
 (.seq (.region [⟨(some 3), .boxL [] (.t 1), none, []⟩])
 (.seq (.region [⟨(some 9), .mv (.t 0), none, []⟩,
 ⟨(some 10), .load (some 19) (.t 3), none, []⟩,
 ⟨(some 11), .call 126 [(.t 9), (.t 10)], none, []⟩,
 ⟨(some 4), .boxG (.c .nilm), none, []⟩,
 ⟨none, .store 1 (.t 4) (.t 11), none, []⟩])
 (.seq (.region [⟨(some 12), .mkfn 127 [] [(.t 4)], none, []⟩,
 ⟨(some 5), .mv (.t 12), none, []⟩])
 (.seq (.region [⟨(some 6), .mv (.c (.list 1 [])), none, []⟩])
 (.seq (.seq (.region [⟨(some 13), .mv (.t 0), none, []⟩,
 ⟨(some 14), .nilc none (.t 13), none, []⟩,
 ⟨(some 15), .faddr 16 none (.t 14), none, []⟩,
 ⟨(some 16), .load none (.t 15), none, []⟩,
 ⟨(some 17), .len (.t 16), none, []⟩,
 ⟨(some 18), .mv (.c (.int .i64 0)), none, []⟩])
 (.block 0
 (.loop
 (.seq (.region [⟨(some 19), .bin .lss (.t 18) (.t 17), none, []⟩])
 (.seq (.cond (.t 19)
 .skip
 (.exit 0))
 (.seq (.block 1
 (.seq (.region [⟨(some 20), .iaddr 12 (.t 16) (.t 18), none, []⟩,
 ⟨(some 21), .load (some 12) (.t 20), none, []⟩,
 ⟨(some 8), .boxL [31, 33] (.c (.agg [(.int .i64 0), (.int .i64 0), (.int .i64 0), (.int .u32 0), (.int .u32 0), (.int .u32 0), (.int .u32 0), (.int .i64 0), (.int .i64 0), (.int .i64 0), (.int .i64 0), (.list 1 [])])), none, []⟩,
 ⟨none, .store 12 (.t 8) (.t 21), none, []⟩])
 (.seq (.region [⟨(some 22), .mv (.t 5), none, []⟩,
 ⟨(some 23), .load (some 12) (.t 8), none, []⟩,
 ⟨(some 24), .callv (.t 22) [(.t 23)], none, []⟩])
 (.cond (.t 24)
 (.region [⟨(some 25), .mv (.t 0), none, []⟩,
 ⟨(some 26), .mv (.t 0), none, []⟩,
 ⟨(some 27), .nilc none (.t 26), none, []⟩,
 ⟨(some 28), .faddr 0 none (.t 27), none, []⟩,
 ⟨(some 29), .faddr 1 none (.t 28), none, []⟩,
 ⟨(some 30), .load none (.t 29), none, []⟩,
 ⟨(some 31), .faddr 0 (some 8) (.t 8), none, []⟩,
 ⟨(some 32), .load none (.t 31), none, []⟩,
 ⟨(some 33), .faddr 1 (some 8) (.t 8), none, []⟩,
 ⟨(some 34), .load (some 11) (.t 33), none, []⟩,
 ⟨(some 35), .build [(.int .i64 0), (.int .i64 0), (.int .i64 0), (.int .i64 0), (.int .i64 0), (.int .u32 0), (.int .u32 0), (.int .i64 0), (.int .i64 0), (.int .u32 0), (.int .u32 0), (.int .u32 0), (.int .u32 0), (.int .i64 0), (.int .i64 0), (.int .i64 0), (.int .i64 0), (.list 1 []), (.list 1 [])] [(0, 1, (.c (.int .i64 2))), (1, 1, (.t 32)), (7, 11, (.t 34))], none, []⟩,
 ⟨(some 36), .mkslice 19 1 [(.int .i64 0), (.int .i64 0), (.int .i64 0), (.int .i64 0), (.int .i64 0), (.int .u32 0), (.int .u32 0), (.int .i64 0), (.int .i64 0), (.int .u32 0), (.int .u32 0), (.int .u32 0), (.int .u32 0), (.int .i64 0), (.int .i64 0), (.int .i64 0), (.int .i64 0), (.list 1 []), (.list 1 [])] [(0, (.t 35))], none, []⟩,
 ⟨(some 37), .append 19 160 false (.t 30) (.t 36), none, []⟩,
 ⟨(some 38), .nilc none (.t 25), none, []⟩,
 ⟨(some 39), .faddr 0 none (.t 38), none, []⟩,
 ⟨(some 40), .faddr 1 none (.t 39), none, []⟩,
 ⟨none, .store 1 (.t 40) (.t 37), none, []⟩])
 (.region [⟨(some 41), .mv (.t 6), none, []⟩,
 ⟨(some 42), .load (some 12) (.t 8), none, []⟩,
 ⟨(some 43), .mkslice 12 1 [(.int .i64 0), (.int .i64 0), (.int .i64 0), (.int .u32 0), (.int .u32 0), (.int .u32 0), (.int .u32 0), (.int .i64 0), (.int .i64 0), (.int .i64 0), (.int .i64 0), (.list 1 [])] [(0, (.t 42))], none, []⟩,
 ⟨(some 44), .append 12 96 true (.t 41) (.t 43), none, []⟩,
 ⟨(some 6), .mv (.t 44), none, []⟩])))))
 (.region [⟨(some 45), .bin .add (.t 18) (.c (.int .i64 1)), none, []⟩,
 ⟨(some 18), .mv (.t 45), none, []⟩])))))))
 (.region [⟨(some 46), .mv (.t 0), none, []⟩,
 ⟨(some 47), .mv (.t 6), none, []⟩,
 ⟨(some 48), .nilc none (.t 46), none, []⟩,
 ⟨(some 49), .faddr 16 none (.t 48), none, []⟩,
 ⟨none, .store 1 (.t 49) (.t 47), none, []⟩])))))) }
def c65 : AFn := { nparams := 2, ntmps := 22, results := [.tmp 4], body :=
 (.seq (.region [⟨(some 4), .mv (.c (.list 1 [])), none, []⟩])
 (.seq (.region [⟨(some 5), .mv (.c (.list 1 [])), none, []⟩])
 (.seq (.seq (.region [⟨(some 8), .mv (.t 0), none, []⟩,
 ⟨(some 9), .len (.t 8), none, []⟩,
 ⟨(some 10), .mv (.c (.int .i64 0)), none, []⟩])
 (.block 0
 (.loop
 (.seq (.region [⟨(some 11), .bin .lss (.t 10) (.t 9), none, []⟩])
 (.seq (.cond (.t 11)
 .skip
 (.exit 0))
 (.seq (.block 1
 (.seq (.region [⟨(some 12), .iaddr 13 (.t 8) (.t 10), none, []⟩,
 ⟨(some 13), .load (some 13) (.t 12), none, []⟩,
 ⟨(some 7), .boxL [] (.c (.agg [(.int .i64 0), (.int .i64 0), (.int .i64 0), (.int .i64 0), (.int .i64 0), (.int .u32 0), (.int .u32 0), (.int .i64 0), (.int .i64 0), (.int .i64 0), (.int .i64 0), (.list 1 []), (.list 1 [])])), none, []⟩,
 ⟨none, .store 13 (.t 7) (.t 13), none, []⟩])
 (.region [⟨(some 14), .mv (.t 5), none, []⟩,
 ⟨(some 15), .mv (.t 1), none, []⟩,
 ⟨(some 16), .load (some 13) (.t 7), none, []⟩,
 ⟨(some 17), .callv (.t 15) [(.t 16)], none, []⟩,
 ⟨(some 18), .mkslice 19 1 [(.int .i64 0), (.int .i64 0), (.int .i64 0), (.int .i64 0), (.int .i64 0), (.int .u32 0), (.int .u32 0), (.int .i64 0), (.int .i64 0), (.int .u32 0), (.int .u32 0), (.int .u32 0), (.int .u32 0), (.int .i64 0), (.int .i64 0), (.int .i64 0), (.int .i64 0), (.list 1 []), (.list 1 [])] [(0, (.t 17))], none, []⟩,
 ⟨(some 19), .append 19 160 false (.t 14) (.t 18), none, []⟩,
 ⟨(some 5), .mv (.t 19), none, []⟩])))
 (.region [⟨(some 20), .bin .add (.t 10) (.c (.int .i64 1)), none, []⟩,
 ⟨(some 10), .mv (.t 20), none, []⟩])))))))
 (.seq (.region [⟨(some 21), .mv (.t 5), none, []⟩,
 ⟨(some 4), .mv (.t 21), none, []⟩])
 .ret)))) }
def c66 : AFn := { nparams := 1, ntmps := 5, results := [.cell 2 (some 19)], body :=
 (.seq (.region [⟨(some 1), .boxL [] (.t 0), none, []⟩,
 ⟨(some 2), .boxL [] (.c (.agg [(.int .i64 0), (.int .i64 0), (.int .i64 0), (.int .i64 0), (.int .i64 0), (.int .u32 0), (.int .u32 0), (.int .i64 0), (.int .i64 0), (.int .u32 0), (.int .u32 0), (.int .u32 0), (.int .u32 0), (.int .i64 0), (.int .i64 0), (.int .i64 0), (.int .i64 0), (.list 1 []), (.list 1 [])])), none, []⟩])
 (.seq (.region [⟨(some 3), .load (some 13) (.t 1), none, []⟩,
 ⟨(some 4), .call 58 [(.t 3), (.c (.fn 67 [] []))], none, []⟩,
 ⟨none, .store 19 (.t 2) (.t 4), none, []⟩])
 .ret)) }
def c67 : AFn := { nparams := 1, ntmps := 5, results := [.cell 2 (some 11)], body :=
 (.seq (.region [⟨(some 1), .boxL [] (.t 0), none, []⟩,
 ⟨(some 2), .boxL [] (.c (.agg [(.int .i64 0), (.int .i64 0), (.int .u32 0), (.int .u32 0), (.int .u32 0), (.int .u32 0), (.int .i64 0), (.int .i64 0), (.int .i64 0), (.int .i64 0), (.list 1 [])])), none, []⟩])
 (.seq (.region [⟨(some 3), .load (some 6) (.t 1), none, []⟩,
 ⟨(some 4), .build [(.int .i64 0), (.int .i64 0), (.int .u32 0), (.int .u32 0), (.int .u32 0), (.int .u32 0), (.int .i64 0), (.int .i64 0), (.int .i64 0), (.int .i64 0), (.list 1 [])] [(0, 6, (.t 3))], none, []⟩,
 ⟨none, .store 11 (.t 2) (.t 4), none, []⟩])
 .ret)) }
def c69 : AFn := { nparams := 1, ntmps := 8, results := [.tmp 2], body :=
 (.seq (.region [⟨(some 2), .mv (.c (.list 1 [])), none, []⟩])
 (.seq (.seq (.region [⟨(some 3), .mv (.t 0), none, []⟩,
 ⟨(some 4), .isnil false (.t 3), none, []⟩])
 (.cond (.t 4)
 (.seq (.region [⟨(some 2), .mv (.c (.list 1 [])), none, []⟩])
 .ret)
 .skip))
 (.seq (.region [⟨(some 5), .mkslice 1 0 [(.int .i64 0)] [], none, []⟩,
 ⟨(some 6), .mv (.t 0), none, []⟩,
 ⟨(some 7), .append 1 8 false (.t 5) (.t 6), none, []⟩,
 ⟨(some 2), .mv (.t 7), none, []⟩])
 .ret))) }
def c70 : AFn := { nparams := 1, ntmps := 8, results := [.tmp 2], body :=
 (.seq (.region [⟨(some 2), .mv (.c (.list 1 [])), none, []⟩])
 (.seq (.seq (.region [⟨(some 3), .mv (.t 0), none, []⟩,
 ⟨(some 4), .isnil false (.t 3), none, []⟩])
 (.cond (.t 4)
 (.seq (.region [⟨(some 2), .mv (.c (.list 1 [])), none, []⟩])
 .ret)
 .skip))
 (.seq (.region [⟨(some 5), .mkslice 2 0 [(.int .u32 0), (.int .i64 0)] [], none, []⟩,
 ⟨(some 6), .mv (.t 0), none, []⟩,
 ⟨(some 7), .append 2 16 false (.t 5) (.t 6), none, []⟩,
 ⟨(some 2), .mv (.t 7), none, []⟩])
 .ret))) }
def c71 : AFn := { nparams := 2, ntmps := 12, results := [.cell 4 (some 5)], body :=
 (.seq (.region [⟨(some 3), .boxL [6] (.t 1), none, []⟩,
 ⟨(some 4), .boxL [] (.c (.agg [(.int .i64 0), (.int .i64 0), (.int .i64 0), (.int .i64 0), (.list 1 [])])), none, []⟩])
 (.seq (.region [⟨(some 5), .load (some 11) (.t 3), none, []⟩,
 ⟨(some 6), .faddr 10 (some 3) (.t 3), none, []⟩,
 ⟨(some 7), .load none (.t 6), none, []⟩,
 ⟨(some 8), .mv (.t 0), none, []⟩,
 ⟨(some 9), .mkfn 73 [(.t 8)] [], none, []⟩,
 ⟨(some 10), .call 72 [(.t 7), (.t 9)], none, [⟨(some 11), (.t 3), 5, none⟩]⟩,
 ⟨(some 11), .call 131 [(.t 5), (.t 10)], none, []⟩,
 ⟨none, .store 5 (.t 4) (.t 11), none, []⟩])
 .ret)) }
def c72 : AFn := { nparams := 2, ntmps := 22, results := [.tmp 4], body :=
 (.seq (.region [⟨(some 4), .mv (.c (.list 1 [])), none, []⟩])
 (.seq (.region [⟨(some 5), .mv (.c (.list 1 [])), none, []⟩])
 (.seq (.seq (.region [⟨(some 8), .mv (.t 0), none, []⟩,
 ⟨(some 9), .len (.t 8), none, []⟩,
 ⟨(some 10), .mv (.c (.int .i64 0)), none, []⟩])
 (.block 0
 (.loop
 (.seq (.region [⟨(some 11), .bin .lss (.t 10) (.t 9), none, []⟩])
 (.seq (.cond (.t 11)
 .skip
 (.exit 0))
 (.seq (.block 1
 (.seq (.region [⟨(some 12), .iaddr 11 (.t 8) (.t 10), none, []⟩,
 ⟨(some 13), .load (some 11) (.t 12), none, []⟩,
 ⟨(some 7), .boxL [] (.c (.agg [(.int .i64 0), (.int .i64 0), (.int .u32 0), (.int .u32 0), (.int .u32 0), (.int .u32 0), (.int .i64 0), (.int .i64 0), (.int .i64 0), (.int .i64 0), (.list 1 [])])), none, []⟩,
 ⟨none, .store 11 (.t 7) (.t 13), none, []⟩])
 (.region [⟨(some 14), .mv (.t 5), none, []⟩,
 ⟨(some 15), .mv (.t 1), none, []⟩,
 ⟨(some 16), .load (some 11) (.t 7), none, []⟩,
 ⟨(some 17), .callv (.t 15) [(.t 16)], none, []⟩,
 ⟨(some 18), .mkslice 6 1 [(.int .i64 0), (.int .i64 0), (.int .u32 0), (.int .u32 0), (.int .u32 0), (.int .u32 0)] [(0, (.t 17))], none, []⟩,
 ⟨(some 19), .append 6 32 false (.t 14) (.t 18), none, []⟩,
 ⟨(some 5), .mv (.t 19), none, []⟩])))
 (.region [⟨(some 20), .bin .add (.t 10) (.c (.int .i64 1)), none, []⟩,
 ⟨(some 10), .mv (.t 20), none, []⟩])))))))
 (.seq (.region [⟨(some 21), .mv (.t 5), none, []⟩,
 ⟨(some 4), .mv (.t 21), none, []⟩])
 .ret)))) }
def c73 : AFn := { nparams := 2, ntmps := 58, results := [.cell 4 (some 6)], body :=
 (.seq (.region [⟨(some 3), .boxL [8, 11] (.t 1), none, []⟩,
 ⟨(some 4), .boxL [] (.c (.agg [(.int .i64 0), (.int .i64 0), (.int .u32 0), (.int .u32 0), (.int .u32 0), (.int .u32 0)])), none, []⟩])
 (.seq (.seq (.region [⟨(some 8), .faddr 6 (some 3) (.t 3), none, []⟩,
 ⟨(some 9), .load none (.t 8), none, []⟩,
 ⟨(some 10), .bin .eql (.t 9) (.c (.int .i64 0)), none, []⟩])
 (.cond (.t 10)
 (.seq (.region [⟨(some 11), .faddr 0 (some 3) (.t 3), none, []⟩,
 ⟨(some 12), .load (some 6) (.t 11), none, []⟩,
 ⟨none, .store 6 (.t 4) (.t 12), none, []⟩])
 .ret)
 .skip))
 (.seq (.region [⟨(some 13), .mv (.t 0), none, []⟩,
 ⟨(some 14), .nilc none (.t 13), none, []⟩,
 ⟨(some 15), .faddr 0 none (.t 14), none, []⟩,
 ⟨(some 16), .faddr 0 none (.t 15), none, []⟩,
 ⟨(some 17), .load none (.t 16), none, []⟩,
 ⟨(some 18), .load (some 11) (.t 3), none, []⟩,
 ⟨(some 19), .call 103 [(.t 17), (.t 18)], none, []⟩,
 ⟨(some 5), .mv (.t 19), none, []⟩])
 (.seq (.region [⟨(some 20), .mv (.t 0), none, []⟩,
 ⟨(some 21), .load (some 11) (.t 3), none, []⟩,
 ⟨(some 22), .call 71 [(.t 20), (.t 21)], none, []⟩,
 ⟨(some 6), .boxL [] (.c (.agg [(.int .i64 0), (.int .i64 0), (.int .i64 0), (.int .i64 0), (.list 1 [])])), none, []⟩,
 ⟨none, .store 5 (.t 6) (.t 22), none, []⟩])
 (.seq (.region [⟨(some 23), .mv (.t 0), none, []⟩,
 ⟨(some 24), .nilc none (.t 23), none, []⟩,
 ⟨(some 25), .faddr 0 none (.t 24), none, []⟩,
 ⟨(some 26), .faddr 0 none (.t 25), none, []⟩,
 ⟨(some 27), .load none (.t 26), none, []⟩,
 ⟨(some 28), .len (.t 27), none, []⟩,
 ⟨(some 29), .build [(.int .i64 0), (.int .i64 0), (.int .u32 0), (.int .u32 0), (.int .u32 0), (.int .u32 0)] [(0, 1, (.t 28))], none, []⟩,
 ⟨(some 7), .boxL [48] (.c (.agg [(.int .i64 0), (.int .i64 0), (.int .u32 0), (.int .u32 0), (.int .u32 0), (.int .u32 0)])), none, []⟩,
 ⟨none, .store 6 (.t 7) (.t 29), none, []⟩])
 (.seq (.region [⟨(some 30), .mv (.t 0), none, []⟩,
 ⟨(some 31), .mv (.t 0), none, []⟩,
 ⟨(some 32), .nilc none (.t 31), none, []⟩,
 ⟨(some 33), .faddr 0 none (.t 32), none, []⟩,
 ⟨(some 34), .faddr 0 none (.t 33), none, []⟩,
 ⟨(some 35), .load none (.t 34), none, []⟩,
 ⟨(some 36), .mv (.t 5), none, []⟩,
 ⟨(some 37), .mkslice 1 1 [(.int .i64 0)] [(0, (.t 36))], none, []⟩,
 ⟨(some 38), .append 1 8 false (.t 35) (.t 37), none, []⟩,
 ⟨(some 39), .nilc none (.t 30), none, []⟩,
 ⟨(some 40), .faddr 0 none (.t 39), none, []⟩,
 ⟨(some 41), .faddr 0 none (.t 40), none, []⟩,
 ⟨none, .store 1 (.t 41) (.t 38), none, []⟩])
 (.seq (.region [⟨(some 42), .mv (.t 0), none, []⟩,
 ⟨(some 43), .mv (.t 0), none, []⟩,
 ⟨(some 44), .nilc none (.t 43), none, []⟩,
 ⟨(some 45), .faddr 0 none (.t 44), none, []⟩,
 ⟨(some 46), .faddr 1 none (.t 45), none, []⟩,
 ⟨(some 47), .load none (.t 46), none, []⟩,
 ⟨(some 48), .faddr 0 (some 7) (.t 7), none, []⟩,
 ⟨(some 49), .load none (.t 48), none, []⟩,
 ⟨(some 50), .load (some 5) (.t 6), none, []⟩,
 ⟨(some 51), .build [(.int .i64 0), (.int .i64 0), (.int .i64 0), (.int .i64 0), (.int .i64 0), (.int .u32 0), (.int .u32 0), (.int .i64 0), (.int .i64 0), (.int .i64 0), (.int .i64 0), (.list 1 []), (.list 1 [])] [(0, 1, (.c (.int .i64 2))), (1, 1, (.t 49)), (7, 5, (.t 50))], none, []⟩,
 ⟨(some 52), .mkslice 13 1 [(.int .i64 0), (.int .i64 0), (.int .i64 0), (.int .i64 0), (.int .i64 0), (.int .u32 0), (.int .u32 0), (.int .i64 0), (.int .i64 0), (.int .i64 0), (.int .i64 0), (.list 1 []), (.list 1 [])] [(0, (.t 51))], none, []⟩,
 ⟨(some 53), .append 13 128 false (.t 47) (.t 52), none, []⟩,
 ⟨(some 54), .nilc none (.t 42), none, []⟩,
 ⟨(some 55), .faddr 0 none (.t 54), none, []⟩,
 ⟨(some 56), .faddr 1 none (.t 55), none, []⟩,
 ⟨none, .store 1 (.t 56) (.t 53), none, []⟩])
 (.seq (.region [⟨(some 57), .load (some 6) (.t 7), none, []⟩,
 ⟨none, .store 6 (.t 4) (.t 57), none, []⟩])
 .ret)))))))) }
def c91 : AFn := { nparams := 2, ntmps := 22, results := [.tmp 4], body :=
 (.seq (.region [⟨(some 4), .mv (.c (.list 1 [])), none, []⟩])
 (.seq (.region [⟨(some 5), .mv (.c (.list 1 [])), none, []⟩])
 (.seq (.seq (.region [⟨(some 8), .mv (.t 0), none, []⟩,
 ⟨(some 9), .len (.t 8), none, []⟩,
 ⟨(some 10), .mv (.c (.int .i64 0)), none, []⟩])
 (.block 0
 (.loop
 (.seq (.region [⟨(some 11), .bin .lss (.t 10) (.t 9), none, []⟩])
 (.seq (.cond (.t 11)
 .skip
 (.exit 0))
 (.seq (.block 1
 (.seq (.region [⟨(some 12), .iaddr 11 (.t 8) (.t 10), none, []⟩,
 ⟨(some 13), .load (some 11) (.t 12), none, []⟩,
 ⟨(some 7), .boxL [] (.c (.agg [(.int .i64 0), (.int .i64 0), (.int .u32 0), (.int .u32 0), (.int .u32 0), (.int .u32 0), (.int .i64 0), (.int .i64 0), (.int .i64 0), (.int .i64 0), (.list 1 [])])), none, []⟩,
 ⟨none, .store 11 (.t 7) (.t 13), none, []⟩])
 (.region [⟨(some 14), .mv (.t 5), none, []⟩,
 ⟨(some 15), .mv (.t 1), none, []⟩,
 ⟨(some 16), .load (some 11) (.t 7), none, []⟩,
 ⟨(some 17), .callv (.t 15) [(.t 16)], none, []⟩,
 ⟨(some 18), .mkslice 1 1 [(.int .i64 0)] [(0, (.t 17))], none, []⟩,
 ⟨(some 19), .append 1 8 true (.t 14) (.t 18), none, []⟩,
 ⟨(some 5), .mv (.t 19), none, []⟩])))
 (.region [⟨(some 20), .bin .add (.t 10) (.c (.int .i64 1)), none, []⟩,
 ⟨(some 10), .mv (.t 20), none, []⟩])))))))
 (.seq (.region [⟨(some 21), .mv (.t 5), none, []⟩,
 ⟨(some 4), .mv (.t 21), none, []⟩])
 .ret)))) }
def c92 : AFn := { nparams := 2, ntmps := 14, results := [], body :=
 (.seq (.region [⟨(some 5), .mv (.t 0), none, []⟩,
 ⟨(some 6), .len (.t 5), none, []⟩,
 ⟨(some 4), .mv (.t 6), none, []⟩])
 (.region [⟨(some 7), .mv (.t 0), none, []⟩,
 ⟨(some 8), .mv (.t 4), none, []⟩,
 ⟨(some 9), .mv (.t 4), none, []⟩,
 ⟨(some 10), .conv .u64 (.t 9), none, []⟩,
 ⟨(some 11), .call 142 [(.t 10)], none, []⟩,
 ⟨(some 12), .mv (.t 1), none, []⟩,
 ⟨(some 13), .call 141 [(.t 7), (.c (.int .i64 0)), (.t 8), (.t 11), (.t 12)], none, []⟩])) }
def c93 : AFn := { nparams := 2, ntmps := 8, results := [.tmp 4], body :=
 (.seq (.region [⟨(some 4), .mv (.c (.int .i64 0)), none, []⟩])
 (.seq (.region [⟨(some 5), .mv (.t 1), none, []⟩,
 ⟨(some 6), .mv (.t 0), none, []⟩,
 ⟨(some 7), .bin .sub (.t 5) (.t 6), none, []⟩,
 ⟨(some 4), .mv (.t 7), none, []⟩])
 .ret)) }
def c96 : AFn := { nparams := 2, ntmps := 27, results := [.tmp 4], body :=
 (.seq (.region [⟨(some 4), .mv (.c (.bool false)), none, []⟩])
 (.seq (.seq (.region [⟨(some 6), .mv (.t 0), none, []⟩,
 ⟨(some 7), .len (.t 6), none, []⟩,
 ⟨(some 8), .mv (.t 1), none, []⟩,
 ⟨(some 9), .len (.t 8), none, []⟩,
 ⟨(some 10), .bin .neq (.t 7) (.t 9), none, []⟩])
 (.cond (.t 10)
 (.seq (.region [⟨(some 4), .mv (.c (.bool false)), none, []⟩])
 .ret)
 .skip))
 (.seq (.seq (.region [⟨(some 5), .mv (.c (.int .i64 0)), none, []⟩])
 (.block 0
 (.loop
 (.seq (.seq (.region [⟨(some 11), .mv (.t 5), none, []⟩,
 ⟨(some 12), .mv (.t 0), none, []⟩,
 ⟨(some 13), .len (.t 12), none, []⟩,
 ⟨(some 14), .bin .lss (.t 11) (.t 13), none, []⟩])
 (.cond (.t 14)
 .skip
 (.exit 0)))
 (.seq (.block 1
 (.seq (.region [⟨(some 17), .mv (.t 0), none, []⟩,
 ⟨(some 18), .mv (.t 5), none, []⟩,
 ⟨(some 19), .iaddr 11 (.t 17) (.t 18), none, []⟩,
 ⟨(some 20), .load (some 11) (.t 19), none, []⟩,
 ⟨(some 21), .mv (.t 1), none, []⟩,
 ⟨(some 22), .mv (.t 5), none, []⟩,
 ⟨(some 23), .iaddr 11 (.t 21) (.t 22), none, []⟩,
 ⟨(some 24), .load (some 11) (.t 23), none, []⟩,
 ⟨(some 25), .call 40 [(.t 20), (.t 24)], none, []⟩,
 ⟨(some 26), .un .not (.t 25), none, []⟩])
 (.cond (.t 26)
 (.seq (.region [⟨(some 4), .mv (.c (.bool false)), none, []⟩])
 .ret)
 .skip)))
 (.region [⟨(some 15), .mv (.t 5), none, []⟩,
 ⟨(some 16), .bin .add (.t 15) (.c (.int .i64 1)), none, []⟩,
 ⟨(some 5), .mv (.t 16), none, []⟩]))))))
 (.seq (.region [⟨(some 4), .mv (.c (.bool true)), none, []⟩])
 .ret)))) }
def c97 : AFn := { nparams := 3, ntmps := 17, results := [], body :=
 (.seq (.region [⟨(some 3), .boxG (.t 0), none, []⟩])
 (.seq (.region [⟨(some 5), .load none (.t 1), none, []⟩,
 ⟨(some 6), .load (some 11) (.t 3), none, []⟩,
 ⟨(some 7), .call 98 [(.t 6)], none, [⟨none, (.t 1), 5, none⟩]⟩,
 ⟨(some 8), .mx [(.t 5), (.t 7)], none, []⟩,
 ⟨none, .store 1 (.t 1) (.t 8), none, []⟩])
 (.seq (.region [⟨(some 9), .load (some 11) (.t 3), none, []⟩,
 ⟨(some 10), .call 99 [(.t 9)], none, []⟩])
 (.block 0
 (.rangeFunc (.t 10) [11]
 (.region [⟨(some 4), .boxG (.c (.agg [(.int .i64 0), (.int .i64 0), (.int .u32 0), (.int .u32 0), (.int .u32 0), (.int .u32 0), (.int .i64 0), (.int .i64 0), (.int .i64 0), (.int .i64 0), (.list 1 [])])), none, []⟩,
 ⟨none, .store 11 (.t 4) (.t 11), none, []⟩])
 (.block 1
 (.seq (.region [⟨(some 12), .faddr 6 none (.t 4), none, []⟩,
 ⟨(some 13), .load none (.t 12), none, []⟩,
 ⟨(some 14), .bin .neq (.t 13) (.c (.int .i64 0)), none, []⟩])
 (.cond (.t 14)
 (.region [⟨(some 15), .load none (.t 2), none, []⟩,
 ⟨(some 16), .bin .add (.t 15) (.c (.int .i64 1)), none, []⟩,
 ⟨none, .store 1 (.t 2) (.t 16), none, []⟩])
 .skip)))))))) }
def c98 : AFn := { nparams := 1, ntmps := 23, results := [.tmp 2], body :=
 (.seq (.region [⟨(some 1), .boxL [6, 9] (.t 0), none, []⟩,
 ⟨(some 2), .mv (.c (.int .i64 0)), none, []⟩])
 (.seq (.seq (.region [⟨(some 6), .faddr 6 (some 1) (.t 1), none, []⟩,
 ⟨(some 7), .load none (.t 6), none, []⟩,
 ⟨(some 8), .bin .eql (.t 7) (.c (.int .i64 0)), none, []⟩])
 (.cond (.t 8)
 (.seq (.region [⟨(some 2), .mv (.c (.int .i64 0)), none, []⟩])
 .ret)
 .skip))
 (.seq (.region [⟨(some 3), .mv (.c (.int .i64 0)), none, []⟩])
 (.seq (.seq (.region [⟨(some 9), .faddr 10 (some 1) (.t 1), none, []⟩,
 ⟨(some 10), .load none (.t 9), none, []⟩,
 ⟨(some 11), .len (.t 10), none, []⟩,
 ⟨(some 12), .mv (.c (.int .i64 0)), none, []⟩])
 (.block 0
 (.loop
 (.seq (.region [⟨(some 13), .bin .lss (.t 12) (.t 11), none, []⟩])
 (.seq (.cond (.t 13)
 .skip
 (.exit 0))
 (.seq (.block 1
 (.seq (.region [⟨(some 14), .iaddr 11 (.t 10) (.t 12), none, []⟩,
 ⟨(some 15), .load (some 11) (.t 14), none, []⟩,
 ⟨(some 5), .boxL [] (.c (.agg [(.int .i64 0), (.int .i64 0), (.int .u32 0), (.int .u32 0), (.int .u32 0), (.int .u32 0), (.int .i64 0), (.int .i64 0), (.int .i64 0), (.int .i64 0), (.list 1 [])])), none, []⟩,
 ⟨none, .store 11 (.t 5) (.t 15), none, []⟩])
 (.region [⟨(some 16), .mv (.t 3), none, []⟩,
 ⟨(some 17), .load (some 11) (.t 5), none, []⟩,
 ⟨(some 18), .call 98 [(.t 17)], none, []⟩,
 ⟨(some 19), .mx [(.t 16), (.t 18)], none, []⟩,
 ⟨(some 3), .mv (.t 19), none, []⟩])))
 (.region [⟨(some 20), .bin .add (.t 12) (.c (.int .i64 1)), none, []⟩,
 ⟨(some 12), .mv (.t 20), none, []⟩])))))))
 (.seq (.region [⟨(some 21), .mv (.t 3), none, []⟩,
 ⟨(some 22), .bin .add (.t 21) (.c (.int .i64 1)), none, []⟩,
 ⟨(some 2), .mv (.t 22), none, []⟩])
 .ret))))) }
def c99 : AFn := { nparams := 1, ntmps := 6, results := [.tmp 2], body :=
 (.seq (.region [⟨(some 1), .boxG (.t 0), none, []⟩,
 ⟨(some 2), .mv (.c .nilf), none, []⟩])
 (.seq (.region [⟨(some 3), .boxG (.c .nilf), none, []⟩])
 (.seq (.region [⟨(some 4), .mkfn 147 [] [(.t 3)], none, []⟩,
 ⟨none, .store 1 (.t 3) (.t 4), none, []⟩])
 (.seq (.region [⟨(some 5), .mkfn 148 [] [(.t 3), (.t 1)], none, []⟩,
 ⟨(some 2), .mv (.t 5), none, []⟩])
 .ret)))) }
def c100 : AFn := { nparams := 1, ntmps := 4, results := [.tmp 2], body :=
 (.seq (.region [⟨(some 1), .boxG (.t 0), none, []⟩,
 ⟨(some 2), .mv (.c .nilf), none, []⟩])
 (.seq (.region [⟨(some 3), .mkfn 149 [] [(.t 1)], none, []⟩,
 ⟨(some 2), .mv (.t 3), none, []⟩])
 .ret)) }
def c101 : AFn := { nparams := 2, ntmps := 119, results := [.tmp 4], body :=
 (.seq (.region [⟨(some 2), .boxG (.t 0), none, []⟩,
 ⟨(some 3), .boxL [9, 11, 13, 15, 17, 19, 21, 24, 26, 29, 30, 34, 41, 46, 47, 49, 62] (.t 1), none, []⟩,
 ⟨(some 4), .mv (.c (.bool false)), none, []⟩])
 (.seq (.region [⟨(some 9), .faddr 0 (some 3) (.t 3), none, []⟩,
 ⟨(some 10), .load none (.t 9), none, []⟩,
 ⟨(some 11), .faddr 1 (some 3) (.t 3), none, []⟩,
 ⟨(some 12), .load none (.t 11), none, []⟩,
 ⟨(some 13), .faddr 2 (some 3) (.t 3), none, []⟩,
 ⟨(some 14), .load none (.t 13), none, []⟩,
 ⟨(some 15), .faddr 3 (some 3) (.t 3), none, []⟩,
 ⟨(some 16), .load none (.t 15), none, []⟩,
 ⟨(some 17), .faddr 4 (some 3) (.t 3), none, []⟩,
 ⟨(some 18), .load none (.t 17), none, []⟩,
 ⟨(some 19), .faddr 5 (some 3) (.t 3), none, []⟩,
 ⟨(some 20), .load none (.t 19), none, []⟩,
 ⟨(some 21), .faddr 6 (some 3) (.t 3), none, []⟩,
 ⟨(some 22), .load none (.t 21), none, []⟩,
 ⟨(some 23), .build [(.int .i64 0), (.int .i64 0), (.int .i64 0), (.int .i64 0), (.int .i64 0), (.int .u32 0), (.int .u32 0), (.int .i64 0), (.int .i64 0), (.int .i64 0), (.int .i64 0), (.list 1 []), (.list 1 [])] [(0, 1, (.t 10)), (1, 1, (.t 12)), (2, 1, (.t 14)), (3, 1, (.t 16)), (4, 1, (.t 18)), (5, 1, (.t 20)), (6, 1, (.t 22))], none, []⟩,
 ⟨(some 5), .boxL [61, 80] (.c (.agg [(.int .i64 0), (.int .i64 0), (.int .i64 0), (.int .i64 0), (.int .i64 0), (.int .u32 0), (.int .u32 0), (.int .i64 0), (.int .i64 0), (.int .i64 0), (.int .i64 0), (.list 1 []), (.list 1 [])])), none, []⟩,
 ⟨none, .store 13 (.t 5) (.t 23), none, []⟩])
 (.seq (.region [⟨(some 24), .faddr 18 (some 3) (.t 3), none, []⟩,
 ⟨(some 25), .load none (.t 24), none, []⟩,
 ⟨(some 6), .mv (.t 25), none, []⟩])
 (.seq (.seq (.region [⟨(some 26), .faddr 0 (some 3) (.t 3), none, []⟩,
 ⟨(some 27), .load none (.t 26), none, []⟩,
 ⟨(some 28), .bin .eql (.t 27) (.c (.int .i64 2)), none, []⟩])
 (.cond (.t 28)
 (.seq (.seq (.region [⟨(some 29), .faddr 7 (some 3) (.t 3), none, []⟩,
 ⟨(some 30), .faddr 6 (some 3) (.t 29), none, []⟩,
 ⟨(some 31), .load none (.t 30), none, []⟩,
 ⟨(some 32), .bin .eql (.t 31) (.c (.int .i64 0)), none, []⟩,
 ⟨(some 33), .mv (.t 32), none, []⟩,
 ⟨(some 34), .faddr 18 (some 3) (.t 3), (some (33, false)), []⟩,
 ⟨(some 35), .load none (.t 34), (some (33, false)), []⟩,
 ⟨(some 36), .len (.t 35), (some (33, false)), []⟩,
 ⟨(some 37), .bin .gtr (.t 36) (.c (.int .i64 0)), (some (33, false)), []⟩,
 ⟨(some 38), .pick (.t 33) (.c (.bool true)) (.t 37), none, []⟩,
 ⟨(some 39), .mv (.t 38), none, []⟩,
 ⟨(some 40), .load none (.t 2), (some (39, false)), []⟩,
 ⟨(some 41), .faddr 7 (some 3) (.t 3), (some (39, false)), []⟩,
 ⟨(some 42), .load (some 11) (.t 41), (some (39, false)), []⟩,
 ⟨(some 43), .call 102 [(.t 40), (.t 42), (.c (.bool true))], (some (39, false)), []⟩,
 ⟨(some 44), .un .not (.t 43), (some (39, false)), []⟩,
 ⟨(some 45), .pick (.t 39) (.c (.bool true)) (.t 44), none, []⟩])
 (.cond (.t 45)
 (.seq (.region [⟨(some 4), .mv (.c (.bool false)), none, []⟩])
 .ret)
 .skip))
 (.seq (.region [⟨(some 46), .faddr 7 (some 3) (.t 3), none, []⟩,
 ⟨(some 47), .faddr 10 (some 3) (.t 46), none, []⟩,
 ⟨(some 48), .load none (.t 47), none, []⟩,
 ⟨(some 6), .mv (.t 48), none, []⟩])
 (.region [⟨(some 49), .faddr 7 (some 3) (.t 3), none, []⟩,
 ⟨(some 50), .load (some 11) (.t 49), none, []⟩,
 ⟨(some 51), .load none (.t 2), none, []⟩,
 ⟨(some 52), .nilc none (.t 51), none, []⟩,
 ⟨(some 53), .faddr 0 none (.t 52), none, []⟩,
 ⟨(some 54), .faddr 0 none (.t 53), none, []⟩,
 ⟨(some 55), .load none (.t 54), none, []⟩,
 ⟨(some 56), .len (.t 55), none, []⟩,
 ⟨(some 57), .mv (.t 6), none, []⟩,
 ⟨(some 58), .len (.t 57), none, []⟩,
 ⟨(some 59), .call 150 [(.t 56), (.t 58)], none, [⟨(some 11), (.t 49), 50, none⟩]⟩,
 ⟨(some 60), .call 131 [(.t 50), (.t 59)], none, []⟩,
 ⟨(some 61), .faddr 7 (some 5) (.t 5), none, []⟩,
 ⟨none, .store 5 (.t 61) (.t 60), none, []⟩])))
 (.seq (.seq (.region [⟨(some 62), .faddr 7 (some 3) (.t 3), none, []⟩,
 ⟨(some 63), .load (some 11) (.t 62), none, []⟩,
 ⟨(some 64), .call 151 [(.t 63)], none, []⟩,
 ⟨(some 65), .un .not (.t 64), none, []⟩,
 ⟨(some 66), .mv (.t 65), none, []⟩,
 ⟨(some 67), .mv (.t 6), (some (66, false)), []⟩,
 ⟨(some 68), .mkfn 153 [] [(.t 2)], (some (66, false)), []⟩,
 ⟨(some 69), .call 152 [(.t 67), (.t 68)], (some (66, false)), []⟩,
 ⟨(some 70), .pick (.t 66) (.c (.bool true)) (.t 69), none, []⟩])
 (.cond (.t 70)
 (.seq (.region [⟨(some 4), .mv (.c (.bool false)), none, []⟩])
 .ret)
 .skip))
 (.region [⟨(some 71), .load none (.t 2), none, []⟩,
 ⟨(some 72), .nilc none (.t 71), none, []⟩,
 ⟨(some 73), .faddr 0 none (.t 72), none, []⟩,
 ⟨(some 74), .faddr 0 none (.t 73), none, []⟩,
 ⟨(some 75), .load none (.t 74), none, []⟩,
 ⟨(some 76), .len (.t 75), none, []⟩,
 ⟨(some 77), .mv (.t 6), none, []⟩,
 ⟨(some 78), .len (.t 77), none, []⟩,
 ⟨(some 79), .call 150 [(.t 76), (.t 78)], none, []⟩,
 ⟨(some 80), .faddr 12 (some 5) (.t 5), none, []⟩,
 ⟨none, .store 1 (.t 80) (.t 79), none, []⟩]))))
 (.seq (.region [⟨(some 81), .load none (.t 2), none, []⟩,
 ⟨(some 82), .nilc none (.t 81), none, []⟩,
 ⟨(some 83), .faddr 0 none (.t 82), none, []⟩,
 ⟨(some 84), .faddr 0 none (.t 83), none, []⟩,
 ⟨(some 85), .load none (.t 84), none, []⟩,
 ⟨(some 86), .call 69 [(.t 85)], none, []⟩,
 ⟨(some 87), .mv (.t 6), none, []⟩,
 ⟨(some 88), .mkfn 154 [] [(.t 2)], none, []⟩,
 ⟨(some 89), .call 91 [(.t 87), (.t 88)], none, []⟩,
 ⟨(some 90), .append 1 8 false (.t 86) (.t 89), none, []⟩,
 ⟨(some 7), .mv (.t 90), none, []⟩])
 (.seq (.seq (.region [⟨(some 91), .load (some 13) (.t 5), none, []⟩,
 ⟨(some 92), .call 118 [(.t 91)], none, []⟩,
 ⟨(some 8), .boxG (.c (.int .i64 0)), none, []⟩,
 ⟨none, .store 1 (.t 8) (.t 92), none, []⟩])
 (.seq (.region [⟨(some 93), .load none (.t 8), none, []⟩,
 ⟨(some 94), .load none (.t 2), none, []⟩,
 ⟨(some 95), .nilc none (.t 94), none, []⟩,
 ⟨(some 96), .faddr 0 none (.t 95), none, []⟩,
 ⟨(some 97), .faddr 0 none (.t 96), none, []⟩,
 ⟨(some 98), .load none (.t 97), none, []⟩,
 ⟨(some 99), .len (.t 98), none, []⟩,
 ⟨(some 100), .bin .geq (.t 93) (.t 99), none, []⟩,
 ⟨(some 101), .mv (.t 100), none, []⟩,
 ⟨(some 102), .load none (.t 8), (some (101, false)), []⟩,
 ⟨(some 103), .bin .geq (.t 102) (.c (.int .i64 0)), (some (101, false)), []⟩,
 ⟨(some 104), .mv (.t 103), (some (101, false)), []⟩,
 ⟨(some 105), .load none (.t 2), (some (104, true)), []⟩,
 ⟨(some 106), .nilc none (.t 105), (some (104, true)), []⟩,
 ⟨(some 107), .faddr 15 none (.t 106), (some (104, true)), []⟩,
 ⟨(some 108), .load none (.t 107), (some (104, true)), []⟩,
 ⟨(some 109), .load none (.t 8), (some (104, true)), []⟩,
 ⟨(some 110), .look .i64 (.bool false) false (.t 108) (.t 109), (some (104, true)), []⟩,
 ⟨(some 111), .pick (.t 104) (.t 110) (.c (.bool false)), (some (101, false)), []⟩,
 ⟨(some 112), .pick (.t 101) (.c (.bool true)) (.t 111), none, []⟩])
 (.cond (.t 112)
 (.seq (.region [⟨(some 4), .mv (.c (.bool false)), none, []⟩])
 .ret)
 (.seq (.region [⟨(some 113), .load none (.t 8), none, []⟩,
 ⟨(some 114), .bin .geq (.t 113) (.c (.int .i64 0)), none, []⟩])
 (.cond (.t 114)
 (.region [⟨(some 115), .mkfn 155 [] [(.t 2), (.t 8)], none, []⟩,
 ⟨none, .defr (.t 115) [], none, []⟩])
 .skip)))))
 (.seq (.region [⟨(some 116), .mv (.t 7), none, []⟩,
 ⟨(some 117), .load (some 13) (.t 5), none, []⟩,
 ⟨(some 118), .call 115 [(.t 116), (.t 117)], none, []⟩,
 ⟨(some 4), .mv (.t 118), none, []⟩])
 .ret))))))) }
def c102 : AFn := { nparams := 3, ntmps := 53, results := [.cell 6 none], body :=
 (.seq (.region [⟨(some 3), .boxG (.t 0), none, []⟩,
 ⟨(some 4), .boxG (.t 1), none, []⟩,
 ⟨(some 6), .boxG (.c (.bool false)), none, []⟩])
 (.seq (.seq (.region [⟨(some 8), .load (some 11) (.t 4), none, []⟩,
 ⟨(some 9), .call 99 [(.t 8)], none, []⟩])
 (.block 0
 (.rangeFunc (.t 9) [10]
 (.region [⟨(some 7), .boxG (.c (.agg [(.int .i64 0), (.int .i64 0), (.int .u32 0), (.int .u32 0), (.int .u32 0), (.int .u32 0), (.int .i64 0), (.int .i64 0), (.int .i64 0), (.int .i64 0), (.list 1 [])])), none, []⟩,
 ⟨none, .store 11 (.t 7) (.t 10), none, []⟩])
 (.block 1
 (.seq (.region [⟨(some 11), .load none (.t 3), none, []⟩,
 ⟨(some 12), .nilc none (.t 11), none, []⟩,
 ⟨(some 13), .faddr 16 none (.t 12), none, []⟩,
 ⟨(some 14), .load none (.t 13), none, []⟩,
 ⟨(some 15), .bin .sub (.t 14) (.c (.int .i64 1)), none, []⟩,
 ⟨(some 16), .nilc none (.t 11), none, []⟩,
 ⟨(some 17), .faddr 16 none (.t 16), none, []⟩,
 ⟨none, .store 1 (.t 17) (.t 15), none, []⟩])
 (.seq (.region [⟨(some 18), .load none (.t 3), none, []⟩,
 ⟨(some 19), .nilc none (.t 18), none, []⟩,
 ⟨(some 20), .faddr 16 none (.t 19), none, []⟩,
 ⟨(some 21), .load none (.t 20), none, []⟩,
 ⟨(some 22), .bin .lss (.t 21) (.c (.int .i64 0)), none, []⟩,
 ⟨(some 23), .mv (.t 22), none, []⟩,
 ⟨(some 24), .faddr 6 none (.t 7), (some (23, false)), []⟩,
 ⟨(some 25), .load none (.t 24), (some (23, false)), []⟩,
 ⟨(some 26), .bin .eql (.t 25) (.c (.int .i64 0)), (some (23, false)), []⟩,
 ⟨(some 27), .mv (.t 26), (some (23, false)), []⟩,
 ⟨(some 28), .faddr 0 none (.t 7), (some (27, true)), []⟩,
 ⟨(some 29), .faddr 0 none (.t 28), (some (27, true)), []⟩,
 ⟨(some 30), .load none (.t 29), (some (27, true)), []⟩,
 ⟨(some 31), .bin .geq (.t 30) (.c (.int .i64 0)), (some (27, true)), []⟩,
 ⟨(some 32), .pick (.t 27) (.t 31) (.c (.bool false)), (some (23, false)), []⟩,
 ⟨(some 33), .mv (.t 32), (some (23, false)), []⟩,
 ⟨(some 34), .load none (.t 3), (some (33, true)), []⟩,
 ⟨(some 35), .nilc none (.t 34), (some (33, true)), []⟩,
 ⟨(some 36), .faddr 15 none (.t 35), (some (33, true)), []⟩,
 ⟨(some 37), .load none (.t 36), (some (33, true)), []⟩,
 ⟨(some 38), .faddr 0 none (.t 7), (some (33, true)), []⟩,
 ⟨(some 39), .faddr 0 none (.t 38), (some (33, true)), []⟩,
 ⟨(some 40), .load none (.t 39), (some (33, true)), []⟩,
 ⟨(some 41), .look .i64 (.bool false) false (.t 37) (.t 40), (some (33, true)), []⟩,
 ⟨(some 42), .un .not (.t 41), (some (33, true)), []⟩,
 ⟨(some 43), .pick (.t 33) (.t 42) (.c (.bool false)), (some (23, false)), []⟩,
 ⟨(some 44), .pick (.t 23) (.c (.bool true)) (.t 43), none, []⟩])
 (.cond (.t 44)
 (.seq (.region [⟨none, .store 1 (.t 6) (.c (.bool false)), none, []⟩])
 .ret)
 .skip)))))))
 (.seq (.region [⟨(some 45), .load none (.t 3), none, []⟩,
 ⟨(some 46), .nilc none (.t 45), none, []⟩,
 ⟨(some 47), .faddr 0 none (.t 46), none, []⟩,
 ⟨(some 48), .faddr 0 none (.t 47), none, []⟩,
 ⟨(some 49), .load none (.t 48), none, []⟩,
 ⟨(some 50), .load (some 11) (.t 4), none, []⟩,
 ⟨(some 51), .mv (.t 2), none, []⟩,
 ⟨(some 52), .call 156 [(.t 49), (.t 50), (.t 51)], none, []⟩,
 ⟨none, .store 1 (.t 6) (.t 52), none, []⟩])
 .ret))) }
def c103 : AFn := { nparams := 2, ntmps := 24, results := [.tmp 4], body :=
 (.seq (.region [⟨(some 2), .boxG (.t 0), none, []⟩,
 ⟨(some 3), .boxL [6, 10, 13] (.t 1), none, []⟩,
 ⟨(some 4), .mv (.c (.int .i64 0)), none, []⟩])
 (.seq (.seq (.region [⟨(some 6), .faddr 6 (some 3) (.t 3), none, []⟩,
 ⟨(some 7), .load none (.t 6), none, []⟩,
 ⟨(some 8), .bin .eql (.t 7) (.c (.int .i64 0)), none, []⟩])
 (.cond (.t 8)
 (.seq (.region [⟨(some 9), .load none (.t 2), none, []⟩,
 ⟨(some 10), .faddr 0 (some 3) (.t 3), none, []⟩,
 ⟨(some 11), .load (some 6) (.t 10), none, []⟩,
 ⟨(some 12), .call 119 [(.t 9), (.t 11)], none, []⟩,
 ⟨(some 4), .mv (.t 12), none, []⟩])
 .ret)
 .skip))
 (.seq (.region [⟨(some 13), .faddr 10 (some 3) (.t 3), none, []⟩,
 ⟨(some 14), .load none (.t 13), none, []⟩,
 ⟨(some 15), .mkfn 157 [] [(.t 2)], none, []⟩,
 ⟨(some 16), .call 91 [(.t 14), (.t 15)], none, []⟩,
 ⟨(some 5), .mv (.t 16), none, []⟩])
 (.seq (.region [⟨(some 17), .mv (.t 5), none, []⟩,
 ⟨(some 18), .load (some 11) (.t 3), none, []⟩,
 ⟨(some 19), .mv (.t 5), none, []⟩,
 ⟨(some 20), .len (.t 19), none, []⟩,
 ⟨(some 21), .call 150 [(.c (.int .i64 0)), (.t 20)], none, [⟨(some 11), (.t 3), 18, none⟩]⟩,
 ⟨(some 22), .call 131 [(.t 18), (.t 21)], none, []⟩,
 ⟨(some 23), .call 158 [(.t 17), (.t 22)], none, []⟩,
 ⟨(some 4), .mv (.t 23), none, []⟩])
 .ret)))) }
def c104 : AFn := { nparams := 2, ntmps := 26, results := [.tmp 4], body :=
 (.seq (.region [⟨(some 4), .mv (.c (.bool false)), none, []⟩])
 (.seq (.seq (.region [⟨(some 6), .mv (.t 0), none, []⟩,
 ⟨(some 7), .len (.t 6), none, []⟩,
 ⟨(some 8), .mv (.t 1), none, []⟩,
 ⟨(some 9), .len (.t 8), none, []⟩,
 ⟨(some 10), .bin .neq (.t 7) (.t 9), none, []⟩])
 (.cond (.t 10)
 (.seq (.region [⟨(some 4), .mv (.c (.bool false)), none, []⟩])
 .ret)
 .skip))
 (.seq (.seq (.region [⟨(some 11), .mv (.t 0), none, []⟩,
 ⟨(some 12), .len (.t 11), none, []⟩,
 ⟨(some 13), .mv (.c (.int .i64 0)), none, []⟩])
 (.block 0
 (.loop
 (.seq (.region [⟨(some 14), .bin .lss (.t 13) (.t 12), none, []⟩])
 (.seq (.cond (.t 14)
 .skip
 (.exit 0))
 (.seq (.block 1
 (.seq (.region [⟨(some 15), .mv (.t 13), none, []⟩,
 ⟨(some 5), .mv (.t 15), none, []⟩])
 (.seq (.region [⟨(some 16), .mv (.t 0), none, []⟩,
 ⟨(some 17), .mv (.t 5), none, []⟩,
 ⟨(some 18), .iaddr 1 (.t 16) (.t 17), none, []⟩,
 ⟨(some 19), .load none (.t 18), none, []⟩,
 ⟨(some 20), .mv (.t 1), none, []⟩,
 ⟨(some 21), .mv (.t 5), none, []⟩,
 ⟨(some 22), .iaddr 1 (.t 20) (.t 21), none, []⟩,
 ⟨(some 23), .load none (.t 22), none, []⟩,
 ⟨(some 24), .bin .neq (.t 19) (.t 23), none, []⟩])
 (.cond (.t 24)
 (.seq (.region [⟨(some 4), .mv (.c (.bool false)), none, []⟩])
 .ret)
 .skip))))
 (.region [⟨(some 25), .bin .add (.t 13) (.c (.int .i64 1)), none, []⟩,
 ⟨(some 13), .mv (.t 25), none, []⟩])))))))
 (.seq (.region [⟨(some 4), .mv (.c (.bool true)), none, []⟩])
 .ret)))) }
def c105 : AFn := { nparams := 3, ntmps := 32, results := [.tmp 6], body :=
 (.seq (.region [⟨(some 6), .mv (.c (.bool false)), none, []⟩])
 (.seq (.seq (.region [⟨(some 10), .mv (.t 0), none, []⟩,
 ⟨(some 11), .len (.t 10), none, []⟩,
 ⟨(some 12), .mv (.t 1), none, []⟩,
 ⟨(some 13), .len (.t 12), none, []⟩,
 ⟨(some 14), .bin .neq (.t 11) (.t 13), none, []⟩])
 (.cond (.t 14)
 (.seq (.region [⟨(some 6), .mv (.c (.bool false)), none, []⟩])
 .ret)
 .skip))
 (.seq (.seq (.region [⟨(some 15), .mv (.t 0), none, []⟩,
 ⟨(some 16), .len (.t 15), none, []⟩,
 ⟨(some 17), .mv (.c (.int .i64 0)), none, []⟩])
 (.block 0
 (.loop
 (.seq (.region [⟨(some 18), .bin .lss (.t 17) (.t 16), none, []⟩])
 (.seq (.cond (.t 18)
 .skip
 (.exit 0))
 (.seq (.block 1
 (.seq (.region [⟨(some 19), .mv (.t 17), none, []⟩,
 ⟨(some 20), .iaddr 19 (.t 15) (.t 17), none, []⟩,
 ⟨(some 21), .load (some 19) (.t 20), none, []⟩,
 ⟨(some 8), .boxL [] (.c (.agg [(.int .i64 0), (.int .i64 0), (.int .i64 0), (.int .i64 0), (.int .i64 0), (.int .u32 0), (.int .u32 0), (.int .i64 0), (.int .i64 0), (.int .u32 0), (.int .u32 0), (.int .u32 0), (.int .u32 0), (.int .i64 0), (.int .i64 0), (.int .i64 0), (.int .i64 0), (.list 1 []), (.list 1 [])])), none, []⟩,
 ⟨(some 7), .mv (.t 19), none, []⟩,
 ⟨none, .store 19 (.t 8) (.t 21), none, []⟩])
 (.seq (.region [⟨(some 22), .mv (.t 1), none, []⟩,
 ⟨(some 23), .mv (.t 7), none, []⟩,
 ⟨(some 24), .iaddr 19 (.t 22) (.t 23), none, []⟩,
 ⟨(some 25), .load (some 19) (.t 24), none, []⟩,
 ⟨(some 9), .boxL [] (.c (.agg [(.int .i64 0), (.int .i64 0), (.int .i64 0), (.int .i64 0), (.int .i64 0), (.int .u32 0), (.int .u32 0), (.int .i64 0), (.int .i64 0), (.int .u32 0), (.int .u32 0), (.int .u32 0), (.int .u32 0), (.int .i64 0), (.int .i64 0), (.int .i64 0), (.int .i64 0), (.list 1 []), (.list 1 [])])), none, []⟩,
 ⟨none, .store 19 (.t 9) (.t 25), none, []⟩])
 (.seq (.region [⟨(some 26), .mv (.t 2), none, []⟩,
 ⟨(some 27), .load (some 19) (.t 8), none, []⟩,
 ⟨(some 28), .load (some 19) (.t 9), none, []⟩,
 ⟨(some 29), .callv (.t 26) [(.t 27), (.t 28)], none, []⟩,
 ⟨(some 30), .un .not (.t 29), none, []⟩])
 (.cond (.t 30)
 (.seq (.region [⟨(some 6), .mv (.c (.bool false)), none, []⟩])
 .ret)
 .skip)))))
 (.region [⟨(some 31), .bin .add (.t 17) (.c (.int .i64 1)), none, []⟩,
 ⟨(some 17), .mv (.t 31), none, []⟩])))))))
 (.seq (.region [⟨(some 6), .mv (.c (.bool true)), none, []⟩])
 .ret)))) }
def c106 : AFn := { nparams := 2, ntmps := 66, results := [.tmp 4], body :=
 (.seq (.region [⟨(some 2), .boxL [5, 11, 18, 25, 32, 39, 46, 53, 60] (.t 0), none, []⟩,
 ⟨(some 3), .boxL [7, 13, 20, 27, 34, 41, 48, 55, 62] (.t 1), none, []⟩,
 ⟨(some 4), .mv (.c (.bool false)), none, []⟩])
 (.seq (.region [⟨(some 5), .faddr 0 (some 2) (.t 2), none, []⟩,
 ⟨(some 6), .load none (.t 5), none, []⟩,
 ⟨(some 7), .faddr 0 (some 3) (.t 3), none, []⟩,
 ⟨(some 8), .load none (.t 7), none, []⟩,
 ⟨(some 9), .bin .eql (.t 6) (.t 8), none, []⟩,
 ⟨(some 10), .mv (.t 9), none, []⟩,
 ⟨(some 11), .faddr 1 (some 2) (.t 2), (some (10, true)), []⟩,
 ⟨(some 12), .load none (.t 11), (some (10, true)), []⟩,
 ⟨(some 13), .faddr 1 (some 3) (.t 3), (some (10, true)), []⟩,
 ⟨(some 14), .load none (.t 13), (some (10, true)), []⟩,
 ⟨(some 15), .bin .eql (.t 12) (.t 14), (some (10, true)), []⟩,
 ⟨(some 16), .pick (.t 10) (.t 15) (.c (.bool false)), none, []⟩,
 ⟨(some 17), .mv (.t 16), none, []⟩,
 ⟨(some 18), .faddr 2 (some 2) (.t 2), (some (17, true)), []⟩,
 ⟨(some 19), .load none (.t 18), (some (17, true)), []⟩,
 ⟨(some 20), .faddr 2 (some 3) (.t 3), (some (17, true)), []⟩,
 ⟨(some 21), .load none (.t 20), (some (17, true)), []⟩,
 ⟨(some 22), .bin .eql (.t 19) (.t 21), (some (17, true)), []⟩,
 ⟨(some 23), .pick (.t 17) (.t 22) (.c (.bool false)), none, []⟩,
 ⟨(some 24), .mv (.t 23), none, []⟩,
 ⟨(some 25), .faddr 3 (some 2) (.t 2), (some (24, true)), []⟩,
 ⟨(some 26), .load none (.t 25), (some (24, true)), []⟩,
 ⟨(some 27), .faddr 3 (some 3) (.t 3), (some (24, true)), []⟩,
 ⟨(some 28), .load none (.t 27), (some (24, true)), []⟩,
 ⟨(some 29), .bin .eql (.t 26) (.t 28), (some (24, true)), []⟩,
 ⟨(some 30), .pick (.t 24) (.t 29) (.c (.bool false)), none, []⟩,
 ⟨(some 31), .mv (.t 30), none, []⟩,
 ⟨(some 32), .faddr 4 (some 2) (.t 2), (some (31, true)), []⟩,
 ⟨(some 33), .load none (.t 32), (some (31, true)), []⟩,
 ⟨(some 34), .faddr 4 (some 3) (.t 3), (some (31, true)), []⟩,
 ⟨(some 35), .load none (.t 34), (some (31, true)), []⟩,
 ⟨(some 36), .bin .eql (.t 33) (.t 35), (some (31, true)), []⟩,
 ⟨(some 37), .pick (.t 31) (.t 36) (.c (.bool false)), none, []⟩,
 ⟨(some 38), .mv (.t 37), none, []⟩,
 ⟨(some 39), .faddr 5 (some 2) (.t 2), (some (38, true)), []⟩,
 ⟨(some 40), .load none (.t 39), (some (38, true)), []⟩,
 ⟨(some 41), .faddr 5 (some 3) (.t 3), (some (38, true)), []⟩,
 ⟨(some 42), .load none (.t 41), (some (38, true)), []⟩,
 ⟨(some 43), .bin .eql (.t 40) (.t 42), (some (38, true)), []⟩,
 ⟨(some 44), .pick (.t 38) (.t 43) (.c (.bool false)), none, []⟩,
 ⟨(some 45), .mv (.t 44), none, []⟩,
 ⟨(some 46), .faddr 6 (some 2) (.t 2), (some (45, true)), []⟩,
 ⟨(some 47), .load none (.t 46), (some (45, true)), []⟩,
 ⟨(some 48), .faddr 6 (some 3) (.t 3), (some (45, true)), []⟩,
 ⟨(some 49), .load none (.t 48), (some (45, true)), []⟩,
 ⟨(some 50), .bin .eql (.t 47) (.t 49), (some (45, true)), []⟩,
 ⟨(some 51), .pick (.t 45) (.t 50) (.c (.bool false)), none, []⟩,
 ⟨(some 52), .mv (.t 51), none, []⟩,
 ⟨(some 53), .faddr 7 (some 2) (.t 2), (some (52, true)), []⟩,
 ⟨(some 54), .load (some 11) (.t 53), (some (52, true)), []⟩,
 ⟨(some 55), .faddr 7 (some 3) (.t 3), (some (52, true)), []⟩,
 ⟨(some 56), .load (some 11) (.t 55), (some (52, true)), []⟩,
 ⟨(some 57), .call 107 [(.t 54), (.t 56)], (some (52, true)), []⟩,
 ⟨(some 58), .pick (.t 52) (.t 57) (.c (.bool false)), none, []⟩,
 ⟨(some 59), .mv (.t 58), none, []⟩,
 ⟨(some 60), .faddr 18 (some 2) (.t 2), (some (59, true)), []⟩,
 ⟨(some 61), .load none (.t 60), (some (59, true)), []⟩,
 ⟨(some 62), .faddr 18 (some 3) (.t 3), (some (59, true)), []⟩,
 ⟨(some 63), .load none (.t 62), (some (59, true)), []⟩,
 ⟨(some 64), .call 159 [(.t 61), (.t 63), (.c (.fn 107 [] []))], (some (59, true)), []⟩,
 ⟨(some 65), .pick (.t 59) (.t 64) (.c (.bool false)), none, []⟩,
 ⟨(some 4), .mv (.t 65), none, []⟩])
 .ret)) }
def c107 : AFn := { nparams := 2, ntmps := 45, results := [.tmp 4], body :=
 (.seq (.region [⟨(some 2), .boxL [5, 11, 18, 25, 32, 39] (.t 0), none, []⟩,
 ⟨(some 3), .boxL [7, 13, 20, 27, 34, 41] (.t 1), none, []⟩,
 ⟨(some 4), .mv (.c (.bool false)), none, []⟩])
 (.seq (.region [⟨(some 5), .faddr 0 (some 2) (.t 2), none, []⟩,
 ⟨(some 6), .load (some 6) (.t 5), none, []⟩,
 ⟨(some 7), .faddr 0 (some 3) (.t 3), none, []⟩,
 ⟨(some 8), .load (some 6) (.t 7), none, []⟩,
 ⟨(some 9), .eqA [true, true, true, true, true, true] false (.t 6) (.t 8), none, []⟩,
 ⟨(some 10), .mv (.t 9), none, []⟩,
 ⟨(some 11), .faddr 6 (some 2) (.t 2), (some (10, true)), []⟩,
 ⟨(some 12), .load none (.t 11), (some (10, true)), []⟩,
 ⟨(some 13), .faddr 6 (some 3) (.t 3), (some (10, true)), []⟩,
 ⟨(some 14), .load none (.t 13), (some (10, true)), []⟩,
 ⟨(some 15), .bin .eql (.t 12) (.t 14), (some (10, true)), []⟩,
 ⟨(some 16), .pick (.t 10) (.t 15) (.c (.bool false)), none, []⟩,
 ⟨(some 17), .mv (.t 16), none, []⟩,
 ⟨(some 18), .faddr 7 (some 2) (.t 2), (some (17, true)), []⟩,
 ⟨(some 19), .load none (.t 18), (some (17, true)), []⟩,
 ⟨(some 20), .faddr 7 (some 3) (.t 3), (some (17, true)), []⟩,
 ⟨(some 21), .load none (.t 20), (some (17, true)), []⟩,
 ⟨(some 22), .bin .eql (.t 19) (.t 21), (some (17, true)), []⟩,
 ⟨(some 23), .pick (.t 17) (.t 22) (.c (.bool false)), none, []⟩,
 ⟨(some 24), .mv (.t 23), none, []⟩,
 ⟨(some 25), .faddr 8 (some 2) (.t 2), (some (24, true)), []⟩,
 ⟨(some 26), .load none (.t 25), (some (24, true)), []⟩,
 ⟨(some 27), .faddr 8 (some 3) (.t 3), (some (24, true)), []⟩,
 ⟨(some 28), .load none (.t 27), (some (24, true)), []⟩,
 ⟨(some 29), .bin .eql (.t 26) (.t 28), (some (24, true)), []⟩,
 ⟨(some 30), .pick (.t 24) (.t 29) (.c (.bool false)), none, []⟩,
 ⟨(some 31), .mv (.t 30), none, []⟩,
 ⟨(some 32), .faddr 9 (some 2) (.t 2), (some (31, true)), []⟩,
 ⟨(some 33), .load none (.t 32), (some (31, true)), []⟩,
 ⟨(some 34), .faddr 9 (some 3) (.t 3), (some (31, true)), []⟩,
 ⟨(some 35), .load none (.t 34), (some (31, true)), []⟩,
 ⟨(some 36), .bin .eql (.t 33) (.t 35), (some (31, true)), []⟩,
 ⟨(some 37), .pick (.t 31) (.t 36) (.c (.bool false)), none, []⟩,
 ⟨(some 38), .mv (.t 37), none, []⟩,
 ⟨(some 39), .faddr 10 (some 2) (.t 2), (some (38, true)), []⟩,
 ⟨(some 40), .load none (.t 39), (some (38, true)), []⟩,
 ⟨(some 41), .faddr 10 (some 3) (.t 3), (some (38, true)), []⟩,
 ⟨(some 42), .load none (.t 41), (some (38, true)), []⟩,
 ⟨(some 43), .call 159 [(.t 40), (.t 42), (.c (.fn 107 [] []))], (some (38, true)), []⟩,
 ⟨(some 44), .pick (.t 38) (.t 43) (.c (.bool false)), none, []⟩,
 ⟨(some 4), .mv (.t 44), none, []⟩])
 .ret)) }
def c108 : AFn := { nparams := 2, ntmps := 26, results := [.tmp 4], body :=
 (.seq (.region [⟨(some 4), .mv (.c (.bool false)), none, []⟩])
 (.seq (.seq (.region [⟨(some 6), .mv (.t 0), none, []⟩,
 ⟨(some 7), .len (.t 6), none, []⟩,
 ⟨(some 8), .mv (.t 1), none, []⟩,
 ⟨(some 9), .len (.t 8), none, []⟩,
 ⟨(some 10), .bin .neq (.t 7) (.t 9), none, []⟩])
 (.cond (.t 10)
 (.seq (.region [⟨(some 4), .mv (.c (.bool false)), none, []⟩])
 .ret)
 .skip))
 (.seq (.seq (.region [⟨(some 11), .mv (.t 0), none, []⟩,
 ⟨(some 12), .len (.t 11), none, []⟩,
 ⟨(some 13), .mv (.c (.int .i64 0)), none, []⟩])
 (.block 0
 (.loop
 (.seq (.region [⟨(some 14), .bin .lss (.t 13) (.t 12), none, []⟩])
 (.seq (.cond (.t 14)
 .skip
 (.exit 0))
 (.seq (.block 1
 (.seq (.region [⟨(some 15), .mv (.t 13), none, []⟩,
 ⟨(some 5), .mv (.t 15), none, []⟩])
 (.seq (.region [⟨(some 16), .mv (.t 0), none, []⟩,
 ⟨(some 17), .mv (.t 5), none, []⟩,
 ⟨(some 18), .iaddr 2 (.t 16) (.t 17), none, []⟩,
 ⟨(some 19), .load (some 2) (.t 18), none, []⟩,
 ⟨(some 20), .mv (.t 1), none, []⟩,
 ⟨(some 21), .mv (.t 5), none, []⟩,
 ⟨(some 22), .iaddr 2 (.t 20) (.t 21), none, []⟩,
 ⟨(some 23), .load (some 2) (.t 22), none, []⟩,
 ⟨(some 24), .eqA [true, true] true (.t 19) (.t 23), none, []⟩])
 (.cond (.t 24)
 (.seq (.region [⟨(some 4), .mv (.c (.bool false)), none, []⟩])
 .ret)
 .skip))))
 (.region [⟨(some 25), .bin .add (.t 13) (.c (.int .i64 1)), none, []⟩,
 ⟨(some 13), .mv (.t 25), none, []⟩])))))))
 (.seq (.region [⟨(some 4), .mv (.c (.bool true)), none, []⟩])
 .ret)))) }
def c109 : AFn := { nparams := 2, ntmps := 9, results := [.tmp 4], body :=
 (.seq (.region [⟨(some 4), .mv (.c (.bool false)), none, []⟩])
 (.seq (.region [⟨(some 5), .mv (.t 0), none, []⟩,
 ⟨(some 6), .mv (.t 1), none, []⟩,
 ⟨(some 7), .call 160 [(.t 5), (.t 6)], none, []⟩,
 ⟨(some 8), .bin .geq (.t 7) (.c (.int .i64 0)), none, []⟩,
 ⟨(some 4), .mv (.t 8), none, []⟩])
 .ret)) }
def c110 : AFn := { nparams := 1, ntmps := 6, results := [.tmp 2], body :=
 (.seq (.region [⟨(some 2), .mv (.c (.bool false)), none, []⟩])
 (.seq (.region [⟨(some 3), .mv (.t 0), none, []⟩,
 ⟨(some 4), .call 111 [(.t 3)], none, []⟩,
 ⟨(some 5), .bin .eql (.t 4) (.c (.int .i64 0)), none, []⟩,
 ⟨(some 2), .mv (.t 5), none, []⟩])
 .ret)) }
def c111 : AFn := { nparams := 1, ntmps := 13, results := [.tmp 2], body :=
 (.seq (.region [⟨(some 2), .mv (.c (.int .i64 0)), none, []⟩])
 (.seq (.seq (.region [⟨(some 3), .mv (.t 0), none, []⟩])
 (.block 0
 (.seq (.seq (.region [⟨(some 5), .bin .eql (.t 3) (.c (.int .i64 1)), none, []⟩,
 ⟨(some 4), .mv (.t 5), none, []⟩])
 (.cond (.t 4)
 .skip
 (.region [⟨(some 6), .bin .eql (.t 3) (.c (.int .i64 8)), none, []⟩,
 ⟨(some 4), .mv (.t 6), none, []⟩])))
 (.cond (.t 4)
 (.seq (.region [⟨(some 2), .mv (.c (.int .i64 1)), none, []⟩])
 .ret)
 (.seq (.region [⟨(some 8), .bin .eql (.t 3) (.c (.int .i64 16)), none, []⟩,
 ⟨(some 7), .mv (.t 8), none, []⟩])
 (.cond (.t 7)
 (.seq (.region [⟨(some 2), .mv (.c (.int .i64 2)), none, []⟩])
 .ret)
 (.seq (.region [⟨(some 10), .bin .eql (.t 3) (.c (.int .i64 32)), none, []⟩,
 ⟨(some 9), .mv (.t 10), none, []⟩])
 (.cond (.t 9)
 (.seq (.region [⟨(some 2), .mv (.c (.int .i64 4)), none, []⟩])
 .ret)
 (.seq (.region [⟨(some 12), .bin .eql (.t 3) (.c (.int .i64 128)), none, []⟩,
 ⟨(some 11), .mv (.t 12), none, []⟩])
 (.cond (.t 11)
 (.seq (.region [⟨(some 2), .mv (.c (.int .i64 16)), none, []⟩])
 .ret)
 .skip))))))))))
 (.seq (.region [⟨(some 2), .mv (.c (.int .i64 0)), none, []⟩])
 .ret))) }
def c112 : AFn := { nparams := 2, ntmps := 9, results := [.tmp 4], body :=
 (.seq (.region [⟨(some 4), .mv (.c (.bool false)), none, []⟩])
 (.seq (.region [⟨(some 5), .mv (.t 0), none, []⟩,
 ⟨(some 6), .mv (.t 1), none, []⟩,
 ⟨(some 7), .call 161 [(.t 5), (.t 6)], none, []⟩,
 ⟨(some 8), .bin .geq (.t 7) (.c (.int .i64 0)), none, []⟩,
 ⟨(some 4), .mv (.t 8), none, []⟩])
 .ret)) }
def c114 : AFn := { nparams := 2, ntmps := 8, results := [.tmp 3], body :=
 (.seq (.region [⟨(some 3), .mv (.c (.bool false)), none, []⟩])
 (.seq (.region [⟨(some 4), .load none (.t 1), none, []⟩,
 ⟨(some 5), .mv (.t 0), none, []⟩,
 ⟨(some 6), .iaddr 1 (.t 4) (.t 5), none, []⟩,
 ⟨(some 7), .load none (.t 6), none, []⟩,
 ⟨(some 3), .mv (.t 7), none, []⟩])
 .ret)) }
def c115 : AFn := { nparams := 2, ntmps := 279, results := [.tmp 4], body :=
 (.seq (.region [⟨(some 3), .boxL [12, 18, 22, 34, 44, 48, 57, 68, 73, 81, 95, 123, 127, 137, 144, 149, 157, 183, 188, 216, 221, 239, 244] (.t 1), none, []⟩,
 ⟨(some 4), .mv (.c (.bool false)), none, []⟩])
 (.seq (.region [⟨(some 11), .mv (.t 0), none, []⟩,
 ⟨(some 12), .faddr 12 (some 3) (.t 3), none, []⟩,
 ⟨(some 13), .load none (.t 12), none, []⟩,
 ⟨(some 14), .call 162 [(.t 11), (.t 13)], none, []⟩,
 ⟨(some 5), .boxG (.c (.list 1 [])), none, []⟩,
 ⟨none, .store 1 (.t 5) (.t 14), none, []⟩])
 (.seq (.seq (.region [⟨(some 15), .load none (.t 5), none, []⟩,
 ⟨(some 16), .call 163 [(.t 15), (.c (.int .i64 0))], none, []⟩,
 ⟨(some 17), .mv (.t 16), none, []⟩,
 ⟨(some 18), .faddr 0 (some 3) (.t 3), (some (17, false)), []⟩,
 ⟨(some 19), .load none (.t 18), (some (17, false)), []⟩,
 ⟨(some 20), .bin .neq (.t 19) (.c (.int .i64 2)), (some (17, false)), []⟩,
 ⟨(some 21), .mv (.t 20), (some (17, false)), []⟩,
 ⟨(some 22), .faddr 7 (some 3) (.t 3), (some (21, true)), []⟩,
 ⟨(some 23), .load (some 5) (.t 22), (some (21, true)), []⟩,
 ⟨(some 24), .call 164 [(.t 23)], (some (21, true)), []⟩,
 ⟨(some 25), .un .not (.t 24), (some (21, true)), []⟩,
 ⟨(some 26), .pick (.t 21) (.t 25) (.c (.bool false)), (some (17, false)), []⟩,
 ⟨(some 27), .pick (.t 17) (.c (.bool true)) (.t 26), none, []⟩])
 (.cond (.t 27)
 (.seq (.region [⟨(some 4), .mv (.c (.bool false)), none, []⟩])
 .ret)
 .skip))
 (.seq (.region [⟨(some 28), .load (some 13) (.t 3), none, []⟩,
 ⟨(some 6), .boxL [30, 31, 32, 38, 39, 55, 90, 120, 121, 170, 194, 227, 228, 250, 255, 260, 265, 270, 275] (.c (.agg [(.int .i64 0), (.int .i64 0), (.int .i64 0), (.int .i64 0), (.int .i64 0), (.int .u32 0), (.int .u32 0), (.int .i64 0), (.int .i64 0), (.int .i64 0), (.int .i64 0), (.list 1 []), (.list 1 [])])), none, []⟩,
 ⟨none, .store 13 (.t 6) (.t 28), none, []⟩])
 (.seq (.region [⟨(some 29), .build [(.int .i64 0), (.int .i64 0), (.int .i64 0), (.int .i64 0), (.list 1 [])] [], none, []⟩,
 ⟨(some 30), .faddr 7 (some 6) (.t 6), none, []⟩,
 ⟨none, .store 5 (.t 30) (.t 29), none, []⟩,
 ⟨(some 31), .faddr 12 (some 6) (.t 6), none, []⟩,
 ⟨none, .store 1 (.t 31) (.c (.list 1 [])), none, []⟩,
 ⟨(some 32), .faddr 0 (some 6) (.t 6), none, []⟩,
 ⟨none, .store 1 (.t 32) (.c (.int .i64 0)), none, []⟩])
 (.seq (.region [⟨(some 33), .mkfn 165 [] [(.t 5)], none, []⟩,
 ⟨(some 7), .mv (.t 33), none, []⟩])
 (.seq (.region [⟨(some 8), .mv (.c (.bool false)), none, []⟩])
 (.seq (.seq (.region [⟨(some 34), .faddr 0 (some 3) (.t 3), none, []⟩,
 ⟨(some 35), .load none (.t 34), none, []⟩])
 (.block 0
 (.seq (.region [⟨(some 37), .bin .eql (.t 35) (.c (.int .i64 1)), none, []⟩,
 ⟨(some 36), .mv (.t 37), none, []⟩])
 (.cond (.t 36)
 (.seq (.region [⟨(some 38), .faddr 5 (some 6) (.t 6), none, []⟩,
 ⟨none, .store 1 (.t 38) (.c (.int .u32 0)), none, []⟩,
 ⟨(some 39), .faddr 3 (some 6) (.t 6), none, []⟩,
 ⟨none, .store 1 (.t 39) (.c (.int .i64 0)), none, []⟩])
 (.region [⟨(some 40), .load none (.t 5), none, []⟩,
 ⟨(some 41), .len (.t 40), none, []⟩,
 ⟨(some 42), .bin .eql (.t 41) (.c (.int .i64 0)), none, []⟩,
 ⟨(some 43), .mv (.t 42), none, []⟩,
 ⟨(some 44), .faddr 3 (some 3) (.t 3), (some (43, true)), []⟩,
 ⟨(some 45), .load none (.t 44), (some (43, true)), []⟩,
 ⟨(some 46), .bin .eql (.t 45) (.c (.int .i64 4)), (some (43, true)), []⟩,
 ⟨(some 47), .mv (.t 46), (some (43, true)), []⟩,
 ⟨(some 48), .faddr 3 (some 3) (.t 3), (some (47, false)), []⟩,
 ⟨(some 49), .load none (.t 48), (some (47, false)), []⟩,
 ⟨(some 50), .bin .eql (.t 49) (.c (.int .i64 8)), (some (47, false)), []⟩,
 ⟨(some 51), .pick (.t 47) (.c (.bool true)) (.t 50), (some (43, true)), []⟩,
 ⟨(some 52), .pick (.t 43) (.t 51) (.c (.bool false)), none, []⟩,
 ⟨(some 8), .mv (.t 52), none, []⟩]))
 (.seq (.region [⟨(some 54), .bin .eql (.t 35) (.c (.int .i64 2)), none, []⟩,
 ⟨(some 53), .mv (.t 54), none, []⟩])
 (.cond (.t 53)
 (.seq (.region [⟨(some 55), .faddr 1 (some 6) (.t 6), none, []⟩,
 ⟨none, .store 1 (.t 55) (.c (.int .i64 0)), none, []⟩])
 (.seq (.region [⟨(some 56), .mv (.t 0), none, []⟩,
 ⟨(some 57), .faddr 7 (some 3) (.t 3), none, []⟩,
 ⟨(some 58), .load (some 5) (.t 57), none, []⟩,
 ⟨(some 59), .call 158 [(.t 56), (.t 58)], none, []⟩,
 ⟨(some 9), .mv (.t 59), none, []⟩])
 (.region [⟨(some 60), .load none (.t 5), none, []⟩,
 ⟨(some 61), .len (.t 60), none, []⟩,
 ⟨(some 62), .bin .eql (.t 61) (.c (.int .i64 0)), none, []⟩,
 ⟨(some 63), .mv (.t 62), none, []⟩,
 ⟨(some 64), .mv (.t 9), (some (63, true)), []⟩,
 ⟨(some 65), .bin .neq (.t 64) (.c (.int .i64 0)), (some (63, true)), []⟩,
 ⟨(some 66), .pick (.t 63) (.t 65) (.c (.bool false)), none, []⟩,
 ⟨(some 67), .mv (.t 66), none, []⟩,
 ⟨(some 68), .faddr 1 (some 3) (.t 3), (some (67, true)), []⟩,
 ⟨(some 69), .load none (.t 68), (some (67, true)), []⟩,
 ⟨(some 70), .bin .geq (.t 69) (.c (.int .i64 0)), (some (67, true)), []⟩,
 ⟨(some 71), .pick (.t 67) (.t 70) (.c (.bool false)), none, []⟩,
 ⟨(some 72), .mv (.t 71), none, []⟩,
 ⟨(some 73), .faddr 1 (some 3) (.t 3), (some (72, true)), []⟩,
 ⟨(some 74), .load none (.t 73), (some (72, true)), []⟩,
 ⟨(some 75), .mv (.t 0), (some (72, true)), []⟩,
 ⟨(some 76), .len (.t 75), (some (72, true)), []⟩,
 ⟨(some 77), .bin .lss (.t 74) (.t 76), (some (72, true)), []⟩,
 ⟨(some 78), .pick (.t 72) (.t 77) (.c (.bool false)), none, []⟩,
 ⟨(some 79), .mv (.t 78), none, []⟩,
 ⟨(some 80), .mv (.t 0), (some (79, true)), []⟩,
 ⟨(some 81), .faddr 1 (some 3) (.t 3), (some (79, true)), []⟩,
 ⟨(some 82), .load none (.t 81), (some (79, true)), []⟩,
 ⟨(some 83), .iaddr 1 (.t 80) (.t 82), (some (79, true)), []⟩,
 ⟨(some 84), .load none (.t 83), (some (79, true)), []⟩,
 ⟨(some 85), .mv (.t 9), (some (79, true)), []⟩,
 ⟨(some 86), .bin .eql (.t 84) (.t 85), (some (79, true)), []⟩,
 ⟨(some 87), .pick (.t 79) (.t 86) (.c (.bool false)), none, []⟩,
 ⟨(some 8), .mv (.t 87), none, []⟩])))
 (.seq (.region [⟨(some 89), .bin .eql (.t 35) (.c (.int .i64 3)), none, []⟩,
 ⟨(some 88), .mv (.t 89), none, []⟩])
 (.cond (.t 88)
 (.seq (.region [⟨(some 90), .faddr 2 (some 6) (.t 6), none, []⟩,
 ⟨none, .store 1 (.t 90) (.c (.int .i64 0)), none, []⟩])
 (.region [⟨(some 91), .load none (.t 5), none, []⟩,
 ⟨(some 92), .len (.t 91), none, []⟩,
 ⟨(some 93), .bin .eql (.t 92) (.c (.int .i64 1)), none, []⟩,
 ⟨(some 94), .mv (.t 93), none, []⟩,
 ⟨(some 95), .faddr 2 (some 3) (.t 3), (some (94, true)), []⟩,
 ⟨(some 96), .load none (.t 95), (some (94, true)), []⟩,
 ⟨(some 97), .load none (.t 5), (some (94, true)), []⟩,
 ⟨(some 98), .iaddr 1 (.t 97) (.c (.int .i64 0)), (some (94, true)), []⟩,
 ⟨(some 99), .load none (.t 98), (some (94, true)), []⟩,
 ⟨(some 100), .call 166 [(.t 96), (.t 99)], (some (94, true)), []⟩,
 ⟨(some 101), .pick (.t 94) (.t 100) (.c (.bool false)), none, []⟩,
 ⟨(some 8), .mv (.t 101), none, []⟩]))
 (.seq (.seq (.region [⟨(some 103), .bin .eql (.t 35) (.c (.int .i64 4)), none, []⟩,
 ⟨(some 102), .mv (.t 103), none, []⟩])
 (.cond (.t 102)
 .skip
 (.region [⟨(some 104), .bin .eql (.t 35) (.c (.int .i64 6)), none, []⟩,
 ⟨(some 102), .mv (.t 104), none, []⟩])))
 (.cond (.t 102)
 (.region [⟨(some 105), .load none (.t 5), none, []⟩,
 ⟨(some 106), .len (.t 105), none, []⟩,
 ⟨(some 107), .bin .eql (.t 106) (.c (.int .i64 2)), none, []⟩,
 ⟨(some 108), .mv (.t 107), none, []⟩,
 ⟨(some 109), .mv (.t 7), (some (108, true)), []⟩,
 ⟨(some 110), .callv (.t 109) [(.c (.int .i64 0))], (some (108, true)), []⟩,
 ⟨(some 111), .pick (.t 108) (.t 110) (.c (.bool false)), none, []⟩,
 ⟨(some 112), .mv (.t 111), none, []⟩,
 ⟨(some 113), .load none (.t 5), (some (112, true)), []⟩,
 ⟨(some 114), .iaddr 1 (.t 113) (.c (.int .i64 1)), (some (112, true)), []⟩,
 ⟨(some 115), .load none (.t 114), (some (112, true)), []⟩,
 ⟨(some 116), .call 167 [(.t 115)], (some (112, true)), []⟩,
 ⟨(some 117), .pick (.t 112) (.t 116) (.c (.bool false)), none, []⟩,
 ⟨(some 8), .mv (.t 117), none, []⟩])
 (.seq (.region [⟨(some 119), .bin .eql (.t 35) (.c (.int .i64 5)), none, []⟩,
 ⟨(some 118), .mv (.t 119), none, []⟩])
 (.cond (.t 118)
 (.seq (.region [⟨(some 120), .faddr 1 (some 6) (.t 6), none, []⟩,
 ⟨none, .store 1 (.t 120) (.c (.int .i64 0)), none, []⟩,
 ⟨(some 121), .faddr 2 (some 6) (.t 6), none, []⟩,
 ⟨none, .store 1 (.t 121) (.c (.int .i64 0)), none, []⟩])
 (.seq (.region [⟨(some 122), .mkslice 1 3 [(.int .i64 0)] [(0, (.c (.int .i64 3))), (1, (.c (.int .i64 2))), (2, (.c (.int .i64 2)))], none, []⟩,
 ⟨(some 10), .mv (.t 122), none, []⟩])
 (.region [⟨(some 123), .faddr 2 (some 3) (.t 3), none, []⟩,
 ⟨(some 124), .load none (.t 123), none, []⟩,
 ⟨(some 125), .bin .geq (.t 124) (.c (.int .i64 0)), none, []⟩,
 ⟨(some 126), .mv (.t 125), none, []⟩,
 ⟨(some 127), .faddr 2 (some 3) (.t 3), (some (126, true)), []⟩,
 ⟨(some 128), .load none (.t 127), (some (126, true)), []⟩,
 ⟨(some 129), .mv (.t 10), (some (126, true)), []⟩,
 ⟨(some 130), .len (.t 129), (some (126, true)), []⟩,
 ⟨(some 131), .bin .lss (.t 128) (.t 130), (some (126, true)), []⟩,
 ⟨(some 132), .pick (.t 126) (.t 131) (.c (.bool false)), none, []⟩,
 ⟨(some 133), .mv (.t 132), none, []⟩,
 ⟨(some 134), .load none (.t 5), (some (133, true)), []⟩,
 ⟨(some 135), .len (.t 134), (some (133, true)), []⟩,
 ⟨(some 136), .mv (.t 10), (some (133, true)), []⟩,
 ⟨(some 137), .faddr 2 (some 3) (.t 3), (some (133, true)), []⟩,
 ⟨(some 138), .load none (.t 137), (some (133, true)), []⟩,
 ⟨(some 139), .iaddr 1 (.t 136) (.t 138), (some (133, true)), []⟩,
 ⟨(some 140), .load none (.t 139), (some (133, true)), []⟩,
 ⟨(some 141), .bin .eql (.t 135) (.t 140), (some (133, true)), []⟩,
 ⟨(some 142), .pick (.t 133) (.t 141) (.c (.bool false)), none, []⟩,
 ⟨(some 143), .mv (.t 142), none, []⟩,
 ⟨(some 144), .faddr 1 (some 3) (.t 3), (some (143, true)), []⟩,
 ⟨(some 145), .load none (.t 144), (some (143, true)), []⟩,
 ⟨(some 146), .bin .geq (.t 145) (.c (.int .i64 0)), (some (143, true)), []⟩,
 ⟨(some 147), .pick (.t 143) (.t 146) (.c (.bool false)), none, []⟩,
 ⟨(some 148), .mv (.t 147), none, []⟩,
 ⟨(some 149), .faddr 1 (some 3) (.t 3), (some (148, true)), []⟩,
 ⟨(some 150), .load none (.t 149), (some (148, true)), []⟩,
 ⟨(some 151), .mv (.t 0), (some (148, true)), []⟩,
 ⟨(some 152), .len (.t 151), (some (148, true)), []⟩,
 ⟨(some 153), .bin .lss (.t 150) (.t 152), (some (148, true)), []⟩,
 ⟨(some 154), .pick (.t 148) (.t 153) (.c (.bool false)), none, []⟩,
 ⟨(some 155), .mv (.t 154), none, []⟩,
 ⟨(some 156), .mv (.t 0), (some (155, true)), []⟩,
 ⟨(some 157), .faddr 1 (some 3) (.t 3), (some (155, true)), []⟩,
 ⟨(some 158), .load none (.t 157), (some (155, true)), []⟩,
 ⟨(some 159), .iaddr 1 (.t 156) (.t 158), (some (155, true)), []⟩,
 ⟨(some 160), .load none (.t 159), (some (155, true)), []⟩,
 ⟨(some 161), .bin .eql (.t 160) (.c (.int .i64 32)), (some (155, true)), []⟩,
 ⟨(some 162), .pick (.t 155) (.t 161) (.c (.bool false)), none, []⟩,
 ⟨(some 163), .mv (.t 162), none, []⟩,
 ⟨(some 164), .load none (.t 5), (some (163, true)), []⟩,
 ⟨(some 165), .call 109 [(.t 164), (.c (.fn 168 [] []))], (some (163, true)), []⟩,
 ⟨(some 166), .un .not (.t 165), (some (163, true)), []⟩,
 ⟨(some 167), .pick (.t 163) (.t 166) (.c (.bool false)), none, []⟩,
 ⟨(some 8), .mv (.t 167), none, []⟩])))
 (.seq (.region [⟨(some 169), .bin .eql (.t 35) (.c (.int .i64 7)), none, []⟩,
 ⟨(some 168), .mv (.t 169), none, []⟩])
 (.cond (.t 168)
 (.seq (.region [⟨(some 170), .faddr 3 (some 6) (.t 6), none, []⟩,
 ⟨none, .store 1 (.t 170) (.c (.int .i64 0)), none, []⟩])
 (.region [⟨(some 171), .load none (.t 5), none, []⟩,
 ⟨(some 172), .len (.t 171), none, []⟩,
 ⟨(some 173), .bin .eql (.t 172) (.c (.int .i64 2)), none, []⟩,
 ⟨(some 174), .mv (.t 173), none, []⟩,
 ⟨(some 175), .mv (.t 7), (some (174, true)), []⟩,
 ⟨(some 176), .callv (.t 175) [(.c (.int .i64 0))], (some (174, true)), []⟩,
 ⟨(some 177), .pick (.t 174) (.t 176) (.c (.bool false)), none, []⟩,
 ⟨(some 178), .mv (.t 177), none, []⟩,
 ⟨(some 179), .mv (.t 7), (some (178, true)), []⟩,
 ⟨(some 180), .callv (.t 179) [(.c (.int .i64 1))], (some (178, true)), []⟩,
 ⟨(some 181), .pick (.t 178) (.t 180) (.c (.bool false)), none, []⟩,
 ⟨(some 182), .mv (.t 181), none, []⟩,
 ⟨(some 183), .faddr 3 (some 3) (.t 3), (some (182, true)), []⟩,
 ⟨(some 184), .load none (.t 183), (some (182, true)), []⟩,
 ⟨(some 185), .bin .geq (.t 184) (.c (.int .i64 1)), (some (182, true)), []⟩,
 ⟨(some 186), .pick (.t 182) (.t 185) (.c (.bool false)), none, []⟩,
 ⟨(some 187), .mv (.t 186), none, []⟩,
 ⟨(some 188), .faddr 3 (some 3) (.t 3), (some (187, true)), []⟩,
 ⟨(some 189), .load none (.t 188), (some (187, true)), []⟩,
 ⟨(some 190), .bin .leq (.t 189) (.c (.int .i64 16)), (some (187, true)), []⟩,
 ⟨(some 191), .pick (.t 187) (.t 190) (.c (.bool false)), none, []⟩,
 ⟨(some 8), .mv (.t 191), none, []⟩]))
 (.seq (.region [⟨(some 193), .bin .eql (.t 35) (.c (.int .i64 8)), none, []⟩,
 ⟨(some 192), .mv (.t 193), none, []⟩])
 (.cond (.t 192)
 (.seq (.region [⟨(some 194), .faddr 3 (some 6) (.t 6), none, []⟩,
 ⟨none, .store 1 (.t 194) (.c (.int .i64 0)), none, []⟩])
 (.region [⟨(some 195), .load none (.t 5), none, []⟩,
 ⟨(some 196), .len (.t 195), none, []⟩,
 ⟨(some 197), .bin .geq (.t 196) (.c (.int .i64 1)), none, []⟩,
 ⟨(some 198), .mv (.t 197), none, []⟩,
 ⟨(some 199), .load none (.t 5), (some (198, true)), []⟩,
 ⟨(some 200), .len (.t 199), (some (198, true)), []⟩,
 ⟨(some 201), .bin .leq (.t 200) (.c (.int .i64 9)), (some (198, true)), []⟩,
 ⟨(some 202), .pick (.t 198) (.t 201) (.c (.bool false)), none, []⟩,
 ⟨(some 203), .mv (.t 202), none, []⟩,
 ⟨(some 204), .load none (.t 5), (some (203, true)), []⟩,
 ⟨(some 205), .iaddr 1 (.t 204) (.c (.int .i64 0)), (some (203, true)), []⟩,
 ⟨(some 206), .load none (.t 205), (some (203, true)), []⟩,
 ⟨(some 207), .bin .eql (.t 206) (.c (.int .i64 1)), (some (203, true)), []⟩,
 ⟨(some 208), .pick (.t 203) (.t 207) (.c (.bool false)), none, []⟩,
 ⟨(some 209), .mv (.t 208), none, []⟩,
 ⟨(some 210), .load none (.t 5), (some (209, true)), []⟩,
 ⟨(some 211), .slice 1 (.t 210) (some (.c (.int .i64 1))) none none, (some (209, true)), []⟩,
 ⟨(some 212), .call 109 [(.t 211), (.c (.fn 169 [] []))], (some (209, true)), []⟩,
 ⟨(some 213), .un .not (.t 212), (some (209, true)), []⟩,
 ⟨(some 214), .pick (.t 209) (.t 213) (.c (.bool false)), none, []⟩,
 ⟨(some 215), .mv (.t 214), none, []⟩,
 ⟨(some 216), .faddr 3 (some 3) (.t 3), (some (215, true)), []⟩,
 ⟨(some 217), .load none (.t 216), (some (215, true)), []⟩,
 ⟨(some 218), .bin .geq (.t 217) (.c (.int .i64 0)), (some (215, true)), []⟩,
 ⟨(some 219), .pick (.t 215) (.t 218) (.c (.bool false)), none, []⟩,
 ⟨(some 220), .mv (.t 219), none, []⟩,
 ⟨(some 221), .faddr 3 (some 3) (.t 3), (some (220, true)), []⟩,
 ⟨(some 222), .load none (.t 221), (some (220, true)), []⟩,
 ⟨(some 223), .bin .leq (.t 222) (.c (.int .i64 1000000)), (some (220, true)), []⟩,
 ⟨(some 224), .pick (.t 220) (.t 223) (.c (.bool false)), none, []⟩,
 ⟨(some 8), .mv (.t 224), none, []⟩]))
 (.seq (.region [⟨(some 226), .bin .eql (.t 35) (.c (.int .i64 9)), none, []⟩,
 ⟨(some 225), .mv (.t 226), none, []⟩])
 (.cond (.t 225)
 (.seq (.region [⟨(some 227), .faddr 6 (some 6) (.t 6), none, []⟩,
 ⟨none, .store 1 (.t 227) (.c (.int .u32 0)), none, []⟩,
 ⟨(some 228), .faddr 4 (some 6) (.t 6), none, []⟩,
 ⟨none, .store 1 (.t 228) (.c (.int .i64 0)), none, []⟩])
 (.region [⟨(some 229), .load none (.t 5), none, []⟩,
 ⟨(some 230), .len (.t 229), none, []⟩,
 ⟨(some 231), .bin .eql (.t 230) (.c (.int .i64 1)), none, []⟩,
 ⟨(some 232), .mv (.t 231), none, []⟩,
 ⟨(some 233), .load none (.t 5), (some (232, true)), []⟩,
 ⟨(some 234), .iaddr 1 (.t 233) (.c (.int .i64 0)), (some (232, true)), []⟩,
 ⟨(some 235), .load none (.t 234), (some (232, true)), []⟩,
 ⟨(some 236), .bin .eql (.t 235) (.c (.int .i64 1)), (some (232, true)), []⟩,
 ⟨(some 237), .pick (.t 232) (.t 236) (.c (.bool false)), none, []⟩,
 ⟨(some 238), .mv (.t 237), none, []⟩,
 ⟨(some 239), .faddr 4 (some 3) (.t 3), (some (238, true)), []⟩,
 ⟨(some 240), .load none (.t 239), (some (238, true)), []⟩,
 ⟨(some 241), .bin .geq (.t 240) (.c (.int .i64 1)), (some (238, true)), []⟩,
 ⟨(some 242), .pick (.t 238) (.t 241) (.c (.bool false)), none, []⟩,
 ⟨(some 243), .mv (.t 242), none, []⟩,
 ⟨(some 244), .faddr 4 (some 3) (.t 3), (some (243, true)), []⟩,
 ⟨(some 245), .load none (.t 244), (some (243, true)), []⟩,
 ⟨(some 246), .bin .leq (.t 245) (.c (.int .i64 9)), (some (243, true)), []⟩,
 ⟨(some 247), .pick (.t 243) (.t 246) (.c (.bool false)), none, []⟩,
 ⟨(some 8), .mv (.t 247), none, []⟩]))
 .skip))))))))))))))))))
 (.seq (.region [⟨(some 248), .mv (.t 8), none, []⟩,
 ⟨(some 249), .mv (.t 248), none, []⟩,
 ⟨(some 250), .faddr 1 (some 6) (.t 6), (some (249, true)), []⟩,
 ⟨(some 251), .load none (.t 250), (some (249, true)), []⟩,
 ⟨(some 252), .bin .eql (.t 251) (.c (.int .i64 0)), (some (249, true)), []⟩,
 ⟨(some 253), .pick (.t 249) (.t 252) (.c (.bool false)), none, []⟩,
 ⟨(some 254), .mv (.t 253), none, []⟩,
 ⟨(some 255), .faddr 2 (some 6) (.t 6), (some (254, true)), []⟩,
 ⟨(some 256), .load none (.t 255), (some (254, true)), []⟩,
 ⟨(some 257), .bin .eql (.t 256) (.c (.int .i64 0)), (some (254, true)), []⟩,
 ⟨(some 258), .pick (.t 254) (.t 257) (.c (.bool false)), none, []⟩,
 ⟨(some 259), .mv (.t 258), none, []⟩,
 ⟨(some 260), .faddr 3 (some 6) (.t 6), (some (259, true)), []⟩,
 ⟨(some 261), .load none (.t 260), (some (259, true)), []⟩,
 ⟨(some 262), .bin .eql (.t 261) (.c (.int .i64 0)), (some (259, true)), []⟩,
 ⟨(some 263), .pick (.t 259) (.t 262) (.c (.bool false)), none, []⟩,
 ⟨(some 264), .mv (.t 263), none, []⟩,
 ⟨(some 265), .faddr 4 (some 6) (.t 6), (some (264, true)), []⟩,
 ⟨(some 266), .load none (.t 265), (some (264, true)), []⟩,
 ⟨(some 267), .bin .eql (.t 266) (.c (.int .i64 0)), (some (264, true)), []⟩,
 ⟨(some 268), .pick (.t 264) (.t 267) (.c (.bool false)), none, []⟩,
 ⟨(some 269), .mv (.t 268), none, []⟩,
 ⟨(some 270), .faddr 5 (some 6) (.t 6), (some (269, true)), []⟩,
 ⟨(some 271), .load none (.t 270), (some (269, true)), []⟩,
 ⟨(some 272), .bin .eql (.t 271) (.c (.int .u32 0)), (some (269, true)), []⟩,
 ⟨(some 273), .pick (.t 269) (.t 272) (.c (.bool false)), none, []⟩,
 ⟨(some 274), .mv (.t 273), none, []⟩,
 ⟨(some 275), .faddr 6 (some 6) (.t 6), (some (274, true)), []⟩,
 ⟨(some 276), .load none (.t 275), (some (274, true)), []⟩,
 ⟨(some 277), .bin .eql (.t 276) (.c (.int .u32 0)), (some (274, true)), []⟩,
 ⟨(some 278), .pick (.t 274) (.t 277) (.c (.bool false)), none, []⟩,
 ⟨(some 4), .mv (.t 278), none, []⟩])
 .ret))))))))) }
def c116 : AFn := { nparams := 1, ntmps := 18, results := [.tmp 2], body :=
 (.seq (.region [⟨(some 1), .boxG (.t 0), none, []⟩,
 ⟨(some 2), .mv (.c (.list 1 [])), none, []⟩])
 (.seq (.region [⟨(some 5), .mkmap, none, []⟩,
 ⟨(some 3), .boxG (.c .nilm), none, []⟩,
 ⟨none, .store 1 (.t 3) (.t 5), none, []⟩])
 (.seq (.seq (.region [⟨(some 6), .load (some 13) (.t 1), none, []⟩,
 ⟨(some 7), .call 170 [(.t 6)], none, []⟩])
 (.block 0
 (.rangeFunc (.t 7) [8]
 (.region [⟨(some 4), .boxG (.c (.agg [(.int .i64 0), (.int .i64 0), (.int .u32 0), (.int .u32 0), (.int .u32 0), (.int .u32 0)])), none, []⟩,
 ⟨none, .store 6 (.t 4) (.t 8), none, []⟩])
 (.block 1
 (.seq (.region [⟨(some 9), .faddr 0 none (.t 4), none, []⟩,
 ⟨(some 10), .load none (.t 9), none, []⟩,
 ⟨(some 11), .bin .geq (.t 10) (.c (.int .i64 0)), none, []⟩])
 (.cond (.t 11)
 (.region [⟨(some 12), .load none (.t 3), none, []⟩,
 ⟨(some 13), .faddr 0 none (.t 4), none, []⟩,
 ⟨(some 14), .load none (.t 13), none, []⟩,
 ⟨none, .upd .i64 (.t 12) (.t 14) (.c (.bool true)), none, []⟩])
 .skip))))))
 (.seq (.region [⟨(some 15), .load none (.t 3), none, []⟩,
 ⟨(some 16), .call 172 [(.t 15)], none, []⟩,
 ⟨(some 17), .call 171 [(.t 16)], none, []⟩,
 ⟨(some 2), .mv (.t 17), none, []⟩])
 .ret)))) }
def c117 : AFn := { nparams := 2, ntmps := 8, results := [.tmp 3], body :=
 (.seq (.region [⟨(some 3), .mv (.c (.bool false)), none, []⟩])
 (.seq (.region [⟨(some 4), .load none (.t 1), none, []⟩,
 ⟨(some 5), .mv (.t 0), none, []⟩,
 ⟨(some 6), .callv (.t 4) [(.t 5)], none, []⟩,
 ⟨(some 7), .un .not (.t 6), none, []⟩,
 ⟨(some 3), .mv (.t 7), none, []⟩])
 .ret)) }
def c118 : AFn := { nparams := 1, ntmps := 13, results := [.tmp 2], body :=
 (.seq (.region [⟨(some 1), .boxL [3, 7, 11] (.t 0), none, []⟩,
 ⟨(some 2), .mv (.c (.int .i64 0)), none, []⟩])
 (.seq (.seq (.region [⟨(some 3), .faddr 0 (some 1) (.t 1), none, []⟩,
 ⟨(some 4), .load none (.t 3), none, []⟩,
 ⟨(some 5), .bin .eql (.t 4) (.c (.int .i64 2)), none, []⟩,
 ⟨(some 6), .mv (.t 5), none, []⟩,
 ⟨(some 7), .faddr 0 (some 1) (.t 1), (some (6, false)), []⟩,
 ⟨(some 8), .load none (.t 7), (some (6, false)), []⟩,
 ⟨(some 9), .bin .eql (.t 8) (.c (.int .i64 5)), (some (6, false)), []⟩,
 ⟨(some 10), .pick (.t 6) (.c (.bool true)) (.t 9), none, []⟩])
 (.cond (.t 10)
 (.seq (.region [⟨(some 11), .faddr 1 (some 1) (.t 1), none, []⟩,
 ⟨(some 12), .load none (.t 11), none, []⟩,
 ⟨(some 2), .mv (.t 12), none, []⟩])
 .ret)
 .skip))
 (.seq (.region [⟨(some 2), .mv (.c (.int .i64 (-1))), none, []⟩])
 .ret))) }
def c119 : AFn := { nparams := 2, ntmps := 82, results := [.tmp 4], body :=
 (.seq (.region [⟨(some 3), .boxL [5, 8, 14, 19, 26, 34, 38, 42, 48, 52, 53, 57, 58, 63, 64, 69, 70, 73, 80] (.t 1), none, []⟩,
 ⟨(some 4), .mv (.c (.int .i64 0)), none, []⟩])
 (.seq (.seq (.region [⟨(some 5), .faddr 0 (some 3) (.t 3), none, []⟩,
 ⟨(some 6), .load none (.t 5), none, []⟩,
 ⟨(some 7), .bin .geq (.t 6) (.c (.int .i64 0)), none, []⟩])
 (.cond (.t 7)
 (.seq (.seq (.region [⟨(some 8), .faddr 0 (some 3) (.t 3), none, []⟩,
 ⟨(some 9), .load none (.t 8), none, []⟩,
 ⟨(some 10), .mv (.t 0), none, []⟩,
 ⟨(some 11), .len (.t 10), none, []⟩,
 ⟨(some 12), .bin .geq (.t 9) (.t 11), none, []⟩,
 ⟨(some 13), .mv (.t 12), none, []⟩,
 ⟨(some 14), .faddr 1 (some 3) (.t 3), (some (13, false)), []⟩,
 ⟨(some 15), .load none (.t 14), (some (13, false)), []⟩,
 ⟨(some 16), .bin .neq (.t 15) (.c (.int .i64 0)), (some (13, false)), []⟩,
 ⟨(some 17), .pick (.t 13) (.c (.bool true)) (.t 16), none, []⟩,
 ⟨(some 18), .mv (.t 17), none, []⟩,
 ⟨(some 19), .faddr 2 (some 3) (.t 3), (some (18, false)), []⟩,
 ⟨(some 20), .load (some 4) (.t 19), (some (18, false)), []⟩,
 ⟨(some 21), .build [(.int .u32 0), (.int .u32 0), (.int .u32 0), (.int .u32 0)] [], (some (18, false)), []⟩,
 ⟨(some 22), .eqA [true, true, true, true] true (.t 20) (.t 21), (some (18, false)), []⟩,
 ⟨(some 23), .pick (.t 18) (.c (.bool true)) (.t 22), none, []⟩,
 ⟨(some 24), .mv (.t 23), none, []⟩,
 ⟨(some 25), .mv (.t 0), (some (24, false)), []⟩,
 ⟨(some 26), .faddr 0 (some 3) (.t 3), (some (24, false)), []⟩,
 ⟨(some 27), .load none (.t 26), (some (24, false)), []⟩,
 ⟨(some 28), .iaddr 1 (.t 25) (.t 27), (some (24, false)), []⟩,
 ⟨(some 29), .load none (.t 28), (some (24, false)), []⟩,
 ⟨(some 30), .call 111 [(.t 29)], (some (24, false)), []⟩,
 ⟨(some 31), .bin .eql (.t 30) (.c (.int .i64 0)), (some (24, false)), []⟩,
 ⟨(some 32), .pick (.t 24) (.c (.bool true)) (.t 31), none, []⟩])
 (.cond (.t 32)
 (.seq (.region [⟨(some 4), .mv (.c (.int .i64 0)), none, []⟩])
 .ret)
 .skip))
 (.seq (.region [⟨(some 33), .mv (.t 0), none, []⟩,
 ⟨(some 34), .faddr 0 (some 3) (.t 3), none, []⟩,
 ⟨(some 35), .load none (.t 34), none, []⟩,
 ⟨(some 36), .iaddr 1 (.t 33) (.t 35), none, []⟩,
 ⟨(some 37), .load none (.t 36), none, []⟩,
 ⟨(some 4), .mv (.t 37), none, []⟩])
 .ret))
 .skip))
 (.seq (.seq (.region [⟨(some 38), .faddr 0 (some 3) (.t 3), none, []⟩,
 ⟨(some 39), .load none (.t 38), none, []⟩,
 ⟨(some 40), .bin .neq (.t 39) (.c (.int .i64 (-1))), none, []⟩,
 ⟨(some 41), .mv (.t 40), none, []⟩,
 ⟨(some 42), .faddr 1 (some 3) (.t 3), (some (41, false)), []⟩,
 ⟨(some 43), .load none (.t 42), (some (41, false)), []⟩,
 ⟨(some 44), .call 111 [(.t 43)], (some (41, false)), []⟩,
 ⟨(some 45), .bin .eql (.t 44) (.c (.int .i64 0)), (some (41, false)), []⟩,
 ⟨(some 46), .pick (.t 41) (.c (.bool true)) (.t 45), none, []⟩,
 ⟨(some 47), .mv (.t 46), none, []⟩,
 ⟨(some 48), .faddr 1 (some 3) (.t 3), (some (47, false)), []⟩,
 ⟨(some 49), .load none (.t 48), (some (47, false)), []⟩,
 ⟨(some 50), .bin .lss (.t 49) (.c (.int .i64 128)), (some (47, false)), []⟩,
 ⟨(some 51), .mv (.t 50), (some (47, false)), []⟩,
 ⟨(some 52), .faddr 2 (some 3) (.t 3), (some (51, true)), []⟩,
 ⟨(some 53), .iaddrA 4 1 (some 3) (.t 52) (.c (.int .i64 1)), (some (51, true)), []⟩,
 ⟨(some 54), .load none (.t 53), (some (51, true)), []⟩,
 ⟨(some 55), .bin .neq (.t 54) (.c (.int .u32 0)), (some (51, true)), []⟩,
 ⟨(some 56), .mv (.t 55), (some (51, true)), []⟩,
 ⟨(some 57), .faddr 2 (some 3) (.t 3), (some (56, false)), []⟩,
 ⟨(some 58), .iaddrA 4 1 (some 3) (.t 57) (.c (.int .i64 2)), (some (56, false)), []⟩,
 ⟨(some 59), .load none (.t 58), (some (56, false)), []⟩,
 ⟨(some 60), .bin .neq (.t 59) (.c (.int .u32 0)), (some (56, false)), []⟩,
 ⟨(some 61), .pick (.t 56) (.c (.bool true)) (.t 60), (some (51, true)), []⟩,
 ⟨(some 62), .mv (.t 61), (some (51, true)), []⟩,
 ⟨(some 63), .faddr 2 (some 3) (.t 3), (some (62, false)), []⟩,
 ⟨(some 64), .iaddrA 4 1 (some 3) (.t 63) (.c (.int .i64 3)), (some (62, false)), []⟩,
 ⟨(some 65), .load none (.t 64), (some (62, false)), []⟩,
 ⟨(some 66), .bin .neq (.t 65) (.c (.int .u32 0)), (some (62, false)), []⟩,
 ⟨(some 67), .pick (.t 62) (.c (.bool true)) (.t 66), (some (51, true)), []⟩,
 ⟨(some 68), .mv (.t 67), (some (51, true)), []⟩,
 ⟨(some 69), .faddr 2 (some 3) (.t 3), (some (68, false)), []⟩,
 ⟨(some 70), .iaddrA 4 1 (some 3) (.t 69) (.c (.int .i64 0)), (some (68, false)), []⟩,
 ⟨(some 71), .load none (.t 70), (some (68, false)), []⟩,
 ⟨(some 72), .conv .u64 (.t 71), (some (68, false)), []⟩,
 ⟨(some 73), .faddr 1 (some 3) (.t 3), (some (68, false)), []⟩,
 ⟨(some 74), .load none (.t 73), (some (68, false)), []⟩,
 ⟨(some 75), .bin .shr (.t 72) (.t 74), (some (68, false)), []⟩,
 ⟨(some 76), .bin .neq (.t 75) (.c (.int .u64 0)), (some (68, false)), []⟩,
 ⟨(some 77), .pick (.t 68) (.c (.bool true)) (.t 76), (some (51, true)), []⟩,
 ⟨(some 78), .pick (.t 51) (.t 77) (.c (.bool false)), (some (47, false)), []⟩,
 ⟨(some 79), .pick (.t 47) (.c (.bool true)) (.t 78), none, []⟩])
 (.cond (.t 79)
 (.seq (.region [⟨(some 4), .mv (.c (.int .i64 0)), none, []⟩])
 .ret)
 .skip))
 (.seq (.region [⟨(some 80), .faddr 1 (some 3) (.t 3), none, []⟩,
 ⟨(some 81), .load none (.t 80), none, []⟩,
 ⟨(some 4), .mv (.t 81), none, []⟩])
 .ret)))) }
def c120 : AFn := { nparams := 1, ntmps := 18, results := [.cell 2 (some 19)], body :=
 (.seq (.region [⟨(some 1), .boxL [3, 5, 7, 9, 11, 13, 15] (.t 0), none, []⟩,
 ⟨(some 2), .boxL [] (.c (.agg [(.int .i64 0), (.int .i64 0), (.int .i64 0), (.int .i64 0), (.int .i64 0), (.int .u32 0), (.int .u32 0), (.int .i64 0), (.int .i64 0), (.int .u32 0), (.int .u32 0), (.int .u32 0), (.int .u32 0), (.int .i64 0), (.int .i64 0), (.int .i64 0), (.int .i64 0), (.list 1 []), (.list 1 [])])), none, []⟩])
 (.seq (.region [⟨(some 3), .faddr 0 (some 1) (.t 1), none, []⟩,
 ⟨(some 4), .load none (.t 3), none, []⟩,
 ⟨(some 5), .faddr 1 (some 1) (.t 1), none, []⟩,
 ⟨(some 6), .load none (.t 5), none, []⟩,
 ⟨(some 7), .faddr 2 (some 1) (.t 1), none, []⟩,
 ⟨(some 8), .load none (.t 7), none, []⟩,
 ⟨(some 9), .faddr 3 (some 1) (.t 1), none, []⟩,
 ⟨(some 10), .load none (.t 9), none, []⟩,
 ⟨(some 11), .faddr 4 (some 1) (.t 1), none, []⟩,
 ⟨(some 12), .load none (.t 11), none, []⟩,
 ⟨(some 13), .faddr 5 (some 1) (.t 1), none, []⟩,
 ⟨(some 14), .load none (.t 13), none, []⟩,
 ⟨(some 15), .faddr 6 (some 1) (.t 1), none, []⟩,
 ⟨(some 16), .load none (.t 15), none, []⟩,
 ⟨(some 17), .build [(.int .i64 0), (.int .i64 0), (.int .i64 0), (.int .i64 0), (.int .i64 0), (.int .u32 0), (.int .u32 0), (.int .i64 0), (.int .i64 0), (.int .u32 0), (.int .u32 0), (.int .u32 0), (.int .u32 0), (.int .i64 0), (.int .i64 0), (.int .i64 0), (.int .i64 0), (.list 1 []), (.list 1 [])] [(0, 1, (.t 4)), (1, 1, (.t 6)), (2, 1, (.t 8)), (3, 1, (.t 10)), (4, 1, (.t 12)), (5, 1, (.t 14)), (6, 1, (.t 16))], none, []⟩,
 ⟨none, .store 19 (.t 2) (.t 17), none, []⟩])
 .ret)) }
def c121 : AFn := { nparams := 2, ntmps := 15, results := [.cell 4 (some 11)], body :=
 (.seq (.region [⟨(some 2), .boxL [5, 7, 9, 11] (.t 0), none, []⟩,
 ⟨(some 4), .boxL [] (.c (.agg [(.int .i64 0), (.int .i64 0), (.int .u32 0), (.int .u32 0), (.int .u32 0), (.int .u32 0), (.int .i64 0), (.int .i64 0), (.int .i64 0), (.int .i64 0), (.list 1 [])])), none, []⟩])
 (.seq (.region [⟨(some 5), .faddr 0 (some 2) (.t 2), none, []⟩,
 ⟨(some 6), .load none (.t 5), none, []⟩,
 ⟨(some 7), .faddr 1 (some 2) (.t 2), none, []⟩,
 ⟨(some 8), .load none (.t 7), none, []⟩,
 ⟨(some 9), .faddr 2 (some 2) (.t 2), none, []⟩,
 ⟨(some 10), .load none (.t 9), none, []⟩,
 ⟨(some 11), .faddr 3 (some 2) (.t 2), none, []⟩,
 ⟨(some 12), .load none (.t 11), none, []⟩,
 ⟨(some 13), .mv (.t 1), none, []⟩,
 ⟨(some 14), .build [(.int .i64 0), (.int .i64 0), (.int .u32 0), (.int .u32 0), (.int .u32 0), (.int .u32 0), (.int .i64 0), (.int .i64 0), (.int .i64 0), (.int .i64 0), (.list 1 [])] [(6, 1, (.t 6)), (7, 1, (.t 8)), (8, 1, (.t 10)), (9, 1, (.t 12)), (10, 1, (.t 13))], none, []⟩,
 ⟨none, .store 11 (.t 4) (.t 14), none, []⟩])
 .ret)) }
def c122 : AFn := { nparams := 2, ntmps := 22, results := [.tmp 4], body :=
 (.seq (.region [⟨(some 4), .mv (.c (.list 1 [])), none, []⟩])
 (.seq (.region [⟨(some 5), .mv (.c (.list 1 [])), none, []⟩])
 (.seq (.seq (.region [⟨(some 8), .mv (.t 0), none, []⟩,
 ⟨(some 9), .len (.t 8), none, []⟩,
 ⟨(some 10), .mv (.c (.int .i64 0)), none, []⟩])
 (.block 0
 (.loop
 (.seq (.region [⟨(some 11), .bin .lss (.t 10) (.t 9), none, []⟩])
 (.seq (.cond (.t 11)
 .skip
 (.exit 0))
 (.seq (.block 1
 (.seq (.region [⟨(some 12), .iaddr 6 (.t 8) (.t 10), none, []⟩,
 ⟨(some 13), .load (some 6) (.t 12), none, []⟩,
 ⟨(some 7), .boxL [] (.c (.agg [(.int .i64 0), (.int .i64 0), (.int .u32 0), (.int .u32 0), (.int .u32 0), (.int .u32 0)])), none, []⟩,
 ⟨none, .store 6 (.t 7) (.t 13), none, []⟩])
 (.region [⟨(some 14), .mv (.t 5), none, []⟩,
 ⟨(some 15), .mv (.t 1), none, []⟩,
 ⟨(some 16), .load (some 6) (.t 7), none, []⟩,
 ⟨(some 17), .callv (.t 15) [(.t 16)], none, []⟩,
 ⟨(some 18), .mkslice 11 1 [(.int .i64 0), (.int .i64 0), (.int .u32 0), (.int .u32 0), (.int .u32 0), (.int .u32 0), (.int .i64 0), (.int .i64 0), (.int .i64 0), (.int .i64 0), (.list 1 [])] [(0, (.t 17))], none, []⟩,
 ⟨(some 19), .append 11 88 false (.t 14) (.t 18), none, []⟩,
 ⟨(some 5), .mv (.t 19), none, []⟩])))
 (.region [⟨(some 20), .bin .add (.t 10) (.c (.int .i64 1)), none, []⟩,
 ⟨(some 10), .mv (.t 20), none, []⟩])))))))
 (.seq (.region [⟨(some 21), .mv (.t 5), none, []⟩,
 ⟨(some 4), .mv (.t 21), none, []⟩])
 .ret)))) }
def c123 : AFn := { nparams := 2, ntmps := 19, results := [.tmp 4], body :=
 (.seq (.region [⟨(some 4), .mv (.c (.int .i64 0)), none, []⟩])
 (.seq (.seq (.region [⟨(some 6), .mv (.t 0), none, []⟩,
 ⟨(some 7), .len (.t 6), none, []⟩,
 ⟨(some 8), .mv (.c (.int .i64 0)), none, []⟩])
 (.block 0
 (.loop
 (.seq (.region [⟨(some 9), .bin .lss (.t 8) (.t 7), none, []⟩])
 (.seq (.cond (.t 9)
 .skip
 (.exit 0))
 (.seq (.block 1
 (.seq (.region [⟨(some 10), .mv (.t 8), none, []⟩,
 ⟨(some 5), .mv (.t 10), none, []⟩])
 (.seq (.region [⟨(some 11), .mv (.t 1), none, []⟩,
 ⟨(some 12), .mv (.t 0), none, []⟩,
 ⟨(some 13), .mv (.t 5), none, []⟩,
 ⟨(some 14), .iaddr 12 (.t 12) (.t 13), none, []⟩,
 ⟨(some 15), .load (some 12) (.t 14), none, []⟩,
 ⟨(some 16), .callv (.t 11) [(.t 15)], none, []⟩])
 (.cond (.t 16)
 (.seq (.region [⟨(some 17), .mv (.t 5), none, []⟩,
 ⟨(some 4), .mv (.t 17), none, []⟩])
 .ret)
 .skip))))
 (.region [⟨(some 18), .bin .add (.t 8) (.c (.int .i64 1)), none, []⟩,
 ⟨(some 8), .mv (.t 18), none, []⟩])))))))
 (.seq (.region [⟨(some 4), .mv (.c (.int .i64 (-1))), none, []⟩])
 .ret))) }
def c124 : AFn := { nparams := 2, ntmps := 9, results := [.tmp 3], body :=
 (.seq (.region [⟨(some 2), .boxL [4] (.t 0), none, []⟩,
 ⟨(some 3), .mv (.c (.bool false)), none, []⟩])
 (.seq (.region [⟨(some 4), .faddr 0 (some 2) (.t 2), none, []⟩,
 ⟨(some 5), .load none (.t 4), none, []⟩,
 ⟨(some 6), .faddr 0 none (.t 1), none, []⟩,
 ⟨(some 7), .load none (.t 6), none, []⟩,
 ⟨(some 8), .bin .eql (.t 5) (.t 7), none, []⟩,
 ⟨(some 3), .mv (.t 8), none, []⟩])
 .ret)) }
def c125 : AFn := { nparams := 3, ntmps := 33, results := [.tmp 6], body :=
 (.seq (.region [⟨(some 6), .mv (.c (.list 1 [])), none, []⟩])
 (.seq (.region [⟨(some 8), .mv (.t 0), none, []⟩,
 ⟨(some 9), .mv (.t 1), none, []⟩,
 ⟨(some 10), .mv (.t 2), none, []⟩,
 ⟨(some 11), .mv (.t 0), none, []⟩,
 ⟨(some 12), .len (.t 11), none, []⟩,
 ⟨(some 13), .slice 12 (.t 8) (some (.t 9)) (some (.t 10)) (some (.t 12)), none, []⟩])
 (.seq (.seq (.region [⟨(some 14), .mv (.t 1), none, []⟩,
 ⟨(some 15), .mv (.t 2), none, []⟩,
 ⟨(some 16), .bin .eql (.t 14) (.t 15), none, []⟩])
 (.cond (.t 16)
 (.seq (.region [⟨(some 17), .mv (.t 0), none, []⟩,
 ⟨(some 6), .mv (.t 17), none, []⟩])
 .ret)
 .skip))
 (.seq (.region [⟨(some 18), .mv (.t 0), none, []⟩,
 ⟨(some 19), .len (.t 18), none, []⟩,
 ⟨(some 7), .mv (.t 19), none, []⟩])
 (.seq (.region [⟨(some 20), .mv (.t 0), none, []⟩,
 ⟨(some 21), .mv (.t 1), none, []⟩,
 ⟨(some 22), .slice 12 (.t 20) none (some (.t 21)) none, none, []⟩,
 ⟨(some 23), .mv (.t 0), none, []⟩,
 ⟨(some 24), .mv (.t 2), none, []⟩,
 ⟨(some 25), .slice 12 (.t 23) (some (.t 24)) none none, none, []⟩,
 ⟨(some 26), .append 12 96 false (.t 22) (.t 25), none, []⟩,
 ⟨(some 0), .mv (.t 26), none, []⟩])
 (.seq (.region [⟨(some 27), .mv (.t 0), none, []⟩,
 ⟨(some 28), .mv (.t 0), none, []⟩,
 ⟨(some 29), .len (.t 28), none, []⟩,
 ⟨(some 30), .mv (.t 7), none, []⟩,
 ⟨(some 31), .slice 12 (.t 27) (some (.t 29)) (some (.t 30)) none, none, []⟩,
 ⟨none, .clr 12 [(.int .i64 0), (.int .i64 0), (.int .i64 0), (.int .u32 0), (.int .u32 0), (.int .u32 0), (.int .u32 0), (.int .i64 0), (.int .i64 0), (.int .i64 0), (.int .i64 0), (.list 1 [])] (.t 31), none, []⟩])
 (.seq (.region [⟨(some 32), .mv (.t 0), none, []⟩,
 ⟨(some 6), .mv (.t 32), none, []⟩])
 .ret))))))) }
def c126 : AFn := { nparams := 2, ntmps := 11, results := [.tmp 4], body :=
 (.seq (.region [⟨(some 2), .boxG (.t 0), none, []⟩,
 ⟨(some 3), .boxG (.t 1), none, []⟩,
 ⟨(some 4), .mv (.c .nilm), none, []⟩])
 (.seq (.region [⟨(some 5), .mkmap, none, []⟩,
 ⟨(some 6), .mkfn 173 [] [(.t 3)], none, []⟩,
 ⟨none, .upd .i64 (.t 5) (.c (.int .i64 5)) (.t 6), none, []⟩,
 ⟨(some 7), .mkfn 175 [] [(.t 3)], none, []⟩,
 ⟨none, .upd .i64 (.t 5) (.c (.int .i64 6)) (.t 7), none, []⟩,
 ⟨(some 8), .mkfn 176 [] [(.t 3)], none, []⟩,
 ⟨none, .upd .i64 (.t 5) (.c (.int .i64 9)) (.t 8), none, []⟩,
 ⟨(some 9), .mkfn 177 [] [(.t 3), (.t 2)], none, []⟩,
 ⟨none, .upd .i64 (.t 5) (.c (.int .i64 2)) (.t 9), none, []⟩,
 ⟨(some 10), .mv (.t 5), none, []⟩,
 ⟨(some 4), .mv (.t 10), none, []⟩])
 .ret)) }
def c127 : AFn := { nparams := 2, ntmps := 24, results := [.cell 3 none], body :=
 (.seq (.region [⟨(some 2), .boxG (.t 0), none, []⟩,
 ⟨(some 3), .boxG (.c (.bool false)), none, []⟩])
 (.seq (.seq (.region [⟨(some 7), .faddr 1 none (.t 2), none, []⟩,
 ⟨(some 8), .load (some 11) (.t 7), none, []⟩,
 ⟨(some 9), .call 99 [(.t 8)], none, []⟩])
 (.block 0
 (.rangeFunc (.t 9) [10]
 (.region [⟨(some 4), .boxG (.c (.agg [(.int .i64 0), (.int .i64 0), (.int .u32 0), (.int .u32 0), (.int .u32 0), (.int .u32 0), (.int .i64 0), (.int .i64 0), (.int .i64 0), (.int .i64 0), (.list 1 [])])), none, []⟩,
 ⟨none, .store 11 (.t 4) (.t 10), none, []⟩])
 (.block 1
 (.seq (.region [⟨(some 12), .load none (.t 1), none, []⟩,
 ⟨(some 13), .faddr 6 none (.t 4), none, []⟩,
 ⟨(some 14), .load none (.t 13), none, []⟩,
 ⟨(some 15), .look .i64 .nilf true (.t 12) (.t 14), none, []⟩,
 ⟨(some 11), .mv (.t 15), none, []⟩,
 ⟨(some 16), .ext (.t 11) 0, none, []⟩,
 ⟨(some 17), .ext (.t 11) 1, none, []⟩,
 ⟨(some 5), .mv (.t 16), none, []⟩,
 ⟨(some 6), .mv (.t 17), none, []⟩])
 (.seq (.region [⟨(some 18), .mv (.t 6), none, []⟩,
 ⟨(some 19), .mv (.t 18), none, []⟩,
 ⟨(some 20), .mv (.t 5), (some (19, true)), []⟩,
 ⟨(some 21), .load (some 11) (.t 4), (some (19, true)), []⟩,
 ⟨(some 22), .callv (.t 20) [(.t 21)], (some (19, true)), []⟩,
 ⟨(some 23), .pick (.t 19) (.t 22) (.c (.bool false)), none, []⟩])
 (.cond (.t 23)
 (.seq (.region [⟨none, .store 1 (.t 3) (.c (.bool true)), none, []⟩])
 .ret)
 .skip)))))))
 (.seq (.region [⟨none, .store 1 (.t 3) (.c (.bool false)), none, []⟩])
 .ret))) }
def c131 : AFn := { nparams := 2, ntmps := 15, results := [.cell 4 (some 5)], body :=
 (.seq (.region [⟨(some 2), .boxL [5, 7, 9, 11] (.t 0), none, []⟩,
 ⟨(some 4), .boxL [] (.c (.agg [(.int .i64 0), (.int .i64 0), (.int .i64 0), (.int .i64 0), (.list 1 [])])), none, []⟩])
 (.seq (.region [⟨(some 5), .faddr 6 (some 2) (.t 2), none, []⟩,
 ⟨(some 6), .load none (.t 5), none, []⟩,
 ⟨(some 7), .faddr 7 (some 2) (.t 2), none, []⟩,
 ⟨(some 8), .load none (.t 7), none, []⟩,
 ⟨(some 9), .faddr 8 (some 2) (.t 2), none, []⟩,
 ⟨(some 10), .load none (.t 9), none, []⟩,
 ⟨(some 11), .faddr 9 (some 2) (.t 2), none, []⟩,
 ⟨(some 12), .load none (.t 11), none, []⟩,
 ⟨(some 13), .mv (.t 1), none, []⟩,
 ⟨(some 14), .build [(.int .i64 0), (.int .i64 0), (.int .i64 0), (.int .i64 0), (.list 1 [])] [(0, 1, (.t 6)), (1, 1, (.t 8)), (2, 1, (.t 10)), (3, 1, (.t 12)), (4, 1, (.t 13))], none, []⟩,
 ⟨none, .store 5 (.t 4) (.t 14), none, []⟩])
 .ret)) }
def c141 : AFn := { nparams := 5, ntmps := 148, results := [], body :=
 (.seq (.region [⟨(some 10), .mv (.c (.bool true)), none, []⟩])
 (.seq (.region [⟨(some 11), .mv (.c (.bool true)), none, []⟩])
 (.block 0
 (.loop
 (.block 1
 (.seq (.region [⟨(some 21), .mv (.t 2), none, []⟩,
 ⟨(some 22), .mv (.t 1), none, []⟩,
 ⟨(some 23), .bin .sub (.t 21) (.t 22), none, []⟩,
 ⟨(some 12), .mv (.t 23), none, []⟩])
 (.seq (.seq (.region [⟨(some 24), .mv (.t 12), none, []⟩,
 ⟨(some 25), .bin .leq (.t 24) (.c (.int .i64 12)), none, []⟩])
 (.cond (.t 25)
 (.seq (.region [⟨(some 26), .mv (.t 0), none, []⟩,
 ⟨(some 27), .mv (.t 1), none, []⟩,
 ⟨(some 28), .mv (.t 2), none, []⟩,
 ⟨(some 29), .mv (.t 4), none, []⟩,
 ⟨(some 30), .call 181 [(.t 26), (.t 27), (.t 28), (.t 29)], none, []⟩])
 .ret)
 .skip))
 (.seq (.seq (.region [⟨(some 31), .mv (.t 3), none, []⟩,
 ⟨(some 32), .bin .eql (.t 31) (.c (.int .i64 0)), none, []⟩])
 (.cond (.t 32)
 (.seq (.region [⟨(some 33), .mv (.t 0), none, []⟩,
 ⟨(some 34), .mv (.t 1), none, []⟩,
 ⟨(some 35), .mv (.t 2), none, []⟩,
 ⟨(some 36), .mv (.t 4), none, []⟩,
 ⟨(some 37), .call 182 [(.t 33), (.t 34), (.t 35), (.t 36)], none, []⟩])
 .ret)
 .skip))
 (.seq (.seq (.region [⟨(some 38), .mv (.t 10), none, []⟩,
 ⟨(some 39), .un .not (.t 38), none, []⟩])
 (.cond (.t 39)
 (.seq (.region [⟨(some 40), .mv (.t 0), none, []⟩,
 ⟨(some 41), .mv (.t 1), none, []⟩,
 ⟨(some 42), .mv (.t 2), none, []⟩,
 ⟨(some 43), .mv (.t 4), none, []⟩,
 ⟨(some 44), .call 183 [(.t 40), (.t 41), (.t 42), (.t 43)], none, []⟩])
 (.region [⟨(some 45), .mv (.t 3), none, []⟩,
 ⟨(some 46), .bin .sub (.t 45) (.c (.int .i64 1)), none, []⟩,
 ⟨(some 3), .mv (.t 46), none, []⟩]))
 .skip))
 (.seq (.region [⟨(some 48), .mv (.t 0), none, []⟩,
 ⟨(some 49), .mv (.t 1), none, []⟩,
 ⟨(some 50), .mv (.t 2), none, []⟩,
 ⟨(some 51), .mv (.t 4), none, []⟩,
 ⟨(some 52), .call 184 [(.t 48), (.t 49), (.t 50), (.t 51)], none, []⟩,
 ⟨(some 47), .mv (.t 52), none, []⟩,
 ⟨(some 53), .ext (.t 47) 0, none, []⟩,
 ⟨(some 54), .ext (.t 47) 1, none, []⟩,
 ⟨(some 13), .mv (.t 53), none, []⟩,
 ⟨(some 14), .mv (.t 54), none, []⟩])
 (.seq (.seq (.region [⟨(some 55), .mv (.t 14), none, []⟩,
 ⟨(some 56), .bin .eql (.t 55) (.c (.int .i64 2)), none, []⟩])
 (.cond (.t 56)
 (.seq (.region [⟨(some 57), .mv (.t 0), none, []⟩,
 ⟨(some 58), .mv (.t 1), none, []⟩,
 ⟨(some 59), .mv (.t 2), none, []⟩,
 ⟨(some 60), .mv (.t 4), none, []⟩,
 ⟨(some 61), .call 185 [(.t 57), (.t 58), (.t 59), (.t 60)], none, []⟩])
 (.seq (.region [⟨(some 62), .mv (.t 2), none, []⟩,
 ⟨(some 63), .bin .sub (.t 62) (.c (.int .i64 1)), none, []⟩,
 ⟨(some 64), .mv (.t 13), none, []⟩,
 ⟨(some 65), .mv (.t 1), none, []⟩,
 ⟨(some 66), .bin .sub (.t 64) (.t 65), none, []⟩,
 ⟨(some 67), .bin .sub (.t 63) (.t 66), none, []⟩,
 ⟨(some 13), .mv (.t 67), none, []⟩])
 (.region [⟨(some 14), .mv (.c (.int .i64 1)), none, []⟩])))
 .skip))
 (.seq (.seq (.region [⟨(some 68), .mv (.t 10), none, []⟩,
 ⟨(some 69), .mv (.t 68), none, []⟩,
 ⟨(some 70), .mv (.t 11), (some (69, true)), []⟩,
 ⟨(some 71), .pick (.t 69) (.t 70) (.c (.bool false)), none, []⟩,
 ⟨(some 72), .mv (.t 71), none, []⟩,
 ⟨(some 73), .mv (.t 14), (some (72, true)), []⟩,
 ⟨(some 74), .bin .eql (.t 73) (.c (.int .i64 1)), (some (72, true)), []⟩,
 ⟨(some 75), .pick (.t 72) (.t 74) (.c (.bool false)), none, []⟩])
 (.cond (.t 75)
 (.seq (.region [⟨(some 76), .mv (.t 0), none, []⟩,
 ⟨(some 77), .mv (.t 1), none, []⟩,
 ⟨(some 78), .mv (.t 2), none, []⟩,
 ⟨(some 79), .mv (.t 4), none, []⟩,
 ⟨(some 80), .call 186 [(.t 76), (.t 77), (.t 78), (.t 79)], none, []⟩])
 (.cond (.t 80)
 .ret
 .skip))
 .skip))
 (.seq (.seq (.region [⟨(some 81), .mv (.t 1), none, []⟩,
 ⟨(some 82), .bin .gtr (.t 81) (.c (.int .i64 0)), none, []⟩,
 ⟨(some 83), .mv (.t 82), none, []⟩,
 ⟨(some 84), .mv (.t 4), (some (83, true)), []⟩,
 ⟨(some 85), .mv (.t 0), (some (83, true)), []⟩,
 ⟨(some 86), .mv (.t 1), (some (83, true)), []⟩,
 ⟨(some 87), .bin .sub (.t 86) (.c (.int .i64 1)), (some (83, true)), []⟩,
 ⟨(some 88), .iaddr 1 (.t 85) (.t 87), (some (83, true)), []⟩,
 ⟨(some 89), .load none (.t 88), (some (83, true)), []⟩,
 ⟨(some 90), .mv (.t 0), (some (83, true)), []⟩,
 ⟨(some 91), .mv (.t 13), (some (83, true)), []⟩,
 ⟨(some 92), .iaddr 1 (.t 90) (.t 91), (some (83, true)), []⟩,
 ⟨(some 93), .load none (.t 92), (some (83, true)), []⟩,
 ⟨(some 94), .callv (.t 84) [(.t 89), (.t 93)], (some (83, true)), []⟩,
 ⟨(some 95), .bin .lss (.t 94) (.c (.int .i64 0)), (some (83, true)), []⟩,
 ⟨(some 96), .un .not (.t 95), (some (83, true)), []⟩,
 ⟨(some 97), .pick (.t 83) (.t 96) (.c (.bool false)), none, []⟩])
 (.cond (.t 97)
 (.seq (.region [⟨(some 98), .mv (.t 0), none, []⟩,
 ⟨(some 99), .mv (.t 1), none, []⟩,
 ⟨(some 100), .mv (.t 2), none, []⟩,
 ⟨(some 101), .mv (.t 13), none, []⟩,
 ⟨(some 102), .mv (.t 4), none, []⟩,
 ⟨(some 103), .call 187 [(.t 98), (.t 99), (.t 100), (.t 101), (.t 102)], none, []⟩,
 ⟨(some 15), .mv (.t 103), none, []⟩])
 (.seq (.region [⟨(some 104), .mv (.t 15), none, []⟩,
 ⟨(some 1), .mv (.t 104), none, []⟩])
 (.exit 1)))
 .skip))
 (.seq (.region [⟨(some 106), .mv (.t 0), none, []⟩,
 ⟨(some 107), .mv (.t 1), none, []⟩,
 ⟨(some 108), .mv (.t 2), none, []⟩,
 ⟨(some 109), .mv (.t 13), none, []⟩,
 ⟨(some 110), .mv (.t 4), none, []⟩,
 ⟨(some 111), .call 188 [(.t 106), (.t 107), (.t 108), (.t 109), (.t 110)], none, []⟩,
 ⟨(some 105), .mv (.t 111), none, []⟩,
 ⟨(some 112), .ext (.t 105) 0, none, []⟩,
 ⟨(some 113), .ext (.t 105) 1, none, []⟩,
 ⟨(some 16), .mv (.t 112), none, []⟩,
 ⟨(some 17), .mv (.t 113), none, []⟩])
 (.seq (.region [⟨(some 114), .mv (.t 17), none, []⟩,
 ⟨(some 11), .mv (.t 114), none, []⟩])
 (.seq (.region [⟨(some 115), .mv (.t 16), none, []⟩,
 ⟨(some 116), .mv (.t 1), none, []⟩,
 ⟨(some 117), .bin .sub (.t 115) (.t 116), none, []⟩,
 ⟨(some 118), .mv (.t 2), none, []⟩,
 ⟨(some 119), .mv (.t 16), none, []⟩,
 ⟨(some 120), .bin .sub (.t 118) (.t 119), none, []⟩,
 ⟨(some 18), .mv (.t 117), none, []⟩,
 ⟨(some 19), .mv (.t 120), none, []⟩])
 (.seq (.region [⟨(some 121), .mv (.t 12), none, []⟩,
 ⟨(some 122), .bin .quo (.t 121) (.c (.int .i64 8)), none, []⟩,
 ⟨(some 20), .mv (.t 122), none, []⟩])
 (.seq (.region [⟨(some 123), .mv (.t 18), none, []⟩,
 ⟨(some 124), .mv (.t 19), none, []⟩,
 ⟨(some 125), .bin .lss (.t 123) (.t 124), none, []⟩])
 (.cond (.t 125)
 (.seq (.region [⟨(some 126), .mv (.t 18), none, []⟩,
 ⟨(some 127), .mv (.t 20), none, []⟩,
 ⟨(some 128), .bin .geq (.t 126) (.t 127), none, []⟩,
 ⟨(some 10), .mv (.t 128), none, []⟩])
 (.seq (.region [⟨(some 129), .mv (.t 0), none, []⟩,
 ⟨(some 130), .mv (.t 1), none, []⟩,
 ⟨(some 131), .mv (.t 16), none, []⟩,
 ⟨(some 132), .mv (.t 3), none, []⟩,
 ⟨(some 133), .mv (.t 4), none, []⟩,
 ⟨(some 134), .call 141 [(.t 129), (.t 130), (.t 131), (.t 132), (.t 133)], none, []⟩])
 (.region [⟨(some 135), .mv (.t 16), none, []⟩,
 ⟨(some 136), .bin .add (.t 135) (.c (.int .i64 1)), none, []⟩,
 ⟨(some 1), .mv (.t 136), none, []⟩])))
 (.seq (.region [⟨(some 137), .mv (.t 19), none, []⟩,
 ⟨(some 138), .mv (.t 20), none, []⟩,
 ⟨(some 139), .bin .geq (.t 137) (.t 138), none, []⟩,
 ⟨(some 10), .mv (.t 139), none, []⟩])
 (.seq (.region [⟨(some 140), .mv (.t 0), none, []⟩,
 ⟨(some 141), .mv (.t 16), none, []⟩,
 ⟨(some 142), .bin .add (.t 141) (.c (.int .i64 1)), none, []⟩,
 ⟨(some 143), .mv (.t 2), none, []⟩,
 ⟨(some 144), .mv (.t 3), none, []⟩,
 ⟨(some 145), .mv (.t 4), none, []⟩,
 ⟨(some 146), .call 141 [(.t 140), (.t 142), (.t 143), (.t 144), (.t 145)], none, []⟩])
 (.region [⟨(some 147), .mv (.t 16), none, []⟩,
 ⟨(some 2), .mv (.t 147), none, []⟩])))))))))))))))))))))) }
def c142 : AFn := { nparams := 1, ntmps := 8, results := [.tmp 2], body :=
 (.seq (.region [⟨(some 2), .mv (.c (.int .i64 0)), none, []⟩])
 (.seq (.cond (.c (.bool false))
 (.seq (.region [⟨(some 3), .mv (.t 0), none, []⟩,
 ⟨(some 4), .conv .u32 (.t 3), none, []⟩,
 ⟨(some 5), .call 189 [(.t 4)], none, []⟩,
 ⟨(some 2), .mv (.t 5), none, []⟩])
 .ret)
 .skip)
 (.seq (.region [⟨(some 6), .mv (.t 0), none, []⟩,
 ⟨(some 7), .call 190 [(.t 6)], none, []⟩,
 ⟨(some 2), .mv (.t 7), none, []⟩])
 .ret))) }
def c147 : AFn := { nparams := 3, ntmps := 24, results := [.tmp 5], body :=
 (.seq (.region [⟨(some 3), .boxL [8] (.t 0), none, []⟩,
 ⟨(some 5), .mv (.c (.bool false)), none, []⟩])
 (.seq (.seq (.region [⟨(some 8), .faddr 10 (some 3) (.t 3), none, []⟩,
 ⟨(some 9), .load none (.t 8), none, []⟩,
 ⟨(some 10), .len (.t 9), none, []⟩,
 ⟨(some 11), .mv (.c (.int .i64 0)), none, []⟩])
 (.block 0
 (.loop
 (.seq (.region [⟨(some 12), .bin .lss (.t 11) (.t 10), none, []⟩])
 (.seq (.cond (.t 12)
 .skip
 (.exit 0))
 (.seq (.block 1
 (.seq (.region [⟨(some 13), .iaddr 11 (.t 9) (.t 11), none, []⟩,
 ⟨(some 14), .load (some 11) (.t 13), none, []⟩,
 ⟨(some 7), .boxL [] (.c (.agg [(.int .i64 0), (.int .i64 0), (.int .u32 0), (.int .u32 0), (.int .u32 0), (.int .u32 0), (.int .i64 0), (.int .i64 0), (.int .i64 0), (.int .i64 0), (.list 1 [])])), none, []⟩,
 ⟨none, .store 11 (.t 7) (.t 14), none, []⟩])
 (.seq (.region [⟨(some 15), .load none (.t 2), none, []⟩,
 ⟨(some 16), .load (some 11) (.t 7), none, []⟩,
 ⟨(some 17), .mv (.t 1), none, []⟩,
 ⟨(some 18), .callv (.t 15) [(.t 16), (.t 17)], none, []⟩,
 ⟨(some 19), .un .not (.t 18), none, []⟩])
 (.cond (.t 19)
 (.seq (.region [⟨(some 5), .mv (.c (.bool false)), none, []⟩])
 .ret)
 .skip))))
 (.region [⟨(some 20), .bin .add (.t 11) (.c (.int .i64 1)), none, []⟩,
 ⟨(some 11), .mv (.t 20), none, []⟩])))))))
 (.seq (.region [⟨(some 21), .mv (.t 1), none, []⟩,
 ⟨(some 22), .load (some 11) (.t 3), none, []⟩,
 ⟨(some 23), .callv (.t 21) [(.t 22)], none, []⟩,
 ⟨(some 5), .mv (.t 23), none, []⟩])
 .ret))) }
def c148 : AFn := { nparams := 3, ntmps := 8, results := [], body :=
 (.region [⟨(some 4), .load none (.t 1), none, []⟩,
 ⟨(some 5), .load (some 11) (.t 2), none, []⟩,
 ⟨(some 6), .mv (.t 0), none, []⟩,
 ⟨(some 7), .callv (.t 4) [(.t 5), (.t 6)], none, []⟩]) }
def c149 : AFn := { nparams := 2, ntmps := 27, results := [], body :=
 (.seq (.seq (.region [⟨(some 5), .faddr 0 none (.t 1), none, []⟩,
 ⟨(some 6), .load none (.t 5), none, []⟩,
 ⟨(some 7), .bin .eql (.t 6) (.c (.int .i64 2)), none, []⟩,
 ⟨(some 8), .mv (.t 7), none, []⟩,
 ⟨(some 9), .mv (.t 0), (some (8, true)), []⟩,
 ⟨(some 10), .faddr 7 none (.t 1), (some (8, true)), []⟩,
 ⟨(some 11), .load (some 11) (.t 10), (some (8, true)), []⟩,
 ⟨(some 12), .callv (.t 9) [(.t 11)], (some (8, true)), []⟩,
 ⟨(some 13), .un .not (.t 12), (some (8, true)), []⟩,
 ⟨(some 14), .pick (.t 8) (.t 13) (.c (.bool false)), none, []⟩])
 (.cond (.t 14)
 .ret
 .skip))
 (.seq (.region [⟨(some 15), .faddr 18 none (.t 1), none, []⟩,
 ⟨(some 16), .load none (.t 15), none, []⟩,
 ⟨(some 17), .len (.t 16), none, []⟩,
 ⟨(some 18), .mv (.c (.int .i64 0)), none, []⟩])
 (.block 0
 (.loop
 (.seq (.region [⟨(some 19), .bin .lss (.t 18) (.t 17), none, []⟩])
 (.seq (.cond (.t 19)
 .skip
 (.exit 0))
 (.seq (.block 1
 (.seq (.region [⟨(some 20), .iaddr 11 (.t 16) (.t 18), none, []⟩,
 ⟨(some 21), .load (some 11) (.t 20), none, []⟩,
 ⟨(some 4), .boxL [] (.c (.agg [(.int .i64 0), (.int .i64 0), (.int .u32 0), (.int .u32 0), (.int .u32 0), (.int .u32 0), (.int .i64 0), (.int .i64 0), (.int .i64 0), (.int .i64 0), (.list 1 [])])), none, []⟩,
 ⟨none, .store 11 (.t 4) (.t 21), none, []⟩])
 (.seq (.region [⟨(some 22), .mv (.t 0), none, []⟩,
 ⟨(some 23), .load (some 11) (.t 4), none, []⟩,
 ⟨(some 24), .callv (.t 22) [(.t 23)], none, []⟩,
 ⟨(some 25), .un .not (.t 24), none, []⟩])
 (.cond (.t 25)
 .ret
 .skip))))
 (.region [⟨(some 26), .bin .add (.t 18) (.c (.int .i64 1)), none, []⟩,
 ⟨(some 18), .mv (.t 26), none, []⟩])))))))) }
def c150 : AFn := { nparams := 2, ntmps := 20, results := [.tmp 4], body :=
 (.seq (.region [⟨(some 4), .mv (.c (.list 1 [])), none, []⟩])
 (.seq (.region [⟨(some 5), .mv (.c (.list 1 [])), none, []⟩])
 (.seq (.seq (.region [⟨(some 7), .mv (.t 1), none, []⟩,
 ⟨(some 8), .mv (.c (.int .i64 0)), none, []⟩])
 (.block 0
 (.loop
 (.seq (.region [⟨(some 9), .bin .lss (.t 8) (.t 7), none, []⟩])
 (.seq (.cond (.t 9)
 .skip
 (.exit 0))
 (.seq (.block 1
 (.seq (.region [⟨(some 10), .mv (.t 8), none, []⟩,
 ⟨(some 6), .mv (.t 10), none, []⟩])
 (.region [⟨(some 11), .mv (.t 5), none, []⟩,
 ⟨(some 12), .mv (.t 0), none, []⟩,
 ⟨(some 13), .mv (.t 6), none, []⟩,
 ⟨(some 14), .bin .add (.t 12) (.t 13), none, []⟩,
 ⟨(some 15), .build [(.int .i64 0), (.int .i64 0), (.int .u32 0), (.int .u32 0), (.int .u32 0), (.int .u32 0)] [(0, 1, (.t 14))], none, []⟩,
 ⟨(some 16), .mkslice 6 1 [(.int .i64 0), (.int .i64 0), (.int .u32 0), (.int .u32 0), (.int .u32 0), (.int .u32 0)] [(0, (.t 15))], none, []⟩,
 ⟨(some 17), .append 6 32 false (.t 11) (.t 16), none, []⟩,
 ⟨(some 5), .mv (.t 17), none, []⟩])))
 (.region [⟨(some 18), .bin .add (.t 8) (.c (.int .i64 1)), none, []⟩,
 ⟨(some 8), .mv (.t 18), none, []⟩])))))))
 (.seq (.region [⟨(some 19), .mv (.t 5), none, []⟩,
 ⟨(some 4), .mv (.t 19), none, []⟩])
 .ret)))) }
def c151 : AFn := { nparams := 1, ntmps := 6, results := [.tmp 2], body :=
 (.seq (.region [⟨(some 1), .boxL [] (.t 0), none, []⟩,
 ⟨(some 2), .mv (.c (.bool false)), none, []⟩])
 (.seq (.region [⟨(some 3), .load (some 11) (.t 1), none, []⟩,
 ⟨(some 4), .build [(.int .i64 0), (.int .i64 0), (.int .u32 0), (.int .u32 0), (.int .u32 0), (.int .u32 0), (.int .i64 0), (.int .i64 0), (.int .i64 0), (.int .i64 0), (.list 1 [])] [], none, []⟩,
 ⟨(some 5), .call 107 [(.t 3), (.t 4)], none, []⟩,
 ⟨(some 2), .mv (.t 5), none, []⟩])
 .ret)) }
def c152 : AFn := { nparams := 2, ntmps := 9, results := [.tmp 4], body :=
 (.seq (.region [⟨(some 4), .mv (.c (.bool false)), none, []⟩])
 (.seq (.region [⟨(some 5), .mv (.t 0), none, []⟩,
 ⟨(some 6), .mv (.t 1), none, []⟩,
 ⟨(some 7), .call 193 [(.t 5), (.t 6)], none, []⟩,
 ⟨(some 8), .bin .geq (.t 7) (.c (.int .i64 0)), none, []⟩,
 ⟨(some 4), .mv (.t 8), none, []⟩])
 .ret)) }
def c153 : AFn := { nparams := 2, ntmps := 8, results := [.tmp 3], body :=
 (.seq (.region [⟨(some 2), .boxL [] (.t 0), none, []⟩,
 ⟨(some 3), .mv (.c (.bool false)), none, []⟩])
 (.seq (.region [⟨(some 4), .load none (.t 1), none, []⟩,
 ⟨(some 5), .load (some 11) (.t 2), none, []⟩,
 ⟨(some 6), .call 102 [(.t 4), (.t 5), (.c (.bool false))], none, []⟩,
 ⟨(some 7), .un .not (.t 6), none, []⟩,
 ⟨(some 3), .mv (.t 7), none, []⟩])
 .ret)) }
def c154 : AFn := { nparams := 2, ntmps := 11, results := [.tmp 3], body :=
 (.seq (.region [⟨(some 2), .boxL [] (.t 0), none, []⟩,
 ⟨(some 3), .mv (.c (.int .i64 0)), none, []⟩])
 (.seq (.region [⟨(some 4), .load none (.t 1), none, []⟩,
 ⟨(some 5), .nilc none (.t 4), none, []⟩,
 ⟨(some 6), .faddr 0 none (.t 5), none, []⟩,
 ⟨(some 7), .faddr 0 none (.t 6), none, []⟩,
 ⟨(some 8), .load none (.t 7), none, []⟩,
 ⟨(some 9), .load (some 11) (.t 2), none, []⟩,
 ⟨(some 10), .call 103 [(.t 8), (.t 9)], none, []⟩,
 ⟨(some 3), .mv (.t 10), none, []⟩])
 .ret)) }
def c156 : AFn := { nparams := 3, ntmps := 60, results := [.tmp 6], body :=
 (.seq (.region [⟨(some 3), .boxG (.t 0), none, []⟩,
 ⟨(some 4), .boxL [7, 10, 14, 19, 24, 31, 36, 41, 49] (.t 1), none, []⟩,
 ⟨(some 6), .mv (.c (.bool false)), none, []⟩])
 (.seq (.seq (.region [⟨(some 7), .faddr 6 (some 4) (.t 4), none, []⟩,
 ⟨(some 8), .load none (.t 7), none, []⟩,
 ⟨(some 9), .bin .eql (.t 8) (.c (.int .i64 0)), none, []⟩])
 (.cond (.t 9)
 (.seq (.region [⟨(some 10), .faddr 7 (some 4) (.t 4), none, []⟩,
 ⟨(some 11), .load none (.t 10), none, []⟩,
 ⟨(some 12), .bin .eql (.t 11) (.c (.int .i64 0)), none, []⟩,
 ⟨(some 13), .mv (.t 12), none, []⟩,
 ⟨(some 14), .faddr 8 (some 4) (.t 4), (some (13, true)), []⟩,
 ⟨(some 15), .load none (.t 14), (some (13, true)), []⟩,
 ⟨(some 16), .bin .eql (.t 15) (.c (.int .i64 0)), (some (13, true)), []⟩,
 ⟨(some 17), .pick (.t 13) (.t 16) (.c (.bool false)), none, []⟩,
 ⟨(some 18), .mv (.t 17), none, []⟩,
 ⟨(some 19), .faddr 9 (some 4) (.t 4), (some (18, true)), []⟩,
 ⟨(some 20), .load none (.t 19), (some (18, true)), []⟩,
 ⟨(some 21), .bin .eql (.t 20) (.c (.int .i64 0)), (some (18, true)), []⟩,
 ⟨(some 22), .pick (.t 18) (.t 21) (.c (.bool false)), none, []⟩,
 ⟨(some 23), .mv (.t 22), none, []⟩,
 ⟨(some 24), .faddr 10 (some 4) (.t 4), (some (23, true)), []⟩,
 ⟨(some 25), .load none (.t 24), (some (23, true)), []⟩,
 ⟨(some 26), .len (.t 25), (some (23, true)), []⟩,
 ⟨(some 27), .bin .eql (.t 26) (.c (.int .i64 0)), (some (23, true)), []⟩,
 ⟨(some 28), .pick (.t 23) (.t 27) (.c (.bool false)), none, []⟩,
 ⟨(some 29), .mv (.t 28), none, []⟩,
 ⟨(some 30), .load none (.t 3), (some (29, true)), []⟩,
 ⟨(some 31), .faddr 0 (some 4) (.t 4), (some (29, true)), []⟩,
 ⟨(some 32), .load (some 6) (.t 31), (some (29, true)), []⟩,
 ⟨(some 33), .call 119 [(.t 30), (.t 32)], (some (29, true)), []⟩,
 ⟨(some 34), .bin .neq (.t 33) (.c (.int .i64 0)), (some (29, true)), []⟩,
 ⟨(some 35), .pick (.t 29) (.t 34) (.c (.bool false)), none, []⟩,
 ⟨(some 6), .mv (.t 35), none, []⟩])
 .ret)
 .skip))
 (.seq (.seq (.region [⟨(some 36), .faddr 0 (some 4) (.t 4), none, []⟩,
 ⟨(some 37), .load (some 6) (.t 36), none, []⟩,
 ⟨(some 38), .build [(.int .i64 0), (.int .i64 0), (.int .u32 0), (.int .u32 0), (.int .u32 0), (.int .u32 0)] [], none, []⟩,
 ⟨(some 39), .eqA [true, true, true, true, true, true] true (.t 37) (.t 38), none, []⟩,
 ⟨(some 40), .mv (.t 39), none, []⟩,
 ⟨(some 41), .faddr 6 (some 4) (.t 4), (some (40, false)), []⟩,
 ⟨(some 42), .load none (.t 41), (some (40, false)), []⟩,
 ⟨(some 43), .bin .eql (.t 42) (.c (.int .i64 1)), (some (40, false)), []⟩,
 ⟨(some 44), .mv (.t 43), (some (40, false)), []⟩,
 ⟨(some 45), .mv (.t 2), (some (44, true)), []⟩,
 ⟨(some 46), .un .not (.t 45), (some (44, true)), []⟩,
 ⟨(some 47), .pick (.t 44) (.t 46) (.c (.bool false)), (some (40, false)), []⟩,
 ⟨(some 48), .pick (.t 40) (.c (.bool true)) (.t 47), none, []⟩])
 (.cond (.t 48)
 (.seq (.region [⟨(some 6), .mv (.c (.bool false)), none, []⟩])
 .ret)
 .skip))
 (.seq (.region [⟨(some 49), .faddr 10 (some 4) (.t 4), none, []⟩,
 ⟨(some 50), .load none (.t 49), none, []⟩,
 ⟨(some 51), .mkfn 194 [] [(.t 3)], none, []⟩,
 ⟨(some 52), .call 152 [(.t 50), (.t 51)], none, []⟩,
 ⟨(some 53), .un .not (.t 52), none, []⟩,
 ⟨(some 54), .mv (.t 53), none, []⟩,
 ⟨(some 55), .load none (.t 3), (some (54, true)), []⟩,
 ⟨(some 56), .load (some 11) (.t 4), (some (54, true)), []⟩,
 ⟨(some 57), .call 103 [(.t 55), (.t 56)], (some (54, true)), []⟩,
 ⟨(some 58), .bin .neq (.t 57) (.c (.int .i64 0)), (some (54, true)), []⟩,
 ⟨(some 59), .pick (.t 54) (.t 58) (.c (.bool false)), none, []⟩,
 ⟨(some 6), .mv (.t 59), none, []⟩])
 .ret)))) }
def c158 : AFn := { nparams := 2, ntmps := 220, results := [.tmp 4], body :=
 (.seq (.region [⟨(some 3), .boxL [10, 15, 19, 24, 34, 41, 45, 53, 57, 59, 63, 67, 81, 98, 102, 119, 123, 127, 143, 149, 174, 181, 185, 190, 208, 213, 217] (.t 1), none, []⟩,
 ⟨(some 4), .mv (.c (.int .i64 0)), none, []⟩])
 (.seq (.region [⟨(some 9), .mv (.t 0), none, []⟩,
 ⟨(some 10), .faddr 4 (some 3) (.t 3), none, []⟩,
 ⟨(some 11), .load none (.t 10), none, []⟩,
 ⟨(some 12), .call 162 [(.t 9), (.t 11)], none, []⟩,
 ⟨(some 5), .mv (.t 12), none, []⟩])
 (.seq (.seq (.region [⟨(some 13), .mv (.t 5), none, []⟩,
 ⟨(some 14), .call 163 [(.t 13), (.c (.int .i64 0))], none, []⟩])
 (.cond (.t 14)
 (.seq (.region [⟨(some 4), .mv (.c (.int .i64 0)), none, []⟩])
 .ret)
 .skip))
 (.seq (.region [⟨(some 15), .faddr 2 (some 3) (.t 3), none, []⟩,
 ⟨(some 16), .load none (.t 15), none, []⟩,
 ⟨(some 17), .bin .eql (.t 16) (.c (.int .i64 0)), none, []⟩,
 ⟨(some 18), .mv (.t 17), none, []⟩,
 ⟨(some 19), .faddr 3 (some 3) (.t 3), (some (18, true)), []⟩,
 ⟨(some 20), .load none (.t 19), (some (18, true)), []⟩,
 ⟨(some 21), .bin .eql (.t 20) (.c (.int .i64 0)), (some (18, true)), []⟩,
 ⟨(some 22), .pick (.t 18) (.t 21) (.c (.bool false)), none, []⟩,
 ⟨(some 6), .mv (.t 22), none, []⟩])
 (.seq (.block 0
 (.seq (.region [⟨(some 24), .faddr 0 (some 3) (.t 3), none, []⟩,
 ⟨(some 25), .load none (.t 24), none, []⟩,
 ⟨(some 26), .bin .eql (.t 25) (.c (.int .i64 1)), none, []⟩,
 ⟨(some 27), .mv (.t 26), none, []⟩,
 ⟨(some 28), .mv (.t 5), (some (27, true)), []⟩,
 ⟨(some 29), .len (.t 28), (some (27, true)), []⟩,
 ⟨(some 30), .bin .eql (.t 29) (.c (.int .i64 1)), (some (27, true)), []⟩,
 ⟨(some 31), .pick (.t 27) (.t 30) (.c (.bool false)), none, []⟩,
 ⟨(some 23), .mv (.t 31), none, []⟩])
 (.cond (.t 23)
 (.seq (.region [⟨(some 32), .mv (.t 6), none, []⟩,
 ⟨(some 33), .mv (.t 32), none, []⟩,
 ⟨(some 34), .faddr 1 (some 3) (.t 3), (some (33, true)), []⟩,
 ⟨(some 35), .load none (.t 34), (some (33, true)), []⟩,
 ⟨(some 36), .mv (.t 5), (some (33, true)), []⟩,
 ⟨(some 37), .iaddr 1 (.t 36) (.c (.int .i64 0)), (some (33, true)), []⟩,
 ⟨(some 38), .load none (.t 37), (some (33, true)), []⟩,
 ⟨(some 39), .bin .eql (.t 35) (.t 38), (some (33, true)), []⟩,
 ⟨(some 40), .pick (.t 33) (.t 39) (.c (.bool false)), none, []⟩,
 ⟨(some 41), .faddr 1 (some 3) (.t 3), none, []⟩,
 ⟨(some 42), .load none (.t 41), none, []⟩,
 ⟨(some 43), .call 195 [(.t 40), (.t 42)], none, []⟩,
 ⟨(some 4), .mv (.t 43), none, []⟩])
 .ret)
 (.seq (.region [⟨(some 45), .faddr 0 (some 3) (.t 3), none, []⟩,
 ⟨(some 46), .load none (.t 45), none, []⟩,
 ⟨(some 47), .bin .eql (.t 46) (.c (.int .i64 2)), none, []⟩,
 ⟨(some 48), .mv (.t 47), none, []⟩,
 ⟨(some 49), .mv (.t 5), (some (48, true)), []⟩,
 ⟨(some 50), .len (.t 49), (some (48, true)), []⟩,
 ⟨(some 51), .bin .eql (.t 50) (.c (.int .i64 0)), (some (48, true)), []⟩,
 ⟨(some 52), .pick (.t 48) (.t 51) (.c (.bool false)), none, []⟩,
 ⟨(some 44), .mv (.t 52), none, []⟩])
 (.cond (.t 44)
 (.seq (.region [⟨(some 53), .faddr 2 (some 3) (.t 3), none, []⟩,
 ⟨(some 54), .load none (.t 53), none, []⟩,
 ⟨(some 55), .bin .eql (.t 54) (.c (.int .i64 0)), none, []⟩,
 ⟨(some 56), .mv (.t 55), none, []⟩,
 ⟨(some 57), .faddr 3 (some 3) (.t 3), (some (56, true)), []⟩,
 ⟨(some 58), .load none (.t 57), (some (56, true)), []⟩,
 ⟨(some 59), .faddr 1 (some 3) (.t 3), (some (56, true)), []⟩,
 ⟨(some 60), .load none (.t 59), (some (56, true)), []⟩,
 ⟨(some 63), .faddr 1 (some 3) (.t 3), none, []⟩,
 ⟨(some 64), .load none (.t 63), none, []⟩,
 ⟨(some 61), .call 166 [(.t 58), (.t 60)], (some (56, true)), [⟨none, (.t 63), 64, none⟩]⟩,
 ⟨(some 62), .pick (.t 56) (.t 61) (.c (.bool false)), none, []⟩,
 ⟨(some 65), .call 195 [(.t 62), (.t 64)], none, []⟩,
 ⟨(some 4), .mv (.t 65), none, []⟩])
 .ret)
 (.seq (.region [⟨(some 67), .faddr 0 (some 3) (.t 3), none, []⟩,
 ⟨(some 68), .load none (.t 67), none, []⟩,
 ⟨(some 69), .bin .eql (.t 68) (.c (.int .i64 3)), none, []⟩,
 ⟨(some 70), .mv (.t 69), none, []⟩,
 ⟨(some 71), .mv (.t 5), (some (70, true)), []⟩,
 ⟨(some 72), .len (.t 71), (some (70, true)), []⟩,
 ⟨(some 73), .bin .eql (.t 72) (.c (.int .i64 1)), (some (70, true)), []⟩,
 ⟨(some 74), .pick (.t 70) (.t 73) (.c (.bool false)), none, []⟩,
 ⟨(some 66), .mv (.t 74), none, []⟩])
 (.cond (.t 66)
 (.seq (.region [⟨(some 75), .load (some 5) (.t 3), none, []⟩,
 ⟨(some 76), .mv (.t 5), none, []⟩,
 ⟨(some 77), .iaddr 1 (.t 76) (.c (.int .i64 0)), none, []⟩,
 ⟨(some 78), .load none (.t 77), none, []⟩,
 ⟨(some 79), .call 196 [(.t 75), (.t 78)], none, []⟩,
 ⟨(some 4), .mv (.t 79), none, []⟩])
 .ret)
 (.seq (.region [⟨(some 81), .faddr 0 (some 3) (.t 3), none, []⟩,
 ⟨(some 82), .load none (.t 81), none, []⟩,
 ⟨(some 83), .bin .eql (.t 82) (.c (.int .i64 4)), none, []⟩,
 ⟨(some 84), .mv (.t 83), none, []⟩,
 ⟨(some 85), .mv (.t 5), (some (84, true)), []⟩,
 ⟨(some 86), .len (.t 85), (some (84, true)), []⟩,
 ⟨(some 87), .bin .eql (.t 86) (.c (.int .i64 2)), (some (84, true)), []⟩,
 ⟨(some 88), .pick (.t 84) (.t 87) (.c (.bool false)), none, []⟩,
 ⟨(some 80), .mv (.t 88), none, []⟩])
 (.cond (.t 80)
 (.seq (.region [⟨(some 89), .load (some 5) (.t 3), none, []⟩,
 ⟨(some 90), .mv (.t 5), none, []⟩,
 ⟨(some 91), .iaddr 1 (.t 90) (.c (.int .i64 0)), none, []⟩,
 ⟨(some 92), .load none (.t 91), none, []⟩,
 ⟨(some 93), .mv (.t 5), none, []⟩,
 ⟨(some 94), .iaddr 1 (.t 93) (.c (.int .i64 1)), none, []⟩,
 ⟨(some 95), .load none (.t 94), none, []⟩,
 ⟨(some 96), .call 197 [(.t 89), (.t 92), (.t 95)], none, []⟩,
 ⟨(some 4), .mv (.t 96), none, []⟩])
 .ret)
 (.seq (.region [⟨(some 98), .faddr 0 (some 3) (.t 3), none, []⟩,
 ⟨(some 99), .load none (.t 98), none, []⟩,
 ⟨(some 100), .bin .eql (.t 99) (.c (.int .i64 5)), none, []⟩,
 ⟨(some 101), .mv (.t 100), none, []⟩,
 ⟨(some 102), .faddr 0 (some 3) (.t 3), (some (101, false)), []⟩,
 ⟨(some 103), .load none (.t 102), (some (101, false)), []⟩,
 ⟨(some 104), .bin .eql (.t 103) (.c (.int .i64 6)), (some (101, false)), []⟩,
 ⟨(some 105), .pick (.t 101) (.c (.bool true)) (.t 104), none, []⟩,
 ⟨(some 106), .mv (.t 105), none, []⟩,
 ⟨(some 107), .mv (.t 5), (some (106, true)), []⟩,
 ⟨(some 108), .len (.t 107), (some (106, true)), []⟩,
 ⟨(some 109), .bin .eql (.t 108) (.c (.int .i64 1)), (some (106, true)), []⟩,
 ⟨(some 110), .pick (.t 106) (.t 109) (.c (.bool false)), none, []⟩,
 ⟨(some 97), .mv (.t 110), none, []⟩])
 (.cond (.t 97)
 (.seq (.region [⟨(some 111), .mv (.t 6), none, []⟩,
 ⟨(some 112), .mv (.t 111), none, []⟩,
 ⟨(some 113), .mv (.t 5), (some (112, true)), []⟩,
 ⟨(some 114), .iaddr 1 (.t 113) (.c (.int .i64 0)), (some (112, true)), []⟩,
 ⟨(some 115), .load none (.t 114), (some (112, true)), []⟩,
 ⟨(some 116), .bin .eql (.t 115) (.c (.int .i64 32)), (some (112, true)), []⟩,
 ⟨(some 117), .pick (.t 112) (.t 116) (.c (.bool false)), none, []⟩,
 ⟨(some 118), .mv (.t 117), none, []⟩,
 ⟨(some 119), .faddr 1 (some 3) (.t 3), (some (118, true)), []⟩,
 ⟨(some 120), .load none (.t 119), (some (118, true)), []⟩,
 ⟨(some 123), .faddr 1 (some 3) (.t 3), none, []⟩,
 ⟨(some 124), .load none (.t 123), none, []⟩,
 ⟨(some 121), .call 167 [(.t 120)], (some (118, true)), [⟨none, (.t 123), 124, none⟩]⟩,
 ⟨(some 122), .pick (.t 118) (.t 121) (.c (.bool false)), none, []⟩,
 ⟨(some 125), .call 195 [(.t 122), (.t 124)], none, []⟩,
 ⟨(some 4), .mv (.t 125), none, []⟩])
 .ret)
 (.seq (.region [⟨(some 127), .faddr 0 (some 3) (.t 3), none, []⟩,
 ⟨(some 128), .load none (.t 127), none, []⟩,
 ⟨(some 129), .bin .eql (.t 128) (.c (.int .i64 9)), none, []⟩,
 ⟨(some 130), .mv (.t 129), none, []⟩,
 ⟨(some 131), .mv (.t 5), (some (130, true)), []⟩,
 ⟨(some 132), .len (.t 131), (some (130, true)), []⟩,
 ⟨(some 133), .bin .eql (.t 132) (.c (.int .i64 1)), (some (130, true)), []⟩,
 ⟨(some 134), .pick (.t 130) (.t 133) (.c (.bool false)), none, []⟩,
 ⟨(some 126), .mv (.t 134), none, []⟩])
 (.cond (.t 126)
 (.seq (.region [⟨(some 135), .mv (.t 6), none, []⟩,
 ⟨(some 136), .mv (.t 135), none, []⟩,
 ⟨(some 137), .mv (.t 5), (some (136, true)), []⟩,
 ⟨(some 138), .iaddr 1 (.t 137) (.c (.int .i64 0)), (some (136, true)), []⟩,
 ⟨(some 139), .load none (.t 138), (some (136, true)), []⟩,
 ⟨(some 140), .bin .eql (.t 139) (.c (.int .i64 32)), (some (136, true)), []⟩,
 ⟨(some 141), .pick (.t 136) (.t 140) (.c (.bool false)), none, []⟩,
 ⟨(some 142), .mv (.t 141), none, []⟩,
 ⟨(some 143), .faddr 1 (some 3) (.t 3), (some (142, true)), []⟩,
 ⟨(some 144), .load none (.t 143), (some (142, true)), []⟩,
 ⟨(some 145), .call 167 [(.t 144)], (some (142, true)), []⟩,
 ⟨(some 146), .pick (.t 142) (.t 145) (.c (.bool false)), none, []⟩,
 ⟨(some 147), .call 195 [(.t 146), (.c (.int .i64 32))], none, []⟩,
 ⟨(some 4), .mv (.t 147), none, []⟩])
 .ret)
 (.seq (.region [⟨(some 149), .faddr 0 (some 3) (.t 3), none, []⟩,
 ⟨(some 150), .load none (.t 149), none, []⟩,
 ⟨(some 151), .bin .eql (.t 150) (.c (.int .i64 7)), none, []⟩,
 ⟨(some 152), .mv (.t 151), none, []⟩,
 ⟨(some 153), .mv (.t 5), (some (152, true)), []⟩,
 ⟨(some 154), .len (.t 153), (some (152, true)), []⟩,
 ⟨(some 155), .bin .eql (.t 154) (.c (.int .i64 3)), (some (152, true)), []⟩,
 ⟨(some 156), .pick (.t 152) (.t 155) (.c (.bool false)), none, []⟩,
 ⟨(some 148), .mv (.t 156), none, []⟩])
 (.cond (.t 148)
 (.seq (.region [⟨(some 157), .mv (.t 6), none, []⟩,
 ⟨(some 158), .mv (.t 157), none, []⟩,
 ⟨(some 159), .mv (.t 5), (some (158, true)), []⟩,
 ⟨(some 160), .iaddr 1 (.t 159) (.c (.int .i64 0)), (some (158, true)), []⟩,
 ⟨(some 161), .load none (.t 160), (some (158, true)), []⟩,
 ⟨(some 162), .bin .eql (.t 161) (.c (.int .i64 1)), (some (158, true)), []⟩,
 ⟨(some 163), .pick (.t 158) (.t 162) (.c (.bool false)), none, []⟩,
 ⟨(some 164), .mv (.t 163), none, []⟩,
 ⟨(some 165), .mv (.t 5), (some (164, true)), []⟩,
 ⟨(some 166), .iaddr 1 (.t 165) (.c (.int .i64 1)), (some (164, true)), []⟩,
 ⟨(some 167), .load none (.t 166), (some (164, true)), []⟩,
 ⟨(some 168), .mv (.t 5), (some (164, true)), []⟩,
 ⟨(some 169), .iaddr 1 (.t 168) (.c (.int .i64 2)), (some (164, true)), []⟩,
 ⟨(some 170), .load none (.t 169), (some (164, true)), []⟩,
 ⟨(some 171), .bin .eql (.t 167) (.t 170), (some (164, true)), []⟩,
 ⟨(some 172), .pick (.t 164) (.t 171) (.c (.bool false)), none, []⟩,
 ⟨(some 173), .mv (.t 172), none, []⟩,
 ⟨(some 174), .faddr 1 (some 3) (.t 3), (some (173, true)), []⟩,
 ⟨(some 175), .load none (.t 174), (some (173, true)), []⟩,
 ⟨(some 176), .mv (.t 5), (some (173, true)), []⟩,
 ⟨(some 177), .iaddr 1 (.t 176) (.c (.int .i64 1)), (some (173, true)), []⟩,
 ⟨(some 178), .load none (.t 177), (some (173, true)), []⟩,
 ⟨(some 179), .bin .eql (.t 175) (.t 178), (some (173, true)), []⟩,
 ⟨(some 180), .pick (.t 173) (.t 179) (.c (.bool false)), none, []⟩,
 ⟨(some 181), .faddr 1 (some 3) (.t 3), none, []⟩,
 ⟨(some 182), .load none (.t 181), none, []⟩,
 ⟨(some 183), .call 195 [(.t 180), (.t 182)], none, []⟩,
 ⟨(some 4), .mv (.t 183), none, []⟩])
 .ret)
 (.seq (.region [⟨(some 185), .faddr 0 (some 3) (.t 3), none, []⟩,
 ⟨(some 186), .load none (.t 185), none, []⟩,
 ⟨(some 187), .bin .eql (.t 186) (.c (.int .i64 8)), none, []⟩,
 ⟨(some 184), .mv (.t 187), none, []⟩])
 (.cond (.t 184)
 (.seq (.region [⟨(some 188), .mkmap, none, []⟩,
 ⟨none, .upd .i64 (.t 188) (.c (.int .i64 1)) (.c (.int .i64 4)), none, []⟩,
 ⟨none, .upd .i64 (.t 188) (.c (.int .i64 2)) (.c (.int .i64 5)), none, []⟩,
 ⟨(some 189), .mv (.t 188), none, []⟩,
 ⟨(some 190), .faddr 2 (some 3) (.t 3), none, []⟩,
 ⟨(some 191), .load none (.t 190), none, []⟩,
 ⟨(some 192), .look .i64 (.int .i64 0) false (.t 189) (.t 191), none, []⟩,
 ⟨(some 7), .mv (.t 192), none, []⟩])
 (.seq (.region [⟨(some 193), .mv (.t 5), none, []⟩,
 ⟨(some 194), .call 109 [(.t 193), (.c (.fn 198 [] []))], none, []⟩,
 ⟨(some 195), .un .not (.t 194), none, []⟩,
 ⟨(some 8), .mv (.t 195), none, []⟩])
 (.seq (.region [⟨(some 196), .mv (.t 7), none, []⟩,
 ⟨(some 197), .bin .gtr (.t 196) (.c (.int .i64 0)), none, []⟩,
 ⟨(some 198), .mv (.t 197), none, []⟩,
 ⟨(some 199), .mv (.t 5), (some (198, true)), []⟩,
 ⟨(some 200), .len (.t 199), (some (198, true)), []⟩,
 ⟨(some 201), .mv (.t 7), (some (198, true)), []⟩,
 ⟨(some 202), .bin .eql (.t 200) (.t 201), (some (198, true)), []⟩,
 ⟨(some 203), .pick (.t 198) (.t 202) (.c (.bool false)), none, []⟩,
 ⟨(some 204), .mv (.t 203), none, []⟩,
 ⟨(some 205), .mv (.t 8), (some (204, true)), []⟩,
 ⟨(some 206), .pick (.t 204) (.t 205) (.c (.bool false)), none, []⟩,
 ⟨(some 207), .mv (.t 206), none, []⟩,
 ⟨(some 208), .faddr 3 (some 3) (.t 3), (some (207, true)), []⟩,
 ⟨(some 209), .load none (.t 208), (some (207, true)), []⟩,
 ⟨(some 210), .bin .eql (.t 209) (.c (.int .i64 0)), (some (207, true)), []⟩,
 ⟨(some 211), .pick (.t 207) (.t 210) (.c (.bool false)), none, []⟩,
 ⟨(some 212), .mv (.t 211), none, []⟩,
 ⟨(some 213), .faddr 1 (some 3) (.t 3), (some (212, true)), []⟩,
 ⟨(some 214), .load none (.t 213), (some (212, true)), []⟩,
 ⟨(some 215), .bin .eql (.t 214) (.c (.int .i64 32)), (some (212, true)), []⟩,
 ⟨(some 216), .pick (.t 212) (.t 215) (.c (.bool false)), none, []⟩,
 ⟨(some 217), .faddr 1 (some 3) (.t 3), none, []⟩,
 ⟨(some 218), .load none (.t 217), none, []⟩,
 ⟨(some 219), .call 195 [(.t 216), (.t 218)], none, []⟩,
 ⟨(some 4), .mv (.t 219), none, []⟩])
 .ret)))
 .skip)))))))))))))))))
 (.seq (.region [⟨(some 4), .mv (.c (.int .i64 0)), none, []⟩])
 .ret)))))) }
end Go.Proofs.YtkgmeeenacnhfaaGreat.Eng
