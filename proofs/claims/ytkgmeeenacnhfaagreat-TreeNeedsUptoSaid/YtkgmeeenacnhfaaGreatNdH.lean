/- The seat's functions as abstract code, the second part, and the table. No condition. -/
import Derived.Test.YtkgmeeenacnhfaaGreatNdG
set_option linter.unusedVariables false
set_option linter.unusedSimpArgs false
namespace Go.Proofs.YtkgmeeenacnhfaaGreat.Eng
def c159 : AFn := { nparams := 3, ntmps := 32, results := [.tmp 6], body :=
 (.seq (.region [⟨(some 6), .mv (.c (.bool false)), none, []⟩])
 (.seq (.seq (.region [⟨(some 10), .mv (.t 0), none, []⟩,
 ⟨(some 11), .len (.t 10), none, []⟩,
 ⟨(some 12), .mv (.t 1), none, []⟩,
 ⟨(some 13), .len (.t 12), none, []⟩,
 ⟨(some 14), .bin .neq (.t 11) (.t 13), none, []⟩])
 (.cond (.t 14)
 (.seq (.region [⟨(some 6), .mv (.c (.bool false)), none, []⟩])
 .ret)
 .skip))
 (.seq (.seq (.region [⟨(some 15), .mv (.t 0), none, []⟩,
 ⟨(some 16), .len (.t 15), none, []⟩,
 ⟨(some 17), .mv (.c (.int .i64 0)), none, []⟩])
 (.block 0
 (.loop
 (.seq (.region [⟨(some 18), .bin .lss (.t 17) (.t 16), none, []⟩])
 (.seq (.cond (.t 18)
 .skip
 (.exit 0))
 (.seq (.block 1
 (.seq (.region [⟨(some 19), .mv (.t 17), none, []⟩,
 ⟨(some 20), .iaddr 11 (.t 15) (.t 17), none, []⟩,
 ⟨(some 21), .load (some 11) (.t 20), none, []⟩,
 ⟨(some 8), .boxL [] (.c (.agg [(.int .i64 0), (.int .i64 0), (.int .u32 0), (.int .u32 0), (.int .u32 0), (.int .u32 0), (.int .i64 0), (.int .i64 0), (.int .i64 0), (.int .i64 0), (.list 1 [])])), none, []⟩,
 ⟨(some 7), .mv (.t 19), none, []⟩,
 ⟨none, .store 11 (.t 8) (.t 21), none, []⟩])
 (.seq (.region [⟨(some 22), .mv (.t 1), none, []⟩,
 ⟨(some 23), .mv (.t 7), none, []⟩,
 ⟨(some 24), .iaddr 11 (.t 22) (.t 23), none, []⟩,
 ⟨(some 25), .load (some 11) (.t 24), none, []⟩,
 ⟨(some 9), .boxL [] (.c (.agg [(.int .i64 0), (.int .i64 0), (.int .u32 0), (.int .u32 0), (.int .u32 0), (.int .u32 0), (.int .i64 0), (.int .i64 0), (.int .i64 0), (.int .i64 0), (.list 1 [])])), none, []⟩,
 ⟨none, .store 11 (.t 9) (.t 25), none, []⟩])
 (.seq (.region [⟨(some 26), .mv (.t 2), none, []⟩,
 ⟨(some 27), .load (some 11) (.t 8), none, []⟩,
 ⟨(some 28), .load (some 11) (.t 9), none, []⟩,
 ⟨(some 29), .callv (.t 26) [(.t 27), (.t 28)], none, []⟩,
 ⟨(some 30), .un .not (.t 29), none, []⟩])
 (.cond (.t 30)
 (.seq (.region [⟨(some 6), .mv (.c (.bool false)), none, []⟩])
 .ret)
 .skip)))))
 (.region [⟨(some 31), .bin .add (.t 17) (.c (.int .i64 1)), none, []⟩,
 ⟨(some 17), .mv (.t 31), none, []⟩])))))))
 (.seq (.region [⟨(some 6), .mv (.c (.bool true)), none, []⟩])
 .ret)))) }
def c160 : AFn := { nparams := 2, ntmps := 19, results := [.tmp 4], body :=
 (.seq (.region [⟨(some 4), .mv (.c (.int .i64 0)), none, []⟩])
 (.seq (.seq (.region [⟨(some 6), .mv (.t 0), none, []⟩,
 ⟨(some 7), .len (.t 6), none, []⟩,
 ⟨(some 8), .mv (.c (.int .i64 0)), none, []⟩])
 (.block 0
 (.loop
 (.seq (.region [⟨(some 9), .bin .lss (.t 8) (.t 7), none, []⟩])
 (.seq (.cond (.t 9)
 .skip
 (.exit 0))
 (.seq (.block 1
 (.seq (.region [⟨(some 10), .mv (.t 8), none, []⟩,
 ⟨(some 5), .mv (.t 10), none, []⟩])
 (.seq (.region [⟨(some 11), .mv (.t 1), none, []⟩,
 ⟨(some 12), .mv (.t 0), none, []⟩,
 ⟨(some 13), .mv (.t 5), none, []⟩,
 ⟨(some 14), .iaddr 1 (.t 12) (.t 13), none, []⟩,
 ⟨(some 15), .load none (.t 14), none, []⟩,
 ⟨(some 16), .callv (.t 11) [(.t 15)], none, []⟩])
 (.cond (.t 16)
 (.seq (.region [⟨(some 17), .mv (.t 5), none, []⟩,
 ⟨(some 4), .mv (.t 17), none, []⟩])
 .ret)
 .skip))))
 (.region [⟨(some 18), .bin .add (.t 8) (.c (.int .i64 1)), none, []⟩,
 ⟨(some 8), .mv (.t 18), none, []⟩])))))))
 (.seq (.region [⟨(some 4), .mv (.c (.int .i64 (-1))), none, []⟩])
 .ret))) }
def c161 : AFn := { nparams := 2, ntmps := 19, results := [.tmp 4], body :=
 (.seq (.region [⟨(some 4), .mv (.c (.int .i64 0)), none, []⟩])
 (.seq (.seq (.region [⟨(some 6), .mv (.t 0), none, []⟩,
 ⟨(some 7), .len (.t 6), none, []⟩,
 ⟨(some 8), .mv (.c (.int .i64 0)), none, []⟩])
 (.block 0
 (.loop
 (.seq (.region [⟨(some 9), .bin .lss (.t 8) (.t 7), none, []⟩])
 (.seq (.cond (.t 9)
 .skip
 (.exit 0))
 (.seq (.block 1
 (.seq (.region [⟨(some 10), .mv (.t 8), none, []⟩,
 ⟨(some 5), .mv (.t 10), none, []⟩])
 (.seq (.region [⟨(some 11), .mv (.t 1), none, []⟩,
 ⟨(some 12), .mv (.t 0), none, []⟩,
 ⟨(some 13), .mv (.t 5), none, []⟩,
 ⟨(some 14), .iaddr 2 (.t 12) (.t 13), none, []⟩,
 ⟨(some 15), .load (some 2) (.t 14), none, []⟩,
 ⟨(some 16), .callv (.t 11) [(.t 15)], none, []⟩])
 (.cond (.t 16)
 (.seq (.region [⟨(some 17), .mv (.t 5), none, []⟩,
 ⟨(some 4), .mv (.t 17), none, []⟩])
 .ret)
 .skip))))
 (.region [⟨(some 18), .bin .add (.t 8) (.c (.int .i64 1)), none, []⟩,
 ⟨(some 8), .mv (.t 18), none, []⟩])))))))
 (.seq (.region [⟨(some 4), .mv (.c (.int .i64 (-1))), none, []⟩])
 .ret))) }
def c162 : AFn := { nparams := 2, ntmps := 8, results := [.tmp 4], body :=
 (.seq (.region [⟨(some 2), .boxG (.t 0), none, []⟩,
 ⟨(some 4), .mv (.c (.list 1 [])), none, []⟩])
 (.seq (.region [⟨(some 5), .mv (.t 1), none, []⟩,
 ⟨(some 6), .mkfn 200 [] [(.t 2)], none, []⟩,
 ⟨(some 7), .call 199 [(.t 5), (.t 6)], none, []⟩,
 ⟨(some 4), .mv (.t 7), none, []⟩])
 .ret)) }
def c163 : AFn := { nparams := 2, ntmps := 9, results := [.tmp 4], body :=
 (.seq (.region [⟨(some 4), .mv (.c (.bool false)), none, []⟩])
 (.seq (.region [⟨(some 5), .mv (.t 0), none, []⟩,
 ⟨(some 6), .mv (.t 1), none, []⟩,
 ⟨(some 7), .call 201 [(.t 5), (.t 6)], none, []⟩,
 ⟨(some 8), .bin .geq (.t 7) (.c (.int .i64 0)), none, []⟩,
 ⟨(some 4), .mv (.t 8), none, []⟩])
 .ret)) }
def c164 : AFn := { nparams := 1, ntmps := 27, results := [.tmp 2], body :=
 (.seq (.region [⟨(some 1), .boxL [3, 7, 12, 17, 22] (.t 0), none, []⟩,
 ⟨(some 2), .mv (.c (.bool false)), none, []⟩])
 (.seq (.region [⟨(some 3), .faddr 0 (some 1) (.t 1), none, []⟩,
 ⟨(some 4), .load none (.t 3), none, []⟩,
 ⟨(some 5), .bin .eql (.t 4) (.c (.int .i64 0)), none, []⟩,
 ⟨(some 6), .mv (.t 5), none, []⟩,
 ⟨(some 7), .faddr 1 (some 1) (.t 1), (some (6, true)), []⟩,
 ⟨(some 8), .load none (.t 7), (some (6, true)), []⟩,
 ⟨(some 9), .bin .eql (.t 8) (.c (.int .i64 0)), (some (6, true)), []⟩,
 ⟨(some 10), .pick (.t 6) (.t 9) (.c (.bool false)), none, []⟩,
 ⟨(some 11), .mv (.t 10), none, []⟩,
 ⟨(some 12), .faddr 2 (some 1) (.t 1), (some (11, true)), []⟩,
 ⟨(some 13), .load none (.t 12), (some (11, true)), []⟩,
 ⟨(some 14), .bin .eql (.t 13) (.c (.int .i64 0)), (some (11, true)), []⟩,
 ⟨(some 15), .pick (.t 11) (.t 14) (.c (.bool false)), none, []⟩,
 ⟨(some 16), .mv (.t 15), none, []⟩,
 ⟨(some 17), .faddr 3 (some 1) (.t 1), (some (16, true)), []⟩,
 ⟨(some 18), .load none (.t 17), (some (16, true)), []⟩,
 ⟨(some 19), .bin .eql (.t 18) (.c (.int .i64 0)), (some (16, true)), []⟩,
 ⟨(some 20), .pick (.t 16) (.t 19) (.c (.bool false)), none, []⟩,
 ⟨(some 21), .mv (.t 20), none, []⟩,
 ⟨(some 22), .faddr 4 (some 1) (.t 1), (some (21, true)), []⟩,
 ⟨(some 23), .load none (.t 22), (some (21, true)), []⟩,
 ⟨(some 24), .len (.t 23), (some (21, true)), []⟩,
 ⟨(some 25), .bin .eql (.t 24) (.c (.int .i64 0)), (some (21, true)), []⟩,
 ⟨(some 26), .pick (.t 21) (.t 25) (.c (.bool false)), none, []⟩,
 ⟨(some 2), .mv (.t 26), none, []⟩])
 .ret)) }
def c166 : AFn := { nparams := 2, ntmps := 26, results := [.tmp 4], body :=
 (.seq (.region [⟨(some 4), .mv (.c (.bool false)), none, []⟩])
 (.seq (.region [⟨(some 6), .mv (.t 1), none, []⟩,
 ⟨(some 7), .call 111 [(.t 6)], none, []⟩,
 ⟨(some 5), .mv (.t 7), none, []⟩])
 (.seq (.region [⟨(some 8), .mv (.t 1), none, []⟩,
 ⟨(some 9), .call 167 [(.t 8)], none, []⟩,
 ⟨(some 10), .mv (.t 9), none, []⟩,
 ⟨(some 11), .mv (.t 0), (some (10, true)), []⟩,
 ⟨(some 12), .bin .geq (.t 11) (.c (.int .i64 0)), (some (10, true)), []⟩,
 ⟨(some 13), .pick (.t 10) (.t 12) (.c (.bool false)), none, []⟩,
 ⟨(some 14), .mv (.t 13), none, []⟩,
 ⟨(some 15), .mv (.t 0), (some (14, true)), []⟩,
 ⟨(some 16), .mv (.t 5), (some (14, true)), []⟩,
 ⟨(some 17), .bin .rem (.t 15) (.t 16), (some (14, true)), []⟩,
 ⟨(some 18), .bin .eql (.t 17) (.c (.int .i64 0)), (some (14, true)), []⟩,
 ⟨(some 19), .pick (.t 14) (.t 18) (.c (.bool false)), none, []⟩,
 ⟨(some 20), .mv (.t 19), none, []⟩,
 ⟨(some 21), .mv (.t 0), (some (20, true)), []⟩,
 ⟨(some 22), .mv (.t 5), (some (20, true)), []⟩,
 ⟨(some 23), .bin .sub (.c (.int .i64 672)) (.t 22), (some (20, true)), []⟩,
 ⟨(some 24), .bin .leq (.t 21) (.t 23), (some (20, true)), []⟩,
 ⟨(some 25), .pick (.t 20) (.t 24) (.c (.bool false)), none, []⟩,
 ⟨(some 4), .mv (.t 25), none, []⟩])
 .ret))) }
def c167 : AFn := { nparams := 1, ntmps := 10, results := [.tmp 2], body :=
 (.seq (.region [⟨(some 2), .mv (.c (.bool false)), none, []⟩])
 (.seq (.region [⟨(some 3), .mv (.t 0), none, []⟩,
 ⟨(some 4), .bin .neq (.t 3) (.c (.int .i64 1)), none, []⟩,
 ⟨(some 5), .mv (.t 4), none, []⟩,
 ⟨(some 6), .mv (.t 0), (some (5, true)), []⟩,
 ⟨(some 7), .call 111 [(.t 6)], (some (5, true)), []⟩,
 ⟨(some 8), .bin .gtr (.t 7) (.c (.int .i64 0)), (some (5, true)), []⟩,
 ⟨(some 9), .pick (.t 5) (.t 8) (.c (.bool false)), none, []⟩,
 ⟨(some 2), .mv (.t 9), none, []⟩])
 .ret)) }
def c170 : AFn := { nparams := 1, ntmps := 4, results := [.tmp 2], body :=
 (.seq (.region [⟨(some 1), .boxG (.t 0), none, []⟩,
 ⟨(some 2), .mv (.c .nilf), none, []⟩])
 (.seq (.region [⟨(some 3), .mkfn 202 [] [(.t 1)], none, []⟩,
 ⟨(some 2), .mv (.t 3), none, []⟩])
 .ret)) }
def c172 : AFn := { nparams := 1, ntmps := 4, results := [.tmp 2], body :=
 (.seq (.region [⟨(some 1), .boxG (.t 0), none, []⟩,
 ⟨(some 2), .mv (.c .nilf), none, []⟩])
 (.seq (.region [⟨(some 3), .mkfn 205 [] [(.t 1)], none, []⟩,
 ⟨(some 2), .mv (.t 3), none, []⟩])
 .ret)) }
def c177 : AFn := { nparams := 3, ntmps := 38, results := [.tmp 4], body :=
 (.seq (.region [⟨(some 3), .boxL [9, 30, 32] (.t 0), none, []⟩,
 ⟨(some 4), .mv (.c (.bool false)), none, []⟩])
 (.seq (.region [⟨(some 5), .faddr 0 none (.t 1), none, []⟩,
 ⟨(some 6), .load none (.t 5), none, []⟩,
 ⟨(some 7), .bin .eql (.t 6) (.c (.int .i64 3)), none, []⟩,
 ⟨(some 8), .mv (.t 7), none, []⟩,
 ⟨(some 9), .faddr 9 (some 3) (.t 3), (some (8, true)), []⟩,
 ⟨(some 10), .load none (.t 9), (some (8, true)), []⟩,
 ⟨(some 11), .faddr 2 none (.t 1), (some (8, true)), []⟩,
 ⟨(some 12), .load none (.t 11), (some (8, true)), []⟩,
 ⟨(some 13), .load none (.t 2), (some (8, true)), []⟩,
 ⟨(some 14), .nilc none (.t 13), (some (8, true)), []⟩,
 ⟨(some 15), .faddr 0 none (.t 14), (some (8, true)), []⟩,
 ⟨(some 16), .faddr 0 none (.t 15), (some (8, true)), []⟩,
 ⟨(some 17), .load none (.t 16), (some (8, true)), []⟩,
 ⟨(some 18), .faddr 18 none (.t 1), (some (8, true)), []⟩,
 ⟨(some 19), .load none (.t 18), (some (8, true)), []⟩,
 ⟨(some 20), .iaddr 11 (.t 19) (.c (.int .i64 0)), (some (8, true)), []⟩,
 ⟨(some 21), .load (some 11) (.t 20), (some (8, true)), []⟩,
 ⟨(some 22), .call 103 [(.t 17), (.t 21)], (some (8, true)), [⟨none, (.t 11), 12, (some (8, true))⟩, ⟨none, (.t 9), 10, (some (8, true))⟩]⟩,
 ⟨(some 23), .call 111 [(.t 22)], (some (8, true)), [⟨none, (.t 11), 12, (some (8, true))⟩, ⟨none, (.t 9), 10, (some (8, true))⟩]⟩,
 ⟨(some 24), .bin .add (.t 12) (.t 23), (some (8, true)), []⟩,
 ⟨(some 25), .bin .lss (.t 10) (.t 24), (some (8, true)), []⟩,
 ⟨(some 26), .pick (.t 8) (.t 25) (.c (.bool false)), none, []⟩,
 ⟨(some 27), .mv (.t 26), none, []⟩,
 ⟨(some 28), .faddr 2 none (.t 1), (some (27, true)), []⟩,
 ⟨(some 29), .load none (.t 28), (some (27, true)), []⟩,
 ⟨(some 30), .faddr 9 (some 3) (.t 3), (some (27, true)), []⟩,
 ⟨(some 31), .load none (.t 30), (some (27, true)), []⟩,
 ⟨(some 32), .faddr 7 (some 3) (.t 3), (some (27, true)), []⟩,
 ⟨(some 33), .load none (.t 32), (some (27, true)), []⟩,
 ⟨(some 34), .call 111 [(.t 33)], (some (27, true)), [⟨none, (.t 30), 31, (some (27, true))⟩, ⟨none, (.t 28), 29, (some (27, true))⟩]⟩,
 ⟨(some 35), .bin .add (.t 31) (.t 34), (some (27, true)), []⟩,
 ⟨(some 36), .bin .lss (.t 29) (.t 35), (some (27, true)), []⟩,
 ⟨(some 37), .pick (.t 27) (.t 36) (.c (.bool false)), none, []⟩,
 ⟨(some 4), .mv (.t 37), none, []⟩])
 .ret)) }
def c181 : AFn := { nparams := 4, ntmps := 53, results := [], body :=
 (.seq (.region [⟨(some 10), .mv (.t 1), none, []⟩,
 ⟨(some 11), .bin .add (.t 10) (.c (.int .i64 1)), none, []⟩,
 ⟨(some 8), .mv (.t 11), none, []⟩])
 (.block 0
 (.loop
 (.seq (.seq (.region [⟨(some 12), .mv (.t 8), none, []⟩,
 ⟨(some 13), .mv (.t 2), none, []⟩,
 ⟨(some 14), .bin .lss (.t 12) (.t 13), none, []⟩])
 (.cond (.t 14)
 .skip
 (.exit 0)))
 (.seq (.block 1
 (.seq (.region [⟨(some 17), .mv (.t 8), none, []⟩,
 ⟨(some 9), .mv (.t 17), none, []⟩])
 (.block 2
 (.loop
 (.seq (.seq (.region [⟨(some 18), .mv (.t 9), none, []⟩,
 ⟨(some 19), .mv (.t 1), none, []⟩,
 ⟨(some 20), .bin .gtr (.t 18) (.t 19), none, []⟩,
 ⟨(some 21), .mv (.t 20), none, []⟩,
 ⟨(some 22), .mv (.t 3), (some (21, true)), []⟩,
 ⟨(some 23), .mv (.t 0), (some (21, true)), []⟩,
 ⟨(some 24), .mv (.t 9), (some (21, true)), []⟩,
 ⟨(some 25), .iaddr 1 (.t 23) (.t 24), (some (21, true)), []⟩,
 ⟨(some 26), .load none (.t 25), (some (21, true)), []⟩,
 ⟨(some 27), .mv (.t 0), (some (21, true)), []⟩,
 ⟨(some 28), .mv (.t 9), (some (21, true)), []⟩,
 ⟨(some 29), .bin .sub (.t 28) (.c (.int .i64 1)), (some (21, true)), []⟩,
 ⟨(some 30), .iaddr 1 (.t 27) (.t 29), (some (21, true)), []⟩,
 ⟨(some 31), .load none (.t 30), (some (21, true)), []⟩,
 ⟨(some 32), .callv (.t 22) [(.t 26), (.t 31)], (some (21, true)), []⟩,
 ⟨(some 33), .bin .lss (.t 32) (.c (.int .i64 0)), (some (21, true)), []⟩,
 ⟨(some 34), .pick (.t 21) (.t 33) (.c (.bool false)), none, []⟩])
 (.cond (.t 34)
 .skip
 (.exit 2)))
 (.seq (.block 3
 (.region [⟨(some 37), .mv (.t 0), none, []⟩,
 ⟨(some 38), .mv (.t 9), none, []⟩,
 ⟨(some 39), .mv (.t 0), none, []⟩,
 ⟨(some 40), .mv (.t 9), none, []⟩,
 ⟨(some 41), .bin .sub (.t 40) (.c (.int .i64 1)), none, []⟩,
 ⟨(some 42), .mv (.t 0), none, []⟩,
 ⟨(some 43), .mv (.t 9), none, []⟩,
 ⟨(some 44), .bin .sub (.t 43) (.c (.int .i64 1)), none, []⟩,
 ⟨(some 45), .iaddr 1 (.t 42) (.t 44), none, []⟩,
 ⟨(some 46), .load none (.t 45), none, []⟩,
 ⟨(some 47), .mv (.t 0), none, []⟩,
 ⟨(some 48), .mv (.t 9), none, []⟩,
 ⟨(some 49), .iaddr 1 (.t 47) (.t 48), none, []⟩,
 ⟨(some 50), .load none (.t 49), none, []⟩,
 ⟨(some 51), .iaddr 1 (.t 37) (.t 38), none, []⟩,
 ⟨none, .store 1 (.t 51) (.t 46), none, []⟩,
 ⟨(some 52), .iaddr 1 (.t 39) (.t 41), none, []⟩,
 ⟨none, .store 1 (.t 52) (.t 50), none, []⟩]))
 (.region [⟨(some 35), .mv (.t 9), none, []⟩,
 ⟨(some 36), .bin .sub (.t 35) (.c (.int .i64 1)), none, []⟩,
 ⟨(some 9), .mv (.t 36), none, []⟩])))))))
 (.region [⟨(some 15), .mv (.t 8), none, []⟩,
 ⟨(some 16), .bin .add (.t 15) (.c (.int .i64 1)), none, []⟩,
 ⟨(some 8), .mv (.t 16), none, []⟩])))))) }
def c190 : AFn := { nparams := 1, ntmps := 25, results := [.tmp 2], body :=
 (.seq (.region [⟨(some 2), .mv (.c (.int .i64 0)), none, []⟩])
 (.seq (.seq (.region [⟨(some 3), .mv (.t 0), none, []⟩,
 ⟨(some 4), .bin .geq (.t 3) (.c (.int .u64 4294967296)), none, []⟩])
 (.cond (.t 4)
 (.seq (.region [⟨(some 5), .mv (.t 0), none, []⟩,
 ⟨(some 6), .bin .shr (.t 5) (.c (.int .u64 32)), none, []⟩,
 ⟨(some 0), .mv (.t 6), none, []⟩])
 (.region [⟨(some 2), .mv (.c (.int .i64 32)), none, []⟩]))
 .skip))
 (.seq (.seq (.region [⟨(some 7), .mv (.t 0), none, []⟩,
 ⟨(some 8), .bin .geq (.t 7) (.c (.int .u64 65536)), none, []⟩])
 (.cond (.t 8)
 (.seq (.region [⟨(some 9), .mv (.t 0), none, []⟩,
 ⟨(some 10), .bin .shr (.t 9) (.c (.int .u64 16)), none, []⟩,
 ⟨(some 0), .mv (.t 10), none, []⟩])
 (.region [⟨(some 11), .mv (.t 2), none, []⟩,
 ⟨(some 12), .bin .add (.t 11) (.c (.int .i64 16)), none, []⟩,
 ⟨(some 2), .mv (.t 12), none, []⟩]))
 .skip))
 (.seq (.seq (.region [⟨(some 13), .mv (.t 0), none, []⟩,
 ⟨(some 14), .bin .geq (.t 13) (.c (.int .u64 256)), none, []⟩])
 (.cond (.t 14)
 (.seq (.region [⟨(some 15), .mv (.t 0), none, []⟩,
 ⟨(some 16), .bin .shr (.t 15) (.c (.int .u64 8)), none, []⟩,
 ⟨(some 0), .mv (.t 16), none, []⟩])
 (.region [⟨(some 17), .mv (.t 2), none, []⟩,
 ⟨(some 18), .bin .add (.t 17) (.c (.int .i64 8)), none, []⟩,
 ⟨(some 2), .mv (.t 18), none, []⟩]))
 .skip))
 (.seq (.region [⟨(some 19), .mv (.t 2), none, []⟩,
 ⟨(some 20), .mv (.t 0), none, []⟩,
 ⟨(some 21), .conv .u8 (.t 20), none, []⟩,
 ⟨(some 22), .sidx (.c (.str [0, 1, 2, 2, 3, 3, 3, 3, 4, 4, 4, 4, 4, 4, 4, 4, 5, 5, 5, 5, 5, 5, 5, 5, 5, 5, 5, 5, 5, 5, 5, 5, 6, 6, 6, 6, 6, 6, 6, 6, 6, 6, 6, 6, 6, 6, 6, 6, 6, 6, 6, 6, 6, 6, 6, 6, 6, 6, 6, 6, 6, 6, 6, 6, 7, 7, 7, 7, 7, 7, 7, 7, 7, 7, 7, 7, 7, 7, 7, 7, 7, 7, 7, 7, 7, 7, 7, 7, 7, 7, 7, 7, 7, 7, 7, 7, 7, 7, 7, 7, 7, 7, 7, 7, 7, 7, 7, 7, 7, 7, 7, 7, 7, 7, 7, 7, 7, 7, 7, 7, 7, 7, 7, 7, 7, 7, 7, 7, 8, 8, 8, 8, 8, 8, 8, 8, 8, 8, 8, 8, 8, 8, 8, 8, 8, 8, 8, 8, 8, 8, 8, 8, 8, 8, 8, 8, 8, 8, 8, 8, 8, 8, 8, 8, 8, 8, 8, 8, 8, 8, 8, 8, 8, 8, 8, 8, 8, 8, 8, 8, 8, 8, 8, 8, 8, 8, 8, 8, 8, 8, 8, 8, 8, 8, 8, 8, 8, 8, 8, 8, 8, 8, 8, 8, 8, 8, 8, 8, 8, 8, 8, 8, 8, 8, 8, 8, 8, 8, 8, 8, 8, 8, 8, 8, 8, 8, 8, 8, 8, 8, 8, 8, 8, 8, 8, 8, 8, 8, 8, 8, 8, 8, 8, 8, 8, 8, 8, 8, 8, 8, 8, 8, 8, 8, 8, 8])) (.t 21), none, []⟩,
 ⟨(some 23), .conv .i64 (.t 22), none, []⟩,
 ⟨(some 24), .bin .add (.t 19) (.t 23), none, []⟩,
 ⟨(some 2), .mv (.t 24), none, []⟩])
 .ret))))) }
def c193 : AFn := { nparams := 2, ntmps := 19, results := [.tmp 4], body :=
 (.seq (.region [⟨(some 4), .mv (.c (.int .i64 0)), none, []⟩])
 (.seq (.seq (.region [⟨(some 6), .mv (.t 0), none, []⟩,
 ⟨(some 7), .len (.t 6), none, []⟩,
 ⟨(some 8), .mv (.c (.int .i64 0)), none, []⟩])
 (.block 0
 (.loop
 (.seq (.region [⟨(some 9), .bin .lss (.t 8) (.t 7), none, []⟩])
 (.seq (.cond (.t 9)
 .skip
 (.exit 0))
 (.seq (.block 1
 (.seq (.region [⟨(some 10), .mv (.t 8), none, []⟩,
 ⟨(some 5), .mv (.t 10), none, []⟩])
 (.seq (.region [⟨(some 11), .mv (.t 1), none, []⟩,
 ⟨(some 12), .mv (.t 0), none, []⟩,
 ⟨(some 13), .mv (.t 5), none, []⟩,
 ⟨(some 14), .iaddr 11 (.t 12) (.t 13), none, []⟩,
 ⟨(some 15), .load (some 11) (.t 14), none, []⟩,
 ⟨(some 16), .callv (.t 11) [(.t 15)], none, []⟩])
 (.cond (.t 16)
 (.seq (.region [⟨(some 17), .mv (.t 5), none, []⟩,
 ⟨(some 4), .mv (.t 17), none, []⟩])
 .ret)
 .skip))))
 (.region [⟨(some 18), .bin .add (.t 8) (.c (.int .i64 1)), none, []⟩,
 ⟨(some 8), .mv (.t 18), none, []⟩])))))))
 (.seq (.region [⟨(some 4), .mv (.c (.int .i64 (-1))), none, []⟩])
 .ret))) }
def c195 : AFn := { nparams := 2, ntmps := 13, results := [.tmp 4], body :=
 (.seq (.region [⟨(some 4), .mv (.c (.int .i64 0)), none, []⟩])
 (.seq (.seq (.region [⟨(some 5), .mv (.t 0), none, []⟩,
 ⟨(some 6), .un .not (.t 5), none, []⟩,
 ⟨(some 7), .mv (.t 6), none, []⟩,
 ⟨(some 8), .mv (.t 1), (some (7, false)), []⟩,
 ⟨(some 9), .call 111 [(.t 8)], (some (7, false)), []⟩,
 ⟨(some 10), .bin .eql (.t 9) (.c (.int .i64 0)), (some (7, false)), []⟩,
 ⟨(some 11), .pick (.t 7) (.c (.bool true)) (.t 10), none, []⟩])
 (.cond (.t 11)
 (.seq (.region [⟨(some 4), .mv (.c (.int .i64 0)), none, []⟩])
 .ret)
 .skip))
 (.seq (.region [⟨(some 12), .mv (.t 1), none, []⟩,
 ⟨(some 4), .mv (.t 12), none, []⟩])
 .ret))) }
def c197 : AFn := { nparams := 3, ntmps := 156, results := [.tmp 6], body :=
 (.seq (.region [⟨(some 3), .boxL [22, 25, 29, 42, 46, 50, 54, 58, 62, 66, 72, 76, 80, 84, 92, 97, 101, 105, 113, 117, 121, 125, 131, 135, 139, 143, 149, 153] (.t 0), none, []⟩,
 ⟨(some 6), .mv (.c (.int .i64 0)), none, []⟩])
 (.seq (.region [⟨(some 9), .mv (.t 1), none, []⟩,
 ⟨(some 10), .bin .eql (.t 9) (.c (.int .i64 32)), none, []⟩,
 ⟨(some 11), .mv (.t 10), none, []⟩,
 ⟨(some 12), .mv (.t 2), (some (11, true)), []⟩,
 ⟨(some 13), .bin .eql (.t 12) (.c (.int .i64 32)), (some (11, true)), []⟩,
 ⟨(some 14), .pick (.t 11) (.t 13) (.c (.bool false)), none, []⟩,
 ⟨(some 15), .mv (.t 1), none, []⟩,
 ⟨(some 16), .bin .eql (.t 15) (.c (.int .i64 128)), none, []⟩,
 ⟨(some 17), .mv (.t 16), none, []⟩,
 ⟨(some 18), .mv (.t 2), (some (17, true)), []⟩,
 ⟨(some 19), .bin .eql (.t 18) (.c (.int .i64 128)), (some (17, true)), []⟩,
 ⟨(some 20), .pick (.t 17) (.t 19) (.c (.bool false)), none, []⟩,
 ⟨(some 7), .mv (.t 14), none, []⟩,
 ⟨(some 8), .mv (.t 20), none, []⟩])
 (.seq (.block 0
 (.seq (.region [⟨(some 22), .faddr 2 (some 3) (.t 3), none, []⟩,
 ⟨(some 23), .load none (.t 22), none, []⟩,
 ⟨(some 24), .bin .eql (.t 23) (.c (.int .i64 30)), none, []⟩,
 ⟨(some 21), .mv (.t 24), none, []⟩])
 (.cond (.t 21)
 (.seq (.region [⟨(some 25), .faddr 3 (some 3) (.t 3), none, []⟩,
 ⟨(some 26), .load none (.t 25), none, []⟩,
 ⟨(some 27), .bin .geq (.t 26) (.c (.int .i64 0)), none, []⟩,
 ⟨(some 28), .mv (.t 27), none, []⟩,
 ⟨(some 29), .faddr 3 (some 3) (.t 3), (some (28, true)), []⟩,
 ⟨(some 30), .load none (.t 29), (some (28, true)), []⟩,
 ⟨(some 31), .bin .lss (.t 30) (.c (.int .i64 4)), (some (28, true)), []⟩,
 ⟨(some 32), .pick (.t 28) (.t 31) (.c (.bool false)), none, []⟩,
 ⟨(some 33), .mv (.t 32), none, []⟩,
 ⟨(some 34), .mv (.t 1), (some (33, true)), []⟩,
 ⟨(some 35), .bin .eql (.t 34) (.c (.int .i64 128)), (some (33, true)), []⟩,
 ⟨(some 36), .pick (.t 33) (.t 35) (.c (.bool false)), none, []⟩,
 ⟨(some 37), .mv (.t 36), none, []⟩,
 ⟨(some 38), .mv (.t 2), (some (37, true)), []⟩,
 ⟨(some 39), .bin .eql (.t 38) (.c (.int .i64 32)), (some (37, true)), []⟩,
 ⟨(some 40), .pick (.t 37) (.t 39) (.c (.bool false)), none, []⟩,
 ⟨(some 41), .mv (.t 40), none, []⟩,
 ⟨(some 42), .faddr 1 (some 3) (.t 3), (some (41, true)), []⟩,
 ⟨(some 43), .load none (.t 42), (some (41, true)), []⟩,
 ⟨(some 44), .bin .eql (.t 43) (.c (.int .i64 128)), (some (41, true)), []⟩,
 ⟨(some 45), .pick (.t 41) (.t 44) (.c (.bool false)), none, []⟩,
 ⟨(some 46), .faddr 1 (some 3) (.t 3), none, []⟩,
 ⟨(some 47), .load none (.t 46), none, []⟩,
 ⟨(some 48), .call 195 [(.t 45), (.t 47)], none, []⟩,
 ⟨(some 6), .mv (.t 48), none, []⟩])
 .ret)
 (.seq (.region [⟨(some 50), .faddr 3 (some 3) (.t 3), none, []⟩,
 ⟨(some 51), .load none (.t 50), none, []⟩,
 ⟨(some 52), .bin .neq (.t 51) (.c (.int .i64 0)), none, []⟩,
 ⟨(some 49), .mv (.t 52), none, []⟩])
 (.cond (.t 49)
 (.seq (.region [⟨(some 6), .mv (.c (.int .i64 0)), none, []⟩])
 .ret)
 (.seq (.seq (.region [⟨(some 54), .faddr 2 (some 3) (.t 3), none, []⟩,
 ⟨(some 55), .load none (.t 54), none, []⟩,
 ⟨(some 56), .bin .geq (.t 55) (.c (.int .i64 1)), none, []⟩,
 ⟨(some 57), .mv (.t 56), none, []⟩,
 ⟨(some 58), .faddr 2 (some 3) (.t 3), (some (57, true)), []⟩,
 ⟨(some 59), .load none (.t 58), (some (57, true)), []⟩,
 ⟨(some 60), .bin .leq (.t 59) (.c (.int .i64 7)), (some (57, true)), []⟩,
 ⟨(some 61), .pick (.t 57) (.t 60) (.c (.bool false)), none, []⟩,
 ⟨(some 53), .mv (.t 61), none, []⟩])
 (.cond (.t 53)
 .skip
 (.region [⟨(some 62), .faddr 2 (some 3) (.t 3), none, []⟩,
 ⟨(some 63), .load none (.t 62), none, []⟩,
 ⟨(some 64), .bin .geq (.t 63) (.c (.int .i64 11)), none, []⟩,
 ⟨(some 65), .mv (.t 64), none, []⟩,
 ⟨(some 66), .faddr 2 (some 3) (.t 3), (some (65, true)), []⟩,
 ⟨(some 67), .load none (.t 66), (some (65, true)), []⟩,
 ⟨(some 68), .bin .leq (.t 67) (.c (.int .i64 13)), (some (65, true)), []⟩,
 ⟨(some 69), .pick (.t 65) (.t 68) (.c (.bool false)), none, []⟩,
 ⟨(some 53), .mv (.t 69), none, []⟩])))
 (.cond (.t 53)
 (.seq (.region [⟨(some 70), .mv (.t 7), none, []⟩,
 ⟨(some 71), .mv (.t 70), none, []⟩,
 ⟨(some 72), .faddr 1 (some 3) (.t 3), (some (71, true)), []⟩,
 ⟨(some 73), .load none (.t 72), (some (71, true)), []⟩,
 ⟨(some 74), .bin .eql (.t 73) (.c (.int .i64 32)), (some (71, true)), []⟩,
 ⟨(some 75), .pick (.t 71) (.t 74) (.c (.bool false)), none, []⟩,
 ⟨(some 76), .faddr 1 (some 3) (.t 3), none, []⟩,
 ⟨(some 77), .load none (.t 76), none, []⟩,
 ⟨(some 78), .call 195 [(.t 75), (.t 77)], none, []⟩,
 ⟨(some 6), .mv (.t 78), none, []⟩])
 .ret)
 (.seq (.region [⟨(some 80), .faddr 2 (some 3) (.t 3), none, []⟩,
 ⟨(some 81), .load none (.t 80), none, []⟩,
 ⟨(some 82), .bin .geq (.t 81) (.c (.int .i64 8)), none, []⟩,
 ⟨(some 83), .mv (.t 82), none, []⟩,
 ⟨(some 84), .faddr 2 (some 3) (.t 3), (some (83, true)), []⟩,
 ⟨(some 85), .load none (.t 84), (some (83, true)), []⟩,
 ⟨(some 86), .bin .leq (.t 85) (.c (.int .i64 10)), (some (83, true)), []⟩,
 ⟨(some 87), .pick (.t 83) (.t 86) (.c (.bool false)), none, []⟩,
 ⟨(some 79), .mv (.t 87), none, []⟩])
 (.cond (.t 79)
 (.seq (.region [⟨(some 88), .mv (.t 1), none, []⟩,
 ⟨(some 89), .mv (.t 2), none, []⟩,
 ⟨(some 90), .bin .eql (.t 88) (.t 89), none, []⟩,
 ⟨(some 91), .mv (.t 90), none, []⟩,
 ⟨(some 92), .faddr 1 (some 3) (.t 3), (some (91, true)), []⟩,
 ⟨(some 93), .load none (.t 92), (some (91, true)), []⟩,
 ⟨(some 94), .mv (.t 1), (some (91, true)), []⟩,
 ⟨(some 95), .bin .eql (.t 93) (.t 94), (some (91, true)), []⟩,
 ⟨(some 96), .pick (.t 91) (.t 95) (.c (.bool false)), none, []⟩,
 ⟨(some 97), .faddr 1 (some 3) (.t 3), none, []⟩,
 ⟨(some 98), .load none (.t 97), none, []⟩,
 ⟨(some 99), .call 195 [(.t 96), (.t 98)], none, []⟩,
 ⟨(some 6), .mv (.t 99), none, []⟩])
 .ret)
 (.seq (.region [⟨(some 101), .faddr 2 (some 3) (.t 3), none, []⟩,
 ⟨(some 102), .load none (.t 101), none, []⟩,
 ⟨(some 103), .bin .eql (.t 102) (.c (.int .i64 14)), none, []⟩,
 ⟨(some 104), .mv (.t 103), none, []⟩,
 ⟨(some 105), .faddr 2 (some 3) (.t 3), (some (104, false)), []⟩,
 ⟨(some 106), .load none (.t 105), (some (104, false)), []⟩,
 ⟨(some 107), .bin .eql (.t 106) (.c (.int .i64 15)), (some (104, false)), []⟩,
 ⟨(some 108), .pick (.t 104) (.c (.bool true)) (.t 107), none, []⟩,
 ⟨(some 100), .mv (.t 108), none, []⟩])
 (.cond (.t 100)
 (.seq (.region [⟨(some 109), .mv (.t 1), none, []⟩,
 ⟨(some 110), .mv (.t 2), none, []⟩,
 ⟨(some 111), .bin .eql (.t 109) (.t 110), none, []⟩,
 ⟨(some 112), .mv (.t 111), none, []⟩,
 ⟨(some 113), .faddr 1 (some 3) (.t 3), (some (112, true)), []⟩,
 ⟨(some 114), .load none (.t 113), (some (112, true)), []⟩,
 ⟨(some 115), .bin .eql (.t 114) (.c (.int .i64 1)), (some (112, true)), []⟩,
 ⟨(some 116), .pick (.t 112) (.t 115) (.c (.bool false)), none, []⟩,
 ⟨(some 117), .faddr 1 (some 3) (.t 3), none, []⟩,
 ⟨(some 118), .load none (.t 117), none, []⟩,
 ⟨(some 119), .call 195 [(.t 116), (.t 118)], none, []⟩,
 ⟨(some 6), .mv (.t 119), none, []⟩])
 .ret)
 (.seq (.region [⟨(some 121), .faddr 2 (some 3) (.t 3), none, []⟩,
 ⟨(some 122), .load none (.t 121), none, []⟩,
 ⟨(some 123), .bin .geq (.t 122) (.c (.int .i64 16)), none, []⟩,
 ⟨(some 124), .mv (.t 123), none, []⟩,
 ⟨(some 125), .faddr 2 (some 3) (.t 3), (some (124, true)), []⟩,
 ⟨(some 126), .load none (.t 125), (some (124, true)), []⟩,
 ⟨(some 127), .bin .leq (.t 126) (.c (.int .i64 19)), (some (124, true)), []⟩,
 ⟨(some 128), .pick (.t 124) (.t 127) (.c (.bool false)), none, []⟩,
 ⟨(some 120), .mv (.t 128), none, []⟩])
 (.cond (.t 120)
 (.seq (.region [⟨(some 129), .mv (.t 7), none, []⟩,
 ⟨(some 130), .mv (.t 129), none, []⟩,
 ⟨(some 131), .faddr 1 (some 3) (.t 3), (some (130, true)), []⟩,
 ⟨(some 132), .load none (.t 131), (some (130, true)), []⟩,
 ⟨(some 133), .bin .eql (.t 132) (.c (.int .i64 1)), (some (130, true)), []⟩,
 ⟨(some 134), .pick (.t 130) (.t 133) (.c (.bool false)), none, []⟩,
 ⟨(some 135), .faddr 1 (some 3) (.t 3), none, []⟩,
 ⟨(some 136), .load none (.t 135), none, []⟩,
 ⟨(some 137), .call 195 [(.t 134), (.t 136)], none, []⟩,
 ⟨(some 6), .mv (.t 137), none, []⟩])
 .ret)
 (.seq (.region [⟨(some 139), .faddr 2 (some 3) (.t 3), none, []⟩,
 ⟨(some 140), .load none (.t 139), none, []⟩,
 ⟨(some 141), .bin .geq (.t 140) (.c (.int .i64 20)), none, []⟩,
 ⟨(some 142), .mv (.t 141), none, []⟩,
 ⟨(some 143), .faddr 2 (some 3) (.t 3), (some (142, true)), []⟩,
 ⟨(some 144), .load none (.t 143), (some (142, true)), []⟩,
 ⟨(some 145), .bin .leq (.t 144) (.c (.int .i64 29)), (some (142, true)), []⟩,
 ⟨(some 146), .pick (.t 142) (.t 145) (.c (.bool false)), none, []⟩,
 ⟨(some 138), .mv (.t 146), none, []⟩])
 (.cond (.t 138)
 (.seq (.region [⟨(some 147), .mv (.t 8), none, []⟩,
 ⟨(some 148), .mv (.t 147), none, []⟩,
 ⟨(some 149), .faddr 1 (some 3) (.t 3), (some (148, true)), []⟩,
 ⟨(some 150), .load none (.t 149), (some (148, true)), []⟩,
 ⟨(some 151), .bin .eql (.t 150) (.c (.int .i64 128)), (some (148, true)), []⟩,
 ⟨(some 152), .pick (.t 148) (.t 151) (.c (.bool false)), none, []⟩,
 ⟨(some 153), .faddr 1 (some 3) (.t 3), none, []⟩,
 ⟨(some 154), .load none (.t 153), none, []⟩,
 ⟨(some 155), .call 195 [(.t 152), (.t 154)], none, []⟩,
 ⟨(some 6), .mv (.t 155), none, []⟩])
 .ret)
 .skip)))))))))))))))
 (.seq (.region [⟨(some 6), .mv (.c (.int .i64 0)), none, []⟩])
 .ret)))) }
def c199 : AFn := { nparams := 2, ntmps := 22, results := [.tmp 4], body :=
 (.seq (.region [⟨(some 4), .mv (.c (.list 1 [])), none, []⟩])
 (.seq (.region [⟨(some 5), .mv (.c (.list 1 [])), none, []⟩])
 (.seq (.seq (.region [⟨(some 8), .mv (.t 0), none, []⟩,
 ⟨(some 9), .len (.t 8), none, []⟩,
 ⟨(some 10), .mv (.c (.int .i64 0)), none, []⟩])
 (.block 0
 (.loop
 (.seq (.region [⟨(some 11), .bin .lss (.t 10) (.t 9), none, []⟩])
 (.seq (.cond (.t 11)
 .skip
 (.exit 0))
 (.seq (.block 1
 (.seq (.region [⟨(some 12), .iaddr 6 (.t 8) (.t 10), none, []⟩,
 ⟨(some 13), .load (some 6) (.t 12), none, []⟩,
 ⟨(some 7), .boxL [] (.c (.agg [(.int .i64 0), (.int .i64 0), (.int .u32 0), (.int .u32 0), (.int .u32 0), (.int .u32 0)])), none, []⟩,
 ⟨none, .store 6 (.t 7) (.t 13), none, []⟩])
 (.region [⟨(some 14), .mv (.t 5), none, []⟩,
 ⟨(some 15), .mv (.t 1), none, []⟩,
 ⟨(some 16), .load (some 6) (.t 7), none, []⟩,
 ⟨(some 17), .callv (.t 15) [(.t 16)], none, []⟩,
 ⟨(some 18), .mkslice 1 1 [(.int .i64 0)] [(0, (.t 17))], none, []⟩,
 ⟨(some 19), .append 1 8 false (.t 14) (.t 18), none, []⟩,
 ⟨(some 5), .mv (.t 19), none, []⟩])))
 (.region [⟨(some 20), .bin .add (.t 10) (.c (.int .i64 1)), none, []⟩,
 ⟨(some 10), .mv (.t 20), none, []⟩])))))))
 (.seq (.region [⟨(some 21), .mv (.t 5), none, []⟩,
 ⟨(some 4), .mv (.t 21), none, []⟩])
 .ret)))) }
def c200 : AFn := { nparams := 2, ntmps := 7, results := [.tmp 3], body :=
 (.seq (.region [⟨(some 2), .boxL [] (.t 0), none, []⟩,
 ⟨(some 3), .mv (.c (.int .i64 0)), none, []⟩])
 (.seq (.region [⟨(some 4), .load none (.t 1), none, []⟩,
 ⟨(some 5), .load (some 6) (.t 2), none, []⟩,
 ⟨(some 6), .call 119 [(.t 4), (.t 5)], none, []⟩,
 ⟨(some 3), .mv (.t 6), none, []⟩])
 .ret)) }
def c201 : AFn := { nparams := 2, ntmps := 19, results := [.tmp 4], body :=
 (.seq (.region [⟨(some 4), .mv (.c (.int .i64 0)), none, []⟩])
 (.seq (.seq (.region [⟨(some 6), .mv (.t 0), none, []⟩,
 ⟨(some 7), .len (.t 6), none, []⟩,
 ⟨(some 8), .mv (.c (.int .i64 0)), none, []⟩])
 (.block 0
 (.loop
 (.seq (.region [⟨(some 9), .bin .lss (.t 8) (.t 7), none, []⟩])
 (.seq (.cond (.t 9)
 .skip
 (.exit 0))
 (.seq (.block 1
 (.seq (.region [⟨(some 10), .mv (.t 8), none, []⟩,
 ⟨(some 5), .mv (.t 10), none, []⟩])
 (.seq (.region [⟨(some 11), .mv (.t 1), none, []⟩,
 ⟨(some 12), .mv (.t 0), none, []⟩,
 ⟨(some 13), .mv (.t 5), none, []⟩,
 ⟨(some 14), .iaddr 1 (.t 12) (.t 13), none, []⟩,
 ⟨(some 15), .load none (.t 14), none, []⟩,
 ⟨(some 16), .bin .eql (.t 11) (.t 15), none, []⟩])
 (.cond (.t 16)
 (.seq (.region [⟨(some 17), .mv (.t 5), none, []⟩,
 ⟨(some 4), .mv (.t 17), none, []⟩])
 .ret)
 .skip))))
 (.region [⟨(some 18), .bin .add (.t 8) (.c (.int .i64 1)), none, []⟩,
 ⟨(some 8), .mv (.t 18), none, []⟩])))))))
 (.seq (.region [⟨(some 4), .mv (.c (.int .i64 (-1))), none, []⟩])
 .ret))) }
def c202 : AFn := { nparams := 2, ntmps := 35, results := [], body :=
 (.seq (.seq (.region [⟨(some 7), .faddr 12 none (.t 1), none, []⟩,
 ⟨(some 8), .load none (.t 7), none, []⟩,
 ⟨(some 9), .len (.t 8), none, []⟩,
 ⟨(some 10), .mv (.c (.int .i64 0)), none, []⟩])
 (.block 0
 (.loop
 (.seq (.region [⟨(some 11), .bin .lss (.t 10) (.t 9), none, []⟩])
 (.seq (.cond (.t 11)
 .skip
 (.exit 0))
 (.seq (.block 1
 (.seq (.region [⟨(some 12), .iaddr 6 (.t 8) (.t 10), none, []⟩,
 ⟨(some 13), .load (some 6) (.t 12), none, []⟩,
 ⟨(some 4), .boxL [] (.c (.agg [(.int .i64 0), (.int .i64 0), (.int .u32 0), (.int .u32 0), (.int .u32 0), (.int .u32 0)])), none, []⟩,
 ⟨none, .store 6 (.t 4) (.t 13), none, []⟩])
 (.seq (.region [⟨(some 14), .mv (.t 0), none, []⟩,
 ⟨(some 15), .load (some 6) (.t 4), none, []⟩,
 ⟨(some 16), .callv (.t 14) [(.t 15)], none, []⟩,
 ⟨(some 17), .un .not (.t 16), none, []⟩])
 (.cond (.t 17)
 .ret
 .skip))))
 (.region [⟨(some 18), .bin .add (.t 10) (.c (.int .i64 1)), none, []⟩,
 ⟨(some 10), .mv (.t 18), none, []⟩])))))))
 (.seq (.seq (.region [⟨(some 19), .faddr 0 none (.t 1), none, []⟩,
 ⟨(some 20), .load none (.t 19), none, []⟩,
 ⟨(some 21), .bin .neq (.t 20) (.c (.int .i64 2)), none, []⟩])
 (.cond (.t 21)
 .ret
 .skip))
 (.seq (.region [⟨(some 22), .faddr 7 none (.t 1), none, []⟩,
 ⟨(some 23), .faddr 4 none (.t 22), none, []⟩,
 ⟨(some 24), .load none (.t 23), none, []⟩,
 ⟨(some 25), .len (.t 24), none, []⟩,
 ⟨(some 26), .mv (.c (.int .i64 0)), none, []⟩])
 (.block 2
 (.loop
 (.seq (.region [⟨(some 27), .bin .lss (.t 26) (.t 25), none, []⟩])
 (.seq (.cond (.t 27)
 .skip
 (.exit 2))
 (.seq (.block 3
 (.seq (.region [⟨(some 28), .iaddr 6 (.t 24) (.t 26), none, []⟩,
 ⟨(some 29), .load (some 6) (.t 28), none, []⟩,
 ⟨(some 6), .boxL [] (.c (.agg [(.int .i64 0), (.int .i64 0), (.int .u32 0), (.int .u32 0), (.int .u32 0), (.int .u32 0)])), none, []⟩,
 ⟨none, .store 6 (.t 6) (.t 29), none, []⟩])
 (.seq (.region [⟨(some 30), .mv (.t 0), none, []⟩,
 ⟨(some 31), .load (some 6) (.t 6), none, []⟩,
 ⟨(some 32), .callv (.t 30) [(.t 31)], none, []⟩,
 ⟨(some 33), .un .not (.t 32), none, []⟩])
 (.cond (.t 33)
 .ret
 .skip))))
 (.region [⟨(some 34), .bin .add (.t 26) (.c (.int .i64 1)), none, []⟩,
 ⟨(some 26), .mv (.t 34), none, []⟩]))))))))) }
end Go.Proofs.YtkgmeeenacnhfaaGreat.Eng
namespace Go.Proofs.YtkgmeeenacnhfaaGreat.Eng
def tabF (f : Nat) : Option AFn := bif Nat.blt f 108 then (bif Nat.blt f 58 then (bif Nat.blt f 44 then (bif Nat.blt f 35 then (bif Nat.blt f 18 then (bif Nat.blt f 12 then (bif Nat.beq f 9 then (some c9) else none) else (bif Nat.blt f 14 then (bif Nat.beq f 12 then (some c12) else none) else (bif Nat.beq f 14 then (some c14) else none))) else (bif Nat.blt f 20 then (bif Nat.beq f 18 then (some c18) else none) else (bif Nat.blt f 34 then (bif Nat.beq f 20 then (some c20) else none) else (bif Nat.beq f 34 then (some c34) else none)))) else (bif Nat.blt f 38 then (bif Nat.blt f 36 then (bif Nat.beq f 35 then (some c35) else none) else (bif Nat.blt f 37 then (bif Nat.beq f 36 then (some c36) else none) else (bif Nat.beq f 37 then (some c37) else none))) else (bif Nat.blt f 40 then (bif Nat.beq f 38 then (some c38) else none) else (bif Nat.blt f 43 then (bif Nat.beq f 40 then (some c40) else none) else (bif Nat.beq f 43 then (some c43) else none))))) else (bif Nat.blt f 50 then (bif Nat.blt f 47 then (bif Nat.blt f 45 then (bif Nat.beq f 44 then (some c44) else none) else (bif Nat.blt f 46 then (bif Nat.beq f 45 then (some c45) else none) else (bif Nat.beq f 46 then (some c46) else none))) else (bif Nat.blt f 48 then (bif Nat.beq f 47 then (some c47) else none) else (bif Nat.blt f 49 then (bif Nat.beq f 48 then (some c48) else none) else (bif Nat.beq f 49 then (some c49) else none)))) else (bif Nat.blt f 54 then (bif Nat.blt f 51 then (bif Nat.beq f 50 then (some c50) else none) else (bif Nat.blt f 52 then (bif Nat.beq f 51 then (some c51) else none) else (bif Nat.beq f 52 then (some c52) else none))) else (bif Nat.blt f 56 then (bif Nat.blt f 55 then (bif Nat.beq f 54 then (some c54) else none) else (bif Nat.beq f 55 then (some c55) else none)) else (bif Nat.blt f 57 then (bif Nat.beq f 56 then (some c56) else none) else (bif Nat.beq f 57 then (some c57) else none)))))) else (bif Nat.blt f 93 then (bif Nat.blt f 69 then (bif Nat.blt f 65 then (bif Nat.blt f 59 then (bif Nat.beq f 58 then (some c58) else none) else (bif Nat.blt f 60 then (bif Nat.beq f 59 then (some c59) else none) else (bif Nat.beq f 60 then (some c60) else none))) else (bif Nat.blt f 66 then (bif Nat.beq f 65 then (some c65) else none) else (bif Nat.blt f 67 then (bif Nat.beq f 66 then (some c66) else none) else (bif Nat.beq f 67 then (some c67) else none)))) else (bif Nat.blt f 72 then (bif Nat.blt f 70 then (bif Nat.beq f 69 then (some c69) else none) else (bif Nat.blt f 71 then (bif Nat.beq f 70 then (some c70) else none) else (bif Nat.beq f 71 then (some c71) else none))) else (bif Nat.blt f 91 then (bif Nat.blt f 73 then (bif Nat.beq f 72 then (some c72) else none) else (bif Nat.beq f 73 then (some c73) else none)) else (bif Nat.blt f 92 then (bif Nat.beq f 91 then (some c91) else none) else (bif Nat.beq f 92 then (some c92) else none))))) else (bif Nat.blt f 101 then (bif Nat.blt f 98 then (bif Nat.blt f 96 then (bif Nat.beq f 93 then (some c93) else none) else (bif Nat.blt f 97 then (bif Nat.beq f 96 then (some c96) else none) else (bif Nat.beq f 97 then (some c97) else none))) else (bif Nat.blt f 99 then (bif Nat.beq f 98 then (some c98) else none) else (bif Nat.blt f 100 then (bif Nat.beq f 99 then (some c99) else none) else (bif Nat.beq f 100 then (some c100) else none)))) else (bif Nat.blt f 104 then (bif Nat.blt f 102 then (bif Nat.beq f 101 then (some c101) else none) else (bif Nat.blt f 103 then (bif Nat.beq f 102 then (some c102) else none) else (bif Nat.beq f 103 then (some c103) else none))) else (bif Nat.blt f 106 then (bif Nat.blt f 105 then (bif Nat.beq f 104 then (some c104) else none) else (bif Nat.beq f 105 then (some c105) else none)) else (bif Nat.blt f 107 then (bif Nat.beq f 106 then (some c106) else none) else (bif Nat.beq f 107 then (some c107) else none))))))) else (bif Nat.blt f 151 then (bif Nat.blt f 122 then (bif Nat.blt f 115 then (bif Nat.blt f 111 then (bif Nat.blt f 109 then (bif Nat.beq f 108 then (some c108) else none) else (bif Nat.blt f 110 then (bif Nat.beq f 109 then (some c109) else none) else (bif Nat.beq f 110 then (some c110) else none))) else (bif Nat.blt f 112 then (bif Nat.beq f 111 then (some c111) else none) else (bif Nat.blt f 114 then (bif Nat.beq f 112 then (some c112) else none) else (bif Nat.beq f 114 then (some c114) else none)))) else (bif Nat.blt f 118 then (bif Nat.blt f 116 then (bif Nat.beq f 115 then (some c115) else none) else (bif Nat.blt f 117 then (bif Nat.beq f 116 then (some c116) else none) else (bif Nat.beq f 117 then (some c117) else none))) else (bif Nat.blt f 120 then (bif Nat.blt f 119 then (bif Nat.beq f 118 then (some c118) else none) else (bif Nat.beq f 119 then (some c119) else none)) else (bif Nat.blt f 121 then (bif Nat.beq f 120 then (some c120) else none) else (bif Nat.beq f 121 then (some c121) else none))))) else (bif Nat.blt f 131 then (bif Nat.blt f 125 then (bif Nat.blt f 123 then (bif Nat.beq f 122 then (some c122) else none) else (bif Nat.blt f 124 then (bif Nat.beq f 123 then (some c123) else none) else (bif Nat.beq f 124 then (some c124) else none))) else (bif Nat.blt f 126 then (bif Nat.beq f 125 then (some c125) else none) else (bif Nat.blt f 127 then (bif Nat.beq f 126 then (some c126) else none) else (bif Nat.beq f 127 then (some c127) else none)))) else (bif Nat.blt f 147 then (bif Nat.blt f 141 then (bif Nat.beq f 131 then (some c131) else none) else (bif Nat.blt f 142 then (bif Nat.beq f 141 then (some c141) else none) else (bif Nat.beq f 142 then (some c142) else none))) else (bif Nat.blt f 149 then (bif Nat.blt f 148 then (bif Nat.beq f 147 then (some c147) else none) else (bif Nat.beq f 148 then (some c148) else none)) else (bif Nat.blt f 150 then (bif Nat.beq f 149 then (some c149) else none) else (bif Nat.beq f 150 then (some c150) else none)))))) else (bif Nat.blt f 167 then (bif Nat.blt f 159 then (bif Nat.blt f 154 then (bif Nat.blt f 152 then (bif Nat.beq f 151 then (some c151) else none) else (bif Nat.blt f 153 then (bif Nat.beq f 152 then (some c152) else none) else (bif Nat.beq f 153 then (some c153) else none))) else (bif Nat.blt f 156 then (bif Nat.beq f 154 then (some c154) else none) else (bif Nat.blt f 158 then (bif Nat.beq f 156 then (some c156) else none) else (bif Nat.beq f 158 then (some c158) else none)))) else (bif Nat.blt f 162 then (bif Nat.blt f 160 then (bif Nat.beq f 159 then (some c159) else none) else (bif Nat.blt f 161 then (bif Nat.beq f 160 then (some c160) else none) else (bif Nat.beq f 161 then (some c161) else none))) else (bif Nat.blt f 164 then (bif Nat.blt f 163 then (bif Nat.beq f 162 then (some c162) else none) else (bif Nat.beq f 163 then (some c163) else none)) else (bif Nat.blt f 166 then (bif Nat.beq f 164 then (some c164) else none) else (bif Nat.beq f 166 then (some c166) else none))))) else (bif Nat.blt f 193 then (bif Nat.blt f 177 then (bif Nat.blt f 170 then (bif Nat.beq f 167 then (some c167) else none) else (bif Nat.blt f 172 then (bif Nat.beq f 170 then (some c170) else none) else (bif Nat.beq f 172 then (some c172) else none))) else (bif Nat.blt f 181 then (bif Nat.beq f 177 then (some c177) else none) else (bif Nat.blt f 190 then (bif Nat.beq f 181 then (some c181) else none) else (bif Nat.beq f 190 then (some c190) else none)))) else (bif Nat.blt f 199 then (bif Nat.blt f 195 then (bif Nat.beq f 193 then (some c193) else none) else (bif Nat.blt f 197 then (bif Nat.beq f 195 then (some c195) else none) else (bif Nat.beq f 197 then (some c197) else none))) else (bif Nat.blt f 201 then (bif Nat.blt f 200 then (bif Nat.beq f 199 then (some c199) else none) else (bif Nat.beq f 200 then (some c200) else none)) else (bif Nat.blt f 202 then (bif Nat.beq f 201 then (some c201) else none) else (bif Nat.beq f 202 then (some c202) else none)))))))
def pureF (f : Nat) : Bool := bif Nat.blt f 83 then (bif Nat.blt f 36 then (bif Nat.blt f 19 then (bif Nat.blt f 11 then (bif Nat.blt f 7 then (bif Nat.blt f 5 then (bif Nat.blt f 4 then (bif Nat.beq f 3 then true else false) else (bif Nat.beq f 4 then true else false)) else (bif Nat.blt f 6 then (bif Nat.beq f 5 then true else false) else (bif Nat.beq f 6 then true else false))) else (bif Nat.blt f 9 then (bif Nat.blt f 8 then (bif Nat.beq f 7 then true else false) else (bif Nat.beq f 8 then true else false)) else (bif Nat.blt f 10 then (bif Nat.beq f 9 then true else false) else (bif Nat.beq f 10 then true else false)))) else (bif Nat.blt f 15 then (bif Nat.blt f 13 then (bif Nat.blt f 12 then (bif Nat.beq f 11 then true else false) else (bif Nat.beq f 12 then true else false)) else (bif Nat.blt f 14 then (bif Nat.beq f 13 then true else false) else (bif Nat.beq f 14 then true else false))) else (bif Nat.blt f 17 then (bif Nat.blt f 16 then (bif Nat.beq f 15 then true else false) else (bif Nat.beq f 16 then true else false)) else (bif Nat.blt f 18 then (bif Nat.beq f 17 then true else false) else (bif Nat.beq f 18 then true else false))))) else (bif Nat.blt f 27 then (bif Nat.blt f 23 then (bif Nat.blt f 21 then (bif Nat.blt f 20 then (bif Nat.beq f 19 then true else false) else (bif Nat.beq f 20 then true else false)) else (bif Nat.blt f 22 then (bif Nat.beq f 21 then true else false) else (bif Nat.beq f 22 then true else false))) else (bif Nat.blt f 25 then (bif Nat.blt f 24 then (bif Nat.beq f 23 then true else false) else (bif Nat.beq f 24 then true else false)) else (bif Nat.blt f 26 then (bif Nat.beq f 25 then true else false) else (bif Nat.beq f 26 then true else false)))) else (bif Nat.blt f 31 then (bif Nat.blt f 29 then (bif Nat.blt f 28 then (bif Nat.beq f 27 then true else false) else (bif Nat.beq f 28 then true else false)) else (bif Nat.blt f 30 then (bif Nat.beq f 29 then true else false) else (bif Nat.beq f 30 then true else false))) else (bif Nat.blt f 33 then (bif Nat.blt f 32 then (bif Nat.beq f 31 then true else false) else (bif Nat.beq f 32 then true else false)) else (bif Nat.blt f 34 then (bif Nat.beq f 33 then true else false) else (bif Nat.blt f 35 then (bif Nat.beq f 34 then true else false) else (bif Nat.beq f 35 then true else false))))))) else (bif Nat.blt f 52 then (bif Nat.blt f 44 then (bif Nat.blt f 40 then (bif Nat.blt f 38 then (bif Nat.blt f 37 then (bif Nat.beq f 36 then true else false) else (bif Nat.beq f 37 then true else false)) else (bif Nat.blt f 39 then (bif Nat.beq f 38 then true else false) else (bif Nat.beq f 39 then true else false))) else (bif Nat.blt f 42 then (bif Nat.blt f 41 then (bif Nat.beq f 40 then true else false) else (bif Nat.beq f 41 then true else false)) else (bif Nat.blt f 43 then (bif Nat.beq f 42 then true else false) else (bif Nat.beq f 43 then true else false)))) else (bif Nat.blt f 48 then (bif Nat.blt f 46 then (bif Nat.blt f 45 then (bif Nat.beq f 44 then true else false) else (bif Nat.beq f 45 then true else false)) else (bif Nat.blt f 47 then (bif Nat.beq f 46 then true else false) else (bif Nat.beq f 47 then true else false))) else (bif Nat.blt f 50 then (bif Nat.blt f 49 then (bif Nat.beq f 48 then true else false) else (bif Nat.beq f 49 then true else false)) else (bif Nat.blt f 51 then (bif Nat.beq f 50 then true else false) else (bif Nat.beq f 51 then true else false))))) else (bif Nat.blt f 67 then (bif Nat.blt f 62 then (bif Nat.blt f 54 then (bif Nat.blt f 53 then (bif Nat.beq f 52 then true else false) else (bif Nat.beq f 53 then true else false)) else (bif Nat.blt f 61 then (bif Nat.beq f 54 then true else false) else (bif Nat.beq f 61 then true else false))) else (bif Nat.blt f 64 then (bif Nat.blt f 63 then (bif Nat.beq f 62 then true else false) else (bif Nat.beq f 63 then true else false)) else (bif Nat.blt f 66 then (bif Nat.beq f 64 then true else false) else (bif Nat.beq f 66 then true else false)))) else (bif Nat.blt f 78 then (bif Nat.blt f 76 then (bif Nat.blt f 68 then (bif Nat.beq f 67 then true else false) else (bif Nat.beq f 68 then true else false)) else (bif Nat.blt f 77 then (bif Nat.beq f 76 then true else false) else (bif Nat.beq f 77 then true else false))) else (bif Nat.blt f 80 then (bif Nat.blt f 79 then (bif Nat.beq f 78 then true else false) else (bif Nat.beq f 79 then true else false)) else (bif Nat.blt f 81 then (bif Nat.beq f 80 then true else false) else (bif Nat.blt f 82 then (bif Nat.beq f 81 then true else false) else (bif Nat.beq f 82 then true else false)))))))) else (bif Nat.blt f 135 then (bif Nat.blt f 108 then (bif Nat.blt f 93 then (bif Nat.blt f 87 then (bif Nat.blt f 85 then (bif Nat.blt f 84 then (bif Nat.beq f 83 then true else false) else (bif Nat.beq f 84 then true else false)) else (bif Nat.blt f 86 then (bif Nat.beq f 85 then true else false) else (bif Nat.beq f 86 then true else false))) else (bif Nat.blt f 89 then (bif Nat.blt f 88 then (bif Nat.beq f 87 then true else false) else (bif Nat.beq f 88 then true else false)) else (bif Nat.blt f 90 then (bif Nat.beq f 89 then true else false) else (bif Nat.beq f 90 then true else false)))) else (bif Nat.blt f 104 then (bif Nat.blt f 98 then (bif Nat.blt f 96 then (bif Nat.beq f 93 then true else false) else (bif Nat.beq f 96 then true else false)) else (bif Nat.blt f 103 then (bif Nat.beq f 98 then true else false) else (bif Nat.beq f 103 then true else false))) else (bif Nat.blt f 106 then (bif Nat.blt f 105 then (bif Nat.beq f 104 then true else false) else (bif Nat.beq f 105 then true else false)) else (bif Nat.blt f 107 then (bif Nat.beq f 106 then true else false) else (bif Nat.beq f 107 then true else false))))) else (bif Nat.blt f 120 then (bif Nat.blt f 115 then (bif Nat.blt f 111 then (bif Nat.blt f 110 then (bif Nat.beq f 108 then true else false) else (bif Nat.beq f 110 then true else false)) else (bif Nat.blt f 113 then (bif Nat.beq f 111 then true else false) else (bif Nat.beq f 113 then true else false))) else (bif Nat.blt f 118 then (bif Nat.blt f 116 then (bif Nat.beq f 115 then true else false) else (bif Nat.beq f 116 then true else false)) else (bif Nat.blt f 119 then (bif Nat.beq f 118 then true else false) else (bif Nat.beq f 119 then true else false)))) else (bif Nat.blt f 130 then (bif Nat.blt f 128 then (bif Nat.blt f 121 then (bif Nat.beq f 120 then true else false) else (bif Nat.beq f 121 then true else false)) else (bif Nat.blt f 129 then (bif Nat.beq f 128 then true else false) else (bif Nat.beq f 129 then true else false))) else (bif Nat.blt f 132 then (bif Nat.blt f 131 then (bif Nat.beq f 130 then true else false) else (bif Nat.beq f 131 then true else false)) else (bif Nat.blt f 133 then (bif Nat.beq f 132 then true else false) else (bif Nat.blt f 134 then (bif Nat.beq f 133 then true else false) else (bif Nat.beq f 134 then true else false))))))) else (bif Nat.blt f 167 then (bif Nat.blt f 151 then (bif Nat.blt f 139 then (bif Nat.blt f 137 then (bif Nat.blt f 136 then (bif Nat.beq f 135 then true else false) else (bif Nat.beq f 136 then true else false)) else (bif Nat.blt f 138 then (bif Nat.beq f 137 then true else false) else (bif Nat.beq f 138 then true else false))) else (bif Nat.blt f 142 then (bif Nat.blt f 140 then (bif Nat.beq f 139 then true else false) else (bif Nat.beq f 140 then true else false)) else (bif Nat.blt f 150 then (bif Nat.beq f 142 then true else false) else (bif Nat.beq f 150 then true else false)))) else (bif Nat.blt f 162 then (bif Nat.blt f 158 then (bif Nat.blt f 156 then (bif Nat.beq f 151 then true else false) else (bif Nat.beq f 156 then true else false)) else (bif Nat.blt f 159 then (bif Nat.beq f 158 then true else false) else (bif Nat.beq f 159 then true else false))) else (bif Nat.blt f 164 then (bif Nat.blt f 163 then (bif Nat.beq f 162 then true else false) else (bif Nat.beq f 163 then true else false)) else (bif Nat.blt f 166 then (bif Nat.beq f 164 then true else false) else (bif Nat.beq f 166 then true else false))))) else (bif Nat.blt f 190 then (bif Nat.blt f 178 then (bif Nat.blt f 169 then (bif Nat.blt f 168 then (bif Nat.beq f 167 then true else false) else (bif Nat.beq f 168 then true else false)) else (bif Nat.blt f 174 then (bif Nat.beq f 169 then true else false) else (bif Nat.beq f 174 then true else false))) else (bif Nat.blt f 180 then (bif Nat.blt f 179 then (bif Nat.beq f 178 then true else false) else (bif Nat.beq f 179 then true else false)) else (bif Nat.blt f 189 then (bif Nat.beq f 180 then true else false) else (bif Nat.beq f 189 then true else false)))) else (bif Nat.blt f 198 then (bif Nat.blt f 196 then (bif Nat.blt f 195 then (bif Nat.beq f 190 then true else false) else (bif Nat.beq f 195 then true else false)) else (bif Nat.blt f 197 then (bif Nat.beq f 196 then true else false) else (bif Nat.beq f 197 then true else false))) else (bif Nat.blt f 207 then (bif Nat.blt f 201 then (bif Nat.beq f 198 then true else false) else (bif Nat.beq f 201 then true else false)) else (bif Nat.blt f 220 then (bif Nat.beq f 207 then true else false) else (bif Nat.blt f 226 then (bif Nat.beq f 220 then true else false) else (bif Nat.beq f 226 then true else false))))))))
def ownF (f : Nat) : Bool := bif Nat.blt f 64 then (bif Nat.blt f 61 then (bif Nat.beq f 27 then true else false) else (bif Nat.beq f 61 then true else false)) else (bif Nat.blt f 84 then (bif Nat.beq f 64 then true else false) else (bif Nat.beq f 84 then true else false))
def insI (n : Int) : List Int → List Int
  | [] => [n]
  | m :: r => bif decide (n ≤ m) then n :: m :: r else m :: insI n r
def sortI : List Int → List Int
  | [] => []
  | n :: r => insI n (sortI r)
def memI (n : Int) : List Int → Bool
  | [] => false
  | m :: r => bif decide (n = m) then true else memI n r
/-- The keys of a map by integers, if they are distinct and in range. -/
def keysI : List (PV × PV) → Option (List Int)
  | [] => some []
  | (.int .i64 n, _) :: r => match keysI r with
    | some l => bif (bif memI n l then true else bif decide (-9223372036854775808 ≤ n) then decide (9223372036854775807 < n) else true) then none else some (n :: l)
    | none => none
  | _ => none
def asInts : List Int → List PV
  | [] => []
  | n :: r => .int .i64 n :: asInts r
/-- A map's keys, sorted: of an iterator over a map. -/
def keysG (S : Store) : List PV → Option (PV × Store)
  | [.fn 205 [] [.ptr b 0]] => match S.boxes[b]? with
    | some (some [.map m]) => match S.maps[m]? with
      | some es => match keysI es with
        | some l => bif decide (l.length ≤ 1048576) then some (.list 0 (asInts (sortI l)), S) else none
        | none => none
      | none => none
    | _ => none
  | _ => none
def cloneG (sz : Nat) : List PV → Option PV
  | [.list 0 xs] => bif widths sz xs then (bif decide (xs.length ≤ 1048576) then some (.list 1 (xs.map strip)) else none) else none
  | _ => none
def howF (f : Nat) : How := bif Nat.beq f 57 then .given (cloneG 6) else bif Nat.beq f 69 then .given (cloneG 1) else bif Nat.beq f 70 then .given (cloneG 2) else bif Nat.beq f 171 then .store keysG else bif pureF f then .pure (ownF f) else .shared
def tb : Tbl := { fn := tabF, how := howF }
end Go.Proofs.YtkgmeeenacnhfaaGreat.Eng
