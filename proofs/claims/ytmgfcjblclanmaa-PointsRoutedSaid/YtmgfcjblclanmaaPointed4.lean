/-
  The functions' forms for the abstract machine, each checked against the program's form.
-/
import Derived.Test.YtmgfcjblclanmaaPointed1
import Derived.Test.YtmgfcjblclanmaaProg
import Derived.Test.YtmgfcjblclanmaaPointed3
namespace Go.Proofs.Ytmgfcjblclanmaa
set_option maxRecDepth 100000
def a2 : AFn := ⟨1, [], .ops [⟨(some 0), none, .call 1 []⟩]⟩
theorem c2 : compF Go.Proofs.Try.prog 2 = some a2 := by kernel_rfl
def a3 : AFn := ⟨66, [.t 2], .seq (.ops [⟨(some 2), none, .mv (.c (.bool false))⟩])
 (.seq (.ops [⟨(some 11), none, .mv (.t 0)⟩, ⟨(some 12), none, .build [(.lit true 0 []), (.int .i64 0)] [(0, 1, (.t 11))]⟩, ⟨(some 13), none, .box 25 (.t 12)⟩, ⟨(some 3), none, .mv (.t 13)⟩])
 (.seq (.ops [⟨(some 14), none, .mv (.t 3)⟩, ⟨(some 15), none, .call 9 [(.t 14)]⟩, ⟨(some 4), none, .mv (.t 15)⟩])
 (.seq (.seq (.ops [⟨(some 16), none, .mv (.t 3)⟩, ⟨(some 17), none, .call 10 [(.t 16), (.c (.int .i64 20))]⟩])
 (.cond (.t 17) (.ops [⟨(some 18), none, .build [(.int .i64 0), (.int .i64 0)] [(0, 1, (.c (.int .i64 1)))]⟩, ⟨(some 19), none, .bslice 31 2 1 [(.int .i64 0), (.int .i64 0)] [(0, 2, (.t 18))]⟩, ⟨(some 20), none, .call 11 [(.t 19), (.c (.int .i64 10))]⟩, ⟨(some 4), none, .mv (.t 20)⟩]) (.skip)))
 (.seq (.ops [⟨(some 22), none, .mv (.t 4)⟩, ⟨(some 23), none, .call 12 [(.t 22)]⟩, ⟨(some 21), none, .mv (.t 23)⟩, ⟨(some 24), none, .ext (.t 21) 0⟩, ⟨(some 25), none, .ext (.t 21) 1⟩, ⟨(some 26), none, .ext (.t 21) 2⟩, ⟨(some 5), none, .mv (.t 24)⟩, ⟨(some 6), none, .mv (.t 25)⟩, ⟨(some 7), none, .mv (.t 26)⟩])
 (.seq (.seq (.ops [⟨(some 27), none, .mv (.t 4)⟩, ⟨(some 28), none, .call 13 [(.t 27)]⟩, ⟨(some 8), none, .mv (.t 28)⟩])
 (.seq (.ops [⟨(some 29), none, .mv (.t 8)⟩, ⟨(some 30), none, .bin 0 .neq (.t 29) (.c (.int .i64 0))⟩])
 (.cond (.t 30) (.seq (.ops [⟨(some 31), none, .mv (.t 7)⟩, ⟨(some 32), none, .mv (.t 8)⟩, ⟨(some 33), none, .bin 0 .eql (.t 31) (.t 32)⟩, ⟨(some 34), none, .mv (.t 33)⟩, ⟨(some 35), (some (34, true)), .mv (.t 5)⟩, ⟨(some 36), (some (34, true)), .len false (.t 35)⟩, ⟨(some 37), (some (34, true)), .bin 0 .eql (.t 36) (.c (.int .i64 0))⟩, ⟨(some 38), none, .pick (.t 34) (.t 37) (.c (.bool false))⟩, ⟨(some 39), none, .mv (.t 38)⟩, ⟨(some 40), (some (39, true)), .mv (.t 6)⟩, ⟨(some 41), (some (39, true)), .bin 0 .eql (.t 40) (.c (.int .i64 0))⟩, ⟨(some 42), none, .pick (.t 39) (.t 41) (.c (.bool false))⟩, ⟨(some 43), none, .mv (.t 42)⟩, ⟨(some 44), (some (43, true)), .call 14 []⟩, ⟨(some 45), none, .pick (.t 43) (.t 44) (.c (.bool false))⟩, ⟨(some 2), none, .mv (.t 45)⟩])
 (.ret)) (.skip))))
 (.seq (.ops [⟨(some 47), none, .mv (.t 4)⟩, ⟨(some 48), none, .call 15 [(.t 47)]⟩, ⟨(some 46), none, .mv (.t 48)⟩, ⟨(some 49), none, .ext (.t 46) 0⟩, ⟨(some 50), none, .ext (.t 46) 1⟩, ⟨(some 9), none, .mv (.t 49)⟩, ⟨(some 10), none, .mv (.t 50)⟩])
 (.seq (.ops [⟨(some 51), none, .mv (.t 7)⟩, ⟨(some 52), none, .bin 0 .eql (.t 51) (.c (.int .i64 0))⟩, ⟨(some 53), none, .mv (.t 52)⟩, ⟨(some 54), (some (53, true)), .mv (.t 5)⟩, ⟨(some 55), (some (53, true)), .mv (.t 9)⟩, ⟨(some 56), (some (53, true)), .call 16 [(.t 54), (.t 55)]⟩, ⟨(some 57), none, .pick (.t 53) (.t 56) (.c (.bool false))⟩, ⟨(some 58), none, .mv (.t 57)⟩, ⟨(some 59), (some (58, true)), .mv (.t 6)⟩, ⟨(some 60), (some (58, true)), .mv (.t 10)⟩, ⟨(some 61), (some (58, true)), .bin 0 .eql (.t 59) (.t 60)⟩, ⟨(some 62), none, .pick (.t 58) (.t 61) (.c (.bool false))⟩, ⟨(some 63), none, .mv (.t 62)⟩, ⟨(some 64), (some (63, true)), .call 14 []⟩, ⟨(some 65), none, .pick (.t 63) (.t 64) (.c (.bool false))⟩, ⟨(some 2), none, .mv (.t 65)⟩])
 (.ret))))))))⟩
theorem c3 : compF Go.Proofs.Try.prog 3 = some a3 := by kernel_rfl
def a5 : AFn := ⟨98, [.t 2], .seq (.ops [⟨(some 2), none, .mv (.c (.bool false))⟩])
 (.seq (.ops [⟨(some 17), none, .mv (.t 0)⟩, ⟨(some 18), none, .build [(.lit true 0 []), (.int .i64 0)] [(0, 1, (.t 17))]⟩, ⟨(some 19), none, .box 25 (.t 18)⟩, ⟨(some 3), none, .mv (.t 19)⟩])
 (.seq (.ops [⟨(some 20), none, .mv (.t 3)⟩, ⟨(some 21), none, .call 34 [(.t 20)]⟩, ⟨(some 4), none, .alloc 43 [(.lit true 0 []), (.str [])]⟩, ⟨none, none, .store 2 (.t 4) (.t 21)⟩])
 (.seq (.ops [⟨(some 23), none, .load (some 2) (.t 4)⟩, ⟨(some 24), none, .call 35 [(.t 23)]⟩, ⟨(some 22), none, .mv (.t 24)⟩, ⟨(some 25), none, .ext (.t 22) 0⟩, ⟨(some 26), none, .ext (.t 22) 1⟩, ⟨(some 5), none, .alloc 43 [(.lit true 0 []), (.str [])]⟩, ⟨none, none, .store 2 (.t 5) (.t 25)⟩, ⟨(some 6), none, .mv (.t 26)⟩])
 (.seq (.seq (.ops [⟨(some 27), none, .mv (.t 6)⟩, ⟨(some 28), none, .bin 0 .neq (.t 27) (.c (.int .i64 0))⟩])
 (.cond (.t 28) (.seq (.ops [⟨(some 2), none, .mv (.c (.bool false))⟩])
 (.ret)) (.skip)))
 (.seq (.ops [⟨(some 30), none, .load (some 2) (.t 4)⟩, ⟨(some 31), none, .call 36 [(.t 30), (.c (.int .i64 1))]⟩, ⟨(some 29), none, .mv (.t 31)⟩, ⟨(some 32), none, .ext (.t 29) 0⟩, ⟨(some 33), none, .ext (.t 29) 1⟩, ⟨(some 7), none, .mv (.t 32)⟩, ⟨(some 8), none, .mv (.t 33)⟩])
 (.seq (.ops [⟨(some 35), none, .load (some 2) (.t 5)⟩, ⟨(some 36), none, .call 36 [(.t 35), (.c (.int .i64 1))]⟩, ⟨(some 34), none, .mv (.t 36)⟩, ⟨(some 37), none, .ext (.t 34) 0⟩, ⟨(some 38), none, .ext (.t 34) 1⟩, ⟨(some 9), none, .mv (.t 37)⟩, ⟨(some 10), none, .mv (.t 38)⟩])
 (.seq (.ops [⟨(some 40), none, .load (some 2) (.t 4)⟩, ⟨(some 41), none, .call 37 [(.t 40)]⟩, ⟨(some 39), none, .mv (.t 41)⟩, ⟨(some 42), none, .ext (.t 39) 0⟩, ⟨(some 43), none, .ext (.t 39) 1⟩, ⟨(some 44), none, .ext (.t 39) 2⟩, ⟨(some 11), none, .alloc 49 [(.int .i64 0), (.int .i64 0)]⟩, ⟨none, none, .store 2 (.t 11) (.t 42)⟩, ⟨(some 12), none, .mv (.t 43)⟩, ⟨(some 13), none, .mv (.t 44)⟩])
 (.seq (.ops [⟨(some 46), none, .load (some 2) (.t 5)⟩, ⟨(some 47), none, .call 37 [(.t 46)]⟩, ⟨(some 45), none, .mv (.t 47)⟩, ⟨(some 48), none, .ext (.t 45) 0⟩, ⟨(some 49), none, .ext (.t 45) 1⟩, ⟨(some 50), none, .ext (.t 45) 2⟩, ⟨(some 14), none, .alloc 49 [(.int .i64 0), (.int .i64 0)]⟩, ⟨none, none, .store 2 (.t 14) (.t 48)⟩, ⟨(some 15), none, .mv (.t 49)⟩, ⟨(some 16), none, .mv (.t 50)⟩])
 (.seq (.seq (.ops [⟨(some 51), none, .mv (.t 8)⟩, ⟨(some 52), none, .bin 0 .neq (.t 51) (.c (.int .i64 0))⟩, ⟨(some 53), none, .mv (.t 52)⟩, ⟨(some 54), (some (53, false)), .mv (.t 10)⟩, ⟨(some 55), (some (53, false)), .bin 0 .neq (.t 54) (.c (.int .i64 0))⟩, ⟨(some 56), none, .pick (.t 53) (.c (.bool true)) (.t 55)⟩, ⟨(some 57), none, .mv (.t 56)⟩, ⟨(some 58), (some (57, false)), .mv (.t 13)⟩, ⟨(some 59), (some (57, false)), .bin 0 .neq (.t 58) (.c (.int .i64 0))⟩, ⟨(some 60), none, .pick (.t 57) (.c (.bool true)) (.t 59)⟩, ⟨(some 61), none, .mv (.t 60)⟩, ⟨(some 62), (some (61, false)), .mv (.t 16)⟩, ⟨(some 63), (some (61, false)), .bin 0 .neq (.t 62) (.c (.int .i64 0))⟩, ⟨(some 64), none, .pick (.t 61) (.c (.bool true)) (.t 63)⟩, ⟨(some 65), none, .mv (.t 64)⟩, ⟨(some 66), (some (65, false)), .mv (.t 7)⟩, ⟨(some 67), (some (65, false)), .len false (.t 66)⟩, ⟨(some 68), (some (65, false)), .mv (.t 9)⟩, ⟨(some 69), (some (65, false)), .len false (.t 68)⟩, ⟨(some 70), (some (65, false)), .bin 0 .neq (.t 67) (.t 69)⟩, ⟨(some 71), none, .pick (.t 65) (.c (.bool true)) (.t 70)⟩, ⟨(some 72), none, .mv (.t 71)⟩, ⟨(some 73), (some (72, false)), .load (some 2) (.t 11)⟩, ⟨(some 74), (some (72, false)), .load (some 2) (.t 14)⟩, ⟨(some 75), (some (72, false)), .eqs true [0, 0] (.t 73) (.t 74)⟩, ⟨(some 76), none, .pick (.t 72) (.c (.bool true)) (.t 75)⟩, ⟨(some 77), none, .mv (.t 76)⟩, ⟨(some 78), (some (77, false)), .mv (.t 12)⟩, ⟨(some 79), (some (77, false)), .mv (.t 15)⟩, ⟨(some 80), (some (77, false)), .bin 2 .neq (.t 78) (.t 79)⟩, ⟨(some 81), none, .pick (.t 77) (.c (.bool true)) (.t 80)⟩])
 (.cond (.t 81) (.seq (.ops [⟨(some 2), none, .mv (.c (.bool false))⟩])
 (.ret)) (.skip)))
 (.seq (.seq (.ops [⟨(some 82), none, .mv (.c (.int .i64 0))⟩])
 (.block 0 (.loop (.seq (.ops [⟨(some 83), none, .bin 0 .lss (.t 82) (.c (.int .i64 3))⟩])
 (.seq (.cond (.t 83) (.skip) (.exit 0))
 (.seq (.block 1 (.seq (.ops [⟨(some 85), none, .load (some 2) (.t 5)⟩, ⟨(some 86), none, .call 35 [(.t 85)]⟩, ⟨(some 84), none, .mv (.t 86)⟩, ⟨(some 87), none, .ext (.t 84) 0⟩, ⟨(some 88), none, .ext (.t 84) 1⟩, ⟨none, none, .store 2 (.t 5) (.t 87)⟩, ⟨(some 6), none, .mv (.t 88)⟩])
 (.seq (.ops [⟨(some 89), none, .mv (.t 6)⟩, ⟨(some 90), none, .bin 0 .neq (.t 89) (.c (.int .i64 0))⟩])
 (.cond (.t 90) (.seq (.ops [⟨(some 2), none, .mv (.c (.bool false))⟩])
 (.ret)) (.skip)))))
 (.ops [⟨(some 91), none, .bin 0 .add (.t 82) (.c (.int .i64 1))⟩, ⟨(some 82), none, .mv (.t 91)⟩])))))))
 (.seq (.ops [⟨(some 92), none, .load (some 2) (.t 5)⟩, ⟨(some 93), none, .load (some 2) (.t 4)⟩, ⟨(some 94), none, .call 31 [(.t 92), (.t 93)]⟩, ⟨(some 95), none, .mv (.t 94)⟩, ⟨(some 96), (some (95, true)), .call 38 []⟩, ⟨(some 97), none, .pick (.t 95) (.t 96) (.c (.bool false))⟩, ⟨(some 2), none, .mv (.t 97)⟩])
 (.ret))))))))))))⟩
theorem c5 : compF Go.Proofs.Try.prog 5 = some a5 := by kernel_rfl
def a6 : AFn := ⟨82, [.t 2], .seq (.ops [⟨(some 2), none, .mv (.c (.bool false))⟩])
 (.seq (.ops [⟨(some 11), none, .mv (.t 0)⟩, ⟨(some 12), none, .build [(.lit true 0 []), (.int .i64 0)] [(0, 1, (.t 11))]⟩, ⟨(some 13), none, .box 25 (.t 12)⟩, ⟨(some 3), none, .mv (.t 13)⟩])
 (.seq (.ops [⟨(some 14), none, .mv (.t 3)⟩, ⟨(some 15), none, .call 9 [(.t 14)]⟩, ⟨(some 4), none, .alloc 26 [(.lit true 0 [])]⟩, ⟨none, none, .store 1 (.t 4) (.t 15)⟩])
 (.seq (.seq (.ops [⟨(some 16), none, .load none (.t 4)⟩, ⟨(some 17), none, .call 13 [(.t 16)]⟩, ⟨(some 18), none, .bin 0 .neq (.t 17) (.c (.int .i64 0))⟩])
 (.cond (.t 18) (.seq (.ops [⟨(some 19), none, .call 38 []⟩, ⟨(some 2), none, .mv (.t 19)⟩])
 (.ret)) (.skip)))
 (.seq (.ops [⟨(some 21), none, .load none (.t 4)⟩, ⟨(some 22), none, .call 12 [(.t 21)]⟩, ⟨(some 20), none, .mv (.t 22)⟩, ⟨(some 23), none, .ext (.t 20) 0⟩, ⟨(some 24), none, .ext (.t 20) 1⟩, ⟨(some 25), none, .ext (.t 20) 2⟩, ⟨(some 5), none, .alloc 22 [(.lit true 0 [])]⟩, ⟨none, none, .store 1 (.t 5) (.t 23)⟩, ⟨(some 6), none, .mv (.t 24)⟩, ⟨(some 7), none, .mv (.t 25)⟩])
 (.seq (.seq (.any [(⟨(some 26), none, .mv (.t 7)⟩, []), (⟨(some 27), none, .bin 0 .neq (.t 26) (.c (.int .i64 0))⟩, []), (⟨(some 28), none, .mv (.t 27)⟩, []), (⟨(some 29), (some (28, false)), .load none (.t 5)⟩, []), (⟨(some 30), (some (28, false)), .len false (.t 29)⟩, []), (⟨(some 31), (some (28, false)), .load none (.t 4)⟩, [3, 4]), (⟨(some 32), (some (28, false)), .len false (.t 31)⟩, [3, 4]), (⟨(some 33), (some (28, false)), .bin 0 .neq (.t 30) (.t 32)⟩, []), (⟨(some 34), none, .pick (.t 28) (.c (.bool true)) (.t 33)⟩, []), (⟨(some 35), none, .mv (.t 34)⟩, []), (⟨(some 36), (some (35, false)), .load none (.t 5)⟩, []), (⟨(some 37), (some (35, false)), .iadr 1 (.t 36) (.c (.int .i64 0))⟩, []), (⟨(some 38), (some (35, false)), .load none (.t 37)⟩, []), (⟨(some 39), (some (35, false)), .bin 0 .neq (.t 38) (.c (.int .i64 0))⟩, []), (⟨(some 40), none, .pick (.t 35) (.c (.bool true)) (.t 39)⟩, []), (⟨(some 41), none, .mv (.t 40)⟩, []), (⟨(some 42), (some (41, false)), .load none (.t 5)⟩, []), (⟨(some 43), (some (41, false)), .call 41 [(.t 42)]⟩, []), (⟨(some 44), (some (41, false)), .call 40 [(.t 43)]⟩, []), (⟨(some 45), (some (41, false)), .call 39 [(.t 44)]⟩, []), (⟨(some 46), (some (41, false)), .len false (.t 45)⟩, []), (⟨(some 47), (some (41, false)), .load none (.t 5)⟩, [16, 17, 18, 19, 20]), (⟨(some 48), (some (41, false)), .len false (.t 47)⟩, [16, 17, 18, 19, 20]), (⟨(some 49), (some (41, false)), .bin 0 .neq (.t 46) (.t 48)⟩, []), (⟨(some 50), none, .pick (.t 41) (.c (.bool true)) (.t 49)⟩, [])])
 (.cond (.t 50) (.seq (.ops [⟨(some 2), none, .mv (.c (.bool false))⟩])
 (.ret)) (.skip)))
 (.seq (.ops [⟨(some 51), none, .mkfn 42 [(.t 4)]⟩, ⟨(some 8), none, .mv (.t 51)⟩])
 (.seq (.seq (.ops [⟨(some 52), none, .load none (.t 5)⟩, ⟨(some 53), none, .len false (.t 52)⟩, ⟨(some 54), none, .mv (.c (.int .i64 0))⟩])
 (.block 0 (.loop (.seq (.ops [⟨(some 55), none, .bin 0 .lss (.t 54) (.t 53)⟩])
 (.seq (.cond (.t 55) (.skip) (.exit 0))
 (.seq (.block 1 (.seq (.ops [⟨(some 56), none, .iadr 1 (.t 52) (.t 54)⟩, ⟨(some 57), none, .load none (.t 56)⟩, ⟨(some 10), none, .mv (.t 57)⟩])
 (.seq (.ops [⟨(some 58), none, .mv (.t 10)⟩, ⟨(some 59), none, .bin 0 .lss (.t 58) (.c (.int .i64 0))⟩, ⟨(some 60), none, .mv (.t 59)⟩, ⟨(some 61), (some (60, false)), .mv (.t 10)⟩, ⟨(some 62), (some (60, false)), .load none (.t 4)⟩, ⟨(some 63), (some (60, false)), .len false (.t 62)⟩, ⟨(some 64), (some (60, false)), .bin 0 .geq (.t 61) (.t 63)⟩, ⟨(some 65), none, .pick (.t 60) (.c (.bool true)) (.t 64)⟩])
 (.cond (.t 65) (.seq (.ops [⟨(some 2), none, .mv (.c (.bool false))⟩])
 (.ret)) (.skip)))))
 (.ops [⟨(some 66), none, .bin 0 .add (.t 54) (.c (.int .i64 1))⟩, ⟨(some 54), none, .mv (.t 66)⟩])))))))
 (.seq (.ops [⟨(some 67), none, .mv (.t 8)⟩, ⟨(some 68), none, .mkfn 43 [(.t 4), (.t 5)]⟩, ⟨(some 69), none, .callv (.t 67) [(.t 68)]⟩, ⟨(some 70), none, .mv (.t 6)⟩, ⟨(some 71), none, .bin 0 .eql (.t 69) (.t 70)⟩, ⟨(some 72), none, .mv (.t 71)⟩, ⟨(some 73), (some (72, true)), .mv (.t 6)⟩, ⟨(some 74), (some (72, true)), .mv (.t 8)⟩, ⟨(some 75), (some (72, true)), .mkfn 44 [(.t 4)]⟩, ⟨(some 76), (some (72, true)), .callv (.t 74) [(.t 75)]⟩, ⟨(some 77), (some (72, true)), .bin 0 .leq (.t 73) (.t 76)⟩, ⟨(some 78), none, .pick (.t 72) (.t 77) (.c (.bool false))⟩, ⟨(some 79), none, .mv (.t 78)⟩, ⟨(some 80), (some (79, true)), .call 38 []⟩, ⟨(some 81), none, .pick (.t 79) (.t 80) (.c (.bool false))⟩, ⟨(some 2), none, .mv (.t 81)⟩])
 (.ret)))))))))⟩
theorem c6 : compF Go.Proofs.Try.prog 6 = some a6 := by kernel_rfl
def a7 : AFn := ⟨133, [.t 2], .seq (.ops [⟨(some 2), none, .mv (.c (.bool false))⟩])
 (.seq (.ops [⟨(some 24), none, .mv (.t 0)⟩, ⟨(some 25), none, .build [(.lit true 0 []), (.int .i64 0)] [(0, 1, (.t 24))]⟩, ⟨(some 26), none, .box 25 (.t 25)⟩, ⟨(some 27), none, .mv (.t 0)⟩, ⟨(some 28), none, .build [(.lit true 0 []), (.int .i64 0)] [(0, 1, (.t 27))]⟩, ⟨(some 29), none, .box 25 (.t 28)⟩, ⟨(some 3), none, .mv (.t 26)⟩, ⟨(some 4), none, .mv (.t 29)⟩])
 (.seq (.ops [⟨(some 30), none, .mv (.t 3)⟩, ⟨(some 31), none, .call 34 [(.t 30)]⟩, ⟨(some 32), none, .mv (.t 4)⟩, ⟨(some 33), none, .call 34 [(.t 32)]⟩, ⟨(some 5), none, .alloc 43 [(.lit true 0 []), (.str [])]⟩, ⟨(some 6), none, .alloc 43 [(.lit true 0 []), (.str [])]⟩, ⟨none, none, .store 2 (.t 5) (.t 31)⟩, ⟨none, none, .store 2 (.t 6) (.t 33)⟩])
 (.seq (.ops [⟨(some 34), none, .mv (.t 3)⟩, ⟨(some 35), none, .call 9 [(.t 34)]⟩, ⟨(some 36), none, .mv (.t 4)⟩, ⟨(some 37), none, .call 9 [(.t 36)]⟩, ⟨(some 7), none, .mv (.t 35)⟩, ⟨(some 8), none, .mv (.t 37)⟩])
 (.seq (.ops [⟨(some 39), none, .load (some 2) (.t 5)⟩, ⟨(some 40), none, .call 35 [(.t 39)]⟩, ⟨(some 38), none, .mv (.t 40)⟩, ⟨(some 41), none, .ext (.t 38) 0⟩, ⟨(some 42), none, .ext (.t 38) 1⟩, ⟨(some 9), none, .alloc 43 [(.lit true 0 []), (.str [])]⟩, ⟨none, none, .store 2 (.t 9) (.t 41)⟩, ⟨(some 10), none, .mv (.t 42)⟩])
 (.seq (.ops [⟨(some 44), none, .load (some 2) (.t 5)⟩, ⟨(some 45), none, .call 45 [(.t 44), (.c (.int .i64 1))]⟩, ⟨(some 43), none, .mv (.t 45)⟩, ⟨(some 46), none, .ext (.t 43) 0⟩, ⟨(some 47), none, .ext (.t 43) 1⟩, ⟨(some 48), none, .ext (.t 43) 2⟩, ⟨(some 11), none, .alloc 43 [(.lit true 0 []), (.str [])]⟩, ⟨none, none, .store 2 (.t 11) (.t 46)⟩, ⟨(some 12), none, .mv (.t 47)⟩, ⟨(some 13), none, .mv (.t 48)⟩])
 (.seq (.ops [⟨(some 50), none, .load (some 2) (.t 5)⟩, ⟨(some 51), none, .load (some 2) (.t 5)⟩, ⟨(some 52), none, .call 28 [(.t 50), (.t 51)]⟩, ⟨(some 49), none, .mv (.t 52)⟩, ⟨(some 53), none, .ext (.t 49) 0⟩, ⟨(some 54), none, .ext (.t 49) 1⟩, ⟨(some 14), none, .alloc 43 [(.lit true 0 []), (.str [])]⟩, ⟨none, none, .store 2 (.t 14) (.t 53)⟩, ⟨(some 15), none, .mv (.t 54)⟩])
 (.seq (.ops [⟨(some 56), none, .load (some 2) (.t 5)⟩, ⟨(some 57), none, .call 36 [(.t 56), (.c (.int .i64 1))]⟩, ⟨(some 55), none, .mv (.t 57)⟩, ⟨(some 58), none, .ext (.t 55) 0⟩, ⟨(some 59), none, .ext (.t 55) 1⟩, ⟨(some 16), none, .mv (.t 58)⟩, ⟨(some 17), none, .mv (.t 59)⟩])
 (.seq (.seq (.ops [⟨(some 60), none, .mv (.t 10)⟩, ⟨(some 61), none, .bin 0 .neq (.t 60) (.c (.int .i64 0))⟩, ⟨(some 62), none, .mv (.t 61)⟩, ⟨(some 63), (some (62, false)), .mv (.t 13)⟩, ⟨(some 64), (some (62, false)), .bin 0 .neq (.t 63) (.c (.int .i64 0))⟩, ⟨(some 65), none, .pick (.t 62) (.c (.bool true)) (.t 64)⟩, ⟨(some 66), none, .mv (.t 65)⟩, ⟨(some 67), (some (66, false)), .mv (.t 15)⟩, ⟨(some 68), (some (66, false)), .bin 0 .neq (.t 67) (.c (.int .i64 0))⟩, ⟨(some 69), none, .pick (.t 66) (.c (.bool true)) (.t 68)⟩, ⟨(some 70), none, .mv (.t 69)⟩, ⟨(some 71), (some (70, false)), .mv (.t 17)⟩, ⟨(some 72), (some (70, false)), .bin 0 .neq (.t 71) (.c (.int .i64 0))⟩, ⟨(some 73), none, .pick (.t 70) (.c (.bool true)) (.t 72)⟩, ⟨(some 74), none, .mv (.t 73)⟩, ⟨(some 75), (some (74, false)), .mv (.t 12)⟩, ⟨(some 76), (some (74, false)), .bin 0 .lss (.t 75) (.c (.int .i64 0))⟩, ⟨(some 77), none, .pick (.t 74) (.c (.bool true)) (.t 76)⟩, ⟨(some 78), none, .mv (.t 77)⟩, ⟨(some 79), (some (78, false)), .load (some 2) (.t 14)⟩, ⟨(some 80), (some (78, false)), .load (some 2) (.t 6)⟩, ⟨(some 81), (some (78, false)), .call 31 [(.t 79), (.t 80)]⟩, ⟨(some 82), (some (78, false)), .un .not (.t 81)⟩, ⟨(some 83), none, .pick (.t 78) (.c (.bool true)) (.t 82)⟩])
 (.cond (.t 83) (.seq (.ops [⟨(some 2), none, .mv (.c (.bool false))⟩])
 (.ret)) (.skip)))
 (.seq (.ops [⟨(some 85), none, .mv (.t 7)⟩, ⟨(some 86), none, .call 12 [(.t 85)]⟩, ⟨(some 84), none, .mv (.t 86)⟩, ⟨(some 87), none, .ext (.t 84) 0⟩, ⟨(some 88), none, .ext (.t 84) 1⟩, ⟨(some 89), none, .ext (.t 84) 2⟩, ⟨(some 18), none, .mv (.t 87)⟩, ⟨(some 19), none, .mv (.t 88)⟩, ⟨(some 20), none, .mv (.t 89)⟩])
 (.seq (.seq (.ops [⟨(some 90), none, .mv (.t 20)⟩, ⟨(some 91), none, .mv (.t 8)⟩, ⟨(some 92), none, .call 13 [(.t 91)]⟩, ⟨(some 93), none, .bin 0 .neq (.t 90) (.t 92)⟩])
 (.cond (.t 93) (.seq (.ops [⟨(some 2), none, .mv (.c (.bool false))⟩])
 (.ret)) (.skip)))
 (.seq (.ops [⟨(some 94), none, .fadr 0 (.t 9)⟩, ⟨(some 95), none, .load none (.t 94)⟩, ⟨(some 96), none, .call 46 [(.t 95)]⟩])
 (.seq (.ops [⟨(some 97), none, .fadr 0 (.t 11)⟩, ⟨(some 98), none, .load none (.t 97)⟩, ⟨(some 99), none, .call 46 [(.t 98)]⟩])
 (.seq (.ops [⟨(some 100), none, .fadr 0 (.t 14)⟩, ⟨(some 101), none, .load none (.t 100)⟩, ⟨(some 102), none, .call 46 [(.t 101)]⟩])
 (.seq (.ops [⟨(some 103), none, .mv (.t 18)⟩, ⟨(some 104), none, .call 47 [(.t 103)]⟩])
 (.seq (.seq (.ops [⟨(some 105), none, .mv (.t 16)⟩, ⟨(some 106), none, .len false (.t 105)⟩, ⟨(some 107), none, .mv (.c (.int .i64 0))⟩])
 (.block 0 (.loop (.seq (.ops [⟨(some 108), none, .bin 0 .lss (.t 107) (.t 106)⟩])
 (.seq (.cond (.t 108) (.skip) (.exit 0))
 (.seq (.block 1 (.seq (.ops [⟨(some 109), none, .iadr 1 (.t 105) (.t 107)⟩, ⟨(some 110), none, .load none (.t 109)⟩, ⟨(some 22), none, .mv (.t 110)⟩])
 (.seq (.ops [⟨(some 111), none, .mv (.t 22)⟩, ⟨(some 112), none, .len false (.t 111)⟩, ⟨(some 113), none, .mv (.c (.int .i64 0))⟩])
 (.block 2 (.loop (.seq (.ops [⟨(some 114), none, .bin 0 .lss (.t 113) (.t 112)⟩])
 (.seq (.cond (.t 114) (.skip) (.exit 2))
 (.seq (.block 3 (.seq (.ops [⟨(some 115), none, .mv (.t 113)⟩, ⟨(some 23), none, .mv (.t 115)⟩])
 (.ops [⟨(some 116), none, .mv (.t 22)⟩, ⟨(some 117), none, .mv (.t 23)⟩, ⟨(some 118), none, .build [(.int .i64 0), (.int .i64 0)] [(0, 1, (.c (.int .i64 777)))]⟩, ⟨(some 119), none, .iadr 2 (.t 116) (.t 117)⟩, ⟨none, none, .store 2 (.t 119) (.t 118)⟩])))
 (.ops [⟨(some 120), none, .bin 0 .add (.t 113) (.c (.int .i64 1))⟩, ⟨(some 113), none, .mv (.t 120)⟩])))))))))
 (.ops [⟨(some 121), none, .bin 0 .add (.t 107) (.c (.int .i64 1))⟩, ⟨(some 107), none, .mv (.t 121)⟩])))))))
 (.seq (.ops [⟨(some 122), none, .load (some 2) (.t 5)⟩, ⟨(some 123), none, .load (some 2) (.t 6)⟩, ⟨(some 124), none, .call 31 [(.t 122), (.t 123)]⟩, ⟨(some 125), none, .mv (.t 124)⟩, ⟨(some 126), (some (125, true)), .mv (.t 7)⟩, ⟨(some 127), (some (125, true)), .mv (.t 8)⟩, ⟨(some 128), (some (125, true)), .call 26 [(.t 126), (.t 127)]⟩, ⟨(some 129), none, .pick (.t 125) (.t 128) (.c (.bool false))⟩, ⟨(some 130), none, .mv (.t 129)⟩, ⟨(some 131), (some (130, true)), .call 38 []⟩, ⟨(some 132), none, .pick (.t 130) (.t 131) (.c (.bool false))⟩, ⟨(some 2), none, .mv (.t 132)⟩])
 (.ret)))))))))))))))))⟩
theorem c7 : compF Go.Proofs.Try.prog 7 = some a7 := by kernel_rfl
def a8 : AFn := ⟨101, [.t 2], .seq (.ops [⟨(some 2), none, .mv (.c (.bool false))⟩])
 (.seq (.ops [⟨(some 17), none, .mv (.t 0)⟩, ⟨(some 18), none, .build [(.lit true 0 []), (.int .i64 0)] [(0, 1, (.t 17))]⟩, ⟨(some 19), none, .box 25 (.t 18)⟩, ⟨(some 3), none, .mv (.t 19)⟩])
 (.seq (.ops [⟨(some 20), none, .mv (.t 3)⟩, ⟨(some 21), none, .call 34 [(.t 20)]⟩, ⟨(some 4), none, .alloc 43 [(.lit true 0 []), (.str [])]⟩, ⟨none, none, .store 2 (.t 4) (.t 21)⟩])
 (.seq (.ops [⟨(some 23), none, .load (some 2) (.t 4)⟩, ⟨(some 24), none, .call 36 [(.t 23), (.c (.int .i64 1))]⟩, ⟨(some 22), none, .mv (.t 24)⟩, ⟨(some 25), none, .ext (.t 22) 0⟩, ⟨(some 26), none, .ext (.t 22) 1⟩, ⟨(some 5), none, .mv (.t 25)⟩, ⟨(some 6), none, .mv (.t 26)⟩])
 (.seq (.seq (.ops [⟨(some 27), none, .mv (.t 6)⟩, ⟨(some 28), none, .bin 0 .neq (.t 27) (.c (.int .i64 0))⟩])
 (.cond (.t 28) (.seq (.ops [⟨(some 2), none, .mv (.c (.bool false))⟩])
 (.ret)) (.skip)))
 (.seq (.ops [⟨(some 7), none, .alloc 81 [.any]⟩, ⟨none, none, .store 1 (.t 7) (.c (.fn 48 []))⟩])
 (.seq (.ops [⟨(some 8), none, .mv (.c (.int .i64 0))⟩])
 (.seq (.seq (.ops [⟨(some 29), none, .mv (.t 5)⟩, ⟨(some 30), none, .len false (.t 29)⟩, ⟨(some 31), none, .mv (.c (.int .i64 0))⟩])
 (.block 0 (.loop (.seq (.ops [⟨(some 32), none, .bin 0 .lss (.t 31) (.t 30)⟩])
 (.seq (.cond (.t 32) (.skip) (.exit 0))
 (.seq (.block 1 (.seq (.ops [⟨(some 33), none, .mv (.t 31)⟩, ⟨(some 34), none, .iadr 1 (.t 29) (.t 31)⟩, ⟨(some 35), none, .load none (.t 34)⟩, ⟨(some 9), none, .mv (.t 33)⟩, ⟨(some 10), none, .mv (.t 35)⟩])
 (.seq (.ops [⟨(some 36), none, .mv (.t 8)⟩, ⟨(some 37), none, .mv (.t 10)⟩, ⟨(some 38), none, .len false (.t 37)⟩, ⟨(some 39), none, .bin 0 .add (.t 36) (.t 38)⟩, ⟨(some 8), none, .mv (.t 39)⟩])
 (.seq (.ops [⟨(some 40), none, .mv (.t 10)⟩, ⟨(some 41), none, .len false (.t 40)⟩, ⟨(some 42), none, .mv (.c (.int .i64 0))⟩])
 (.block 2 (.loop (.seq (.ops [⟨(some 43), none, .bin 0 .lss (.t 42) (.t 41)⟩])
 (.seq (.cond (.t 43) (.skip) (.exit 2))
 (.seq (.block 3 (.seq (.ops [⟨(some 44), none, .iadr 2 (.t 40) (.t 42)⟩, ⟨(some 45), none, .load (some 2) (.t 44)⟩, ⟨(some 12), none, .alloc 31 [(.int .i64 0), (.int .i64 0)]⟩, ⟨none, none, .store 2 (.t 12) (.t 45)⟩])
 (.seq (.seq (.ops [⟨(some 46), none, .mv (.t 10)⟩, ⟨(some 47), none, .len false (.t 46)⟩, ⟨(some 48), none, .bin 0 .gtr (.t 47) (.c (.int .i64 1))⟩, ⟨(some 49), none, .mv (.t 48)⟩, ⟨(some 50), (some (49, true)), .mv (.t 10)⟩, ⟨(some 51), (some (49, true)), .mkfn 50 [(.t 7), (.t 12)]⟩, ⟨(some 52), (some (49, true)), .call 49 [(.t 50), (.t 51)]⟩, ⟨(some 53), (some (49, true)), .un .not (.t 52)⟩, ⟨(some 54), none, .pick (.t 49) (.t 53) (.c (.bool false))⟩])
 (.cond (.t 54) (.seq (.ops [⟨(some 2), none, .mv (.c (.bool false))⟩])
 (.ret)) (.skip)))
 (.seq (.ops [⟨(some 55), none, .mv (.t 5)⟩, ⟨(some 56), none, .mv (.t 9)⟩, ⟨(some 57), none, .slc 1 (.t 55) none (some (.t 56))⟩, ⟨(some 58), none, .len false (.t 57)⟩, ⟨(some 59), none, .mv (.c (.int .i64 0))⟩])
 (.block 4 (.loop (.seq (.ops [⟨(some 60), none, .bin 0 .lss (.t 59) (.t 58)⟩])
 (.seq (.cond (.t 60) (.skip) (.exit 4))
 (.seq (.block 5 (.seq (.ops [⟨(some 61), none, .iadr 1 (.t 57) (.t 59)⟩, ⟨(some 62), none, .load none (.t 61)⟩, ⟨(some 14), none, .mv (.t 62)⟩])
 (.seq (.ops [⟨(some 63), none, .mv (.t 14)⟩, ⟨(some 64), none, .mkfn 51 [(.t 7), (.t 12)]⟩, ⟨(some 65), none, .call 49 [(.t 63), (.t 64)]⟩])
 (.cond (.t 65) (.seq (.ops [⟨(some 2), none, .mv (.c (.bool false))⟩])
 (.ret)) (.skip)))))
 (.ops [⟨(some 66), none, .bin 0 .add (.t 59) (.c (.int .i64 1))⟩, ⟨(some 59), none, .mv (.t 66)⟩]))))))))))
 (.ops [⟨(some 67), none, .bin 0 .add (.t 42) (.c (.int .i64 1))⟩, ⟨(some 42), none, .mv (.t 67)⟩]))))))))))
 (.ops [⟨(some 68), none, .bin 0 .add (.t 31) (.c (.int .i64 1))⟩, ⟨(some 31), none, .mv (.t 68)⟩])))))))
 (.seq (.ops [⟨(some 70), none, .load (some 2) (.t 4)⟩, ⟨(some 71), none, .call 37 [(.t 70)]⟩, ⟨(some 69), none, .mv (.t 71)⟩, ⟨(some 72), none, .ext (.t 69) 0⟩, ⟨(some 73), none, .ext (.t 69) 1⟩, ⟨(some 74), none, .ext (.t 69) 2⟩, ⟨(some 15), none, .alloc 49 [(.int .i64 0), (.int .i64 0)]⟩, ⟨none, none, .store 2 (.t 15) (.t 72)⟩, ⟨(some 16), none, .mv (.t 73)⟩, ⟨(some 6), none, .mv (.t 74)⟩])
 (.seq (.ops [⟨(some 75), none, .mv (.t 6)⟩, ⟨(some 76), none, .bin 0 .eql (.t 75) (.c (.int .i64 0))⟩, ⟨(some 77), none, .mv (.t 76)⟩, ⟨(some 78), (some (77, true)), .mv (.t 16)⟩, ⟨(some 79), (some (77, true)), .un .not (.t 78)⟩, ⟨(some 80), (some (77, true)), .mv (.t 79)⟩, ⟨(some 81), (some (80, false)), .mv (.t 8)⟩, ⟨(some 82), (some (80, false)), .bin 0 .gtr (.t 81) (.c (.int .i64 0))⟩, ⟨(some 83), (some (77, true)), .pick (.t 80) (.c (.bool true)) (.t 82)⟩, ⟨(some 84), (some (77, true)), .mv (.t 83)⟩, ⟨(some 85), (some (84, false)), .fadr 0 (.t 15)⟩, ⟨(some 86), (some (84, false)), .load none (.t 85)⟩, ⟨(some 87), (some (84, false)), .fadr 1 (.t 15)⟩, ⟨(some 88), (some (84, false)), .load none (.t 87)⟩, ⟨(some 89), (some (84, false)), .bin 0 .eql (.t 86) (.t 88)⟩, ⟨(some 90), (some (77, true)), .pick (.t 84) (.c (.bool true)) (.t 89)⟩, ⟨(some 91), (some (77, true)), .mv (.t 90)⟩, ⟨(some 92), (some (91, false)), .fadr 0 (.t 4)⟩, ⟨(some 93), (some (91, false)), .load none (.t 92)⟩, ⟨(some 94), (some (91, false)), .call 53 [(.t 93), (.c (.str []))]⟩, ⟨(some 95), (some (91, false)), .call 52 [(.t 94), (.c (.str [42]))]⟩, ⟨(some 96), (some (77, true)), .pick (.t 91) (.c (.bool true)) (.t 95)⟩, ⟨(some 97), none, .pick (.t 77) (.t 96) (.c (.bool false))⟩, ⟨(some 98), none, .mv (.t 97)⟩, ⟨(some 99), (some (98, true)), .call 38 []⟩, ⟨(some 100), none, .pick (.t 98) (.t 99) (.c (.bool false))⟩, ⟨(some 2), none, .mv (.t 100)⟩])
 (.ret))))))))))⟩
theorem c8 : compF Go.Proofs.Try.prog 8 = some a8 := by kernel_rfl
def a9 : AFn := ⟨34, [.t 2], .seq (.ops [⟨(some 2), none, .mv (.c (.lit true 0 []))⟩])
 (.seq (.ops [⟨(some 3), none, .mv (.c (.lit true 0 []))⟩])
 (.seq (.seq (.ops [⟨(some 4), none, .mv (.t 0)⟩, ⟨(some 5), none, .bslice 3 1 6 [(.int .i64 0)] [(0, 1, (.c (.int .i64 1))), (1, 1, (.c (.int .i64 2))), (2, 1, (.c (.int .i64 3))), (3, 1, (.c (.int .i64 4))), (4, 1, (.c (.int .i64 5))), (5, 1, (.c (.int .i64 6)))]⟩, ⟨(some 6), none, .call 20 [(.t 4), (.t 5)]⟩, ⟨(some 7), none, .mv (.c (.int .i64 0))⟩])
 (.block 0 (.loop (.seq (.ops [⟨(some 8), none, .bin 0 .lss (.t 7) (.t 6)⟩])
 (.seq (.cond (.t 8) (.skip) (.exit 0))
 (.seq (.block 1 (.ops [⟨(some 9), none, .mv (.t 3)⟩, ⟨(some 10), none, .mv (.t 0)⟩, ⟨(some 11), none, .call 54 [(.t 10), (.c (.int .i64 (-3))), (.c (.int .i64 9))]⟩, ⟨(some 12), none, .mv (.t 0)⟩, ⟨(some 13), none, .bslice 3 1 5 [(.int .i64 0)] [(0, 1, (.c (.int .i64 0))), (1, 1, (.c (.int .i64 0))), (2, 1, (.c (.int .i64 1))), (3, 1, (.c (.int .i64 5))), (4, 1, (.c (.int .i64 (-7))))]⟩, ⟨(some 14), none, .call 20 [(.t 12), (.t 13)]⟩, ⟨(some 15), none, .build [(.int .i64 0), (.int .i64 0)] [(0, 1, (.t 11)), (1, 1, (.t 14))]⟩, ⟨(some 16), none, .bslice 31 2 1 [(.int .i64 0), (.int .i64 0)] [(0, 2, (.t 15))]⟩, ⟨(some 17), none, .app 31 2 16 (.t 9) (.t 16)⟩, ⟨(some 3), none, .mv (.t 17)⟩]))
 (.ops [⟨(some 18), none, .bin 0 .add (.t 7) (.c (.int .i64 1))⟩, ⟨(some 7), none, .mv (.t 18)⟩])))))))
 (.seq (.seq (.ops [⟨(some 19), none, .mv (.t 0)⟩, ⟨(some 20), none, .call 10 [(.t 19), (.c (.int .i64 15))]⟩])
 (.cond (.t 20) (.ops [⟨(some 21), none, .mv (.t 3)⟩, ⟨(some 22), none, .mv (.t 0)⟩, ⟨(some 23), none, .mv (.t 3)⟩, ⟨(some 24), none, .len false (.t 23)⟩, ⟨(some 25), none, .call 55 [(.t 22), (.t 24)]⟩, ⟨(some 26), none, .mv (.t 0)⟩, ⟨(some 27), none, .bslice 3 1 3 [(.int .i64 0)] [(0, 1, (.c (.int .i64 (-1001)))), (1, 1, (.c (.int .i64 1001))), (2, 1, (.c (.int .i64 1000)))]⟩, ⟨(some 28), none, .call 20 [(.t 26), (.t 27)]⟩, ⟨(some 29), none, .iadr 2 (.t 21) (.t 25)⟩, ⟨(some 30), none, .fadr 0 (.t 29)⟩, ⟨none, none, .store 1 (.t 30) (.t 28)⟩]) (.skip)))
 (.seq (.seq (.ops [⟨(some 31), none, .mv (.t 0)⟩, ⟨(some 32), none, .call 10 [(.t 31), (.c (.int .i64 40))]⟩])
 (.cond (.t 32) (.ops [⟨(some 3), none, .mv (.c (.lit true 0 []))⟩]) (.skip)))
 (.seq (.ops [⟨(some 33), none, .mv (.t 3)⟩, ⟨(some 2), none, .mv (.t 33)⟩])
 (.ret))))))⟩
theorem c9 : compF Go.Proofs.Try.prog 9 = some a9 := by kernel_rfl
def a10 : AFn := ⟨9, [.t 4], .seq (.ops [⟨(some 4), none, .mv (.c (.bool false))⟩])
 (.seq (.ops [⟨(some 5), none, .mv (.t 0)⟩, ⟨(some 6), none, .mv (.t 1)⟩, ⟨(some 7), none, .call 55 [(.t 5), (.t 6)]⟩, ⟨(some 8), none, .bin 0 .eql (.t 7) (.c (.int .i64 0))⟩, ⟨(some 4), none, .mv (.t 8)⟩])
 (.ret))⟩
theorem c10 : compF Go.Proofs.Try.prog 10 = some a10 := by kernel_rfl
def a11 : AFn := ⟨48, [.t 4], .seq (.ops [⟨(some 4), none, .mv (.c (.lit true 0 []))⟩])
 (.seq (.seq (.ops [⟨(some 9), none, .mv (.t 1)⟩, ⟨(some 10), none, .bin 0 .lss (.t 9) (.c (.int .i64 0))⟩])
 (.cond (.t 10) (.ops [⟨(some 11), none, .bad⟩, ⟨none, none, .bad⟩]) (.skip)))
 (.seq (.ops [⟨(some 13), none, .mv (.t 0)⟩, ⟨(some 14), none, .len false (.t 13)⟩, ⟨(some 15), none, .conv .u64 (.t 14)⟩, ⟨(some 16), none, .mv (.t 1)⟩, ⟨(some 17), none, .conv .u64 (.t 16)⟩, ⟨(some 18), none, .call 56 [(.t 15), (.t 17)]⟩, ⟨(some 12), none, .mv (.t 18)⟩, ⟨(some 19), none, .ext (.t 12) 0⟩, ⟨(some 20), none, .ext (.t 12) 1⟩, ⟨(some 5), none, .mv (.t 19)⟩, ⟨(some 6), none, .mv (.t 20)⟩])
 (.seq (.seq (.ops [⟨(some 21), none, .mv (.t 5)⟩, ⟨(some 22), none, .bin 0 .gtr (.t 21) (.c (.int .u64 0))⟩, ⟨(some 23), none, .mv (.t 22)⟩, ⟨(some 24), (some (23, false)), .mv (.t 6)⟩, ⟨(some 25), (some (23, false)), .bin 0 .gtr (.t 24) (.c (.int .u64 9223372036854775807))⟩, ⟨(some 26), none, .pick (.t 23) (.c (.bool true)) (.t 25)⟩])
 (.cond (.t 26) (.ops [⟨(some 27), none, .bad⟩, ⟨none, none, .bad⟩]) (.skip)))
 (.seq (.ops [⟨(some 28), none, .mv (.t 6)⟩, ⟨(some 29), none, .conv .i64 (.t 28)⟩, ⟨(some 30), none, .mks 31 2 16 [(.int .i64 0), (.int .i64 0)] (.t 29)⟩, ⟨(some 7), none, .mv (.t 30)⟩])
 (.seq (.ops [⟨(some 31), none, .mv (.t 7)⟩, ⟨(some 32), none, .mv (.t 0)⟩, ⟨(some 33), none, .cpy 2 (.t 31) (.t 32)⟩, ⟨(some 8), none, .mv (.t 33)⟩])
 (.seq (.block 0 (.loop (.seq (.seq (.ops [⟨(some 34), none, .mv (.t 8)⟩, ⟨(some 35), none, .mv (.t 7)⟩, ⟨(some 36), none, .len false (.t 35)⟩, ⟨(some 37), none, .bin 0 .lss (.t 34) (.t 36)⟩])
 (.cond (.t 37) (.skip) (.exit 0)))
 (.block 1 (.any [(⟨(some 38), none, .mv (.t 8)⟩, []), (⟨(some 39), none, .mv (.t 7)⟩, [0]), (⟨(some 40), none, .mv (.t 8)⟩, [0, 1]), (⟨(some 41), none, .slc 2 (.t 39) (some (.t 40)) none⟩, [0]), (⟨(some 42), none, .mv (.t 7)⟩, [0, 1, 2, 3]), (⟨(some 43), none, .mv (.t 8)⟩, [0, 1, 2, 3, 4]), (⟨(some 44), none, .slc 2 (.t 42) none (some (.t 43))⟩, [0, 1, 2, 3]), (⟨(some 45), none, .cpy 2 (.t 41) (.t 44)⟩, [0]), (⟨(some 46), none, .bin 0 .add (.t 38) (.t 45)⟩, []), (⟨(some 8), none, .mv (.t 46)⟩, [])])))))
 (.seq (.ops [⟨(some 47), none, .mv (.t 7)⟩, ⟨(some 4), none, .mv (.t 47)⟩])
 (.ret))))))))⟩
theorem c11 : compF Go.Proofs.Try.prog 11 = some a11 := by kernel_rfl
def a12 : AFn := ⟨45, [.t 2, .t 3, .t 4], .seq (.ops [⟨(some 2), none, .mv (.c (.lit true 0 []))⟩, ⟨(some 3), none, .mv (.c (.int .i64 0))⟩, ⟨(some 4), none, .mv (.c (.int .i64 0))⟩])
 (.seq (.block 0 (.seq (.ops [⟨(some 9), none, .mv (.t 0)⟩, ⟨(some 10), none, .len false (.t 9)⟩, ⟨(some 11), none, .bin 0 .eql (.t 10) (.c (.int .i64 0))⟩, ⟨(some 8), none, .mv (.t 11)⟩])
 (.cond (.t 8) (.seq (.ops [⟨(some 2), none, .mv (.c (.lit true 0 []))⟩, ⟨(some 3), none, .mv (.c (.int .i64 0))⟩, ⟨(some 4), none, .mv (.c (.int .i64 8))⟩])
 (.ret)) (.seq (.ops [⟨(some 13), none, .mv (.t 0)⟩, ⟨(some 14), none, .len false (.t 13)⟩, ⟨(some 15), none, .bin 0 .gtr (.t 14) (.c (.int .i64 9))⟩, ⟨(some 12), none, .mv (.t 15)⟩])
 (.cond (.t 12) (.seq (.ops [⟨(some 2), none, .mv (.c (.lit true 0 []))⟩, ⟨(some 3), none, .mv (.c (.int .i64 0))⟩, ⟨(some 4), none, .mv (.c (.int .i64 2))⟩])
 (.ret)) (.skip))))))
 (.seq (.seq (.ops [⟨(some 16), none, .mv (.t 0)⟩, ⟨(some 17), none, .len false (.t 16)⟩, ⟨(some 18), none, .mv (.c (.int .i64 0))⟩])
 (.block 1 (.loop (.seq (.ops [⟨(some 19), none, .bin 0 .lss (.t 18) (.t 17)⟩])
 (.seq (.cond (.t 19) (.skip) (.exit 1))
 (.seq (.block 2 (.seq (.ops [⟨(some 20), none, .iadr 2 (.t 16) (.t 18)⟩, ⟨(some 21), none, .load (some 2) (.t 20)⟩, ⟨(some 6), none, .alloc 31 [(.int .i64 0), (.int .i64 0)]⟩, ⟨none, none, .store 2 (.t 6) (.t 21)⟩])
 (.seq (.ops [⟨(some 22), none, .fadr 0 (.t 6)⟩, ⟨(some 23), none, .load none (.t 22)⟩, ⟨(some 24), none, .call 57 [(.t 23), (.c (.int .i64 (-1000))), (.c (.int .i64 1000))]⟩, ⟨(some 25), none, .mv (.t 24)⟩, ⟨(some 26), (some (25, false)), .fadr 1 (.t 6)⟩, ⟨(some 27), (some (25, false)), .load none (.t 26)⟩, ⟨(some 28), (some (25, false)), .call 57 [(.t 27), (.c (.int .i64 (-1000))), (.c (.int .i64 1000))]⟩, ⟨(some 29), none, .pick (.t 25) (.c (.bool true)) (.t 28)⟩])
 (.cond (.t 29) (.seq (.ops [⟨(some 2), none, .mv (.c (.lit true 0 []))⟩, ⟨(some 3), none, .mv (.c (.int .i64 0))⟩, ⟨(some 4), none, .mv (.c (.int .i64 1))⟩])
 (.ret)) (.skip)))))
 (.ops [⟨(some 30), none, .bin 0 .add (.t 18) (.c (.int .i64 1))⟩, ⟨(some 18), none, .mv (.t 30)⟩])))))))
 (.seq (.ops [⟨(some 31), none, .mv (.t 0)⟩, ⟨(some 32), none, .bslice 3 1 1 [(.int .i64 0)] [(0, 1, (.c (.int .i64 0)))]⟩, ⟨(some 33), none, .build [(.lit true 0 []), (.lit true 0 []), (.int .i64 0), (.lit true 0 []), (.int .i64 0)] [(0, 1, (.t 31)), (1, 1, (.t 32))]⟩, ⟨(some 34), none, .box 94 (.t 33)⟩, ⟨(some 7), none, .mv (.t 34)⟩])
 (.seq (.ops [⟨(some 35), none, .mv (.t 7)⟩, ⟨(some 36), none, .call 58 [(.t 35)]⟩])
 (.seq (.any [(⟨(some 37), none, .mv (.t 7)⟩, []), (⟨(some 38), none, .nilchk (.t 37)⟩, []), (⟨(some 39), none, .fadr 3 (.t 38)⟩, []), (⟨(some 40), none, .load none (.t 39)⟩, []), (⟨(some 41), none, .mv (.t 7)⟩, [0, 1, 2, 3]), (⟨(some 42), none, .nilchk (.t 41)⟩, [0, 1, 2, 3]), (⟨(some 43), none, .fadr 4 (.t 42)⟩, [0, 1, 2, 3]), (⟨(some 44), none, .load none (.t 43)⟩, [0, 1, 2, 3]), (⟨(some 2), none, .mv (.t 40)⟩, [4, 5, 6, 7]), (⟨(some 3), none, .mv (.t 44)⟩, []), (⟨(some 4), none, .mv (.c (.int .i64 0))⟩, [])])
 (.ret))))))⟩
theorem c12 : compF Go.Proofs.Try.prog 12 = some a12 := by kernel_rfl
def a13 : AFn := ⟨30, [.t 2], .seq (.ops [⟨(some 2), none, .mv (.c (.int .i64 0))⟩])
 (.seq (.block 0 (.seq (.ops [⟨(some 6), none, .mv (.t 0)⟩, ⟨(some 7), none, .len false (.t 6)⟩, ⟨(some 8), none, .bin 0 .eql (.t 7) (.c (.int .i64 0))⟩, ⟨(some 5), none, .mv (.t 8)⟩])
 (.cond (.t 5) (.seq (.ops [⟨(some 2), none, .mv (.c (.int .i64 8))⟩])
 (.ret)) (.seq (.ops [⟨(some 10), none, .mv (.t 0)⟩, ⟨(some 11), none, .len false (.t 10)⟩, ⟨(some 12), none, .bin 0 .gtr (.t 11) (.c (.int .i64 9))⟩, ⟨(some 9), none, .mv (.t 12)⟩])
 (.cond (.t 9) (.seq (.ops [⟨(some 2), none, .mv (.c (.int .i64 2))⟩])
 (.ret)) (.skip))))))
 (.seq (.seq (.ops [⟨(some 13), none, .mv (.t 0)⟩, ⟨(some 14), none, .len false (.t 13)⟩, ⟨(some 15), none, .mv (.c (.int .i64 0))⟩])
 (.block 1 (.loop (.seq (.ops [⟨(some 16), none, .bin 0 .lss (.t 15) (.t 14)⟩])
 (.seq (.cond (.t 16) (.skip) (.exit 1))
 (.seq (.block 2 (.seq (.ops [⟨(some 17), none, .iadr 2 (.t 13) (.t 15)⟩, ⟨(some 18), none, .load (some 2) (.t 17)⟩, ⟨(some 4), none, .alloc 31 [(.int .i64 0), (.int .i64 0)]⟩, ⟨none, none, .store 2 (.t 4) (.t 18)⟩])
 (.seq (.ops [⟨(some 19), none, .fadr 0 (.t 4)⟩, ⟨(some 20), none, .load none (.t 19)⟩, ⟨(some 21), none, .call 59 [(.t 20), (.c (.int .i64 (-1000))), (.c (.int .i64 1000))]⟩, ⟨(some 22), none, .un .not (.t 21)⟩, ⟨(some 23), none, .mv (.t 22)⟩, ⟨(some 24), (some (23, false)), .fadr 1 (.t 4)⟩, ⟨(some 25), (some (23, false)), .load none (.t 24)⟩, ⟨(some 26), (some (23, false)), .call 59 [(.t 25), (.c (.int .i64 (-1000))), (.c (.int .i64 1000))]⟩, ⟨(some 27), (some (23, false)), .un .not (.t 26)⟩, ⟨(some 28), none, .pick (.t 23) (.c (.bool true)) (.t 27)⟩])
 (.cond (.t 28) (.seq (.ops [⟨(some 2), none, .mv (.c (.int .i64 1))⟩])
 (.ret)) (.skip)))))
 (.ops [⟨(some 29), none, .bin 0 .add (.t 15) (.c (.int .i64 1))⟩, ⟨(some 15), none, .mv (.t 29)⟩])))))))
 (.seq (.ops [⟨(some 2), none, .mv (.c (.int .i64 0))⟩])
 (.ret))))⟩
theorem c13 : compF Go.Proofs.Try.prog 13 = some a13 := by kernel_rfl
def a14 : AFn := ⟨21, [.t 0], .seq (.ops [⟨(some 0), none, .mv (.c (.bool false))⟩])
 (.seq (.ops [⟨(some 5), none, .bslice 9 1 1 [(.str [])] [(0, 1, (.c (.str [49, 120])))]⟩, ⟨(some 6), none, .build [(.lit true 0 []), (.str [])] [(0, 1, (.t 5)), (1, 1, (.c (.str [49])))]⟩, ⟨(some 7), none, .call 37 [(.t 6)]⟩, ⟨(some 4), none, .mv (.t 7)⟩, ⟨(some 8), none, .ext (.t 4) 0⟩, ⟨(some 9), none, .ext (.t 4) 1⟩, ⟨(some 10), none, .ext (.t 4) 2⟩, ⟨(some 1), none, .alloc 49 [(.int .i64 0), (.int .i64 0)]⟩, ⟨none, none, .store 2 (.t 1) (.t 8)⟩, ⟨(some 2), none, .mv (.t 9)⟩, ⟨(some 3), none, .mv (.t 10)⟩])
 (.seq (.ops [⟨(some 11), none, .mv (.t 3)⟩, ⟨(some 12), none, .bin 0 .eql (.t 11) (.c (.int .i64 0))⟩, ⟨(some 13), none, .mv (.t 12)⟩, ⟨(some 14), (some (13, true)), .mv (.t 2)⟩, ⟨(some 15), none, .pick (.t 13) (.t 14) (.c (.bool false))⟩, ⟨(some 16), none, .mv (.t 15)⟩, ⟨(some 17), (some (16, true)), .load (some 2) (.t 1)⟩, ⟨(some 18), (some (16, true)), .build [(.int .i64 0), (.int .i64 0)] [(0, 1, (.c (.int .i64 1))), (1, 1, (.c (.int .i64 2)))]⟩, ⟨(some 19), (some (16, true)), .eqs false [0, 0] (.t 17) (.t 18)⟩, ⟨(some 20), none, .pick (.t 16) (.t 19) (.c (.bool false))⟩, ⟨(some 0), none, .mv (.t 20)⟩])
 (.ret)))⟩
theorem c14 : compF Go.Proofs.Try.prog 14 = some a14 := by kernel_rfl
def a15 : AFn := ⟨13, [.t 2, .t 3], .seq (.ops [⟨(some 1), none, .box 26 (.t 0)⟩, ⟨(some 2), none, .mv (.c (.lit true 0 []))⟩, ⟨(some 3), none, .mv (.c (.int .i64 0))⟩])
 (.seq (.ops [⟨(some 4), none, .alloc 22 [(.lit true 0 [])]⟩])
 (.seq (.ops [⟨(some 5), none, .alloc 3 [(.int .i64 0)]⟩, ⟨none, none, .store 1 (.t 5) (.c (.int .i64 (-1)))⟩])
 (.seq (.ops [⟨(some 6), none, .alloc 95 [.any]⟩])
 (.seq (.ops [⟨(some 7), none, .mkfn 60 [(.t 5), (.t 1), (.t 4), (.t 6)]⟩, ⟨none, none, .store 1 (.t 6) (.t 7)⟩])
 (.seq (.ops [⟨(some 8), none, .load none (.t 6)⟩, ⟨(some 9), none, .bslice 3 1 1 [(.int .i64 0)] [(0, 1, (.c (.int .i64 0)))]⟩, ⟨(some 10), none, .callv (.t 8) [(.t 9), (.c (.int .i64 0))]⟩])
 (.seq (.any [(⟨(some 11), none, .load none (.t 4)⟩, []), (⟨(some 12), none, .load none (.t 5)⟩, [0]), (⟨(some 2), none, .mv (.t 11)⟩, [1]), (⟨(some 3), none, .mv (.t 12)⟩, [])])
 (.ret)))))))⟩
theorem c15 : compF Go.Proofs.Try.prog 15 = some a15 := by kernel_rfl
def a16 : AFn := ⟨26, [.t 4], .seq (.ops [⟨(some 4), none, .mv (.c (.bool false))⟩])
 (.seq (.seq (.ops [⟨(some 6), none, .mv (.t 0)⟩, ⟨(some 7), none, .len false (.t 6)⟩, ⟨(some 8), none, .mv (.t 1)⟩, ⟨(some 9), none, .len false (.t 8)⟩, ⟨(some 10), none, .bin 0 .neq (.t 7) (.t 9)⟩])
 (.cond (.t 10) (.seq (.ops [⟨(some 4), none, .mv (.c (.bool false))⟩])
 (.ret)) (.skip)))
 (.seq (.seq (.ops [⟨(some 11), none, .mv (.t 0)⟩, ⟨(some 12), none, .len false (.t 11)⟩, ⟨(some 13), none, .mv (.c (.int .i64 0))⟩])
 (.block 0 (.loop (.seq (.ops [⟨(some 14), none, .bin 0 .lss (.t 13) (.t 12)⟩])
 (.seq (.cond (.t 14) (.skip) (.exit 0))
 (.seq (.block 1 (.seq (.ops [⟨(some 15), none, .mv (.t 13)⟩, ⟨(some 5), none, .mv (.t 15)⟩])
 (.seq (.any [(⟨(some 16), none, .mv (.t 0)⟩, []), (⟨(some 17), none, .mv (.t 5)⟩, [0]), (⟨(some 18), none, .iadr 1 (.t 16) (.t 17)⟩, []), (⟨(some 19), none, .load none (.t 18)⟩, []), (⟨(some 20), none, .mv (.t 1)⟩, [0, 1, 2, 3]), (⟨(some 21), none, .mv (.t 5)⟩, [0, 1, 2, 3, 4]), (⟨(some 22), none, .iadr 1 (.t 20) (.t 21)⟩, [0, 1, 2, 3]), (⟨(some 23), none, .load none (.t 22)⟩, [0, 1, 2, 3]), (⟨(some 24), none, .bin 0 .neq (.t 19) (.t 23)⟩, [])])
 (.cond (.t 24) (.seq (.ops [⟨(some 4), none, .mv (.c (.bool false))⟩])
 (.ret)) (.skip)))))
 (.ops [⟨(some 25), none, .bin 0 .add (.t 13) (.c (.int .i64 1))⟩, ⟨(some 13), none, .mv (.t 25)⟩])))))))
 (.seq (.ops [⟨(some 4), none, .mv (.c (.bool true))⟩])
 (.ret))))⟩
theorem c16 : compF Go.Proofs.Try.prog 16 = some a16 := by kernel_rfl
def a20 : AFn := ⟨12, [.t 4], .seq (.ops [⟨(some 4), none, .mv (.c (.int .i64 0))⟩])
 (.seq (.ops [⟨(some 5), none, .mv (.t 1)⟩, ⟨(some 6), none, .mv (.t 0)⟩, ⟨(some 7), none, .mv (.t 1)⟩, ⟨(some 8), none, .len false (.t 7)⟩, ⟨(some 9), none, .call 55 [(.t 6), (.t 8)]⟩, ⟨(some 10), none, .iadr 1 (.t 5) (.t 9)⟩, ⟨(some 11), none, .load none (.t 10)⟩, ⟨(some 4), none, .mv (.t 11)⟩])
 (.ret))⟩
theorem c20 : compF Go.Proofs.Try.prog 20 = some a20 := by kernel_rfl
def a37 : AFn := ⟨27, [.c 2 (some 2), .t 3, .t 4], .seq (.ops [⟨(some 1), none, .box 43 (.t 0)⟩, ⟨(some 2), none, .alloc 49 [(.int .i64 0), (.int .i64 0)]⟩, ⟨(some 3), none, .mv (.c (.bool false))⟩, ⟨(some 4), none, .mv (.c (.int .i64 0))⟩])
 (.seq (.seq (.ops [⟨(some 8), none, .load (some 2) (.t 1)⟩, ⟨(some 9), none, .call 67 [(.t 8)]⟩, ⟨(some 5), none, .mv (.t 9)⟩])
 (.seq (.ops [⟨(some 10), none, .mv (.t 5)⟩, ⟨(some 11), none, .bin 0 .neq (.t 10) (.c (.int .i64 0))⟩])
 (.cond (.t 11) (.seq (.ops [⟨(some 12), none, .build [(.int .i64 0), (.int .i64 0)] []⟩, ⟨(some 13), none, .mv (.t 5)⟩, ⟨none, none, .store 2 (.t 2) (.t 12)⟩, ⟨(some 3), none, .mv (.c (.bool false))⟩, ⟨(some 4), none, .mv (.t 13)⟩])
 (.ret)) (.skip))))
 (.seq (.any [(⟨(some 15), none, .load (some 2) (.t 1)⟩, []), (⟨(some 16), none, .load (some 2) (.t 1)⟩, [0]), (⟨(some 17), none, .call 69 [(.t 16)]⟩, [0]), (⟨(some 18), none, .call 91 [(.t 15), (.t 17)]⟩, []), (⟨(some 14), none, .mv (.t 18)⟩, []), (⟨(some 19), none, .ext (.t 14) 0⟩, []), (⟨(some 20), none, .ext (.t 14) 1⟩, [5]), (⟨(some 6), none, .mv (.t 19)⟩, [6]), (⟨(some 7), none, .mv (.t 20)⟩, [])])
 (.seq (.seq (.ops [⟨(some 21), none, .mv (.t 7)⟩, ⟨(some 22), none, .bin 0 .eql (.t 21) (.c (.int .i64 0))⟩])
 (.cond (.t 22) (.seq (.ops [⟨(some 23), none, .build [(.int .i64 0), (.int .i64 0)] []⟩, ⟨none, none, .store 2 (.t 2) (.t 23)⟩, ⟨(some 3), none, .mv (.c (.bool false))⟩, ⟨(some 4), none, .mv (.c (.int .i64 0))⟩])
 (.ret)) (.skip)))
 (.seq (.ops [⟨(some 24), none, .mv (.t 6)⟩, ⟨(some 25), none, .mv (.t 7)⟩, ⟨(some 26), none, .call 92 [(.t 24), (.t 25)]⟩, ⟨none, none, .store 2 (.t 2) (.t 26)⟩, ⟨(some 3), none, .mv (.c (.bool true))⟩, ⟨(some 4), none, .mv (.c (.int .i64 0))⟩])
 (.ret)))))⟩
theorem c37 : compF Go.Proofs.Try.prog 37 = some a37 := by kernel_rfl
def a54 : AFn := ⟨19, [.t 6], .seq (.ops [⟨(some 6), none, .mv (.c (.int .i64 0))⟩])
 (.seq (.seq (.ops [⟨(some 7), none, .mv (.t 2)⟩, ⟨(some 8), none, .mv (.t 1)⟩, ⟨(some 9), none, .bin 0 .lss (.t 7) (.t 8)⟩])
 (.cond (.t 9) (.seq (.ops [⟨(some 10), none, .mv (.t 1)⟩, ⟨(some 6), none, .mv (.t 10)⟩])
 (.ret)) (.skip)))
 (.seq (.ops [⟨(some 11), none, .mv (.t 1)⟩, ⟨(some 12), none, .mv (.t 0)⟩, ⟨(some 13), none, .mv (.t 2)⟩, ⟨(some 14), none, .mv (.t 1)⟩, ⟨(some 15), none, .bin 0 .sub (.t 13) (.t 14)⟩, ⟨(some 16), none, .bin 0 .add (.t 15) (.c (.int .i64 1))⟩, ⟨(some 17), none, .call 55 [(.t 12), (.t 16)]⟩, ⟨(some 18), none, .bin 0 .add (.t 11) (.t 17)⟩, ⟨(some 6), none, .mv (.t 18)⟩])
 (.ret)))⟩
theorem c54 : compF Go.Proofs.Try.prog 54 = some a54 := by kernel_rfl
def a55 : AFn := ⟨64, [.t 4], .seq (.ops [⟨(some 4), none, .mv (.c (.int .i64 0))⟩])
 (.seq (.ops [⟨(some 7), none, .mv (.t 0)⟩, ⟨(some 8), none, .nilchk (.t 7)⟩, ⟨(some 9), none, .fadr 1 (.t 8)⟩, ⟨(some 10), none, .load none (.t 9)⟩, ⟨(some 11), none, .bin 0 .add (.t 10) (.c (.int .i64 1))⟩, ⟨(some 12), none, .nilchk (.t 7)⟩, ⟨(some 13), none, .fadr 1 (.t 12)⟩, ⟨none, none, .store 1 (.t 13) (.t 11)⟩])
 (.seq (.seq (.ops [⟨(some 14), none, .mv (.t 0)⟩, ⟨(some 15), none, .nilchk (.t 14)⟩, ⟨(some 16), none, .fadr 0 (.t 15)⟩, ⟨(some 17), none, .load none (.t 16)⟩, ⟨(some 18), none, .len false (.t 17)⟩, ⟨(some 19), none, .bin 0 .eql (.t 18) (.c (.int .i64 0))⟩])
 (.cond (.t 19) (.seq (.ops [⟨(some 20), none, .mv (.t 0)⟩, ⟨(some 21), none, .nilchk (.t 20)⟩, ⟨(some 22), none, .fadr 1 (.t 21)⟩, ⟨(some 23), none, .load none (.t 22)⟩, ⟨(some 24), none, .bin 0 .mul (.t 23) (.c (.int .i64 7919))⟩, ⟨(some 25), none, .mv (.t 1)⟩, ⟨(some 26), none, .call 106 [(.t 24), (.t 25)]⟩, ⟨(some 4), none, .mv (.t 26)⟩])
 (.ret)) (.skip)))
 (.seq (.any [(⟨(some 27), none, .mv (.t 0)⟩, []), (⟨(some 28), none, .nilchk (.t 27)⟩, []), (⟨(some 29), none, .fadr 1 (.t 28)⟩, []), (⟨(some 30), none, .load none (.t 29)⟩, []), (⟨(some 31), none, .bin 0 .sub (.t 30) (.c (.int .i64 1))⟩, []), (⟨(some 32), none, .mv (.t 0)⟩, [0, 1, 2, 3, 4]), (⟨(some 33), none, .nilchk (.t 32)⟩, [0, 1, 2, 3, 4]), (⟨(some 34), none, .fadr 0 (.t 33)⟩, [0, 1, 2, 3, 4]), (⟨(some 35), none, .load none (.t 34)⟩, [0, 1, 2, 3, 4]), (⟨(some 36), none, .len false (.t 35)⟩, [0, 1, 2, 3, 4]), (⟨(some 37), none, .bin 0 .rem (.t 31) (.t 36)⟩, []), (⟨(some 5), none, .mv (.t 37)⟩, [])])
 (.seq (.any [(⟨(some 38), none, .mv (.t 0)⟩, []), (⟨(some 39), none, .nilchk (.t 38)⟩, []), (⟨(some 40), none, .fadr 1 (.t 39)⟩, []), (⟨(some 41), none, .load none (.t 40)⟩, []), (⟨(some 42), none, .bin 0 .sub (.t 41) (.c (.int .i64 1))⟩, []), (⟨(some 43), none, .mv (.t 0)⟩, [0, 1, 2, 3, 4]), (⟨(some 44), none, .nilchk (.t 43)⟩, [0, 1, 2, 3, 4]), (⟨(some 45), none, .fadr 0 (.t 44)⟩, [0, 1, 2, 3, 4]), (⟨(some 46), none, .load none (.t 45)⟩, [0, 1, 2, 3, 4]), (⟨(some 47), none, .len false (.t 46)⟩, [0, 1, 2, 3, 4]), (⟨(some 48), none, .bin 0 .quo (.t 42) (.t 47)⟩, []), (⟨(some 6), none, .mv (.t 48)⟩, [])])
 (.seq (.ops [⟨(some 49), none, .mv (.t 0)⟩, ⟨(some 50), none, .nilchk (.t 49)⟩, ⟨(some 51), none, .fadr 0 (.t 50)⟩, ⟨(some 52), none, .load none (.t 51)⟩, ⟨(some 53), none, .mv (.t 5)⟩, ⟨(some 54), none, .iadr 1 (.t 52) (.t 53)⟩, ⟨(some 55), none, .load none (.t 54)⟩, ⟨(some 56), none, .call 106 [(.t 55), (.c (.int .i64 1073741824))]⟩, ⟨(some 57), none, .mv (.t 6)⟩, ⟨(some 58), none, .mv (.t 5)⟩, ⟨(some 59), none, .bin 0 .add (.c (.int .i64 7919)) (.t 58)⟩, ⟨(some 60), none, .bin 0 .mul (.t 57) (.t 59)⟩, ⟨(some 61), none, .bin 0 .add (.t 56) (.t 60)⟩, ⟨(some 62), none, .mv (.t 1)⟩, ⟨(some 63), none, .call 106 [(.t 61), (.t 62)]⟩, ⟨(some 4), none, .mv (.t 63)⟩])
 (.ret))))))⟩
theorem c55 : compF Go.Proofs.Try.prog 55 = some a55 := by kernel_rfl
def a56 : AFn := ⟨30, [.t 4, .t 5], .seq (.ops [⟨(some 4), none, .mv (.c (.int .u64 0))⟩, ⟨(some 5), none, .mv (.c (.int .u64 0))⟩])
 (.seq (.cond (.c (.bool false)) (.seq (.ops [⟨(some 11), none, .mv (.t 0)⟩, ⟨(some 12), none, .conv .u32 (.t 11)⟩, ⟨(some 13), none, .mv (.t 1)⟩, ⟨(some 14), none, .conv .u32 (.t 13)⟩, ⟨(some 15), none, .call 107 [(.t 12), (.t 14)]⟩, ⟨(some 10), none, .mv (.t 15)⟩, ⟨(some 16), none, .ext (.t 10) 0⟩, ⟨(some 17), none, .ext (.t 10) 1⟩, ⟨(some 6), none, .mv (.t 16)⟩, ⟨(some 7), none, .mv (.t 17)⟩])
 (.seq (.ops [⟨(some 18), none, .mv (.t 6)⟩, ⟨(some 19), none, .conv .u64 (.t 18)⟩, ⟨(some 20), none, .mv (.t 7)⟩, ⟨(some 21), none, .conv .u64 (.t 20)⟩, ⟨(some 4), none, .mv (.t 19)⟩, ⟨(some 5), none, .mv (.t 21)⟩])
 (.ret))) (.skip))
 (.seq (.ops [⟨(some 23), none, .mv (.t 0)⟩, ⟨(some 24), none, .mv (.t 1)⟩, ⟨(some 25), none, .call 108 [(.t 23), (.t 24)]⟩, ⟨(some 22), none, .mv (.t 25)⟩, ⟨(some 26), none, .ext (.t 22) 0⟩, ⟨(some 27), none, .ext (.t 22) 1⟩, ⟨(some 8), none, .mv (.t 26)⟩, ⟨(some 9), none, .mv (.t 27)⟩])
 (.seq (.ops [⟨(some 28), none, .mv (.t 8)⟩, ⟨(some 29), none, .mv (.t 9)⟩, ⟨(some 4), none, .mv (.t 28)⟩, ⟨(some 5), none, .mv (.t 29)⟩])
 (.ret))))⟩
theorem c56 : compF Go.Proofs.Try.prog 56 = some a56 := by kernel_rfl
def a57 : AFn := ⟨15, [.t 6], .seq (.ops [⟨(some 6), none, .mv (.c (.bool false))⟩])
 (.seq (.ops [⟨(some 7), none, .mv (.t 0)⟩, ⟨(some 8), none, .mv (.t 1)⟩, ⟨(some 9), none, .bin 0 .lss (.t 7) (.t 8)⟩, ⟨(some 10), none, .mv (.t 9)⟩, ⟨(some 11), (some (10, false)), .mv (.t 0)⟩, ⟨(some 12), (some (10, false)), .mv (.t 2)⟩, ⟨(some 13), (some (10, false)), .bin 0 .gtr (.t 11) (.t 12)⟩, ⟨(some 14), none, .pick (.t 10) (.c (.bool true)) (.t 13)⟩, ⟨(some 6), none, .mv (.t 14)⟩])
 (.ret))⟩
theorem c57 : compF Go.Proofs.Try.prog 57 = some a57 := by kernel_rfl
def a58 : AFn := ⟨130, [], .seq (.seq (.any [(⟨(some 6), none, .mv (.t 0)⟩, []), (⟨(some 7), none, .nilchk (.t 6)⟩, []), (⟨(some 8), none, .fadr 3 (.t 7)⟩, []), (⟨(some 9), none, .load none (.t 8)⟩, []), (⟨(some 10), none, .bin 3 .neq (.t 9) (.c (.lit true 0 []))⟩, []), (⟨(some 11), none, .mv (.t 10)⟩, []), (⟨(some 12), (some (11, true)), .mv (.t 0)⟩, []), (⟨(some 13), (some (11, true)), .nilchk (.t 12)⟩, []), (⟨(some 14), (some (11, true)), .fadr 2 (.t 13)⟩, []), (⟨(some 15), (some (11, true)), .load none (.t 14)⟩, []), (⟨(some 16), (some (11, true)), .mv (.t 0)⟩, [6, 7, 8, 9]), (⟨(some 17), (some (11, true)), .nilchk (.t 16)⟩, [6, 7, 8, 9]), (⟨(some 18), (some (11, true)), .fadr 4 (.t 17)⟩, [6, 7, 8, 9]), (⟨(some 19), (some (11, true)), .load none (.t 18)⟩, [6, 7, 8, 9]), (⟨(some 20), (some (11, true)), .bin 0 .geq (.t 15) (.t 19)⟩, []), (⟨(some 21), none, .pick (.t 11) (.t 20) (.c (.bool false))⟩, [])])
 (.cond (.t 21) (.ret) (.skip)))
 (.seq (.seq (.any [(⟨(some 22), none, .mv (.t 0)⟩, []), (⟨(some 23), none, .nilchk (.t 22)⟩, []), (⟨(some 24), none, .fadr 1 (.t 23)⟩, []), (⟨(some 25), none, .load none (.t 24)⟩, []), (⟨(some 26), none, .len false (.t 25)⟩, []), (⟨(some 27), none, .mv (.t 0)⟩, [0, 1, 2, 3, 4]), (⟨(some 28), none, .nilchk (.t 27)⟩, [0, 1, 2, 3, 4]), (⟨(some 29), none, .fadr 0 (.t 28)⟩, [0, 1, 2, 3, 4]), (⟨(some 30), none, .load none (.t 29)⟩, [0, 1, 2, 3, 4]), (⟨(some 31), none, .len false (.t 30)⟩, [0, 1, 2, 3, 4]), (⟨(some 32), none, .bin 0 .eql (.t 26) (.t 31)⟩, [])])
 (.cond (.t 32) (.seq (.any [(⟨(some 33), none, .mv (.t 0)⟩, []), (⟨(some 34), none, .mv (.t 0)⟩, [0]), (⟨(some 35), none, .mv (.t 0)⟩, [0, 1]), (⟨(some 36), none, .nilchk (.t 35)⟩, [0, 1]), (⟨(some 37), none, .fadr 1 (.t 36)⟩, [0, 1]), (⟨(some 38), none, .load none (.t 37)⟩, [0, 1]), (⟨(some 39), none, .call 62 [(.t 38)]⟩, [0, 1]), (⟨(some 40), none, .mv (.t 0)⟩, [0, 1, 2, 3, 4, 5, 6]), (⟨(some 41), none, .nilchk (.t 40)⟩, [0, 1, 2, 3, 4, 5, 6]), (⟨(some 42), none, .fadr 2 (.t 41)⟩, [0, 1, 2, 3, 4, 5, 6]), (⟨(some 43), none, .load none (.t 42)⟩, [0, 1, 2, 3, 4, 5, 6]), (⟨(some 44), none, .nilchk (.t 33)⟩, [1]), (⟨(some 45), none, .fadr 3 (.t 44)⟩, [1]), (⟨none, none, .store 1 (.t 45) (.t 39)⟩, [1]), (⟨(some 46), none, .nilchk (.t 34)⟩, []), (⟨(some 47), none, .fadr 4 (.t 46)⟩, []), (⟨none, none, .store 1 (.t 47) (.t 43)⟩, [])])
 (.ret)) (.skip)))
 (.seq (.any [(⟨(some 48), none, .mv (.t 0)⟩, []), (⟨(some 49), none, .nilchk (.t 48)⟩, []), (⟨(some 50), none, .fadr 1 (.t 49)⟩, []), (⟨(some 51), none, .load none (.t 50)⟩, []), (⟨(some 52), none, .mv (.t 0)⟩, [0, 1, 2, 3]), (⟨(some 53), none, .nilchk (.t 52)⟩, [0, 1, 2, 3]), (⟨(some 54), none, .fadr 1 (.t 53)⟩, [0, 1, 2, 3]), (⟨(some 55), none, .load none (.t 54)⟩, [0, 1, 2, 3]), (⟨(some 56), none, .len false (.t 55)⟩, [0, 1, 2, 3]), (⟨(some 57), none, .bin 0 .sub (.t 56) (.c (.int .i64 1))⟩, [0, 1, 2, 3]), (⟨(some 58), none, .iadr 1 (.t 51) (.t 57)⟩, []), (⟨(some 59), none, .load none (.t 58)⟩, []), (⟨(some 2), none, .mv (.t 59)⟩, [])])
 (.seq (.ops [⟨(some 60), none, .mv (.t 0)⟩, ⟨(some 61), none, .nilchk (.t 60)⟩, ⟨(some 62), none, .fadr 0 (.t 61)⟩, ⟨(some 63), none, .load none (.t 62)⟩, ⟨(some 64), none, .len false (.t 63)⟩, ⟨(some 65), none, .mv (.c (.int .i64 0))⟩])
 (.block 0 (.loop (.seq (.ops [⟨(some 66), none, .bin 0 .lss (.t 65) (.t 64)⟩])
 (.seq (.cond (.t 66) (.skip) (.exit 0))
 (.seq (.block 1 (.seq (.ops [⟨(some 67), none, .mv (.t 65)⟩, ⟨(some 68), none, .iadr 2 (.t 63) (.t 65)⟩, ⟨(some 69), none, .load (some 2) (.t 68)⟩, ⟨(some 4), none, .alloc 31 [(.int .i64 0), (.int .i64 0)]⟩, ⟨(some 3), none, .mv (.t 67)⟩, ⟨none, none, .store 2 (.t 4) (.t 69)⟩])
 (.seq (.seq (.ops [⟨(some 70), none, .mv (.t 0)⟩, ⟨(some 71), none, .nilchk (.t 70)⟩, ⟨(some 72), none, .fadr 1 (.t 71)⟩, ⟨(some 73), none, .load none (.t 72)⟩, ⟨(some 74), none, .mv (.t 3)⟩, ⟨(some 75), none, .call 61 [(.t 73), (.t 74)]⟩])
 (.cond (.t 75) (.exit 1) (.skip)))
 (.seq (.any [(⟨(some 76), none, .mv (.t 0)⟩, []), (⟨(some 77), none, .nilchk (.t 76)⟩, []), (⟨(some 78), none, .fadr 0 (.t 77)⟩, []), (⟨(some 79), none, .load none (.t 78)⟩, []), (⟨(some 80), none, .mv (.t 2)⟩, [0, 1, 2, 3]), (⟨(some 81), none, .iadr 2 (.t 79) (.t 80)⟩, []), (⟨(some 82), none, .load (some 2) (.t 81)⟩, []), (⟨(some 83), none, .load (some 2) (.t 4)⟩, [0, 1, 2, 3, 4, 5, 6]), (⟨(some 84), none, .call 109 [(.t 82), (.t 83)]⟩, []), (⟨(some 5), none, .mv (.t 84)⟩, [])])
 (.seq (.any [(⟨(some 85), none, .mv (.t 0)⟩, []), (⟨(some 86), none, .mv (.t 0)⟩, [0]), (⟨(some 87), none, .mv (.t 0)⟩, [0, 1]), (⟨(some 88), none, .nilchk (.t 87)⟩, [0, 1]), (⟨(some 89), none, .fadr 1 (.t 88)⟩, [0, 1]), (⟨(some 90), none, .load none (.t 89)⟩, [0, 1]), (⟨(some 91), none, .mv (.t 3)⟩, [0, 1, 2, 3, 4, 5]), (⟨(some 92), none, .bslice 3 1 1 [(.int .i64 0)] [(0, 1, (.t 91))]⟩, [0, 1, 2, 3, 4, 5]), (⟨(some 93), none, .app 3 1 8 (.t 90) (.t 92)⟩, [0, 1]), (⟨(some 94), none, .mv (.t 0)⟩, [0, 1, 2, 3, 4, 5, 6, 7, 8]), (⟨(some 95), none, .nilchk (.t 94)⟩, [0, 1, 2, 3, 4, 5, 6, 7, 8]), (⟨(some 96), none, .fadr 2 (.t 95)⟩, [0, 1, 2, 3, 4, 5, 6, 7, 8]), (⟨(some 97), none, .load none (.t 96)⟩, [0, 1, 2, 3, 4, 5, 6, 7, 8]), (⟨(some 98), none, .mv (.t 5)⟩, [0, 1, 2, 3, 4, 5, 6, 7, 8, 9, 10, 11, 12]), (⟨(some 99), none, .bin 0 .add (.t 97) (.t 98)⟩, [0, 1, 2, 3, 4, 5, 6, 7, 8]), (⟨(some 100), none, .nilchk (.t 85)⟩, [1, 13, 14]), (⟨(some 101), none, .fadr 1 (.t 100)⟩, [1, 13, 14]), (⟨none, none, .store 1 (.t 101) (.t 93)⟩, [1, 13, 14]), (⟨(some 102), none, .nilchk (.t 86)⟩, []), (⟨(some 103), none, .fadr 2 (.t 102)⟩, []), (⟨none, none, .store 1 (.t 103) (.t 99)⟩, [])])
 (.seq (.ops [⟨(some 104), none, .mv (.t 0)⟩, ⟨(some 105), none, .call 58 [(.t 104)]⟩])
 (.any [(⟨(some 106), none, .mv (.t 0)⟩, []), (⟨(some 107), none, .mv (.t 0)⟩, [0]), (⟨(some 108), none, .mv (.t 0)⟩, [0, 1]), (⟨(some 109), none, .nilchk (.t 108)⟩, [0, 1]), (⟨(some 110), none, .fadr 1 (.t 109)⟩, [0, 1]), (⟨(some 111), none, .load none (.t 110)⟩, [0, 1]), (⟨(some 112), none, .mv (.t 0)⟩, [0, 1, 2, 3, 4, 5]), (⟨(some 113), none, .nilchk (.t 112)⟩, [0, 1, 2, 3, 4, 5]), (⟨(some 114), none, .fadr 1 (.t 113)⟩, [0, 1, 2, 3, 4, 5]), (⟨(some 115), none, .load none (.t 114)⟩, [0, 1, 2, 3, 4, 5]), (⟨(some 116), none, .len false (.t 115)⟩, [0, 1, 2, 3, 4, 5]), (⟨(some 117), none, .bin 0 .sub (.t 116) (.c (.int .i64 1))⟩, [0, 1, 2, 3, 4, 5]), (⟨(some 118), none, .slc 1 (.t 111) none (some (.t 117))⟩, [0, 1]), (⟨(some 119), none, .mv (.t 0)⟩, [0, 1, 2, 3, 4, 5, 6, 7, 8, 9, 10, 11, 12]), (⟨(some 120), none, .nilchk (.t 119)⟩, [0, 1, 2, 3, 4, 5, 6, 7, 8, 9, 10, 11, 12]), (⟨(some 121), none, .fadr 2 (.t 120)⟩, [0, 1, 2, 3, 4, 5, 6, 7, 8, 9, 10, 11, 12]), (⟨(some 122), none, .load none (.t 121)⟩, [0, 1, 2, 3, 4, 5, 6, 7, 8, 9, 10, 11, 12]), (⟨(some 123), none, .mv (.t 5)⟩, [0, 1, 2, 3, 4, 5, 6, 7, 8, 9, 10, 11, 12, 13, 14, 15, 16]), (⟨(some 124), none, .bin 0 .sub (.t 122) (.t 123)⟩, [0, 1, 2, 3, 4, 5, 6, 7, 8, 9, 10, 11, 12]), (⟨(some 125), none, .nilchk (.t 106)⟩, [1, 17, 18]), (⟨(some 126), none, .fadr 1 (.t 125)⟩, [1, 17, 18]), (⟨none, none, .store 1 (.t 126) (.t 118)⟩, [1, 17, 18]), (⟨(some 127), none, .nilchk (.t 107)⟩, []), (⟨(some 128), none, .fadr 2 (.t 127)⟩, []), (⟨none, none, .store 1 (.t 128) (.t 124)⟩, [])])))))))
 (.ops [⟨(some 129), none, .bin 0 .add (.t 65) (.c (.int .i64 1))⟩, ⟨(some 65), none, .mv (.t 129)⟩])))))))))⟩
theorem c58 : compF Go.Proofs.Try.prog 58 = some a58 := by kernel_rfl
def a59 : AFn := ⟨15, [.t 6], .seq (.ops [⟨(some 6), none, .mv (.c (.bool false))⟩])
 (.seq (.ops [⟨(some 7), none, .mv (.t 1)⟩, ⟨(some 8), none, .mv (.t 0)⟩, ⟨(some 9), none, .bin 0 .leq (.t 7) (.t 8)⟩, ⟨(some 10), none, .mv (.t 9)⟩, ⟨(some 11), (some (10, true)), .mv (.t 0)⟩, ⟨(some 12), (some (10, true)), .mv (.t 2)⟩, ⟨(some 13), (some (10, true)), .bin 0 .leq (.t 11) (.t 12)⟩, ⟨(some 14), none, .pick (.t 10) (.t 13) (.c (.bool false))⟩, ⟨(some 6), none, .mv (.t 14)⟩])
 (.ret))⟩
theorem c59 : compF Go.Proofs.Try.prog 59 = some a59 := by kernel_rfl
def a60 : AFn := ⟨76, [], .seq (.seq (.ops [⟨(some 11), none, .load none (.t 2)⟩, ⟨(some 12), none, .bin 0 .geq (.t 11) (.c (.int .i64 0))⟩, ⟨(some 13), none, .mv (.t 12)⟩, ⟨(some 14), (some (13, true)), .mv (.t 1)⟩, ⟨(some 15), (some (13, true)), .load none (.t 2)⟩, ⟨(some 16), (some (13, true)), .bin 0 .geq (.t 14) (.t 15)⟩, ⟨(some 17), none, .pick (.t 13) (.t 16) (.c (.bool false))⟩])
 (.cond (.t 17) (.ret) (.skip)))
 (.seq (.seq (.ops [⟨(some 18), none, .mv (.t 0)⟩, ⟨(some 19), none, .len false (.t 18)⟩, ⟨(some 20), none, .load none (.t 3)⟩, ⟨(some 21), none, .len false (.t 20)⟩, ⟨(some 22), none, .bin 0 .eql (.t 19) (.t 21)⟩])
 (.cond (.t 22) (.seq (.ops [⟨(some 23), none, .mv (.t 0)⟩, ⟨(some 24), none, .mv (.t 1)⟩, ⟨none, none, .store 1 (.t 4) (.t 23)⟩, ⟨none, none, .store 1 (.t 2) (.t 24)⟩])
 (.ret)) (.skip)))
 (.seq (.any [(⟨(some 25), none, .load none (.t 3)⟩, []), (⟨(some 26), none, .mv (.t 0)⟩, [0]), (⟨(some 27), none, .mv (.t 0)⟩, [0, 1]), (⟨(some 28), none, .len false (.t 27)⟩, [0, 1]), (⟨(some 29), none, .bin 0 .sub (.t 28) (.c (.int .i64 1))⟩, [0, 1]), (⟨(some 30), none, .iadr 1 (.t 26) (.t 29)⟩, [0]), (⟨(some 31), none, .load none (.t 30)⟩, [0]), (⟨(some 32), none, .iadr 2 (.t 25) (.t 31)⟩, []), (⟨(some 33), none, .load (some 2) (.t 32)⟩, []), (⟨(some 8), none, .alloc 31 [(.int .i64 0), (.int .i64 0)]⟩, [0, 1, 2, 3, 4, 5, 6, 7, 8]), (⟨none, none, .store 2 (.t 8) (.t 33)⟩, [])])
 (.seq (.ops [⟨(some 34), none, .load none (.t 3)⟩, ⟨(some 35), none, .len false (.t 34)⟩, ⟨(some 36), none, .mv (.c (.int .i64 0))⟩])
 (.block 0 (.loop (.seq (.ops [⟨(some 37), none, .bin 0 .lss (.t 36) (.t 35)⟩])
 (.seq (.cond (.t 37) (.skip) (.exit 0))
 (.seq (.block 1 (.seq (.ops [⟨(some 38), none, .mv (.t 36)⟩, ⟨(some 39), none, .iadr 2 (.t 34) (.t 36)⟩, ⟨(some 40), none, .load (some 2) (.t 39)⟩, ⟨(some 10), none, .alloc 31 [(.int .i64 0), (.int .i64 0)]⟩, ⟨(some 9), none, .mv (.t 38)⟩, ⟨none, none, .store 2 (.t 10) (.t 40)⟩])
 (.seq (.ops [⟨(some 41), none, .mv (.t 0)⟩, ⟨(some 42), none, .mv (.t 9)⟩, ⟨(some 43), none, .call 61 [(.t 41), (.t 42)]⟩, ⟨(some 44), none, .un .not (.t 43)⟩])
 (.cond (.t 44) (.any [(⟨(some 45), none, .load none (.t 5)⟩, []), (⟨(some 46), none, .mv (.t 0)⟩, [0]), (⟨(some 47), none, .call 62 [(.t 46)]⟩, [0]), (⟨(some 48), none, .mv (.t 9)⟩, [0, 1, 2]), (⟨(some 49), none, .bslice 3 1 1 [(.int .i64 0)] [(0, 1, (.t 48))]⟩, [0, 1, 2]), (⟨(some 50), none, .app 3 1 8 (.t 47) (.t 49)⟩, [0]), (⟨(some 51), none, .mv (.t 1)⟩, [0, 1, 2, 3, 4, 5]), (⟨(some 52), none, .fadr 0 (.t 8)⟩, [0, 1, 2, 3, 4, 5, 6]), (⟨(some 53), none, .load none (.t 52)⟩, [0, 1, 2, 3, 4, 5, 6]), (⟨(some 54), none, .fadr 0 (.t 10)⟩, [0, 1, 2, 3, 4, 5, 6, 7, 8]), (⟨(some 55), none, .load none (.t 54)⟩, [0, 1, 2, 3, 4, 5, 6, 7, 8]), (⟨(some 56), none, .bin 0 .sub (.t 53) (.t 55)⟩, [0, 1, 2, 3, 4, 5, 6]), (⟨(some 57), none, .fadr 0 (.t 10)⟩, [0, 1, 2, 3, 4, 5, 6, 7, 8, 9, 10, 11]), (⟨(some 58), none, .load none (.t 57)⟩, [0, 1, 2, 3, 4, 5, 6, 7, 8, 9, 10, 11]), (⟨(some 59), none, .fadr 0 (.t 8)⟩, [0, 1, 2, 3, 4, 5, 6, 7, 8, 9, 10, 11, 12, 13]), (⟨(some 60), none, .load none (.t 59)⟩, [0, 1, 2, 3, 4, 5, 6, 7, 8, 9, 10, 11, 12, 13]), (⟨(some 61), none, .bin 0 .sub (.t 58) (.t 60)⟩, [0, 1, 2, 3, 4, 5, 6, 7, 8, 9, 10, 11]), (⟨(some 62), none, .fadr 1 (.t 8)⟩, [0, 1, 2, 3, 4, 5, 6, 7, 8, 9, 10, 11, 12, 13, 14, 15, 16]), (⟨(some 63), none, .load none (.t 62)⟩, [0, 1, 2, 3, 4, 5, 6, 7, 8, 9, 10, 11, 12, 13, 14, 15, 16]), (⟨(some 64), none, .fadr 1 (.t 10)⟩, [0, 1, 2, 3, 4, 5, 6, 7, 8, 9, 10, 11, 12, 13, 14, 15, 16, 17, 18]), (⟨(some 65), none, .load none (.t 64)⟩, [0, 1, 2, 3, 4, 5, 6, 7, 8, 9, 10, 11, 12, 13, 14, 15, 16, 17, 18]), (⟨(some 66), none, .bin 0 .sub (.t 63) (.t 65)⟩, [0, 1, 2, 3, 4, 5, 6, 7, 8, 9, 10, 11, 12, 13, 14, 15, 16]), (⟨(some 67), none, .fadr 1 (.t 10)⟩, [0, 1, 2, 3, 4, 5, 6, 7, 8, 9, 10, 11, 12, 13, 14, 15, 16, 17, 18, 19, 20, 21]), (⟨(some 68), none, .load none (.t 67)⟩, [0, 1, 2, 3, 4, 5, 6, 7, 8, 9, 10, 11, 12, 13, 14, 15, 16, 17, 18, 19, 20, 21]), (⟨(some 69), none, .fadr 1 (.t 8)⟩, [0, 1, 2, 3, 4, 5, 6, 7, 8, 9, 10, 11, 12, 13, 14, 15, 16, 17, 18, 19, 20, 21, 22, 23]), (⟨(some 70), none, .load none (.t 69)⟩, [0, 1, 2, 3, 4, 5, 6, 7, 8, 9, 10, 11, 12, 13, 14, 15, 16, 17, 18, 19, 20, 21, 22, 23]), (⟨(some 71), none, .bin 0 .sub (.t 68) (.t 70)⟩, [0, 1, 2, 3, 4, 5, 6, 7, 8, 9, 10, 11, 12, 13, 14, 15, 16, 17, 18, 19, 20, 21]), (⟨(some 72), none, .mm true (.t 56) [(.t 61), (.t 66), (.t 71)]⟩, [0, 1, 2, 3, 4, 5, 6]), (⟨(some 73), none, .bin 0 .add (.t 51) (.t 72)⟩, [0, 1, 2, 3, 4, 5]), (⟨(some 74), none, .callv (.t 45) [(.t 50), (.t 73)]⟩, [])]) (.skip)))))
 (.ops [⟨(some 75), none, .bin 0 .add (.t 36) (.c (.int .i64 1))⟩, ⟨(some 36), none, .mv (.t 75)⟩])))))))))⟩
theorem c60 : compF Go.Proofs.Try.prog 60 = some a60 := by kernel_rfl
def a61 : AFn := ⟨9, [.t 4], .seq (.ops [⟨(some 4), none, .mv (.c (.bool false))⟩])
 (.seq (.ops [⟨(some 5), none, .mv (.t 0)⟩, ⟨(some 6), none, .mv (.t 1)⟩, ⟨(some 7), none, .call 110 [(.t 5), (.t 6)]⟩, ⟨(some 8), none, .bin 0 .geq (.t 7) (.c (.int .i64 0))⟩, ⟨(some 4), none, .mv (.t 8)⟩])
 (.ret))⟩
theorem c61 : compF Go.Proofs.Try.prog 61 = some a61 := by kernel_rfl
def a62 : AFn := ⟨8, [.t 2], .seq (.ops [⟨(some 2), none, .mv (.c (.lit true 0 []))⟩])
 (.seq (.seq (.ops [⟨(some 3), none, .mv (.t 0)⟩, ⟨(some 4), none, .bin 3 .eql (.t 3) (.c (.lit true 0 []))⟩])
 (.cond (.t 4) (.seq (.ops [⟨(some 2), none, .mv (.c (.lit true 0 []))⟩])
 (.ret)) (.skip)))
 (.seq (.ops [⟨(some 5), none, .bslice 3 1 0 [(.int .i64 0)] []⟩, ⟨(some 6), none, .mv (.t 0)⟩, ⟨(some 7), none, .app 3 1 8 (.t 5) (.t 6)⟩, ⟨(some 2), none, .mv (.t 7)⟩])
 (.ret)))⟩
theorem c62 : compF Go.Proofs.Try.prog 62 = some a62 := by kernel_rfl
def a63 : AFn := ⟨9, [.t 4], .seq (.ops [⟨(some 4), none, .mv (.c (.bool false))⟩])
 (.seq (.ops [⟨(some 5), none, .mv (.t 0)⟩, ⟨(some 6), none, .mv (.t 1)⟩, ⟨(some 7), none, .call 111 [(.t 5), (.t 6)]⟩, ⟨(some 8), none, .bin 0 .geq (.t 7) (.c (.int .i64 0))⟩, ⟨(some 4), none, .mv (.t 8)⟩])
 (.ret))⟩
theorem c63 : compF Go.Proofs.Try.prog 63 = some a63 := by kernel_rfl
def a67 : AFn := ⟨72, [.t 2], .seq (.ops [⟨(some 1), none, .box 43 (.t 0)⟩, ⟨(some 2), none, .mv (.c (.int .i64 0))⟩])
 (.seq (.block 0 (.seq (.ops [⟨(some 7), none, .fadr 0 (.t 1)⟩, ⟨(some 8), none, .load none (.t 7)⟩, ⟨(some 9), none, .len false (.t 8)⟩, ⟨(some 10), none, .bin 0 .eql (.t 9) (.c (.int .i64 0))⟩, ⟨(some 6), none, .mv (.t 10)⟩])
 (.cond (.t 6) (.seq (.ops [⟨(some 2), none, .mv (.c (.int .i64 8))⟩])
 (.ret)) (.seq (.ops [⟨(some 12), none, .fadr 0 (.t 1)⟩, ⟨(some 13), none, .load none (.t 12)⟩, ⟨(some 14), none, .len false (.t 13)⟩, ⟨(some 15), none, .bin 0 .gtr (.t 14) (.c (.int .i64 60))⟩, ⟨(some 11), none, .mv (.t 15)⟩])
 (.cond (.t 11) (.seq (.ops [⟨(some 2), none, .mv (.c (.int .i64 2))⟩])
 (.ret)) (.skip))))))
 (.seq (.seq (.ops [⟨(some 16), none, .fadr 0 (.t 1)⟩, ⟨(some 17), none, .load none (.t 16)⟩, ⟨(some 18), none, .len false (.t 17)⟩, ⟨(some 19), none, .mv (.c (.int .i64 0))⟩])
 (.block 1 (.loop (.seq (.ops [⟨(some 20), none, .bin 0 .lss (.t 19) (.t 18)⟩])
 (.seq (.cond (.t 20) (.skip) (.exit 1))
 (.seq (.block 2 (.seq (.ops [⟨(some 21), none, .iadr 1 (.t 17) (.t 19)⟩, ⟨(some 22), none, .load none (.t 21)⟩, ⟨(some 4), none, .mv (.t 22)⟩])
 (.block 3 (.seq (.ops [⟨(some 24), none, .mv (.t 4)⟩, ⟨(some 25), none, .bin 1 .eql (.t 24) (.c (.str []))⟩, ⟨(some 23), none, .mv (.t 25)⟩])
 (.cond (.t 23) (.seq (.ops [⟨(some 2), none, .mv (.c (.int .i64 8))⟩])
 (.ret)) (.seq (.ops [⟨(some 27), none, .mv (.t 4)⟩, ⟨(some 28), none, .len true (.t 27)⟩, ⟨(some 29), none, .bin 0 .gtr (.t 28) (.c (.int .i64 60))⟩, ⟨(some 26), none, .mv (.t 29)⟩])
 (.cond (.t 26) (.seq (.ops [⟨(some 2), none, .mv (.c (.int .i64 2))⟩])
 (.ret)) (.seq (.ops [⟨(some 31), none, .mv (.t 4)⟩, ⟨(some 32), none, .len true (.t 31)⟩, ⟨(some 33), none, .fadr 0 (.t 1)⟩, ⟨(some 34), none, .load none (.t 33)⟩, ⟨(some 35), none, .iadr 1 (.t 34) (.c (.int .i64 0))⟩, ⟨(some 36), none, .load none (.t 35)⟩, ⟨(some 37), none, .len true (.t 36)⟩, ⟨(some 38), none, .bin 0 .neq (.t 32) (.t 37)⟩, ⟨(some 30), none, .mv (.t 38)⟩])
 (.cond (.t 30) (.seq (.ops [⟨(some 2), none, .mv (.c (.int .i64 3))⟩])
 (.ret)) (.seq (.ops [⟨(some 40), none, .mv (.t 4)⟩, ⟨(some 41), none, .call 113 [(.t 40)]⟩, ⟨(some 39), none, .mv (.t 41)⟩])
 (.cond (.t 39) (.seq (.ops [⟨(some 2), none, .mv (.c (.int .i64 9))⟩])
 (.ret)) (.skip))))))))))))
 (.ops [⟨(some 42), none, .bin 0 .add (.t 19) (.c (.int .i64 1))⟩, ⟨(some 19), none, .mv (.t 42)⟩])))))))
 (.seq (.seq (.ops [⟨(some 43), none, .fadr 1 (.t 1)⟩, ⟨(some 44), none, .load none (.t 43)⟩, ⟨(some 45), none, .len true (.t 44)⟩, ⟨(some 46), none, .mv (.c (.int .i64 0))⟩])
 (.block 4 (.loop (.seq (.ops [⟨(some 47), none, .bin 0 .lss (.t 46) (.t 45)⟩])
 (.seq (.cond (.t 47) (.skip) (.exit 4))
 (.seq (.block 5 (.seq (.ops [⟨(some 48), none, .mv (.t 46)⟩, ⟨(some 5), none, .mv (.t 48)⟩])
 (.block 6 (.seq (.ops [⟨(some 50), none, .fadr 1 (.t 1)⟩, ⟨(some 51), none, .load none (.t 50)⟩, ⟨(some 52), none, .mv (.t 5)⟩, ⟨(some 53), none, .idxs (.t 51) (.t 52)⟩, ⟨(some 54), none, .call 114 [(.t 53)]⟩, ⟨(some 55), none, .un .not (.t 54)⟩, ⟨(some 49), none, .mv (.t 55)⟩])
 (.cond (.t 49) (.seq (.ops [⟨(some 2), none, .mv (.c (.int .i64 9))⟩])
 (.ret)) (.seq (.any [(⟨(some 57), none, .mv (.t 5)⟩, []), (⟨(some 58), none, .bin 0 .gtr (.t 57) (.c (.int .i64 0))⟩, []), (⟨(some 59), none, .mv (.t 58)⟩, []), (⟨(some 60), (some (59, true)), .fadr 1 (.t 1)⟩, []), (⟨(some 61), (some (59, true)), .load none (.t 60)⟩, []), (⟨(some 62), (some (59, true)), .mv (.t 5)⟩, [3, 4]), (⟨(some 63), (some (59, true)), .idxs (.t 61) (.t 62)⟩, []), (⟨(some 64), (some (59, true)), .fadr 1 (.t 1)⟩, [3, 4, 5, 6]), (⟨(some 65), (some (59, true)), .load none (.t 64)⟩, [3, 4, 5, 6]), (⟨(some 66), (some (59, true)), .mv (.t 5)⟩, [3, 4, 5, 6, 7, 8]), (⟨(some 67), (some (59, true)), .bin 0 .sub (.t 66) (.c (.int .i64 1))⟩, [3, 4, 5, 6, 7, 8]), (⟨(some 68), (some (59, true)), .idxs (.t 65) (.t 67)⟩, [3, 4, 5, 6]), (⟨(some 69), (some (59, true)), .bin 0 .leq (.t 63) (.t 68)⟩, []), (⟨(some 70), none, .pick (.t 59) (.t 69) (.c (.bool false))⟩, []), (⟨(some 56), none, .mv (.t 70)⟩, [])])
 (.cond (.t 56) (.seq (.ops [⟨(some 2), none, .mv (.c (.int .i64 7))⟩])
 (.ret)) (.skip))))))))
 (.ops [⟨(some 71), none, .bin 0 .add (.t 46) (.c (.int .i64 1))⟩, ⟨(some 46), none, .mv (.t 71)⟩])))))))
 (.seq (.ops [⟨(some 2), none, .mv (.c (.int .i64 0))⟩])
 (.ret)))))⟩
theorem c67 : compF Go.Proofs.Try.prog 67 = some a67 := by kernel_rfl
def a69 : AFn := ⟨29, [.t 2], .seq (.ops [⟨(some 1), none, .box 43 (.t 0)⟩, ⟨(some 2), none, .mv (.c (.lit true 0 []))⟩])
 (.seq (.ops [⟨(some 3), none, .mv (.c (.lit true 0 []))⟩])
 (.seq (.seq (.ops [⟨(some 7), none, .fadr 0 (.t 1)⟩, ⟨(some 8), none, .load none (.t 7)⟩, ⟨(some 9), none, .len false (.t 8)⟩, ⟨(some 10), none, .mv (.c (.int .i64 0))⟩])
 (.block 0 (.loop (.seq (.ops [⟨(some 11), none, .bin 0 .lss (.t 10) (.t 9)⟩])
 (.seq (.cond (.t 11) (.skip) (.exit 0))
 (.seq (.block 1 (.seq (.ops [⟨(some 12), none, .mv (.t 10)⟩, ⟨(some 13), none, .iadr 1 (.t 8) (.t 10)⟩, ⟨(some 14), none, .load none (.t 13)⟩, ⟨(some 4), none, .mv (.t 12)⟩, ⟨(some 5), none, .mv (.t 14)⟩])
 (.seq (.ops [⟨(some 15), none, .mv (.t 5)⟩, ⟨(some 16), none, .len true (.t 15)⟩, ⟨(some 17), none, .mv (.c (.int .i64 0))⟩])
 (.block 2 (.loop (.seq (.ops [⟨(some 18), none, .bin 0 .lss (.t 17) (.t 16)⟩])
 (.seq (.cond (.t 18) (.skip) (.exit 2))
 (.seq (.block 3 (.seq (.ops [⟨(some 19), none, .mv (.t 17)⟩, ⟨(some 6), none, .mv (.t 19)⟩])
 (.ops [⟨(some 20), none, .mv (.t 3)⟩, ⟨(some 21), none, .mv (.t 6)⟩, ⟨(some 22), none, .mv (.t 4)⟩, ⟨(some 23), none, .build [(.int .i64 0), (.int .i64 0)] [(0, 1, (.t 21)), (1, 1, (.t 22))]⟩, ⟨(some 24), none, .bslice 31 2 1 [(.int .i64 0), (.int .i64 0)] [(0, 2, (.t 23))]⟩, ⟨(some 25), none, .app 31 2 16 (.t 20) (.t 24)⟩, ⟨(some 3), none, .mv (.t 25)⟩])))
 (.ops [⟨(some 26), none, .bin 0 .add (.t 17) (.c (.int .i64 1))⟩, ⟨(some 17), none, .mv (.t 26)⟩])))))))))
 (.ops [⟨(some 27), none, .bin 0 .add (.t 10) (.c (.int .i64 1))⟩, ⟨(some 10), none, .mv (.t 27)⟩])))))))
 (.seq (.ops [⟨(some 28), none, .mv (.t 3)⟩, ⟨(some 2), none, .mv (.t 28)⟩])
 (.ret))))⟩
theorem c69 : compF Go.Proofs.Try.prog 69 = some a69 := by kernel_rfl
def a70 : AFn := ⟨32, [.t 4], .seq (.ops [⟨(some 2), none, .box 43 (.t 0)⟩, ⟨(some 3), none, .box 31 (.t 1)⟩, ⟨(some 4), none, .mv (.c (.int .u8 0))⟩])
 (.seq (.seq (.any [(⟨(some 5), none, .fadr 1 (.t 3)⟩, []), (⟨(some 6), none, .load none (.t 5)⟩, []), (⟨(some 7), none, .fadr 0 (.t 2)⟩, [0, 1]), (⟨(some 8), none, .load none (.t 7)⟩, [0, 1]), (⟨(some 9), none, .len false (.t 8)⟩, [0, 1]), (⟨(some 10), none, .bin 0 .sub (.t 9) (.c (.int .i64 1))⟩, [0, 1]), (⟨(some 11), none, .call 57 [(.t 6), (.c (.int .i64 0)), (.t 10)]⟩, []), (⟨(some 12), none, .mv (.t 11)⟩, []), (⟨(some 13), (some (12, false)), .fadr 0 (.t 3)⟩, []), (⟨(some 14), (some (12, false)), .load none (.t 13)⟩, []), (⟨(some 15), (some (12, false)), .fadr 0 (.t 2)⟩, [8, 9]), (⟨(some 16), (some (12, false)), .load none (.t 15)⟩, [8, 9]), (⟨(some 17), (some (12, false)), .iadr 1 (.t 16) (.c (.int .i64 0))⟩, [8, 9]), (⟨(some 18), (some (12, false)), .load none (.t 17)⟩, [8, 9]), (⟨(some 19), (some (12, false)), .len true (.t 18)⟩, [8, 9]), (⟨(some 20), (some (12, false)), .bin 0 .sub (.t 19) (.c (.int .i64 1))⟩, [8, 9]), (⟨(some 21), (some (12, false)), .call 57 [(.t 14), (.c (.int .i64 0)), (.t 20)]⟩, []), (⟨(some 22), none, .pick (.t 12) (.c (.bool true)) (.t 21)⟩, [])])
 (.cond (.t 22) (.seq (.ops [⟨(some 4), none, .mv (.c (.int .u8 46))⟩])
 (.ret)) (.skip)))
 (.seq (.any [(⟨(some 23), none, .fadr 0 (.t 2)⟩, []), (⟨(some 24), none, .load none (.t 23)⟩, []), (⟨(some 25), none, .fadr 1 (.t 3)⟩, [0, 1]), (⟨(some 26), none, .load none (.t 25)⟩, [0, 1]), (⟨(some 27), none, .iadr 1 (.t 24) (.t 26)⟩, []), (⟨(some 28), none, .load none (.t 27)⟩, []), (⟨(some 29), none, .fadr 0 (.t 3)⟩, [0, 1, 2, 3, 4, 5]), (⟨(some 30), none, .load none (.t 29)⟩, [0, 1, 2, 3, 4, 5]), (⟨(some 31), none, .idxs (.t 28) (.t 30)⟩, []), (⟨(some 4), none, .mv (.t 31)⟩, [])])
 (.ret)))⟩
theorem c70 : compF Go.Proofs.Try.prog 70 = some a70 := by kernel_rfl
def a71 : AFn := ⟨9, [.t 2], .seq (.ops [⟨(some 2), none, .mv (.c (.bool false))⟩])
 (.seq (.ops [⟨(some 3), none, .mv (.t 0)⟩, ⟨(some 4), none, .call 114 [(.t 3)]⟩, ⟨(some 5), none, .mv (.t 4)⟩, ⟨(some 6), (some (5, false)), .mv (.t 0)⟩, ⟨(some 7), (some (5, false)), .bin 0 .eql (.t 6) (.c (.int .u8 42))⟩, ⟨(some 8), none, .pick (.t 5) (.c (.bool true)) (.t 7)⟩, ⟨(some 2), none, .mv (.t 8)⟩])
 (.ret))⟩
theorem c71 : compF Go.Proofs.Try.prog 71 = some a71 := by kernel_rfl
def a91 : AFn := ⟨30, [.t 4, .t 5], .seq (.ops [⟨(some 2), none, .box 43 (.t 0)⟩, ⟨(some 4), none, .mv (.c (.int .i64 0))⟩, ⟨(some 5), none, .mv (.c (.int .i64 0))⟩])
 (.seq (.seq (.ops [⟨(some 9), none, .mv (.t 1)⟩, ⟨(some 10), none, .len false (.t 9)⟩, ⟨(some 11), none, .mv (.c (.int .i64 0))⟩])
 (.block 0 (.loop (.seq (.ops [⟨(some 12), none, .bin 0 .lss (.t 11) (.t 10)⟩])
 (.seq (.cond (.t 12) (.skip) (.exit 0))
 (.seq (.block 1 (.seq (.ops [⟨(some 13), none, .iadr 2 (.t 9) (.t 11)⟩, ⟨(some 14), none, .load (some 2) (.t 13)⟩, ⟨(some 7), none, .alloc 31 [(.int .i64 0), (.int .i64 0)]⟩, ⟨none, none, .store 2 (.t 7) (.t 14)⟩])
 (.seq (.ops [⟨(some 15), none, .load (some 2) (.t 2)⟩, ⟨(some 16), none, .load (some 2) (.t 7)⟩, ⟨(some 17), none, .call 70 [(.t 15), (.t 16)]⟩, ⟨(some 8), none, .mv (.t 17)⟩])
 (.seq (.seq (.ops [⟨(some 18), none, .mv (.t 8)⟩, ⟨(some 19), none, .call 71 [(.t 18)]⟩])
 (.cond (.t 19) (.ops [⟨(some 20), none, .mv (.t 5)⟩, ⟨(some 21), none, .bin 0 .add (.t 20) (.c (.int .i64 1))⟩, ⟨(some 5), none, .mv (.t 21)⟩]) (.skip)))
 (.seq (.ops [⟨(some 22), none, .load (some 2) (.t 2)⟩, ⟨(some 23), none, .mv (.t 8)⟩, ⟨(some 24), none, .call 99 [(.t 22), (.t 23)]⟩])
 (.cond (.t 24) (.ops [⟨(some 25), none, .mv (.t 4)⟩, ⟨(some 26), none, .bin 0 .add (.t 25) (.c (.int .i64 1))⟩, ⟨(some 4), none, .mv (.t 26)⟩]) (.skip)))))))
 (.ops [⟨(some 27), none, .bin 0 .add (.t 11) (.c (.int .i64 1))⟩, ⟨(some 11), none, .mv (.t 27)⟩])))))))
 (.seq (.ops [⟨(some 28), none, .mv (.t 4)⟩, ⟨(some 29), none, .mv (.t 5)⟩, ⟨(some 4), none, .mv (.t 28)⟩, ⟨(some 5), none, .mv (.t 29)⟩])
 (.ret)))⟩
theorem c91 : compF Go.Proofs.Try.prog 91 = some a91 := by kernel_rfl
def a92 : AFn := ⟨19, [.c 4 (some 2)], .seq (.ops [⟨(some 4), none, .alloc 49 [(.int .i64 0), (.int .i64 0)]⟩])
 (.seq (.ops [⟨(some 6), none, .mv (.t 0)⟩, ⟨(some 7), none, .mv (.t 0)⟩, ⟨(some 8), none, .un .neg (.t 7)⟩, ⟨(some 9), none, .mm true (.t 6) [(.t 8)]⟩, ⟨(some 10), none, .mv (.t 1)⟩, ⟨(some 11), none, .call 121 [(.t 9), (.t 10)]⟩, ⟨(some 5), none, .mv (.t 11)⟩])
 (.seq (.any [(⟨(some 12), none, .mv (.t 0)⟩, []), (⟨(some 13), none, .mv (.t 5)⟩, [0]), (⟨(some 14), none, .bin 0 .quo (.t 12) (.t 13)⟩, []), (⟨(some 15), none, .mv (.t 1)⟩, [0, 1, 2]), (⟨(some 16), none, .mv (.t 5)⟩, [0, 1, 2, 3]), (⟨(some 17), none, .bin 0 .quo (.t 15) (.t 16)⟩, [0, 1, 2]), (⟨(some 18), none, .build [(.int .i64 0), (.int .i64 0)] [(0, 1, (.t 14)), (1, 1, (.t 17))]⟩, []), (⟨none, none, .store 2 (.t 4) (.t 18)⟩, [])])
 (.ret)))⟩
theorem c92 : compF Go.Proofs.Try.prog 92 = some a92 := by kernel_rfl
def a99 : AFn := ⟨14, [.t 4], .seq (.ops [⟨(some 2), none, .box 43 (.t 0)⟩, ⟨(some 4), none, .mv (.c (.bool false))⟩])
 (.seq (.ops [⟨(some 5), none, .mv (.t 1)⟩, ⟨(some 6), none, .call 114 [(.t 5)]⟩, ⟨(some 7), none, .mv (.t 6)⟩, ⟨(some 8), (some (7, true)), .fadr 1 (.t 2)⟩, ⟨(some 9), (some (7, true)), .load none (.t 8)⟩, ⟨(some 10), (some (7, true)), .mv (.t 1)⟩, ⟨(some 11), (some (7, true)), .call 112 [(.t 9), (.t 10)]⟩, ⟨(some 12), (some (7, true)), .bin 0 .geq (.t 11) (.c (.int .i64 0))⟩, ⟨(some 13), none, .pick (.t 7) (.t 12) (.c (.bool false))⟩, ⟨(some 4), none, .mv (.t 13)⟩])
 (.ret))⟩
theorem c99 : compF Go.Proofs.Try.prog 99 = some a99 := by kernel_rfl
def a106 : AFn := ⟨16, [.t 4], .seq (.ops [⟨(some 4), none, .mv (.c (.int .i64 0))⟩])
 (.seq (.seq (.ops [⟨(some 5), none, .mv (.t 1)⟩, ⟨(some 6), none, .bin 0 .lss (.t 5) (.c (.int .i64 1))⟩])
 (.cond (.t 6) (.seq (.ops [⟨(some 4), none, .mv (.c (.int .i64 0))⟩])
 (.ret)) (.skip)))
 (.seq (.ops [⟨(some 7), none, .mv (.t 0)⟩, ⟨(some 8), none, .mv (.t 1)⟩, ⟨(some 9), none, .bin 0 .rem (.t 7) (.t 8)⟩, ⟨(some 0), none, .mv (.t 9)⟩])
 (.seq (.seq (.ops [⟨(some 10), none, .mv (.t 0)⟩, ⟨(some 11), none, .bin 0 .lss (.t 10) (.c (.int .i64 0))⟩])
 (.cond (.t 11) (.ops [⟨(some 12), none, .mv (.t 0)⟩, ⟨(some 13), none, .mv (.t 1)⟩, ⟨(some 14), none, .bin 0 .add (.t 12) (.t 13)⟩, ⟨(some 0), none, .mv (.t 14)⟩]) (.skip)))
 (.seq (.ops [⟨(some 15), none, .mv (.t 0)⟩, ⟨(some 4), none, .mv (.t 15)⟩])
 (.ret)))))⟩
theorem c106 : compF Go.Proofs.Try.prog 106 = some a106 := by kernel_rfl
def a108 : AFn := ⟨51, [.t 4, .t 5], .seq (.ops [⟨(some 4), none, .mv (.c (.int .u64 0))⟩, ⟨(some 5), none, .mv (.c (.int .u64 0))⟩])
 (.seq (.ops [⟨(some 14), none, .mv (.t 0)⟩, ⟨(some 15), none, .bin 0 .and (.t 14) (.c (.int .u64 4294967295))⟩, ⟨(some 6), none, .mv (.t 15)⟩])
 (.seq (.ops [⟨(some 16), none, .mv (.t 0)⟩, ⟨(some 17), none, .bin 0 .shr (.t 16) (.c (.int .u64 32))⟩, ⟨(some 7), none, .mv (.t 17)⟩])
 (.seq (.ops [⟨(some 18), none, .mv (.t 1)⟩, ⟨(some 19), none, .bin 0 .and (.t 18) (.c (.int .u64 4294967295))⟩, ⟨(some 8), none, .mv (.t 19)⟩])
 (.seq (.ops [⟨(some 20), none, .mv (.t 1)⟩, ⟨(some 21), none, .bin 0 .shr (.t 20) (.c (.int .u64 32))⟩, ⟨(some 9), none, .mv (.t 21)⟩])
 (.seq (.ops [⟨(some 22), none, .mv (.t 6)⟩, ⟨(some 23), none, .mv (.t 8)⟩, ⟨(some 24), none, .bin 0 .mul (.t 22) (.t 23)⟩, ⟨(some 10), none, .mv (.t 24)⟩])
 (.seq (.ops [⟨(some 25), none, .mv (.t 7)⟩, ⟨(some 26), none, .mv (.t 8)⟩, ⟨(some 27), none, .bin 0 .mul (.t 25) (.t 26)⟩, ⟨(some 28), none, .mv (.t 10)⟩, ⟨(some 29), none, .bin 0 .shr (.t 28) (.c (.int .u64 32))⟩, ⟨(some 30), none, .bin 0 .add (.t 27) (.t 29)⟩, ⟨(some 11), none, .mv (.t 30)⟩])
 (.seq (.ops [⟨(some 31), none, .mv (.t 11)⟩, ⟨(some 32), none, .bin 0 .and (.t 31) (.c (.int .u64 4294967295))⟩, ⟨(some 12), none, .mv (.t 32)⟩])
 (.seq (.ops [⟨(some 33), none, .mv (.t 11)⟩, ⟨(some 34), none, .bin 0 .shr (.t 33) (.c (.int .u64 32))⟩, ⟨(some 13), none, .mv (.t 34)⟩])
 (.seq (.ops [⟨(some 35), none, .mv (.t 12)⟩, ⟨(some 36), none, .mv (.t 6)⟩, ⟨(some 37), none, .mv (.t 9)⟩, ⟨(some 38), none, .bin 0 .mul (.t 36) (.t 37)⟩, ⟨(some 39), none, .bin 0 .add (.t 35) (.t 38)⟩, ⟨(some 12), none, .mv (.t 39)⟩])
 (.seq (.ops [⟨(some 40), none, .mv (.t 7)⟩, ⟨(some 41), none, .mv (.t 9)⟩, ⟨(some 42), none, .bin 0 .mul (.t 40) (.t 41)⟩, ⟨(some 43), none, .mv (.t 13)⟩, ⟨(some 44), none, .bin 0 .add (.t 42) (.t 43)⟩, ⟨(some 45), none, .mv (.t 12)⟩, ⟨(some 46), none, .bin 0 .shr (.t 45) (.c (.int .u64 32))⟩, ⟨(some 47), none, .bin 0 .add (.t 44) (.t 46)⟩, ⟨(some 4), none, .mv (.t 47)⟩])
 (.seq (.ops [⟨(some 48), none, .mv (.t 0)⟩, ⟨(some 49), none, .mv (.t 1)⟩, ⟨(some 50), none, .bin 0 .mul (.t 48) (.t 49)⟩, ⟨(some 5), none, .mv (.t 50)⟩])
 (.ret))))))))))))⟩
theorem c108 : compF Go.Proofs.Try.prog 108 = some a108 := by kernel_rfl
def a109 : AFn := ⟨26, [.t 4], .seq (.ops [⟨(some 2), none, .box 31 (.t 0)⟩, ⟨(some 3), none, .box 31 (.t 1)⟩, ⟨(some 4), none, .mv (.c (.int .i64 0))⟩])
 (.seq (.ops [⟨(some 5), none, .fadr 0 (.t 2)⟩, ⟨(some 6), none, .load none (.t 5)⟩, ⟨(some 7), none, .fadr 0 (.t 3)⟩, ⟨(some 8), none, .load none (.t 7)⟩, ⟨(some 9), none, .bin 0 .sub (.t 6) (.t 8)⟩, ⟨(some 10), none, .fadr 0 (.t 3)⟩, ⟨(some 11), none, .load none (.t 10)⟩, ⟨(some 12), none, .fadr 0 (.t 2)⟩, ⟨(some 13), none, .load none (.t 12)⟩, ⟨(some 14), none, .bin 0 .sub (.t 11) (.t 13)⟩, ⟨(some 15), none, .fadr 1 (.t 2)⟩, ⟨(some 16), none, .load none (.t 15)⟩, ⟨(some 17), none, .fadr 1 (.t 3)⟩, ⟨(some 18), none, .load none (.t 17)⟩, ⟨(some 19), none, .bin 0 .sub (.t 16) (.t 18)⟩, ⟨(some 20), none, .fadr 1 (.t 3)⟩, ⟨(some 21), none, .load none (.t 20)⟩, ⟨(some 22), none, .fadr 1 (.t 2)⟩, ⟨(some 23), none, .load none (.t 22)⟩, ⟨(some 24), none, .bin 0 .sub (.t 21) (.t 23)⟩, ⟨(some 25), none, .mm true (.t 9) [(.t 14), (.t 19), (.t 24)]⟩, ⟨(some 4), none, .mv (.t 25)⟩])
 (.ret))⟩
theorem c109 : compF Go.Proofs.Try.prog 109 = some a109 := by kernel_rfl
def a110 : AFn := ⟨19, [.t 4], .seq (.ops [⟨(some 4), none, .mv (.c (.int .i64 0))⟩])
 (.seq (.seq (.ops [⟨(some 6), none, .mv (.t 0)⟩, ⟨(some 7), none, .len false (.t 6)⟩, ⟨(some 8), none, .mv (.c (.int .i64 0))⟩])
 (.block 0 (.loop (.seq (.ops [⟨(some 9), none, .bin 0 .lss (.t 8) (.t 7)⟩])
 (.seq (.cond (.t 9) (.skip) (.exit 0))
 (.seq (.block 1 (.seq (.ops [⟨(some 10), none, .mv (.t 8)⟩, ⟨(some 5), none, .mv (.t 10)⟩])
 (.seq (.ops [⟨(some 11), none, .mv (.t 1)⟩, ⟨(some 12), none, .mv (.t 0)⟩, ⟨(some 13), none, .mv (.t 5)⟩, ⟨(some 14), none, .iadr 1 (.t 12) (.t 13)⟩, ⟨(some 15), none, .load none (.t 14)⟩, ⟨(some 16), none, .bin 0 .eql (.t 11) (.t 15)⟩])
 (.cond (.t 16) (.seq (.ops [⟨(some 17), none, .mv (.t 5)⟩, ⟨(some 4), none, .mv (.t 17)⟩])
 (.ret)) (.skip)))))
 (.ops [⟨(some 18), none, .bin 0 .add (.t 8) (.c (.int .i64 1))⟩, ⟨(some 8), none, .mv (.t 18)⟩])))))))
 (.seq (.ops [⟨(some 4), none, .mv (.c (.int .i64 (-1)))⟩])
 (.ret)))⟩
theorem c110 : compF Go.Proofs.Try.prog 110 = some a110 := by kernel_rfl
def a111 : AFn := ⟨19, [.t 4], .seq (.ops [⟨(some 4), none, .mv (.c (.int .i64 0))⟩])
 (.seq (.seq (.ops [⟨(some 6), none, .mv (.t 0)⟩, ⟨(some 7), none, .len false (.t 6)⟩, ⟨(some 8), none, .mv (.c (.int .i64 0))⟩])
 (.block 0 (.loop (.seq (.ops [⟨(some 9), none, .bin 0 .lss (.t 8) (.t 7)⟩])
 (.seq (.cond (.t 9) (.skip) (.exit 0))
 (.seq (.block 1 (.seq (.ops [⟨(some 10), none, .mv (.t 8)⟩, ⟨(some 5), none, .mv (.t 10)⟩])
 (.seq (.ops [⟨(some 11), none, .mv (.t 1)⟩, ⟨(some 12), none, .mv (.t 0)⟩, ⟨(some 13), none, .mv (.t 5)⟩, ⟨(some 14), none, .iadr 1 (.t 12) (.t 13)⟩, ⟨(some 15), none, .load none (.t 14)⟩, ⟨(some 16), none, .callv (.t 11) [(.t 15)]⟩])
 (.cond (.t 16) (.seq (.ops [⟨(some 17), none, .mv (.t 5)⟩, ⟨(some 4), none, .mv (.t 17)⟩])
 (.ret)) (.skip)))))
 (.ops [⟨(some 18), none, .bin 0 .add (.t 8) (.c (.int .i64 1))⟩, ⟨(some 8), none, .mv (.t 18)⟩])))))))
 (.seq (.ops [⟨(some 4), none, .mv (.c (.int .i64 (-1)))⟩])
 (.ret)))⟩
theorem c111 : compF Go.Proofs.Try.prog 111 = some a111 := by kernel_rfl
def a112 : AFn := ⟨8, [.t 4], .seq (.ops [⟨(some 4), none, .mv (.c (.int .i64 0))⟩])
 (.seq (.ops [⟨(some 5), none, .mv (.t 0)⟩, ⟨(some 6), none, .mv (.t 1)⟩, ⟨(some 7), none, .call 134 [(.t 5), (.t 6)]⟩, ⟨(some 4), none, .mv (.t 7)⟩])
 (.ret))⟩
theorem c112 : compF Go.Proofs.Try.prog 112 = some a112 := by kernel_rfl
def a113 : AFn := ⟨6, [.t 2], .seq (.ops [⟨(some 2), none, .mv (.c (.bool false))⟩])
 (.seq (.ops [⟨(some 3), none, .mv (.t 0)⟩, ⟨(some 4), none, .s2b (.t 3)⟩, ⟨(some 5), none, .call 63 [(.t 4), (.c (.fn 135 []))]⟩, ⟨(some 2), none, .mv (.t 5)⟩])
 (.ret))⟩
theorem c113 : compF Go.Proofs.Try.prog 113 = some a113 := by kernel_rfl
def a114 : AFn := ⟨17, [.t 2], .seq (.ops [⟨(some 2), none, .mv (.c (.bool false))⟩])
 (.seq (.ops [⟨(some 3), none, .mv (.t 0)⟩, ⟨(some 4), none, .bin 0 .geq (.t 3) (.c (.int .u8 48))⟩, ⟨(some 5), none, .mv (.t 4)⟩, ⟨(some 6), (some (5, true)), .mv (.t 0)⟩, ⟨(some 7), (some (5, true)), .bin 0 .leq (.t 6) (.c (.int .u8 57))⟩, ⟨(some 8), none, .pick (.t 5) (.t 7) (.c (.bool false))⟩, ⟨(some 9), none, .mv (.t 8)⟩, ⟨(some 10), (some (9, false)), .mv (.t 0)⟩, ⟨(some 11), (some (9, false)), .bin 0 .geq (.t 10) (.c (.int .u8 97))⟩, ⟨(some 12), (some (9, false)), .mv (.t 11)⟩, ⟨(some 13), (some (12, true)), .mv (.t 0)⟩, ⟨(some 14), (some (12, true)), .bin 0 .leq (.t 13) (.c (.int .u8 122))⟩, ⟨(some 15), (some (9, false)), .pick (.t 12) (.t 14) (.c (.bool false))⟩, ⟨(some 16), none, .pick (.t 9) (.c (.bool true)) (.t 15)⟩, ⟨(some 2), none, .mv (.t 16)⟩])
 (.ret))⟩
theorem c114 : compF Go.Proofs.Try.prog 114 = some a114 := by kernel_rfl
def a121 : AFn := ⟨12, [.t 4], .seq (.ops [⟨(some 4), none, .mv (.c (.int .i64 0))⟩])
 (.seq (.block 0 (.loop (.seq (.seq (.ops [⟨(some 5), none, .mv (.t 1)⟩, ⟨(some 6), none, .bin 0 .neq (.t 5) (.c (.int .i64 0))⟩])
 (.cond (.t 6) (.skip) (.exit 0)))
 (.block 1 (.any [(⟨(some 7), none, .mv (.t 1)⟩, []), (⟨(some 8), none, .mv (.t 0)⟩, [0]), (⟨(some 9), none, .mv (.t 1)⟩, [0, 1]), (⟨(some 10), none, .bin 0 .rem (.t 8) (.t 9)⟩, [0]), (⟨(some 0), none, .mv (.t 7)⟩, [2, 3]), (⟨(some 1), none, .mv (.t 10)⟩, [])])))))
 (.seq (.ops [⟨(some 11), none, .mv (.t 0)⟩, ⟨(some 4), none, .mv (.t 11)⟩])
 (.ret)))⟩
theorem c121 : compF Go.Proofs.Try.prog 121 = some a121 := by kernel_rfl
def a134 : AFn := ⟨8, [.t 4], .seq (.ops [⟨(some 4), none, .mv (.c (.int .i64 0))⟩])
 (.seq (.ops [⟨(some 5), none, .mv (.t 0)⟩, ⟨(some 6), none, .mv (.t 1)⟩, ⟨(some 7), none, .call 163 [(.t 5), (.t 6)]⟩, ⟨(some 4), none, .mv (.t 7)⟩])
 (.ret))⟩
theorem c134 : compF Go.Proofs.Try.prog 134 = some a134 := by kernel_rfl
def a135 : AFn := ⟨6, [.t 2], .seq (.ops [⟨(some 2), none, .mv (.c (.bool false))⟩])
 (.seq (.ops [⟨(some 3), none, .mv (.t 0)⟩, ⟨(some 4), none, .call 136 [(.t 3)]⟩, ⟨(some 5), none, .un .not (.t 4)⟩, ⟨(some 2), none, .mv (.t 5)⟩])
 (.ret))⟩
theorem c135 : compF Go.Proofs.Try.prog 135 = some a135 := by kernel_rfl
def a136 : AFn := ⟨17, [.t 2], .seq (.ops [⟨(some 2), none, .mv (.c (.bool false))⟩])
 (.seq (.ops [⟨(some 3), none, .mv (.t 0)⟩, ⟨(some 4), none, .call 114 [(.t 3)]⟩, ⟨(some 5), none, .mv (.t 4)⟩, ⟨(some 6), (some (5, false)), .mv (.t 0)⟩, ⟨(some 7), (some (5, false)), .bin 0 .eql (.t 6) (.c (.int .u8 46))⟩, ⟨(some 8), none, .pick (.t 5) (.c (.bool true)) (.t 7)⟩, ⟨(some 9), none, .mv (.t 8)⟩, ⟨(some 10), (some (9, false)), .mv (.t 0)⟩, ⟨(some 11), (some (9, false)), .bin 0 .eql (.t 10) (.c (.int .u8 63))⟩, ⟨(some 12), none, .pick (.t 9) (.c (.bool true)) (.t 11)⟩, ⟨(some 13), none, .mv (.t 12)⟩, ⟨(some 14), (some (13, false)), .mv (.t 0)⟩, ⟨(some 15), (some (13, false)), .bin 0 .eql (.t 14) (.c (.int .u8 42))⟩, ⟨(some 16), none, .pick (.t 13) (.c (.bool true)) (.t 15)⟩, ⟨(some 2), none, .mv (.t 16)⟩])
 (.ret))⟩
theorem c136 : compF Go.Proofs.Try.prog 136 = some a136 := by kernel_rfl
end Go.Proofs.Ytmgfcjblclanmaa
/-
  The stream's draws, by the abstract machine.
-/
namespace Go.Proofs.Ytmgfcjblclanmaa
open Go.RowKit
set_option linter.unusedVariables false
set_option linter.unusedSimpArgs false
set_option maxRecDepth 100000
theorem below_c (x n : Int) (nid : Nat) (hn : n ≤ 9223372036854775807) : ACall Try.prog 106 [.int .i64 x, .int .i64 n] [] nid (.int .i64 (below x n)) [] := by
  refine acall_run c106 (by simp [a106]) ?_
  simp -dsimp only [a106, aqT, ROp, OX, ↓seqK, ↓blkK, ↓loopK, step, stepBin, res, stepIdx, mix, PV.cells, argSlots, Nat.reduceBEq, Nat.reduceBeqDiff, Nat.add_assoc nid, Nat.reduceAdd, reduceCtorEq, ↓reduceIte, Nat.reduceLeDiff, colPV, freeOf, indep, offO, neqO, disj, namesX, axSlot, opXs, rdXs, idsOf, idsOfs, lowH, lowAll, keys, Nat.reduceBneDiff, Option.toList, ← Int.ofNat_tmod, ← Int.ofNat_tdiv, optInt, fillP, repl, chunk, mkCols, mkCol, colInts, colBools, colStrs, colLits, colsApp, Col.app, tailOf, splice, colsPut, Col.put, mmFold, eqK, Nat.reduceLT, colsPaste, Col.paste, mNew, mkKey, keyIn, mGet, mPut]
  refine S2.dec (fun h => ?_) (fun h => ?_)
  · simp -dsimp only [aqT, ROp, OX, ↓seqK, ↓blkK, ↓loopK, step, stepBin, res, stepIdx, mix, PV.cells, argSlots, Nat.reduceBEq, Nat.reduceBeqDiff, Nat.add_assoc nid, Nat.reduceAdd, reduceCtorEq, ↓reduceIte, Nat.reduceLeDiff, colPV, freeOf, indep, offO, neqO, disj, namesX, axSlot, opXs, rdXs, idsOf, idsOfs, lowH, lowAll, keys, Nat.reduceBneDiff, Option.toList, ← Int.ofNat_tmod, ← Int.ofNat_tdiv, optInt, fillP, repl, chunk, mkCols, mkCol, colInts, colBools, colStrs, colLits, colsApp, Col.app, tailOf, splice, colsPut, Col.put, mmFold, eqK, Nat.reduceLT, colsPaste, Col.paste, mNew, mkKey, keyIn, mGet, mPut]
    refine RetOK.pure (.inl rfl) rfl ?_
    simp [retPV, PVCov, getS, below, h]
  simp -dsimp only [aqT, ROp, OX, ↓seqK, ↓blkK, ↓loopK, step, stepBin, res, stepIdx, mix, PV.cells, argSlots, Nat.reduceBEq, Nat.reduceBeqDiff, Nat.add_assoc nid, Nat.reduceAdd, reduceCtorEq, ↓reduceIte, Nat.reduceLeDiff, colPV, freeOf, indep, offO, neqO, disj, namesX, axSlot, opXs, rdXs, idsOf, idsOfs, lowH, lowAll, keys, Nat.reduceBneDiff, Option.toList, ← Int.ofNat_tmod, ← Int.ofNat_tdiv, optInt, fillP, repl, chunk, mkCols, mkCol, colInts, colBools, colStrs, colLits, colsApp, Col.app, tailOf, splice, colsPut, Col.put, mmFold, eqK, Nat.reduceLT, colsPaste, Col.paste, mNew, mkKey, keyIn, mGet, mPut]
  refine ⟨by omega, S2.dec (fun h2 => ?_) (fun h2 => ?_)⟩
  · simp -dsimp only [aqT, ROp, OX, ↓seqK, ↓blkK, ↓loopK, step, stepBin, res, stepIdx, mix, PV.cells, argSlots, Nat.reduceBEq, Nat.reduceBeqDiff, Nat.add_assoc nid, Nat.reduceAdd, reduceCtorEq, ↓reduceIte, Nat.reduceLeDiff, colPV, freeOf, indep, offO, neqO, disj, namesX, axSlot, opXs, rdXs, idsOf, idsOfs, lowH, lowAll, keys, Nat.reduceBneDiff, Option.toList, ← Int.ofNat_tmod, ← Int.ofNat_tdiv, optInt, fillP, repl, chunk, mkCols, mkCol, colInts, colBools, colStrs, colLits, colsApp, Col.app, tailOf, splice, colsPut, Col.put, mmFold, eqK, Nat.reduceLT, colsPaste, Col.paste, mNew, mkKey, keyIn, mGet, mPut]
    have := Int.lt_tmod_of_pos x (show 0 < n by omega)
    refine ⟨by unfold inI64; omega, RetOK.pure (.inl rfl) rfl ?_⟩
    have h3 : x.tmod n + n = x % n := by rw [Int.tmod_eq_emod]; split <;> rw [Int.tmod_eq_emod] at h2 <;> rename_i h6 <;> simp only [h6, if_true, if_false, not_false_eq_true] at h2 <;> have := Int.emod_nonneg x (show n ≠ 0 by omega) <;> omega
    simp [retPV, over, keys, List.map_nil, List.map_cons, List.contains_cons, List.contains_nil, Bool.or_false, Bool.or_true, Bool.true_or, Bool.false_or, beq_self_eq_true, cond_true, cond_false, HeapCov, orNil, nilSz, onBlk, srcOf, getH_hit, getH_miss, getH.eq_1, getS_hit, getS_miss, getS.eq_1, BlkCov, PVCovs, PVCov, ColsEq, ColEq.refl, liveIds, SlotsCov, List.all_nil, List.all_cons, List.any_nil, List.any_cons, List.nil_append, List.cons_append, inRange, apart, nilBlk, idS1, idS2, readAll, readRes, onAll, step, res, AX.val, List.drop_zero, List.drop_succ_cons, List.take_succ_cons, List.take_zero, below, h, h3]
  · simp -dsimp only [aqT, ROp, OX, ↓seqK, ↓blkK, ↓loopK, step, stepBin, res, stepIdx, mix, PV.cells, argSlots, Nat.reduceBEq, Nat.reduceBeqDiff, Nat.add_assoc nid, Nat.reduceAdd, reduceCtorEq, ↓reduceIte, Nat.reduceLeDiff, colPV, freeOf, indep, offO, neqO, disj, namesX, axSlot, opXs, rdXs, idsOf, idsOfs, lowH, lowAll, keys, Nat.reduceBneDiff, Option.toList, ← Int.ofNat_tmod, ← Int.ofNat_tdiv, optInt, fillP, repl, chunk, mkCols, mkCol, colInts, colBools, colStrs, colLits, colsApp, Col.app, tailOf, splice, colsPut, Col.put, mmFold, eqK, Nat.reduceLT, colsPaste, Col.paste, mNew, mkKey, keyIn, mGet, mPut]
    refine RetOK.pure (.inl rfl) rfl ?_
    have h3 : x.tmod n = x % n := by rw [Int.tmod_eq_emod]; split <;> rw [Int.tmod_eq_emod] at h2 <;> rename_i h6 <;> simp only [h6, if_true, if_false, not_false_eq_true] at h2 <;> have := Int.emod_lt_of_pos x (show 0 < n by omega) <;> omega
    simp [retPV, over, keys, List.map_nil, List.map_cons, List.contains_cons, List.contains_nil, Bool.or_false, Bool.or_true, Bool.true_or, Bool.false_or, beq_self_eq_true, cond_true, cond_false, HeapCov, orNil, nilSz, onBlk, srcOf, getH_hit, getH_miss, getH.eq_1, getS_hit, getS_miss, getS.eq_1, BlkCov, PVCovs, PVCov, ColsEq, ColEq.refl, liveIds, SlotsCov, List.all_nil, List.all_cons, List.any_nil, List.any_cons, List.nil_append, List.cons_append, inRange, apart, nilBlk, idS1, idS2, readAll, readRes, onAll, step, res, AX.val, List.drop_zero, List.drop_succ_cons, List.take_succ_cons, List.take_zero, below, h, h3]
def strmC (nl : Bool) (A : List Int) (p : Nat) : Option ABlk := some (.box 25 [.lit nl A.length [.i .i64 fun i => A.getD i 0], .int .i64 p])
theorem next_c (s nid : Nat) (nl : Bool) (A : List Int) (p : Nat) (n : Int) (h : s < nid) (hp : p ≤ 1099511627775) (hA : A.length ≤ 17592186044416) (hn : n ≤ 9223372036854775807) :
    ACall Try.prog 55 [.ptr s 0, .int .i64 n] [(s, strmC nl A p)] nid (.int .i64 (nextV A p n)) [(s, strmC nl A (p + 1))] := by
  obtain ⟨e1, e2, e3, e4, e5, e6, e7, e8, e9⟩ := id_all h
  refine acall_run c55 (by simp [a55]) ?_
  simp -dsimp only [a55, strmC, aqT, ROp, OX, ↓seqK, ↓blkK, ↓loopK, step, stepBin, res, stepIdx, mix, PV.cells, argSlots, Nat.reduceBEq, Nat.reduceBeqDiff, Nat.add_assoc nid, Nat.reduceAdd, reduceCtorEq, ↓reduceIte, Nat.reduceLeDiff, colPV, freeOf, indep, offO, neqO, disj, namesX, axSlot, opXs, rdXs, idsOf, idsOfs, lowH, lowAll, keys, Nat.reduceBneDiff, Option.toList, ← Int.ofNat_tmod, ← Int.ofNat_tdiv, optInt, fillP, repl, chunk, mkCols, mkCol, colInts, colBools, colStrs, colLits, colsApp, Col.app, tailOf, splice, colsPut, Col.put, mmFold, eqK, Nat.reduceLT, colsPaste, Col.paste, mNew, mkKey, keyIn, mGet, mPut, e1, e2, e3, e4, e5, e6, e7, e8, e9]
  refine ⟨by unfold inI64; omega, S2.intro (fun h2 => ?_) (fun h2 => ?_)⟩
  · simp -dsimp only [aqT, ROp, OX, ↓seqK, ↓blkK, ↓loopK, step, stepBin, res, stepIdx, mix, PV.cells, argSlots, Nat.reduceBEq, Nat.reduceBeqDiff, Nat.add_assoc nid, Nat.reduceAdd, reduceCtorEq, ↓reduceIte, Nat.reduceLeDiff, colPV, freeOf, indep, offO, neqO, disj, namesX, axSlot, opXs, rdXs, idsOf, idsOfs, lowH, lowAll, keys, Nat.reduceBneDiff, Option.toList, ← Int.ofNat_tmod, ← Int.ofNat_tdiv, optInt, fillP, repl, chunk, mkCols, mkCol, colInts, colBools, colStrs, colLits, colsApp, Col.app, tailOf, splice, colsPut, Col.put, mmFold, eqK, Nat.reduceLT, colsPaste, Col.paste, mNew, mkKey, keyIn, mGet, mPut, e1, e2, e3, e4, e5, e6, e7, e8, e9]
    refine ⟨by unfold inI64; omega, CallO.pure (below_c _ _ _ hn) ?_⟩
    simp -dsimp only [aqT, ROp, OX, ↓seqK, ↓blkK, ↓loopK, step, stepBin, res, stepIdx, mix, PV.cells, argSlots, Nat.reduceBEq, Nat.reduceBeqDiff, Nat.add_assoc nid, Nat.reduceAdd, reduceCtorEq, ↓reduceIte, Nat.reduceLeDiff, colPV, freeOf, indep, offO, neqO, disj, namesX, axSlot, opXs, rdXs, idsOf, idsOfs, lowH, lowAll, keys, Nat.reduceBneDiff, Option.toList, ← Int.ofNat_tmod, ← Int.ofNat_tdiv, optInt, fillP, repl, chunk, mkCols, mkCol, colInts, colBools, colStrs, colLits, colsApp, Col.app, tailOf, splice, colsPut, Col.put, mmFold, eqK, Nat.reduceLT, colsPaste, Col.paste, mNew, mkKey, keyIn, mGet, mPut, e1, e2, e3, e4, e5, e6, e7, e8, e9]
    have h3 : A.length = 0 := by simpa using h2
    refine RetOK.same (.inl rfl) rfl (by simp [strmC, liveIds]; omega) ?_ ?_
    · simp [retPV, over, keys, List.map_nil, List.map_cons, List.contains_cons, List.contains_nil, Bool.or_false, Bool.or_true, Bool.true_or, Bool.false_or, beq_self_eq_true, cond_true, cond_false, HeapCov, orNil, nilSz, onBlk, srcOf, getH_hit, getH_miss, getH.eq_1, getS_hit, getS_miss, getS.eq_1, BlkCov, PVCovs, PVCov, ColsEq, ColEq.refl, liveIds, SlotsCov, List.all_nil, List.all_cons, List.any_nil, List.any_cons, List.nil_append, List.cons_append, inRange, apart, nilBlk, idS1, idS2, readAll, readRes, onAll, step, res, AX.val, List.drop_zero, List.drop_succ_cons, List.take_succ_cons, List.take_zero, strmC]
    · simp [retPV, over, keys, List.map_nil, List.map_cons, List.contains_cons, List.contains_nil, Bool.or_false, Bool.or_true, Bool.true_or, Bool.false_or, beq_self_eq_true, cond_true, cond_false, HeapCov, orNil, nilSz, onBlk, srcOf, getH_hit, getH_miss, getH.eq_1, getS_hit, getS_miss, getS.eq_1, BlkCov, PVCovs, PVCov, ColsEq, ColEq.refl, liveIds, SlotsCov, List.all_nil, List.all_cons, List.any_nil, List.any_cons, List.nil_append, List.cons_append, inRange, apart, nilBlk, idS1, idS2, readAll, readRes, onAll, step, res, AX.val, List.drop_zero, List.drop_succ_cons, List.take_succ_cons, List.take_zero, nextV, h3]
  · simp -dsimp only [aqT, ROp, OX, ↓seqK, ↓blkK, ↓loopK, step, stepBin, res, stepIdx, mix, PV.cells, argSlots, Nat.reduceBEq, Nat.reduceBeqDiff, Nat.add_assoc nid, Nat.reduceAdd, reduceCtorEq, ↓reduceIte, Nat.reduceLeDiff, colPV, freeOf, indep, offO, neqO, disj, namesX, axSlot, opXs, rdXs, idsOf, idsOfs, lowH, lowAll, keys, Nat.reduceBneDiff, Option.toList, ← Int.ofNat_tmod, ← Int.ofNat_tdiv, optInt, fillP, repl, chunk, mkCols, mkCol, colInts, colBools, colStrs, colLits, colsApp, Col.app, tailOf, splice, colsPut, Col.put, mmFold, eqK, Nat.reduceLT, colsPaste, Col.paste, mNew, mkKey, keyIn, mGet, mPut, e1, e2, e3, e4, e5, e6, e7, e8, e9]
    have h3 : 0 < A.length := by have : ¬ A.length = 0 := by simpa using h2
                                 omega
    have h4 : ∀ z : Nat, z ≤ 1099511627776 → IntKind.i64.wrap (z : Int) = z := fun z hz => IntWalk.i64_in _ (by omega)
    have h5 : p / A.length ≤ p := Nat.div_le_self _ _
    have h6 : p % A.length < A.length := Nat.mod_lt _ h3
    have h11 := h4 _ (show p / A.length ≤ 1099511627776 by omega)
    refine ⟨by unfold inI64; omega, by omega, by unfold inI64; omega, by omega, by omega, CallO.pure (below_c _ _ _ (by omega)) ?_⟩
    simp -dsimp only [aqT, ROp, OX, ↓seqK, ↓blkK, ↓loopK, step, stepBin, res, stepIdx, mix, PV.cells, argSlots, Nat.reduceBEq, Nat.reduceBeqDiff, Nat.add_assoc nid, Nat.reduceAdd, reduceCtorEq, ↓reduceIte, Nat.reduceLeDiff, colPV, freeOf, indep, offO, neqO, disj, namesX, axSlot, opXs, rdXs, idsOf, idsOfs, lowH, lowAll, keys, Nat.reduceBneDiff, Option.toList, ← Int.ofNat_tmod, ← Int.ofNat_tdiv, optInt, fillP, repl, chunk, mkCols, mkCol, colInts, colBools, colStrs, colLits, colsApp, Col.app, tailOf, splice, colsPut, Col.put, mmFold, eqK, Nat.reduceLT, colsPaste, Col.paste, mNew, mkKey, keyIn, mGet, mPut, h11, e1, e2, e3, e4, e5, e6, e7, e8, e9]
    have h7 := round_bd p A.length h3 (by omega)
    have h8 := below_bd (A.getD (p % A.length) 0) (n := 1073741824) (by omega)
    rw [← Int.natCast_emod, ← Int.natCast_ediv] at h7
    generalize h9 : ((p / A.length : Nat) : Int) * (7919 + ((p % A.length : Nat) : Int)) = z at h7 ⊢
    refine ⟨by unfold inI64; omega, by unfold inI64; omega, by unfold inI64; omega, CallO.pure (below_c _ _ _ hn) ?_⟩
    simp -dsimp only [aqT, ROp, OX, ↓seqK, ↓blkK, ↓loopK, step, stepBin, res, stepIdx, mix, PV.cells, argSlots, Nat.reduceBEq, Nat.reduceBeqDiff, Nat.add_assoc nid, Nat.reduceAdd, reduceCtorEq, ↓reduceIte, Nat.reduceLeDiff, colPV, freeOf, indep, offO, neqO, disj, namesX, axSlot, opXs, rdXs, idsOf, idsOfs, lowH, lowAll, keys, Nat.reduceBneDiff, Option.toList, ← Int.ofNat_tmod, ← Int.ofNat_tdiv, optInt, fillP, repl, chunk, mkCols, mkCol, colInts, colBools, colStrs, colLits, colsApp, Col.app, tailOf, splice, colsPut, Col.put, mmFold, eqK, Nat.reduceLT, colsPaste, Col.paste, mNew, mkKey, keyIn, mGet, mPut, e1, e2, e3, e4, e5, e6, e7, e8, e9]
    refine RetOK.same (.inl rfl) rfl (by simp [strmC, liveIds]; omega) ?_ ?_
    · simp [retPV, over, keys, List.map_nil, List.map_cons, List.contains_cons, List.contains_nil, Bool.or_false, Bool.or_true, Bool.true_or, Bool.false_or, beq_self_eq_true, cond_true, cond_false, HeapCov, orNil, nilSz, onBlk, srcOf, getH_hit, getH_miss, getH.eq_1, getS_hit, getS_miss, getS.eq_1, BlkCov, PVCovs, PVCov, ColsEq, ColEq.refl, liveIds, SlotsCov, List.all_nil, List.all_cons, List.any_nil, List.any_cons, List.nil_append, List.cons_append, inRange, apart, nilBlk, idS1, idS2, readAll, readRes, onAll, step, res, AX.val, List.drop_zero, List.drop_succ_cons, List.take_succ_cons, List.take_zero, strmC]
    · have h10 : A.length ≠ 0 := by omega
      simp [retPV, over, keys, List.map_nil, List.map_cons, List.contains_cons, List.contains_nil, Bool.or_false, Bool.or_true, Bool.true_or, Bool.false_or, beq_self_eq_true, cond_true, cond_false, HeapCov, orNil, nilSz, onBlk, srcOf, getH_hit, getH_miss, getH.eq_1, getS_hit, getS_miss, getS.eq_1, BlkCov, PVCovs, PVCov, ColsEq, ColEq.refl, liveIds, SlotsCov, List.all_nil, List.all_cons, List.any_nil, List.any_cons, List.nil_append, List.cons_append, inRange, apart, nilBlk, idS1, idS2, readAll, readRes, onAll, step, res, AX.val, List.drop_zero, List.drop_succ_cons, List.take_succ_cons, List.take_zero, nextV, h10, ← h9]
theorem range_c (s nid : Nat) (nl : Bool) (A : List Int) (p : Nat) (lo hi : Int) (h : s < nid) (hp : p ≤ 1099511627775) (hA : A.length ≤ 17592186044416) (h1 : lo ≤ hi) (hl : -1099511627776 ≤ lo) (hh : hi ≤ 1099511627776) :
    ACall Try.prog 54 [.ptr s 0, .int .i64 lo, .int .i64 hi] [(s, strmC nl A p)] nid (.int .i64 (rangeV A p lo hi)) [(s, strmC nl A (p + 1))] := by
  obtain ⟨e1, e2, e3, e4, e5, e6, e7, e8, e9⟩ := id_all h
  refine acall_run c54 (by simp [a54]) ?_
  simp -dsimp only [a54, aqT, ROp, OX, ↓seqK, ↓blkK, ↓loopK, step, stepBin, res, stepIdx, mix, PV.cells, argSlots, Nat.reduceBEq, Nat.reduceBeqDiff, Nat.add_assoc nid, Nat.reduceAdd, reduceCtorEq, ↓reduceIte, Nat.reduceLeDiff, colPV, freeOf, indep, offO, neqO, disj, namesX, axSlot, opXs, rdXs, idsOf, idsOfs, lowH, lowAll, keys, Nat.reduceBneDiff, Option.toList, ← Int.ofNat_tmod, ← Int.ofNat_tdiv, optInt, fillP, repl, chunk, mkCols, mkCol, colInts, colBools, colStrs, colLits, colsApp, Col.app, tailOf, splice, colsPut, Col.put, mmFold, eqK, Nat.reduceLT, colsPaste, Col.paste, mNew, mkKey, keyIn, mGet, mPut, e1, e2, e3, e4, e5, e6, e7, e8, e9]
  refine S2.dec (fun h => absurd h (by omega)) (fun h => ?_)
  simp -dsimp only [aqT, ROp, OX, ↓seqK, ↓blkK, ↓loopK, step, stepBin, res, stepIdx, mix, PV.cells, argSlots, Nat.reduceBEq, Nat.reduceBeqDiff, Nat.add_assoc nid, Nat.reduceAdd, reduceCtorEq, ↓reduceIte, Nat.reduceLeDiff, colPV, freeOf, indep, offO, neqO, disj, namesX, axSlot, opXs, rdXs, idsOf, idsOfs, lowH, lowAll, keys, Nat.reduceBneDiff, Option.toList, ← Int.ofNat_tmod, ← Int.ofNat_tdiv, optInt, fillP, repl, chunk, mkCols, mkCol, colInts, colBools, colStrs, colLits, colsApp, Col.app, tailOf, splice, colsPut, Col.put, mmFold, eqK, Nat.reduceLT, colsPaste, Col.paste, mNew, mkKey, keyIn, mGet, mPut, e1, e2, e3, e4, e5, e6, e7, e8, e9]
  refine ⟨by unfold inI64; omega, by unfold inI64; omega, CallO.on (next_c _ _ _ _ _ _ (by omega) hp hA (by omega)) (subH_hit _ _ _) ?_⟩
  simp -dsimp only [aqT, ROp, OX, ↓seqK, ↓blkK, ↓loopK, step, stepBin, res, stepIdx, mix, PV.cells, argSlots, Nat.reduceBEq, Nat.reduceBeqDiff, Nat.add_assoc nid, Nat.reduceAdd, reduceCtorEq, ↓reduceIte, Nat.reduceLeDiff, colPV, freeOf, indep, offO, neqO, disj, namesX, axSlot, opXs, rdXs, idsOf, idsOfs, lowH, lowAll, keys, Nat.reduceBneDiff, Option.toList, ← Int.ofNat_tmod, ← Int.ofNat_tdiv, optInt, fillP, repl, chunk, mkCols, mkCol, colInts, colBools, colStrs, colLits, colsApp, Col.app, tailOf, splice, colsPut, Col.put, mmFold, eqK, Nat.reduceLT, colsPaste, Col.paste, mNew, mkKey, keyIn, mGet, mPut, e1, e2, e3, e4, e5, e6, e7, e8, e9]
  have := nextV_bd A p (n := hi - lo + 1) (by omega)
  refine ⟨by unfold inI64; omega, RetOK.same (.inl rfl) rfl (by simp [strmC, liveIds]; omega) ?_ ?_⟩
  · simp [retPV, over, keys, List.map_nil, List.map_cons, List.contains_cons, List.contains_nil, Bool.or_false, Bool.or_true, Bool.true_or, Bool.false_or, beq_self_eq_true, cond_true, cond_false, HeapCov, orNil, nilSz, onBlk, srcOf, getH_hit, getH_miss, getH.eq_1, getS_hit, getS_miss, getS.eq_1, BlkCov, PVCovs, PVCov, ColsEq, ColEq.refl, liveIds, SlotsCov, List.all_nil, List.all_cons, List.any_nil, List.any_cons, List.nil_append, List.cons_append, inRange, apart, nilBlk, idS1, idS2, readAll, readRes, onAll, step, res, AX.val, List.drop_zero, List.drop_succ_cons, List.take_succ_cons, List.take_zero, strmC]
  · simp [retPV, over, keys, List.map_nil, List.map_cons, List.contains_cons, List.contains_nil, Bool.or_false, Bool.or_true, Bool.true_or, Bool.false_or, beq_self_eq_true, cond_true, cond_false, HeapCov, orNil, nilSz, onBlk, srcOf, getH_hit, getH_miss, getH.eq_1, getS_hit, getS_miss, getS.eq_1, BlkCov, PVCovs, PVCov, ColsEq, ColEq.refl, liveIds, SlotsCov, List.all_nil, List.all_cons, List.any_nil, List.any_cons, List.nil_append, List.cons_append, inRange, apart, nilBlk, idS1, idS2, readAll, readRes, onAll, step, res, AX.val, List.drop_zero, List.drop_succ_cons, List.take_succ_cons, List.take_zero, rangeV]
theorem flip_c (s nid : Nat) (nl : Bool) (A : List Int) (p : Nat) (n : Int) (h : s < nid) (hp : p ≤ 1099511627775) (hA : A.length ≤ 17592186044416) (hn : n ≤ 9223372036854775807) :
    ACall Try.prog 10 [.ptr s 0, .int .i64 n] [(s, strmC nl A p)] nid (.bool (flipV A p n)) [(s, strmC nl A (p + 1))] := by
  obtain ⟨e1, e2, e3, e4, e5, e6, e7, e8, e9⟩ := id_all h
  refine acall_run c10 (by simp [a10]) ?_
  simp -dsimp only [a10, aqT, ROp, OX, ↓seqK, ↓blkK, ↓loopK, step, stepBin, res, stepIdx, mix, PV.cells, argSlots, Nat.reduceBEq, Nat.reduceBeqDiff, Nat.add_assoc nid, Nat.reduceAdd, reduceCtorEq, ↓reduceIte, Nat.reduceLeDiff, colPV, freeOf, indep, offO, neqO, disj, namesX, axSlot, opXs, rdXs, idsOf, idsOfs, lowH, lowAll, keys, Nat.reduceBneDiff, Option.toList, ← Int.ofNat_tmod, ← Int.ofNat_tdiv, optInt, fillP, repl, chunk, mkCols, mkCol, colInts, colBools, colStrs, colLits, colsApp, Col.app, tailOf, splice, colsPut, Col.put, mmFold, eqK, Nat.reduceLT, colsPaste, Col.paste, mNew, mkKey, keyIn, mGet, mPut, e1, e2, e3, e4, e5, e6, e7, e8, e9]
  refine CallO.on (next_c _ _ _ _ _ _ (by omega) hp hA hn) (subH_hit _ _ _) ?_
  simp -dsimp only [aqT, ROp, OX, ↓seqK, ↓blkK, ↓loopK, step, stepBin, res, stepIdx, mix, PV.cells, argSlots, Nat.reduceBEq, Nat.reduceBeqDiff, Nat.add_assoc nid, Nat.reduceAdd, reduceCtorEq, ↓reduceIte, Nat.reduceLeDiff, colPV, freeOf, indep, offO, neqO, disj, namesX, axSlot, opXs, rdXs, idsOf, idsOfs, lowH, lowAll, keys, Nat.reduceBneDiff, Option.toList, ← Int.ofNat_tmod, ← Int.ofNat_tdiv, optInt, fillP, repl, chunk, mkCols, mkCol, colInts, colBools, colStrs, colLits, colsApp, Col.app, tailOf, splice, colsPut, Col.put, mmFold, eqK, Nat.reduceLT, colsPaste, Col.paste, mNew, mkKey, keyIn, mGet, mPut, e1, e2, e3, e4, e5, e6, e7, e8, e9]
  refine RetOK.same (.inl rfl) rfl (by simp [strmC, liveIds]; omega) ?_ ?_
  · simp [retPV, over, keys, List.map_nil, List.map_cons, List.contains_cons, List.contains_nil, Bool.or_false, Bool.or_true, Bool.true_or, Bool.false_or, beq_self_eq_true, cond_true, cond_false, HeapCov, orNil, nilSz, onBlk, srcOf, getH_hit, getH_miss, getH.eq_1, getS_hit, getS_miss, getS.eq_1, BlkCov, PVCovs, PVCov, ColsEq, ColEq.refl, liveIds, SlotsCov, List.all_nil, List.all_cons, List.any_nil, List.any_cons, List.nil_append, List.cons_append, inRange, apart, nilBlk, idS1, idS2, readAll, readRes, onAll, step, res, AX.val, List.drop_zero, List.drop_succ_cons, List.take_succ_cons, List.take_zero, strmC]
  · simp [retPV, over, keys, List.map_nil, List.map_cons, List.contains_cons, List.contains_nil, Bool.or_false, Bool.or_true, Bool.true_or, Bool.false_or, beq_self_eq_true, cond_true, cond_false, HeapCov, orNil, nilSz, onBlk, srcOf, getH_hit, getH_miss, getH.eq_1, getS_hit, getS_miss, getS.eq_1, BlkCov, PVCovs, PVCov, ColsEq, ColEq.refl, liveIds, SlotsCov, List.all_nil, List.all_cons, List.any_nil, List.any_cons, List.nil_append, List.cons_append, inRange, apart, nilBlk, idS1, idS2, readAll, readRes, onAll, step, res, AX.val, List.drop_zero, List.drop_succ_cons, List.take_succ_cons, List.take_zero, flipV]
/-- of n listed numbers -/
theorem pick_c (s nid : Nat) (nl nl' : Bool) (A : List Int) (p : Nat) (n : Nat) (g : Nat → Int) (h : s < nid) (hp : p ≤ 1099511627775) (hA : A.length ≤ 17592186044416) (h1 : 0 < n) (hn : n ≤ 1099511627776) :
    ACall Try.prog 20 [.ptr s 0, .lit nl' n [.i .i64 g]] [(s, strmC nl A p)] nid (.int .i64 (g (pickI A p n))) [(s, strmC nl A (p + 1))] := by
  obtain ⟨e1, e2, e3, e4, e5, e6, e7, e8, e9⟩ := id_all h
  refine acall_run c20 (by simp [a20]) ?_
  simp -dsimp only [a20, aqT, ROp, OX, ↓seqK, ↓blkK, ↓loopK, step, stepBin, res, stepIdx, mix, PV.cells, argSlots, Nat.reduceBEq, Nat.reduceBeqDiff, Nat.add_assoc nid, Nat.reduceAdd, reduceCtorEq, ↓reduceIte, Nat.reduceLeDiff, colPV, freeOf, indep, offO, neqO, disj, namesX, axSlot, opXs, rdXs, idsOf, idsOfs, lowH, lowAll, keys, Nat.reduceBneDiff, Option.toList, ← Int.ofNat_tmod, ← Int.ofNat_tdiv, optInt, fillP, repl, chunk, mkCols, mkCol, colInts, colBools, colStrs, colLits, colsApp, Col.app, tailOf, splice, colsPut, Col.put, mmFold, eqK, Nat.reduceLT, colsPaste, Col.paste, mNew, mkKey, keyIn, mGet, mPut, e1, e2, e3, e4, e5, e6, e7, e8, e9]
  refine CallO.on (next_c _ _ _ _ _ _ (by omega) hp hA (by omega)) (subH_hit _ _ _) ?_
  simp -dsimp only [aqT, ROp, OX, ↓seqK, ↓blkK, ↓loopK, step, stepBin, res, stepIdx, mix, PV.cells, argSlots, Nat.reduceBEq, Nat.reduceBeqDiff, Nat.add_assoc nid, Nat.reduceAdd, reduceCtorEq, ↓reduceIte, Nat.reduceLeDiff, colPV, freeOf, indep, offO, neqO, disj, namesX, axSlot, opXs, rdXs, idsOf, idsOfs, lowH, lowAll, keys, Nat.reduceBneDiff, Option.toList, ← Int.ofNat_tmod, ← Int.ofNat_tdiv, optInt, fillP, repl, chunk, mkCols, mkCol, colInts, colBools, colStrs, colLits, colsApp, Col.app, tailOf, splice, colsPut, Col.put, mmFold, eqK, Nat.reduceLT, colsPaste, Col.paste, mNew, mkKey, keyIn, mGet, mPut, e1, e2, e3, e4, e5, e6, e7, e8, e9]
  have := nextV_bd A p (n := (n : Int)) (by omega)
  refine ⟨this, RetOK.same (.inl rfl) rfl (by simp [strmC, liveIds]; omega) ?_ ?_⟩
  · simp [retPV, over, keys, List.map_nil, List.map_cons, List.contains_cons, List.contains_nil, Bool.or_false, Bool.or_true, Bool.true_or, Bool.false_or, beq_self_eq_true, cond_true, cond_false, HeapCov, orNil, nilSz, onBlk, srcOf, getH_hit, getH_miss, getH.eq_1, getS_hit, getS_miss, getS.eq_1, BlkCov, PVCovs, PVCov, ColsEq, ColEq.refl, liveIds, SlotsCov, List.all_nil, List.all_cons, List.any_nil, List.any_cons, List.nil_append, List.cons_append, inRange, apart, nilBlk, idS1, idS2, readAll, readRes, onAll, step, res, AX.val, List.drop_zero, List.drop_succ_cons, List.take_succ_cons, List.take_zero, strmC]
  · simp [retPV, over, keys, List.map_nil, List.map_cons, List.contains_cons, List.contains_nil, Bool.or_false, Bool.or_true, Bool.true_or, Bool.false_or, beq_self_eq_true, cond_true, cond_false, HeapCov, orNil, nilSz, onBlk, srcOf, getH_hit, getH_miss, getH.eq_1, getS_hit, getS_miss, getS.eq_1, BlkCov, PVCovs, PVCov, ColsEq, ColEq.refl, liveIds, SlotsCov, List.all_nil, List.all_cons, List.any_nil, List.any_cons, List.nil_append, List.cons_append, inRange, apart, nilBlk, idS1, idS2, readAll, readRes, onAll, step, res, AX.val, List.drop_zero, List.drop_succ_cons, List.take_succ_cons, List.take_zero, pickI]
/-- .. of a listed array, which is given up -/
theorem CallX.pick_go {s id nid : Nat} {nl : Bool} {A : List Int} {p : Nat} {n T : Nat} {g : Nat → Int} {H : Heap} {K : PV → Heap → List Nat → Prop} (hs : getH H s = strmC nl A p) (hid : getH H id = some (.arr T n [.i .i64 g])) (hne : (s == id) = false) (h : s < nid) (hp : p ≤ 1099511627775) (hA : A.length ≤ 17592186044416) (h1 : 0 < n) (hn : n ≤ 1099511627776)
    (hK : K (.int .i64 (g (pickI A p n))) [(s, strmC nl A (p + 1)), (id, none)] [s, id]) : CallX Try.prog 20 [.ptr s 0, .sl id 0 n] H nid K := by
  refine CallX.given [id] (u := [(s, strmC nl A (p + 1))]) (fun nl' => ?_) (subH_get hs) (by simp [getH, hne]) hK
  have e : lends H [id] nl' [.ptr s 0, .sl id 0 n] = [.ptr s 0, .lit (nl' id) n [.i .i64 g]] := by simp [lends, lend, hid]
  rw [e]
  exact pick_c s _ nl _ A p n _ h hp hA h1 hn
theorem CallO.pick_go {s id nid : Nat} {nl : Bool} {A : List Int} {p : Nat} {n T : Nat} {g : Nat → Int} {H : Heap} {K : PV → Heap → Prop} (hs : getH H s = strmC nl A p) (hid : getH H id = some (.arr T n [.i .i64 g])) (hne : (s == id) = false) (h : s < nid) (hp : p ≤ 1099511627775) (hA : A.length ≤ 17592186044416) (h1 : 0 < n) (hn : n ≤ 1099511627776)
    (hK : K (.int .i64 (g (pickI A p n))) [(s, strmC nl A (p + 1)), (id, none)]) : CallOK Try.prog 20 [.ptr s 0, .sl id 0 n] H nid K :=
  CallO.x (CallX.pick_go hs hid hne h hp hA h1 hn hK)
end Go.Proofs.Ytmgfcjblclanmaa
/-
  Contracts that every chapter's functions use: lists of numbers, compared and copied; numbers out of their range.
-/
namespace Go.Proofs.Ytmgfcjblclanmaa
open Go.RowKit
set_option linter.unusedVariables false
set_option linter.unusedSimpArgs false
set_option maxRecDepth 100000
def arrI (l : List Int) : Option ABlk := some (.arr 3 l.length [.i .i64 fun i => l.getD i 0])
def litI (nl : Bool) (l : List Int) : PV := .lit nl l.length [.i .i64 fun i => l.getD i 0]
theorem out_c (x lo hi : Int) (nid : Nat) : ACall Try.prog 57 [.int .i64 x, .int .i64 lo, .int .i64 hi] [] nid (.bool (outB x lo hi)) [] := by
  refine acall_run c57 (by simp [a57]) ?_
  simp -dsimp only [a57, aqT, ROp, OX, ↓seqK, ↓blkK, ↓loopK, step, stepBin, res, stepIdx, mix, PV.cells, argSlots, Nat.reduceBEq, Nat.reduceBeqDiff, Nat.add_assoc nid, Nat.reduceAdd, reduceCtorEq, ↓reduceIte, Nat.reduceLeDiff, colPV, freeOf, indep, offO, neqO, disj, namesX, axSlot, opXs, rdXs, idsOf, idsOfs, lowH, lowAll, keys, Nat.reduceBneDiff, Option.toList, ← Int.ofNat_tmod, ← Int.ofNat_tdiv, optInt, fillP, repl, chunk, mkCols, mkCol, colInts, colBools, colStrs, colLits, colsApp, Col.app, tailOf, splice, colsPut, Col.put, mmFold, eqK, Nat.reduceLT, colsPaste, Col.paste, mNew, mkKey, keyIn, mGet, mPut]
  refine S2.dec (fun h => ?_) (fun h => ?_) <;> simp -dsimp only [aqT, ROp, OX, ↓seqK, ↓blkK, ↓loopK, step, stepBin, res, stepIdx, mix, PV.cells, argSlots, Nat.reduceBEq, Nat.reduceBeqDiff, Nat.add_assoc nid, Nat.reduceAdd, reduceCtorEq, ↓reduceIte, Nat.reduceLeDiff, colPV, freeOf, indep, offO, neqO, disj, namesX, axSlot, opXs, rdXs, idsOf, idsOfs, lowH, lowAll, keys, Nat.reduceBneDiff, Option.toList, ← Int.ofNat_tmod, ← Int.ofNat_tdiv, optInt, fillP, repl, chunk, mkCols, mkCol, colInts, colBools, colStrs, colLits, colsApp, Col.app, tailOf, splice, colsPut, Col.put, mmFold, eqK, Nat.reduceLT, colsPaste, Col.paste, mNew, mkKey, keyIn, mGet, mPut] <;> refine RetOK.pure (.inl rfl) rfl ?_ <;> simp [retPV, over, keys, List.map_nil, List.map_cons, List.contains_cons, List.contains_nil, Bool.or_false, Bool.or_true, Bool.true_or, Bool.false_or, beq_self_eq_true, cond_true, cond_false, HeapCov, orNil, nilSz, onBlk, srcOf, getH_hit, getH_miss, getH.eq_1, getS_hit, getS_miss, getS.eq_1, BlkCov, PVCovs, PVCov, ColsEq, ColEq.refl, liveIds, SlotsCov, List.all_nil, List.all_cons, List.any_nil, List.any_cons, List.nil_append, List.cons_append, inRange, apart, nilBlk, idS1, idS2, readAll, readRes, onAll, step, res, AX.val, List.drop_zero, List.drop_succ_cons, List.take_succ_cons, List.take_zero, outB] <;> omega
theorem in_c (x lo hi : Int) (nid : Nat) : ACall Try.prog 59 [.int .i64 x, .int .i64 lo, .int .i64 hi] [] nid (.bool (!outB x lo hi)) [] := by
  refine acall_run c59 (by simp [a59]) ?_
  simp -dsimp only [a59, aqT, ROp, OX, ↓seqK, ↓blkK, ↓loopK, step, stepBin, res, stepIdx, mix, PV.cells, argSlots, Nat.reduceBEq, Nat.reduceBeqDiff, Nat.add_assoc nid, Nat.reduceAdd, reduceCtorEq, ↓reduceIte, Nat.reduceLeDiff, colPV, freeOf, indep, offO, neqO, disj, namesX, axSlot, opXs, rdXs, idsOf, idsOfs, lowH, lowAll, keys, Nat.reduceBneDiff, Option.toList, ← Int.ofNat_tmod, ← Int.ofNat_tdiv, optInt, fillP, repl, chunk, mkCols, mkCol, colInts, colBools, colStrs, colLits, colsApp, Col.app, tailOf, splice, colsPut, Col.put, mmFold, eqK, Nat.reduceLT, colsPaste, Col.paste, mNew, mkKey, keyIn, mGet, mPut]
  refine S2.dec (fun h => ?_) (fun h => ?_) <;> simp -dsimp only [aqT, ROp, OX, ↓seqK, ↓blkK, ↓loopK, step, stepBin, res, stepIdx, mix, PV.cells, argSlots, Nat.reduceBEq, Nat.reduceBeqDiff, Nat.add_assoc nid, Nat.reduceAdd, reduceCtorEq, ↓reduceIte, Nat.reduceLeDiff, colPV, freeOf, indep, offO, neqO, disj, namesX, axSlot, opXs, rdXs, idsOf, idsOfs, lowH, lowAll, keys, Nat.reduceBneDiff, Option.toList, ← Int.ofNat_tmod, ← Int.ofNat_tdiv, optInt, fillP, repl, chunk, mkCols, mkCol, colInts, colBools, colStrs, colLits, colsApp, Col.app, tailOf, splice, colsPut, Col.put, mmFold, eqK, Nat.reduceLT, colsPaste, Col.paste, mNew, mkKey, keyIn, mGet, mPut] <;> refine RetOK.pure (.inl rfl) rfl ?_ <;> simp [retPV, over, keys, List.map_nil, List.map_cons, List.contains_cons, List.contains_nil, Bool.or_false, Bool.or_true, Bool.true_or, Bool.false_or, beq_self_eq_true, cond_true, cond_false, HeapCov, orNil, nilSz, onBlk, srcOf, getH_hit, getH_miss, getH.eq_1, getS_hit, getS_miss, getS.eq_1, BlkCov, PVCovs, PVCov, ColsEq, ColEq.refl, liveIds, SlotsCov, List.all_nil, List.all_cons, List.any_nil, List.any_cons, List.nil_append, List.cons_append, inRange, apart, nilBlk, idS1, idS2, readAll, readRes, onAll, step, res, AX.val, List.drop_zero, List.drop_succ_cons, List.take_succ_cons, List.take_zero, outB] <;> first | omega | (rw [Bool.eq_iff_iff]; simp; omega)
theorem take_eqS {l m : List Int} {k : Nat} (hl : k < l.length) (hm : k < m.length) (h : l.take k = m.take k) (hx : l.getD k 0 = m.getD k 0) : l.take (k + 1) = m.take (k + 1) := by
  rw [take_snoc (x := l.getD k 0) (by rw [List.getD_eq_getElem?_getD, List.getElem?_eq_getElem hl]; rfl), take_snoc (x := m.getD k 0) (by rw [List.getD_eq_getElem?_getD, List.getElem?_eq_getElem hm]; rfl), h, hx]
theorem equalI_c (nl nl' : Bool) (l m : List Int) (nid : Nat) (hl : l.length ≤ 1000000000000) (hm : m.length ≤ 1000000000000) : ACall Try.prog 16 [litI nl l, litI nl' m] [] nid (.bool (l == m)) [] := by
  refine acall_run c16 (by simp [a16]) ?_
  unfold litI
  simp -dsimp only [a16, aqT, ROp, OX, ↓seqK, ↓blkK, ↓loopK, step, stepBin, res, stepIdx, mix, PV.cells, argSlots, Nat.reduceBEq, Nat.reduceBeqDiff, Nat.add_assoc nid, Nat.reduceAdd, reduceCtorEq, ↓reduceIte, Nat.reduceLeDiff, colPV, freeOf, indep, offO, neqO, disj, namesX, axSlot, opXs, rdXs, idsOf, idsOfs, lowH, lowAll, keys, Nat.reduceBneDiff, Option.toList, ← Int.ofNat_tmod, ← Int.ofNat_tdiv, optInt, fillP, repl, chunk, mkCols, mkCol, colInts, colBools, colStrs, colLits, colsApp, Col.app, tailOf, splice, colsPut, Col.put, mmFold, eqK, Nat.reduceLT, colsPaste, Col.paste, mNew, mkKey, keyIn, mGet, mPut]
  refine S2.intro (fun h => ?_) (fun h => ?_) <;> simp -dsimp only [aqT, ROp, OX, ↓seqK, ↓blkK, ↓loopK, step, stepBin, res, stepIdx, mix, PV.cells, argSlots, Nat.reduceBEq, Nat.reduceBeqDiff, Nat.add_assoc nid, Nat.reduceAdd, reduceCtorEq, ↓reduceIte, Nat.reduceLeDiff, colPV, freeOf, indep, offO, neqO, disj, namesX, axSlot, opXs, rdXs, idsOf, idsOfs, lowH, lowAll, keys, Nat.reduceBneDiff, Option.toList, ← Int.ofNat_tmod, ← Int.ofNat_tdiv, optInt, fillP, repl, chunk, mkCols, mkCol, colInts, colBools, colStrs, colLits, colsApp, Col.app, tailOf, splice, colsPut, Col.put, mmFold, eqK, Nat.reduceLT, colsPaste, Col.paste, mNew, mkKey, keyIn, mGet, mPut]
  · refine RetOK.pure (.inl rfl) rfl ?_
    have h1 : l ≠ m := fun e => by subst e; simp at h
    have h2 : (l == m) = false := by simpa using h1
    simp [retPV, over, keys, List.map_nil, List.map_cons, List.contains_cons, List.contains_nil, Bool.or_false, Bool.or_true, Bool.true_or, Bool.false_or, beq_self_eq_true, cond_true, cond_false, HeapCov, orNil, nilSz, onBlk, srcOf, getH_hit, getH_miss, getH.eq_1, getS_hit, getS_miss, getS.eq_1, BlkCov, PVCovs, PVCov, ColsEq, ColEq.refl, liveIds, SlotsCov, List.all_nil, List.all_cons, List.any_nil, List.any_cons, List.nil_append, List.cons_append, inRange, apart, nilBlk, idS1, idS2, readAll, readRes, onAll, step, res, AX.val, List.drop_zero, List.drop_succ_cons, List.take_succ_cons, List.take_zero, h1]
  have hlm : l.length = m.length := by have : (l.length : Int) = m.length := by simpa using h
                                       omega
  refine LP.mkP (fun k : Nat => k ≤ l.length ∧ l.take k = m.take k) (fun k : Nat => ⟨[(13, .int .i64 k), (12, .int .i64 l.length), (0, litI nl l), (1, litI nl' m)], [], nid + 36, nid⟩) (fun k => l.length + 1 - k) 0 ⟨by omega, rfl⟩ (Cov.go [] [] ?_) (fun k hk => ?_)
  · simp [retPV, over, keys, List.map_nil, List.map_cons, List.contains_cons, List.contains_nil, Bool.or_false, Bool.or_true, Bool.true_or, Bool.false_or, beq_self_eq_true, cond_true, cond_false, HeapCov, orNil, nilSz, onBlk, srcOf, getH_hit, getH_miss, getH.eq_1, getS_hit, getS_miss, getS.eq_1, BlkCov, PVCovs, PVCov, ColsEq, ColEq.refl, liveIds, SlotsCov, List.all_nil, List.all_cons, List.any_nil, List.any_cons, List.nil_append, List.cons_append, inRange, apart, nilBlk, idS1, idS2, readAll, readRes, onAll, step, res, AX.val, List.drop_zero, List.drop_succ_cons, List.take_succ_cons, List.take_zero, litI]
  unfold litI
  obtain ⟨hk, ht⟩ := hk
  simp -dsimp only [aqT, ROp, OX, ↓seqK, ↓blkK, ↓loopK, step, stepBin, res, stepIdx, mix, PV.cells, argSlots, Nat.reduceBEq, Nat.reduceBeqDiff, Nat.add_assoc nid, Nat.reduceAdd, reduceCtorEq, ↓reduceIte, Nat.reduceLeDiff, colPV, freeOf, indep, offO, neqO, disj, namesX, axSlot, opXs, rdXs, idsOf, idsOfs, lowH, lowAll, keys, Nat.reduceBneDiff, Option.toList, ← Int.ofNat_tmod, ← Int.ofNat_tdiv, optInt, fillP, repl, chunk, mkCols, mkCol, colInts, colBools, colStrs, colLits, colsApp, Col.app, tailOf, splice, colsPut, Col.put, mmFold, eqK, Nat.reduceLT, colsPaste, Col.paste, mNew, mkKey, keyIn, mGet, mPut]
  refine S2.dec (fun h3 => ?_) (fun h3 => ?_) <;> simp -dsimp only [aqT, ROp, OX, ↓seqK, ↓blkK, ↓loopK, step, stepBin, res, stepIdx, mix, PV.cells, argSlots, Nat.reduceBEq, Nat.reduceBeqDiff, Nat.add_assoc nid, Nat.reduceAdd, reduceCtorEq, ↓reduceIte, Nat.reduceLeDiff, colPV, freeOf, indep, offO, neqO, disj, namesX, axSlot, opXs, rdXs, idsOf, idsOfs, lowH, lowAll, keys, Nat.reduceBneDiff, Option.toList, ← Int.ofNat_tmod, ← Int.ofNat_tdiv, optInt, fillP, repl, chunk, mkCols, mkCol, colInts, colBools, colStrs, colLits, colsApp, Col.app, tailOf, splice, colsPut, Col.put, mmFold, eqK, Nat.reduceLT, colsPaste, Col.paste, mNew, mkKey, keyIn, mGet, mPut]
  · refine ⟨by omega, by omega, S2.intro (fun h4 => ?_) (fun h4 => ?_)⟩ <;> simp -dsimp only [aqT, ROp, OX, ↓seqK, ↓blkK, ↓loopK, step, stepBin, res, stepIdx, mix, PV.cells, argSlots, Nat.reduceBEq, Nat.reduceBeqDiff, Nat.add_assoc nid, Nat.reduceAdd, reduceCtorEq, ↓reduceIte, Nat.reduceLeDiff, colPV, freeOf, indep, offO, neqO, disj, namesX, axSlot, opXs, rdXs, idsOf, idsOfs, lowH, lowAll, keys, Nat.reduceBneDiff, Option.toList, ← Int.ofNat_tmod, ← Int.ofNat_tdiv, optInt, fillP, repl, chunk, mkCols, mkCol, colInts, colBools, colStrs, colLits, colsApp, Col.app, tailOf, splice, colsPut, Col.put, mmFold, eqK, Nat.reduceLT, colsPaste, Col.paste, mNew, mkKey, keyIn, mGet, mPut]
    · refine RetOK.pure (.inl rfl) rfl ?_
      have h1 : l ≠ m := fun e => by subst e; simp at h4
      simp [retPV, over, keys, List.map_nil, List.map_cons, List.contains_cons, List.contains_nil, Bool.or_false, Bool.or_true, Bool.true_or, Bool.false_or, beq_self_eq_true, cond_true, cond_false, HeapCov, orNil, nilSz, onBlk, srcOf, getH_hit, getH_miss, getH.eq_1, getS_hit, getS_miss, getS.eq_1, BlkCov, PVCovs, PVCov, ColsEq, ColEq.refl, liveIds, SlotsCov, List.all_nil, List.all_cons, List.any_nil, List.any_cons, List.nil_append, List.cons_append, inRange, apart, nilBlk, idS1, idS2, readAll, readRes, onAll, step, res, AX.val, List.drop_zero, List.drop_succ_cons, List.take_succ_cons, List.take_zero, h1]
    · have h5 : l.getD k 0 = m.getD k 0 := by simpa using h4
      refine ⟨by unfold inI64; omega, k + 1, ⟨⟨by omega, take_eqS (by omega) (by omega) ht h5⟩, by omega⟩, Cov.go [] [] ?_⟩
      simp [retPV, over, keys, List.map_nil, List.map_cons, List.contains_cons, List.contains_nil, Bool.or_false, Bool.or_true, Bool.true_or, Bool.false_or, beq_self_eq_true, cond_true, cond_false, HeapCov, orNil, nilSz, onBlk, srcOf, getH_hit, getH_miss, getH.eq_1, getS_hit, getS_miss, getS.eq_1, BlkCov, PVCovs, PVCov, ColsEq, ColEq.refl, liveIds, SlotsCov, List.all_nil, List.all_cons, List.any_nil, List.any_cons, List.nil_append, List.cons_append, inRange, apart, nilBlk, idS1, idS2, readAll, readRes, onAll, step, res, AX.val, List.drop_zero, List.drop_succ_cons, List.take_succ_cons, List.take_zero, litI]
  · have hkl : k = l.length := by omega
    have h1 : l = m := by rw [hkl] at ht; rw [List.take_length, hlm, List.take_length] at ht; exact ht
    refine RetOK.pure (.inl rfl) rfl ?_
    simp [retPV, over, keys, List.map_nil, List.map_cons, List.contains_cons, List.contains_nil, Bool.or_false, Bool.or_true, Bool.true_or, Bool.false_or, beq_self_eq_true, cond_true, cond_false, HeapCov, orNil, nilSz, onBlk, srcOf, getH_hit, getH_miss, getH.eq_1, getS_hit, getS_miss, getS.eq_1, BlkCov, PVCovs, PVCov, ColsEq, ColEq.refl, liveIds, SlotsCov, List.all_nil, List.all_cons, List.any_nil, List.any_cons, List.nil_append, List.cons_append, inRange, apart, nilBlk, idS1, idS2, readAll, readRes, onAll, step, res, AX.val, List.drop_zero, List.drop_succ_cons, List.take_succ_cons, List.take_zero, h1]
theorem cloneI_c (nl : Bool) (l : List Int) (nid : Nat) (hl : l.length ≤ 1000000000) (hnl : nl = true → l = []) : ACall Try.prog 62 [litI nl l] [] nid (.sl nid 0 l.length) [(nid, arrI l)] := by
  refine acall_run c62 (by simp [a62]) ?_
  unfold litI
  simp -dsimp only [a62, aqT, ROp, OX, ↓seqK, ↓blkK, ↓loopK, step, stepBin, res, stepIdx, mix, PV.cells, argSlots, Nat.reduceBEq, Nat.reduceBeqDiff, Nat.add_assoc nid, Nat.reduceAdd, reduceCtorEq, ↓reduceIte, Nat.reduceLeDiff, colPV, freeOf, indep, offO, neqO, disj, namesX, axSlot, opXs, rdXs, idsOf, idsOfs, lowH, lowAll, keys, Nat.reduceBneDiff, Option.toList, ← Int.ofNat_tmod, ← Int.ofNat_tdiv, optInt, fillP, repl, chunk, mkCols, mkCol, colInts, colBools, colStrs, colLits, colsApp, Col.app, tailOf, splice, colsPut, Col.put, mmFold, eqK, Nat.reduceLT, colsPaste, Col.paste, mNew, mkKey, keyIn, mGet, mPut]
  refine S2.intro (fun h => ?_) (fun h => ?_) <;> simp -dsimp only [aqT, ROp, OX, ↓seqK, ↓blkK, ↓loopK, step, stepBin, res, stepIdx, mix, PV.cells, argSlots, Nat.reduceBEq, Nat.reduceBeqDiff, Nat.add_assoc nid, Nat.reduceAdd, reduceCtorEq, ↓reduceIte, Nat.reduceLeDiff, colPV, freeOf, indep, offO, neqO, disj, namesX, axSlot, opXs, rdXs, idsOf, idsOfs, lowH, lowAll, keys, Nat.reduceBneDiff, Option.toList, ← Int.ofNat_tmod, ← Int.ofNat_tdiv, optInt, fillP, repl, chunk, mkCols, mkCol, colInts, colBools, colStrs, colLits, colsApp, Col.app, tailOf, splice, colsPut, Col.put, mmFold, eqK, Nat.reduceLT, colsPaste, Col.paste, mNew, mkKey, keyIn, mGet, mPut]
  · refine RetOK.go [] [(nid, 1)] (.inl rfl) ?_
    have := hnl h
    subst this
    simp [a62, retPV, over, keys, List.map_nil, List.map_cons, List.contains_cons, List.contains_nil, Bool.or_false, Bool.or_true, Bool.true_or, Bool.false_or, beq_self_eq_true, cond_true, cond_false, HeapCov, orNil, nilSz, onBlk, srcOf, getH_hit, getH_miss, getH.eq_1, getS_hit, getS_miss, getS.eq_1, BlkCov, PVCovs, PVCov, ColsEq, ColEq.refl, liveIds, SlotsCov, List.all_nil, List.all_cons, List.any_nil, List.any_cons, List.nil_append, List.cons_append, inRange, apart, nilBlk, idS1, idS2, readAll, readRes, onAll, step, res, AX.val, List.drop_zero, List.drop_succ_cons, List.take_succ_cons, List.take_zero, arrI]
  · refine ⟨⟨by omega, by omega⟩, RetOK.go [(nid, nid + 20)] [] (.inl rfl) ?_⟩
    simp [a62, retPV, over, keys, List.map_nil, List.map_cons, List.contains_cons, List.contains_nil, Bool.or_false, Bool.or_true, Bool.true_or, Bool.false_or, beq_self_eq_true, cond_true, cond_false, HeapCov, orNil, nilSz, onBlk, srcOf, getH_hit, getH_miss, getH.eq_1, getS_hit, getS_miss, getS.eq_1, BlkCov, PVCovs, PVCov, ColsEq, ColEq.refl, liveIds, SlotsCov, List.all_nil, List.all_cons, List.any_nil, List.any_cons, List.nil_append, List.cons_append, inRange, apart, nilBlk, idS1, idS2, readAll, readRes, onAll, step, res, AX.val, List.drop_zero, List.drop_succ_cons, List.take_succ_cons, List.take_zero, arrI]
theorem index_c (nl : Bool) (l : List Int) (x : Int) (nid : Nat) (hl : l.length ≤ 1000000000) : ∃ r : Int, (0 ≤ r ↔ x ∈ l) ∧ ACall Try.prog 110 [litI nl l, .int .i64 x] [] nid (.int .i64 r) [] := by
  refine ⟨match l.findIdx? (· == x) with | some k => (k : Int) | none => -1, ?_, ?_⟩
  · cases h : l.findIdx? (· == x) with
    | none =>
      rw [List.findIdx?_eq_none_iff] at h
      simp only [Int.reduceNeg, Int.reduceLE, false_iff]
      exact fun hx => by simpa using h x hx
    | some k =>
      simp only [Int.natCast_nonneg, true_iff]
      obtain ⟨hk, h1, _⟩ := List.findIdx?_eq_some_iff_getElem.1 h
      have : l[k] = x := by simpa using h1
      rw [← this]; exact List.getElem_mem hk
  refine acall_run c110 (by simp [a110]) ?_
  unfold litI
  simp -dsimp only [aqT, ROp, OX, ↓seqK, ↓blkK, ↓loopK, step, stepBin, res, stepIdx, mix, PV.cells, argSlots, Nat.reduceBEq, Nat.reduceBeqDiff, Nat.add_assoc nid, Nat.reduceAdd, reduceCtorEq, ↓reduceIte, Nat.reduceLeDiff, colPV, freeOf, indep, offO, neqO, disj, namesX, axSlot, opXs, rdXs, idsOf, idsOfs, lowH, lowAll, keys, Nat.reduceBneDiff, Option.toList, ← Int.ofNat_tmod, ← Int.ofNat_tdiv, optInt, fillP, repl, chunk, mkCols, mkCol, colInts, colBools, colStrs, colLits, colsApp, Col.app, tailOf, splice, colsPut, Col.put, mmFold, eqK, Nat.reduceLT, colsPaste, Col.paste, mNew, mkKey, keyIn, mGet, mPut, a110]
  refine LP.mkP (fun k : Nat => k ≤ l.length ∧ ∀ i, i < k → l.getD i 0 ≠ x) (fun k : Nat => ⟨[(8, .int .i64 k), (7, .int .i64 l.length), (0, litI nl l), (1, .int .i64 x)], [], nid + 1000, nid⟩) (fun k => l.length + 1 - k) 0 ?_ (Cov.go [] [] ?_) (fun k hk => ?_)
  · exact ⟨by omega, fun i hi => by omega⟩
  · simp [retPV, over, keys, List.map_nil, List.map_cons, List.contains_cons, List.contains_nil, Bool.or_false, Bool.or_true, Bool.true_or, Bool.false_or, beq_self_eq_true, cond_true, cond_false, HeapCov, orNil, nilSz, onBlk, srcOf, getH_hit, getH_miss, getH.eq_1, getS_hit, getS_miss, getS.eq_1, BlkCov, PVCovs, PVCov, ColsEq, ColEq.refl, liveIds, SlotsCov, List.all_nil, List.all_cons, List.any_nil, List.any_cons, List.nil_append, List.cons_append, inRange, apart, nilBlk, idS1, idS2, readAll, readRes, onAll, step, res, AX.val, List.drop_zero, List.drop_succ_cons, List.take_succ_cons, List.take_zero, litI]
  unfold litI
  obtain ⟨hk, hno⟩ := hk
  have get : ∀ i (hi : i < l.length), l.getD i 0 = l[i] := fun i hi => by rw [List.getD_eq_getElem?_getD, List.getElem?_eq_getElem hi]; rfl
  simp -dsimp only [aqT, ROp, OX, ↓seqK, ↓blkK, ↓loopK, step, stepBin, res, stepIdx, mix, PV.cells, argSlots, Nat.reduceBEq, Nat.reduceBeqDiff, Nat.add_assoc nid, Nat.reduceAdd, reduceCtorEq, ↓reduceIte, Nat.reduceLeDiff, colPV, freeOf, indep, offO, neqO, disj, namesX, axSlot, opXs, rdXs, idsOf, idsOfs, lowH, lowAll, keys, Nat.reduceBneDiff, Option.toList, ← Int.ofNat_tmod, ← Int.ofNat_tdiv, optInt, fillP, repl, chunk, mkCols, mkCol, colInts, colBools, colStrs, colLits, colsApp, Col.app, tailOf, splice, colsPut, Col.put, mmFold, eqK, Nat.reduceLT, colsPaste, Col.paste, mNew, mkKey, keyIn, mGet, mPut]
  refine S2.dec (fun h3 => ?_) (fun h3 => ?_) <;> simp -dsimp only [aqT, ROp, OX, ↓seqK, ↓blkK, ↓loopK, step, stepBin, res, stepIdx, mix, PV.cells, argSlots, Nat.reduceBEq, Nat.reduceBeqDiff, Nat.add_assoc nid, Nat.reduceAdd, reduceCtorEq, ↓reduceIte, Nat.reduceLeDiff, colPV, freeOf, indep, offO, neqO, disj, namesX, axSlot, opXs, rdXs, idsOf, idsOfs, lowH, lowAll, keys, Nat.reduceBneDiff, Option.toList, ← Int.ofNat_tmod, ← Int.ofNat_tdiv, optInt, fillP, repl, chunk, mkCols, mkCol, colInts, colBools, colStrs, colLits, colsApp, Col.app, tailOf, splice, colsPut, Col.put, mmFold, eqK, Nat.reduceLT, colsPaste, Col.paste, mNew, mkKey, keyIn, mGet, mPut]
  · have hkl : k < l.length := by omega
    refine ⟨by omega, S2.intro (fun h4 => ?_) (fun h4 => ?_)⟩ <;> simp -dsimp only [aqT, ROp, OX, ↓seqK, ↓blkK, ↓loopK, step, stepBin, res, stepIdx, mix, PV.cells, argSlots, Nat.reduceBEq, Nat.reduceBeqDiff, Nat.add_assoc nid, Nat.reduceAdd, reduceCtorEq, ↓reduceIte, Nat.reduceLeDiff, colPV, freeOf, indep, offO, neqO, disj, namesX, axSlot, opXs, rdXs, idsOf, idsOfs, lowH, lowAll, keys, Nat.reduceBneDiff, Option.toList, ← Int.ofNat_tmod, ← Int.ofNat_tdiv, optInt, fillP, repl, chunk, mkCols, mkCol, colInts, colBools, colStrs, colLits, colsApp, Col.app, tailOf, splice, colsPut, Col.put, mmFold, eqK, Nat.reduceLT, colsPaste, Col.paste, mNew, mkKey, keyIn, mGet, mPut]
    · have h5 : x = l.getD k 0 := by simpa using h4
      have : l.findIdx? (· == x) = some k := by
        rw [List.findIdx?_eq_some_iff_getElem]
        refine ⟨hkl, by rw [← get k hkl, ← h5]; simp, fun i hi => ?_⟩
        have := hno i hi
        rw [get i (by omega)] at this
        simpa using this
      rw [this]
      refine RetOK.pure (.inl rfl) rfl ?_
      simp [retPV, over, keys, List.map_nil, List.map_cons, List.contains_cons, List.contains_nil, Bool.or_false, Bool.or_true, Bool.true_or, Bool.false_or, beq_self_eq_true, cond_true, cond_false, HeapCov, orNil, nilSz, onBlk, srcOf, getH_hit, getH_miss, getH.eq_1, getS_hit, getS_miss, getS.eq_1, BlkCov, PVCovs, PVCov, ColsEq, ColEq.refl, liveIds, SlotsCov, List.all_nil, List.all_cons, List.any_nil, List.any_cons, List.nil_append, List.cons_append, inRange, apart, nilBlk, idS1, idS2, readAll, readRes, onAll, step, res, AX.val, List.drop_zero, List.drop_succ_cons, List.take_succ_cons, List.take_zero]
    · have h5 : x ≠ l.getD k 0 := by simpa using h4
      refine ⟨by unfold inI64; omega, k + 1, ⟨⟨by omega, fun i hi => ?_⟩, by omega⟩, Cov.go [] [] ?_⟩
      · by_cases e : i = k
        · subst e; exact fun h => h5 h.symm
        · exact hno i (by omega)
      · simp [retPV, over, keys, List.map_nil, List.map_cons, List.contains_cons, List.contains_nil, Bool.or_false, Bool.or_true, Bool.true_or, Bool.false_or, beq_self_eq_true, cond_true, cond_false, HeapCov, orNil, nilSz, onBlk, srcOf, getH_hit, getH_miss, getH.eq_1, getS_hit, getS_miss, getS.eq_1, BlkCov, PVCovs, PVCov, ColsEq, ColEq.refl, liveIds, SlotsCov, List.all_nil, List.all_cons, List.any_nil, List.any_cons, List.nil_append, List.cons_append, inRange, apart, nilBlk, idS1, idS2, readAll, readRes, onAll, step, res, AX.val, List.drop_zero, List.drop_succ_cons, List.take_succ_cons, List.take_zero, litI]
  · have : l.findIdx? (· == x) = none := by
      rw [List.findIdx?_eq_none_iff]
      intro y hy
      obtain ⟨i, hi, rfl⟩ := List.mem_iff_getElem.1 hy
      have := hno i (by omega)
      rw [get i hi] at this
      simpa using this
    rw [this]
    refine RetOK.pure (.inl rfl) rfl ?_
    simp [retPV, over, keys, List.map_nil, List.map_cons, List.contains_cons, List.contains_nil, Bool.or_false, Bool.or_true, Bool.true_or, Bool.false_or, beq_self_eq_true, cond_true, cond_false, HeapCov, orNil, nilSz, onBlk, srcOf, getH_hit, getH_miss, getH.eq_1, getS_hit, getS_miss, getS.eq_1, BlkCov, PVCovs, PVCov, ColsEq, ColEq.refl, liveIds, SlotsCov, List.all_nil, List.all_cons, List.any_nil, List.any_cons, List.nil_append, List.cons_append, inRange, apart, nilBlk, idS1, idS2, readAll, readRes, onAll, step, res, AX.val, List.drop_zero, List.drop_succ_cons, List.take_succ_cons, List.take_zero]
theorem contains_c (nl : Bool) (l : List Int) (x : Int) (nid : Nat) (hl : l.length ≤ 1000000000) : ACall Try.prog 61 [litI nl l, .int .i64 x] [] nid (.bool (l.contains x)) [] := by
  refine acall_run c61 (by simp [a61]) ?_
  simp -dsimp only [a61, aqT, ROp, OX, ↓seqK, ↓blkK, ↓loopK, step, stepBin, res, stepIdx, mix, PV.cells, argSlots, Nat.reduceBEq, Nat.reduceBeqDiff, Nat.add_assoc nid, Nat.reduceAdd, reduceCtorEq, ↓reduceIte, Nat.reduceLeDiff, colPV, freeOf, indep, offO, neqO, disj, namesX, axSlot, opXs, rdXs, idsOf, idsOfs, lowH, lowAll, keys, Nat.reduceBneDiff, Option.toList, ← Int.ofNat_tmod, ← Int.ofNat_tdiv, optInt, fillP, repl, chunk, mkCols, mkCol, colInts, colBools, colStrs, colLits, colsApp, Col.app, tailOf, splice, colsPut, Col.put, mmFold, eqK, Nat.reduceLT, colsPaste, Col.paste, mNew, mkKey, keyIn, mGet, mPut]
  obtain ⟨r, h1, h2⟩ := index_c nl l x (nid + 12) hl
  refine CallO.pure (h2) ?_
  simp -dsimp only [aqT, ROp, OX, ↓seqK, ↓blkK, ↓loopK, step, stepBin, res, stepIdx, mix, PV.cells, argSlots, Nat.reduceBEq, Nat.reduceBeqDiff, Nat.add_assoc nid, Nat.reduceAdd, reduceCtorEq, ↓reduceIte, Nat.reduceLeDiff, colPV, freeOf, indep, offO, neqO, disj, namesX, axSlot, opXs, rdXs, idsOf, idsOfs, lowH, lowAll, keys, Nat.reduceBneDiff, Option.toList, ← Int.ofNat_tmod, ← Int.ofNat_tdiv, optInt, fillP, repl, chunk, mkCols, mkCol, colInts, colBools, colStrs, colLits, colsApp, Col.app, tailOf, splice, colsPut, Col.put, mmFold, eqK, Nat.reduceLT, colsPaste, Col.paste, mNew, mkKey, keyIn, mGet, mPut]
  have : decide (0 ≤ r) = l.contains x := by
    rw [Bool.eq_iff_iff]
    simp [h1]
  rw [this]
  refine RetOK.pure (.inl rfl) rfl ?_
  simp [retPV, over, keys, List.map_nil, List.map_cons, List.contains_cons, List.contains_nil, Bool.or_false, Bool.or_true, Bool.true_or, Bool.false_or, beq_self_eq_true, cond_true, cond_false, HeapCov, orNil, nilSz, onBlk, srcOf, getH_hit, getH_miss, getH.eq_1, getS_hit, getS_miss, getS.eq_1, BlkCov, PVCovs, PVCov, ColsEq, ColEq.refl, liveIds, SlotsCov, List.all_nil, List.all_cons, List.any_nil, List.any_cons, List.nil_append, List.cons_append, inRange, apart, nilBlk, idS1, idS2, readAll, readRes, onAll, step, res, AX.val, List.drop_zero, List.drop_succ_cons, List.take_succ_cons, List.take_zero]
end Go.Proofs.Ytmgfcjblclanmaa
/-
  The search for the shortest way, of the program, by the abstract machine.
-/
namespace Go.Proofs.Ytmgfcjblclanmaa
open Go.RowKit
set_option linter.unusedVariables false
set_option linter.unusedSimpArgs false
set_option maxRecDepth 100000
def litP (nl : Bool) (l : List Pt) : PV := .lit nl l.length [.i .i64 fun i => (l.getD i p0).1, .i .i64 fun i => (l.getD i p0).2]
theorem apart_c (a b : Pt) (nid : Nat) (ha : (-1000 ≤ a.1 ∧ a.1 ≤ 1000) ∧ -1000 ≤ a.2 ∧ a.2 ≤ 1000) (hb : (-1000 ≤ b.1 ∧ b.1 ≤ 1000) ∧ -1000 ≤ b.2 ∧ b.2 ≤ 1000) :
    ACall Try.prog 109 [.agg [.int .i64 a.1, .int .i64 a.2], .agg [.int .i64 b.1, .int .i64 b.2]] [] nid (.int .i64 (apartI a b)) [] := by
  refine acall_run c109 (by simp [a109]) ?_
  simp -dsimp only [a109, aqT, ROp, OX, ↓seqK, ↓blkK, ↓loopK, step, stepBin, res, stepIdx, mix, PV.cells, argSlots, Nat.reduceBEq, Nat.reduceBeqDiff, Nat.add_assoc nid, Nat.reduceAdd, reduceCtorEq, ↓reduceIte, Nat.reduceLeDiff, colPV, freeOf, indep, offO, neqO, disj, namesX, axSlot, opXs, rdXs, idsOf, idsOfs, lowH, lowAll, keys, Nat.reduceBneDiff, Option.toList, ← Int.ofNat_tmod, ← Int.ofNat_tdiv, optInt, fillP, repl, chunk, mkCols, mkCol, colInts, colBools, colStrs, colLits, colsApp, Col.app, tailOf, splice, colsPut, Col.put, mmFold, eqK, Nat.reduceLT, colsPaste, Col.paste, mNew, mkKey, keyIn, mGet, mPut]
  refine ⟨by unfold inI64; omega, by unfold inI64; omega, by unfold inI64; omega, by unfold inI64; omega, ?_⟩
  refine RetOK.go [] [] (.inl rfl) ?_
  simp [retPV, over, keys, List.map_nil, List.map_cons, List.contains_cons, List.contains_nil, Bool.or_false, Bool.or_true, Bool.true_or, Bool.false_or, beq_self_eq_true, cond_true, cond_false, HeapCov, orNil, nilSz, onBlk, srcOf, getH_hit, getH_miss, getH.eq_1, getS_hit, getS_miss, getS.eq_1, BlkCov, PVCovs, PVCov, ColsEq, ColEq.refl, liveIds, SlotsCov, List.all_nil, List.all_cons, List.any_nil, List.any_cons, List.nil_append, List.cons_append, inRange, apart, nilBlk, idS1, idS2, readAll, readRes, onAll, step, res, AX.val, List.drop_zero, List.drop_succ_cons, List.take_succ_cons, List.take_zero, apartI, a109]
def bPV (c : Nat) : Best → PV
  | none => .lit true 0 []
  | some (l, _) => .sl c 0 l.length
def bSum : Best → Int
  | none => 0
  | some (_, s) => s
def bH (c : Nat) : Best → Option ABlk
  | none => none
  | some (l, _) => arrI l
def rtBox (nl : Bool) (P : List Pt) (a c : Nat) (n : Nat) (sum : Int) (b : Best) : Option ABlk := some (.box 94 [litP nl P, .sl a 0 n, .int .i64 sum, bPV c b, .int .i64 (bSum b)])
set_option maxHeartbeats 4000000 in
theorem walk_c (nl : Bool) (P : List Pt) (hP : PtsOk P) : ∀ (f : Nat) (now : List Int) (sum : Int) (b : Best) (r a c nid : Nat), r < nid → a < nid → c < nid → r ≠ a → r ≠ c → a ≠ c → now.length + f = P.length + 1 → 0 < f → 0 < now.length →
    (∀ x ∈ now, 0 ≤ x ∧ x < (P.length : Int)) → 0 ≤ sum → sum ≤ 2000 * ((now.length : Int) - 1) → BestOk P b →
    ACall Try.prog 58 [.ptr r 0] [(r, rtBox nl P a c now.length sum b), (a, arrI now), (c, bH c b)] nid (.tup [])
      [(r, rtBox nl P nid (nid + 1) now.length sum (rtGo P f now sum b)), (a, none), (c, none), (nid, arrI now), (nid + 1, bH (nid + 1) (rtGo P f now sum b))]
  | 0, _, _, _, _, _, _, _, _, _, _, _, _, _, _, h, _, _, _, _, _ => absurd h (by omega)
  | f + 1, now, sum, b, r, a, c, nid, hr, ha, hc, hra, hrc, hac, hlen, _, hn0, hnow, h0, h1, hb => by
    obtain ⟨e1, e2, e3, e4, e5, e6, e7, e8, e9⟩ := id_all hr
    obtain ⟨a1, a2, a3, a4, a5, a6, a7, a8, a9⟩ := id_all ha
    obtain ⟨b1, b2, b3, b4, b5, b6, b7, b8, b9⟩ := id_all hc
    have d1 : (r == a) = false := by simpa using hra
    have d2 : (r == c) = false := by simpa using hrc
    have d3 : (a == c) = false := by simpa using hac
    have d4 : (a == r) = false := by simpa using fun e => hra e.symm
    have d5 : (c == r) = false := by simpa using fun e => hrc e.symm
    have d6 : (c == a) = false := by simpa using fun e => hac e.symm
    have g1 : ¬ a = r := fun e => hra e.symm
    have g2 : ¬ c = r := fun e => hrc e.symm
    have g3 : ¬ c = a := fun e => hac e.symm
    have hPl := hP.len
    refine acall_sr c58 (by simp [a58]) ?_
    unfold a58
    -- is there a better one already
    refine SR.seqEx (ι := PLift (cutB b sum = false)) (fun _ => ⟨[(0, .ptr r 0)], [(r, rtBox nl P a c now.length sum b), (a, arrI now), (c, bH c b)], nid + 100, nid⟩) ?_ (fun hcut => ?_)
    · cases b with
      | none =>
        unfold rtBox bPV bH bSum arrI litP
        simp -dsimp only [aqT, ROp, OX, ↓seqK, ↓blkK, ↓loopK, step, stepBin, res, stepIdx, mix, PV.cells, argSlots, Nat.reduceBEq, Nat.reduceBeqDiff, Nat.add_assoc nid, Nat.reduceAdd, reduceCtorEq, ↓reduceIte, Nat.reduceLeDiff, colPV, freeOf, indep, offO, neqO, disj, namesX, axSlot, opXs, rdXs, idsOf, idsOfs, lowH, lowAll, keys, Nat.reduceBneDiff, Option.toList, ← Int.ofNat_tmod, ← Int.ofNat_tdiv, optInt, fillP, repl, chunk, mkCols, mkCol, colInts, colBools, colStrs, colLits, colsApp, Col.app, tailOf, splice, colsPut, Col.put, mmFold, eqK, Nat.reduceLT, colsPaste, Col.paste, mNew, mkKey, keyIn, mGet, mPut, e1, e2, e3, e4, e5, e6, e7, e8, e9, a1, a2, a3, a4, a9, b1, b2, b3, b4, b9, d1, d2, d3, d4, d5, d6, g1, g2, g3, hra, hrc, hac, a5, a6, a7, a8, b5, b6, b7, b8]
        refine ⟨⟨rfl⟩, Cov.go [] [] ?_⟩
        simp [retPV, over, keys, List.map_nil, List.map_cons, List.contains_cons, List.contains_nil, Bool.or_false, Bool.or_true, Bool.true_or, Bool.false_or, beq_self_eq_true, cond_true, cond_false, HeapCov, orNil, nilSz, onBlk, srcOf, getH_hit, getH_miss, getH.eq_1, getS_hit, getS_miss, getS.eq_1, BlkCov, PVCovs, PVCov, ColsEq, ColEq.refl, liveIds, SlotsCov, List.all_nil, List.all_cons, List.any_nil, List.any_cons, List.nil_append, List.cons_append, inRange, apart, nilBlk, idS1, idS2, readAll, readRes, onAll, step, res, AX.val, List.drop_zero, List.drop_succ_cons, List.take_succ_cons, List.take_zero, e1, e2, e3, e4, e5, e6, e7, e8, e9, a1, a2, a3, a4, a9, b1, b2, b3, b4, b9, d1, d2, d3, d4, d5, d6, g1, g2, g3, hra, hrc, hac, a5, a6, a7, a8, b5, b6, b7, b8, litP, arrI, rtBox, bH, bPV, bSum]
      | some lb =>
        obtain ⟨bl, bs⟩ := lb
        obtain ⟨hbl, hb0, hb1⟩ := hb bl bs rfl
        unfold rtBox bPV bH bSum arrI litP
        simp -dsimp only [aqT, ROp, OX, ↓seqK, ↓blkK, ↓loopK, step, stepBin, res, stepIdx, mix, PV.cells, argSlots, Nat.reduceBEq, Nat.reduceBeqDiff, Nat.add_assoc nid, Nat.reduceAdd, reduceCtorEq, ↓reduceIte, Nat.reduceLeDiff, colPV, freeOf, indep, offO, neqO, disj, namesX, axSlot, opXs, rdXs, idsOf, idsOfs, lowH, lowAll, keys, Nat.reduceBneDiff, Option.toList, ← Int.ofNat_tmod, ← Int.ofNat_tdiv, optInt, fillP, repl, chunk, mkCols, mkCol, colInts, colBools, colStrs, colLits, colsApp, Col.app, tailOf, splice, colsPut, Col.put, mmFold, eqK, Nat.reduceLT, colsPaste, Col.paste, mNew, mkKey, keyIn, mGet, mPut, e1, e2, e3, e4, e5, e6, e7, e8, e9, a1, a2, a3, a4, a9, b1, b2, b3, b4, b9, d1, d2, d3, d4, d5, d6, g1, g2, g3, hra, hrc, hac, a5, a6, a7, a8, b5, b6, b7, b8]
        refine ⟨by omega, ?_⟩
        refine S2.dec (fun h => ?_) (fun h => ?_) <;> simp -dsimp only [aqT, ROp, OX, ↓seqK, ↓blkK, ↓loopK, step, stepBin, res, stepIdx, mix, PV.cells, argSlots, Nat.reduceBEq, Nat.reduceBeqDiff, Nat.add_assoc nid, Nat.reduceAdd, reduceCtorEq, ↓reduceIte, Nat.reduceLeDiff, colPV, freeOf, indep, offO, neqO, disj, namesX, axSlot, opXs, rdXs, idsOf, idsOfs, lowH, lowAll, keys, Nat.reduceBneDiff, Option.toList, ← Int.ofNat_tmod, ← Int.ofNat_tdiv, optInt, fillP, repl, chunk, mkCols, mkCol, colInts, colBools, colStrs, colLits, colsApp, Col.app, tailOf, splice, colsPut, Col.put, mmFold, eqK, Nat.reduceLT, colsPaste, Col.paste, mNew, mkKey, keyIn, mGet, mPut, e1, e2, e3, e4, e5, e6, e7, e8, e9, a1, a2, a3, a4, a9, b1, b2, b3, b4, b9, d1, d2, d3, d4, d5, d6, g1, g2, g3, hra, hrc, hac, a5, a6, a7, a8, b5, b6, b7, b8]
        · rw [rtGo_cut (show cutB (some (bl, bs)) sum = true by simp [cutB, h])]
          refine RetOK.go [(nid, a), (nid + 1, c)] [] (.inl rfl) ?_
          simp [retPV, over, keys, List.map_nil, List.map_cons, List.contains_cons, List.contains_nil, Bool.or_false, Bool.or_true, Bool.true_or, Bool.false_or, beq_self_eq_true, cond_true, cond_false, HeapCov, orNil, nilSz, onBlk, srcOf, getH_hit, getH_miss, getH.eq_1, getS_hit, getS_miss, getS.eq_1, BlkCov, PVCovs, PVCov, ColsEq, ColEq.refl, liveIds, SlotsCov, List.all_nil, List.all_cons, List.any_nil, List.any_cons, List.nil_append, List.cons_append, inRange, apart, nilBlk, idS1, idS2, readAll, readRes, onAll, step, res, AX.val, List.drop_zero, List.drop_succ_cons, List.take_succ_cons, List.take_zero, e1, e2, e3, e4, e5, e6, e7, e8, e9, a1, a2, a3, a4, a9, b1, b2, b3, b4, b9, d1, d2, d3, d4, d5, d6, g1, g2, g3, hra, hrc, hac, a5, a6, a7, a8, b5, b6, b7, b8, a58, litP, arrI, rtBox, bH, bPV, bSum]
        · refine ⟨⟨by simp [cutB]; omega⟩, Cov.go [] [] ?_⟩
          simp [retPV, over, keys, List.map_nil, List.map_cons, List.contains_cons, List.contains_nil, Bool.or_false, Bool.or_true, Bool.true_or, Bool.false_or, beq_self_eq_true, cond_true, cond_false, HeapCov, orNil, nilSz, onBlk, srcOf, getH_hit, getH_miss, getH.eq_1, getS_hit, getS_miss, getS.eq_1, BlkCov, PVCovs, PVCov, ColsEq, ColEq.refl, liveIds, SlotsCov, List.all_nil, List.all_cons, List.any_nil, List.any_cons, List.nil_append, List.cons_append, inRange, apart, nilBlk, idS1, idS2, readAll, readRes, onAll, step, res, AX.val, List.drop_zero, List.drop_succ_cons, List.take_succ_cons, List.take_zero, e1, e2, e3, e4, e5, e6, e7, e8, e9, a1, a2, a3, a4, a9, b1, b2, b3, b4, b9, d1, d2, d3, d4, d5, d6, g1, g2, g3, hra, hrc, hac, a5, a6, a7, a8, b5, b6, b7, b8, litP, arrI, rtBox, bH, bPV, bSum]
    have hcut : cutB b sum = false := hcut.down
    -- are all points in it
    refine SR.seqEx (ι := PLift (now.length ≠ P.length)) (fun _ => ⟨[(0, .ptr r 0)], [(r, rtBox nl P a c now.length sum b), (a, arrI now), (c, bH c b)], nid + 200, nid⟩) ?_ (fun hfull => ?_)
    · unfold rtBox arrI litP
      simp -dsimp only [aqT, ROp, OX, ↓seqK, ↓blkK, ↓loopK, step, stepBin, res, stepIdx, mix, PV.cells, argSlots, Nat.reduceBEq, Nat.reduceBeqDiff, Nat.add_assoc nid, Nat.reduceAdd, reduceCtorEq, ↓reduceIte, Nat.reduceLeDiff, colPV, freeOf, indep, offO, neqO, disj, namesX, axSlot, opXs, rdXs, idsOf, idsOfs, lowH, lowAll, keys, Nat.reduceBneDiff, Option.toList, ← Int.ofNat_tmod, ← Int.ofNat_tdiv, optInt, fillP, repl, chunk, mkCols, mkCol, colInts, colBools, colStrs, colLits, colsApp, Col.app, tailOf, splice, colsPut, Col.put, mmFold, eqK, Nat.reduceLT, colsPaste, Col.paste, mNew, mkKey, keyIn, mGet, mPut, e1, e2, e3, e4, e5, e6, e7, e8, e9, a1, a2, a3, a4, a9, b1, b2, b3, b4, b9, d1, d2, d3, d4, d5, d6, g1, g2, g3, hra, hrc, hac, a5, a6, a7, a8, b5, b6, b7, b8]
      refine S2.intro (fun h => ?_) (fun h => ?_) <;> simp -dsimp only [aqT, ROp, OX, ↓seqK, ↓blkK, ↓loopK, step, stepBin, res, stepIdx, mix, PV.cells, argSlots, Nat.reduceBEq, Nat.reduceBeqDiff, Nat.add_assoc nid, Nat.reduceAdd, reduceCtorEq, ↓reduceIte, Nat.reduceLeDiff, colPV, freeOf, indep, offO, neqO, disj, namesX, axSlot, opXs, rdXs, idsOf, idsOfs, lowH, lowAll, keys, Nat.reduceBneDiff, Option.toList, ← Int.ofNat_tmod, ← Int.ofNat_tdiv, optInt, fillP, repl, chunk, mkCols, mkCol, colInts, colBools, colStrs, colLits, colsApp, Col.app, tailOf, splice, colsPut, Col.put, mmFold, eqK, Nat.reduceLT, colsPaste, Col.paste, mNew, mkKey, keyIn, mGet, mPut, e1, e2, e3, e4, e5, e6, e7, e8, e9, a1, a2, a3, a4, a9, b1, b2, b3, b4, b9, d1, d2, d3, d4, d5, d6, g1, g2, g3, hra, hrc, hac, a5, a6, a7, a8, b5, b6, b7, b8]
      · have hn : now.length = P.length := by have : (now.length : Int) = P.length := by simpa using h
                                              omega
        rw [rtGo_full hcut hn]
        refine CallX.lent [a] (fun nl' => by
          simp only [lends, lend, aqT, ROp, OX, ↓seqK, ↓blkK, ↓loopK, step, stepBin, res, stepIdx, mix, PV.cells, argSlots, Nat.reduceBEq, Nat.reduceBeqDiff, Nat.add_assoc nid, Nat.reduceAdd, reduceCtorEq, ↓reduceIte, Nat.reduceLeDiff, colPV, freeOf, indep, offO, neqO, disj, namesX, axSlot, opXs, rdXs, idsOf, idsOfs, lowH, lowAll, keys, Nat.reduceBneDiff, Option.toList, ← Int.ofNat_tmod, ← Int.ofNat_tdiv, optInt, fillP, repl, chunk, mkCols, mkCol, colInts, colBools, colStrs, colLits, colsApp, Col.app, tailOf, splice, colsPut, Col.put, mmFold, eqK, Nat.reduceLT, colsPaste, Col.paste, mNew, mkKey, keyIn, mGet, mPut, e1, e2, e3, e4, e5, e6, e7, e8, e9, a1, a2, a3, a4, a9, b1, b2, b3, b4, b9, d1, d2, d3, d4, d5, d6, g1, g2, g3, hra, hrc, hac, a5, a6, a7, a8, b5, b6, b7, b8]
          exact ACall.nonnil 0 rfl (fun hn => cloneI_c (nl' a) now (nid + 168) (by omega) (fun e => List.eq_nil_of_length_eq_zero (hn e)))) rfl rfl (by simp [getH, idS1, idS2, e1, e2, e3, e4, e5, e6, e7, e8, e9, a1, a2, a3, a4, a9, b1, b2, b3, b4, b9, d1, d2, d3, d4, d5, d6, g1, g2, g3, hra, hrc, hac, a5, a6, a7, a8, b5, b6, b7, b8]) ?_
        unfold arrI
        simp -dsimp only [aqT, ROp, OX, ↓seqK, ↓blkK, ↓loopK, step, stepBin, res, stepIdx, mix, PV.cells, argSlots, Nat.reduceBEq, Nat.reduceBeqDiff, Nat.add_assoc nid, Nat.reduceAdd, reduceCtorEq, ↓reduceIte, Nat.reduceLeDiff, colPV, freeOf, indep, offO, neqO, disj, namesX, axSlot, opXs, rdXs, idsOf, idsOfs, lowH, lowAll, keys, Nat.reduceBneDiff, Option.toList, ← Int.ofNat_tmod, ← Int.ofNat_tdiv, optInt, fillP, repl, chunk, mkCols, mkCol, colInts, colBools, colStrs, colLits, colsApp, Col.app, tailOf, splice, colsPut, Col.put, mmFold, eqK, Nat.reduceLT, colsPaste, Col.paste, mNew, mkKey, keyIn, mGet, mPut, e1, e2, e3, e4, e5, e6, e7, e8, e9, a1, a2, a3, a4, a9, b1, b2, b3, b4, b9, d1, d2, d3, d4, d5, d6, g1, g2, g3, hra, hrc, hac, a5, a6, a7, a8, b5, b6, b7, b8]
        refine RetOK.go [(nid, a), (nid + 1, nid + 168)] [] (.inl rfl) ?_
        simp [retPV, over, keys, List.map_nil, List.map_cons, List.contains_cons, List.contains_nil, Bool.or_false, Bool.or_true, Bool.true_or, Bool.false_or, beq_self_eq_true, cond_true, cond_false, HeapCov, orNil, nilSz, onBlk, srcOf, getH_hit, getH_miss, getH.eq_1, getS_hit, getS_miss, getS.eq_1, BlkCov, PVCovs, PVCov, ColsEq, ColEq.refl, liveIds, SlotsCov, List.all_nil, List.all_cons, List.any_nil, List.any_cons, List.nil_append, List.cons_append, inRange, apart, nilBlk, idS1, idS2, readAll, readRes, onAll, step, res, AX.val, List.drop_zero, List.drop_succ_cons, List.take_succ_cons, List.take_zero, e1, e2, e3, e4, e5, e6, e7, e8, e9, a1, a2, a3, a4, a9, b1, b2, b3, b4, b9, d1, d2, d3, d4, d5, d6, g1, g2, g3, hra, hrc, hac, a5, a6, a7, a8, b5, b6, b7, b8, a58, litP, arrI, rtBox, bH, bPV, bSum]
      · refine ⟨⟨fun e => by simp [e] at h⟩, Cov.go [] [] ?_⟩
        cases b with
        | none => simp [retPV, over, keys, List.map_nil, List.map_cons, List.contains_cons, List.contains_nil, Bool.or_false, Bool.or_true, Bool.true_or, Bool.false_or, beq_self_eq_true, cond_true, cond_false, HeapCov, orNil, nilSz, onBlk, srcOf, getH_hit, getH_miss, getH.eq_1, getS_hit, getS_miss, getS.eq_1, BlkCov, PVCovs, PVCov, ColsEq, ColEq.refl, liveIds, SlotsCov, List.all_nil, List.all_cons, List.any_nil, List.any_cons, List.nil_append, List.cons_append, inRange, apart, nilBlk, idS1, idS2, readAll, readRes, onAll, step, res, AX.val, List.drop_zero, List.drop_succ_cons, List.take_succ_cons, List.take_zero, e1, e2, e3, e4, e5, e6, e7, e8, e9, a1, a2, a3, a4, a9, b1, b2, b3, b4, b9, d1, d2, d3, d4, d5, d6, g1, g2, g3, hra, hrc, hac, a5, a6, a7, a8, b5, b6, b7, b8, litP, arrI, rtBox, bH, bPV, bSum]
        | some lb => simp [retPV, over, keys, List.map_nil, List.map_cons, List.contains_cons, List.contains_nil, Bool.or_false, Bool.or_true, Bool.true_or, Bool.false_or, beq_self_eq_true, cond_true, cond_false, HeapCov, orNil, nilSz, onBlk, srcOf, getH_hit, getH_miss, getH.eq_1, getS_hit, getS_miss, getS.eq_1, BlkCov, PVCovs, PVCov, ColsEq, ColEq.refl, liveIds, SlotsCov, List.all_nil, List.all_cons, List.any_nil, List.any_cons, List.nil_append, List.cons_append, inRange, apart, nilBlk, idS1, idS2, readAll, readRes, onAll, step, res, AX.val, List.drop_zero, List.drop_succ_cons, List.take_succ_cons, List.take_zero, e1, e2, e3, e4, e5, e6, e7, e8, e9, a1, a2, a3, a4, a9, b1, b2, b3, b4, b9, d1, d2, d3, d4, d5, d6, g1, g2, g3, hra, hrc, hac, a5, a6, a7, a8, b5, b6, b7, b8, litP, arrI, rtBox, bH, bPV, bSum]
    have hfull : now.length ≠ P.length := hfull.down
    rw [rtGo_more hcut hfull]
    have hlast : (now.getD (now.length - 1) 0) ∈ now := by
      rw [List.getD_eq_getElem?_getD, List.getElem?_eq_getElem (show now.length - 1 < now.length by omega)]
      exact List.getElem_mem _
    have hlb := hnow _ hlast
    obtain ⟨L, hL⟩ : ∃ L, now.getD (now.length - 1) 0 = (L : Nat) := ⟨_, (Int.toNat_of_nonneg hlb.1).symm⟩
    have hLp : lastP P now = P.getD L p0 := by unfold lastP; rw [hL, Int.toNat_natCast]
    have hn1 : ((now.length : Int) - 1).toNat = now.length - 1 := by omega
    refine SR.seq ?_
    unfold rtBox arrI litP
    simp -dsimp only [aqT, ROp, OX, ↓seqK, ↓blkK, ↓loopK, step, stepBin, res, stepIdx, mix, PV.cells, argSlots, Nat.reduceBEq, Nat.reduceBeqDiff, Nat.add_assoc nid, Nat.reduceAdd, reduceCtorEq, ↓reduceIte, Nat.reduceLeDiff, colPV, freeOf, indep, offO, neqO, disj, namesX, axSlot, opXs, rdXs, idsOf, idsOfs, lowH, lowAll, keys, Nat.reduceBneDiff, Option.toList, ← Int.ofNat_tmod, ← Int.ofNat_tdiv, optInt, fillP, repl, chunk, mkCols, mkCol, colInts, colBools, colStrs, colLits, colsApp, Col.app, tailOf, splice, colsPut, Col.put, mmFold, eqK, Nat.reduceLT, colsPaste, Col.paste, mNew, mkKey, keyIn, mGet, mPut, e1, e2, e3, e4, e5, e6, e7, e8, e9, a1, a2, a3, a4, a9, b1, b2, b3, b4, b9, d1, d2, d3, d4, d5, d6, g1, g2, g3, hra, hrc, hac, a5, a6, a7, a8, b5, b6, b7, b8]
    rw [hn1, hL]
    refine ⟨by unfold inI64; omega, by omega, ?_⟩
    refine SR.run (t := .mk) ?_
    simp -dsimp only [aqT, ROp, OX, ↓seqK, ↓blkK, ↓loopK, step, stepBin, res, stepIdx, mix, PV.cells, argSlots, Nat.reduceBEq, Nat.reduceBeqDiff, Nat.add_assoc nid, Nat.reduceAdd, reduceCtorEq, ↓reduceIte, Nat.reduceLeDiff, colPV, freeOf, indep, offO, neqO, disj, namesX, axSlot, opXs, rdXs, idsOf, idsOfs, lowH, lowAll, keys, Nat.reduceBneDiff, Option.toList, ← Int.ofNat_tmod, ← Int.ofNat_tdiv, optInt, fillP, repl, chunk, mkCols, mkCol, colInts, colBools, colStrs, colLits, colsApp, Col.app, tailOf, splice, colsPut, Col.put, mmFold, eqK, Nat.reduceLT, colsPaste, Col.paste, mNew, mkKey, keyIn, mGet, mPut, e1, e2, e3, e4, e5, e6, e7, e8, e9, a1, a2, a3, a4, a9, b1, b2, b3, b4, b9, d1, d2, d3, d4, d5, d6, g1, g2, g3, hra, hrc, hac, a5, a6, a7, a8, b5, b6, b7, b8]
    refine LP.mkP (fun k : Nat => k ≤ P.length) (fun k : Nat => ⟨[(65, .int .i64 k), (64, .int .i64 P.length), (63, litP nl P), (0, .ptr r 0), (2, .int .i64 L)],
      [(r, rtBox nl P (nid + 4) (nid + 5) now.length sum (rtTo P f now sum b k)), (nid + 4, arrI now), (nid + 5, bH (nid + 5) (rtTo P f now sum b k))], nid + 1000, nid⟩) (fun k => P.length + 1 - k) 0 (by omega) (Cov.go [(nid + 4, a), (nid + 5, c)] [] ?_) (fun k hk => ?_)
    · have e0 : rtTo P f now sum b 0 = b := rfl
      rw [e0]
      cases b with
      | none => simp [retPV, over, keys, List.map_nil, List.map_cons, List.contains_cons, List.contains_nil, Bool.or_false, Bool.or_true, Bool.true_or, Bool.false_or, beq_self_eq_true, cond_true, cond_false, HeapCov, orNil, nilSz, onBlk, srcOf, getH_hit, getH_miss, getH.eq_1, getS_hit, getS_miss, getS.eq_1, BlkCov, PVCovs, PVCov, ColsEq, ColEq.refl, liveIds, SlotsCov, List.all_nil, List.all_cons, List.any_nil, List.any_cons, List.nil_append, List.cons_append, inRange, apart, nilBlk, idS1, idS2, readAll, readRes, onAll, step, res, AX.val, List.drop_zero, List.drop_succ_cons, List.take_succ_cons, List.take_zero, e1, e2, e3, e4, e5, e6, e7, e8, e9, a1, a2, a3, a4, a9, b1, b2, b3, b4, b9, d1, d2, d3, d4, d5, d6, g1, g2, g3, hra, hrc, hac, a5, a6, a7, a8, b5, b6, b7, b8, litP, arrI, rtBox, bH, bPV, bSum]
      | some lb => simp [retPV, over, keys, List.map_nil, List.map_cons, List.contains_cons, List.contains_nil, Bool.or_false, Bool.or_true, Bool.true_or, Bool.false_or, beq_self_eq_true, cond_true, cond_false, HeapCov, orNil, nilSz, onBlk, srcOf, getH_hit, getH_miss, getH.eq_1, getS_hit, getS_miss, getS.eq_1, BlkCov, PVCovs, PVCov, ColsEq, ColEq.refl, liveIds, SlotsCov, List.all_nil, List.all_cons, List.any_nil, List.any_cons, List.nil_append, List.cons_append, inRange, apart, nilBlk, idS1, idS2, readAll, readRes, onAll, step, res, AX.val, List.drop_zero, List.drop_succ_cons, List.take_succ_cons, List.take_zero, e1, e2, e3, e4, e5, e6, e7, e8, e9, a1, a2, a3, a4, a9, b1, b2, b3, b4, b9, d1, d2, d3, d4, d5, d6, g1, g2, g3, hra, hrc, hac, a5, a6, a7, a8, b5, b6, b7, b8, litP, arrI, rtBox, bH, bPV, bSum]
    have hst := rtTo_succ P f now sum b k
    have hbk := rtTo_ok hP (f := f) (now := now) h0 (by omega) hb k
    have hbk1 := rtTo_ok hP (f := f) (now := now) h0 (by omega) hb (k + 1)
    unfold rtBox arrI litP
    generalize hB : rtTo P f now sum b k = B at *
    simp -dsimp only [aqT, ROp, OX, ↓seqK, ↓blkK, ↓loopK, step, stepBin, res, stepIdx, mix, PV.cells, argSlots, Nat.reduceBEq, Nat.reduceBeqDiff, Nat.add_assoc nid, Nat.reduceAdd, reduceCtorEq, ↓reduceIte, Nat.reduceLeDiff, colPV, freeOf, indep, offO, neqO, disj, namesX, axSlot, opXs, rdXs, idsOf, idsOfs, lowH, lowAll, keys, Nat.reduceBneDiff, Option.toList, ← Int.ofNat_tmod, ← Int.ofNat_tdiv, optInt, fillP, repl, chunk, mkCols, mkCol, colInts, colBools, colStrs, colLits, colsApp, Col.app, tailOf, splice, colsPut, Col.put, mmFold, eqK, Nat.reduceLT, colsPaste, Col.paste, mNew, mkKey, keyIn, mGet, mPut, e1, e2, e3, e4, e5, e6, e7, e8, e9]
    refine S2.dec (fun h3 => ?_) (fun h3 => ?_) <;> simp -dsimp only [aqT, ROp, OX, ↓seqK, ↓blkK, ↓loopK, step, stepBin, res, stepIdx, mix, PV.cells, argSlots, Nat.reduceBEq, Nat.reduceBeqDiff, Nat.add_assoc nid, Nat.reduceAdd, reduceCtorEq, ↓reduceIte, Nat.reduceLeDiff, colPV, freeOf, indep, offO, neqO, disj, namesX, axSlot, opXs, rdXs, idsOf, idsOfs, lowH, lowAll, keys, Nat.reduceBneDiff, Option.toList, ← Int.ofNat_tmod, ← Int.ofNat_tdiv, optInt, fillP, repl, chunk, mkCols, mkCol, colInts, colBools, colStrs, colLits, colsApp, Col.app, tailOf, splice, colsPut, Col.put, mmFold, eqK, Nat.reduceLT, colsPaste, Col.paste, mNew, mkKey, keyIn, mGet, mPut, e1, e2, e3, e4, e5, e6, e7, e8, e9]
    · refine ⟨by omega, ?_⟩
      refine CallO.lent [nid + 4] (fun nl' => by
        simp only [lends, lend, aqT, ROp, OX, ↓seqK, ↓blkK, ↓loopK, step, stepBin, res, stepIdx, mix, PV.cells, argSlots, Nat.reduceBEq, Nat.reduceBeqDiff, Nat.add_assoc nid, Nat.reduceAdd, reduceCtorEq, ↓reduceIte, Nat.reduceLeDiff, colPV, freeOf, indep, offO, neqO, disj, namesX, axSlot, opXs, rdXs, idsOf, idsOfs, lowH, lowAll, keys, Nat.reduceBneDiff, Option.toList, ← Int.ofNat_tmod, ← Int.ofNat_tdiv, optInt, fillP, repl, chunk, mkCols, mkCol, colInts, colBools, colStrs, colLits, colsApp, Col.app, tailOf, splice, colsPut, Col.put, mmFold, eqK, Nat.reduceLT, colsPaste, Col.paste, mNew, mkKey, keyIn, mGet, mPut, e1, e2, e3, e4, e5, e6, e7, e8, e9]
        exact contains_c (nl' _) now (k : Int) (nid + 1048) (by omega)) rfl rfl (by simp [getH]) ?_
      have hkP : k < P.length := by omega
      have hap := apartI_bd (hP.get L) (hP.get k)
      cases hcon : now.contains (k : Int) <;> simp -dsimp only [aqT, ROp, OX, ↓seqK, ↓blkK, ↓loopK, step, stepBin, res, stepIdx, mix, PV.cells, argSlots, Nat.reduceBEq, Nat.reduceBeqDiff, Nat.add_assoc nid, Nat.reduceAdd, reduceCtorEq, ↓reduceIte, Nat.reduceLeDiff, colPV, freeOf, indep, offO, neqO, disj, namesX, axSlot, opXs, rdXs, idsOf, idsOfs, lowH, lowAll, keys, Nat.reduceBneDiff, Option.toList, ← Int.ofNat_tmod, ← Int.ofNat_tdiv, optInt, fillP, repl, chunk, mkCols, mkCol, colInts, colBools, colStrs, colLits, colsApp, Col.app, tailOf, splice, colsPut, Col.put, mmFold, eqK, Nat.reduceLT, colsPaste, Col.paste, mNew, mkKey, keyIn, mGet, mPut, e1, e2, e3, e4, e5, e6, e7, e8, e9]
      · rw [hcon, if_neg (by simp)] at hst
        rw [hLp] at hst
        refine ⟨by omega, CallX.pure (apart_c (P.getD L p0) (P.getD k p0) _ (hP.get L) (hP.get k)) ?_⟩
        generalize hd : apartI (P.getD L p0) (P.getD k p0) = d at *
        simp -dsimp only [aqT, ROp, OX, ↓seqK, ↓blkK, ↓loopK, step, stepBin, res, stepIdx, mix, PV.cells, argSlots, Nat.reduceBEq, Nat.reduceBeqDiff, Nat.add_assoc nid, Nat.reduceAdd, reduceCtorEq, ↓reduceIte, Nat.reduceLeDiff, colPV, freeOf, indep, offO, neqO, disj, namesX, axSlot, opXs, rdXs, idsOf, idsOfs, lowH, lowAll, keys, Nat.reduceBneDiff, Option.toList, ← Int.ofNat_tmod, ← Int.ofNat_tdiv, optInt, fillP, repl, chunk, mkCols, mkCol, colInts, colBools, colStrs, colLits, colsApp, Col.app, tailOf, splice, colsPut, Col.put, mmFold, eqK, Nat.reduceLT, colsPaste, Col.paste, mNew, mkKey, keyIn, mGet, mPut, e1, e2, e3, e4, e5, e6, e7, e8, e9]
        have hf : 0 < f := by omega
        have hl1 : (now ++ [(k : Int)]).length = now.length + 1 := by simp
        have hcol : (fun i => if i < now.length then now.getD i 0 else [(k : Int)].getD (i - now.length) 0) = fun i => (now ++ [(k : Int)]).getD i 0 := by
          funext i
          simp only [List.getD_eq_getElem?_getD, List.getElem?_append]
          split <;> rfl
        rw [hcol]
        have hih := fun nid' (h : nid + 1124 < nid') => walk_c nl P hP f (now ++ [(k : Int)]) (sum + d) B r (nid + 1124) (nid + 5) nid' (by omega) (by omega) (by omega) (by omega) (by omega) (by omega) (by omega) hf (by omega)
          (fun x hx => by
            rcases List.mem_append.1 hx with hx | hx
            · exact hnow x hx
            · rw [List.mem_singleton] at hx; omega) (by omega) (by rw [hl1]; push_cast; omega) hbk
        unfold rtBox arrI litP at hih
        simp only [hl1] at hih
        rw [← hst] at hih
        generalize hB1 : rtTo P f now sum b (k + 1) = B1 at *
        refine ⟨⟨by omega, by omega⟩, by unfold inI64; omega, CallO.on (hih _ (by omega)) (subH_cons (by simp only [aqT, ROp, OX, ↓seqK, ↓blkK, ↓loopK, step, stepBin, res, stepIdx, mix, PV.cells, argSlots, Nat.reduceBEq, Nat.reduceBeqDiff, Nat.add_assoc nid, Nat.reduceAdd, reduceCtorEq, ↓reduceIte, Nat.reduceLeDiff, colPV, freeOf, indep, offO, neqO, disj, namesX, axSlot, opXs, rdXs, idsOf, idsOfs, lowH, lowAll, keys, Nat.reduceBneDiff, Option.toList, ← Int.ofNat_tmod, ← Int.ofNat_tdiv, optInt, fillP, repl, chunk, mkCols, mkCol, colInts, colBools, colStrs, colLits, colsApp, Col.app, tailOf, splice, colsPut, Col.put, mmFold, eqK, Nat.reduceLT, colsPaste, Col.paste, mNew, mkKey, keyIn, mGet, mPut, e1, e2, e3, e4, e5, e6, e7, e8, e9]) (subH_cons (by simp only [aqT, ROp, OX, ↓seqK, ↓blkK, ↓loopK, step, stepBin, res, stepIdx, mix, PV.cells, argSlots, Nat.reduceBEq, Nat.reduceBeqDiff, Nat.add_assoc nid, Nat.reduceAdd, reduceCtorEq, ↓reduceIte, Nat.reduceLeDiff, colPV, freeOf, indep, offO, neqO, disj, namesX, axSlot, opXs, rdXs, idsOf, idsOfs, lowH, lowAll, keys, Nat.reduceBneDiff, Option.toList, ← Int.ofNat_tmod, ← Int.ofNat_tdiv, optInt, fillP, repl, chunk, mkCols, mkCol, colInts, colBools, colStrs, colLits, colsApp, Col.app, tailOf, splice, colsPut, Col.put, mmFold, eqK, Nat.reduceLT, colsPaste, Col.paste, mNew, mkKey, keyIn, mGet, mPut, e1, e2, e3, e4, e5, e6, e7, e8, e9]) (subH_get (by simp only [aqT, ROp, OX, ↓seqK, ↓blkK, ↓loopK, step, stepBin, res, stepIdx, mix, PV.cells, argSlots, Nat.reduceBEq, Nat.reduceBeqDiff, Nat.add_assoc nid, Nat.reduceAdd, reduceCtorEq, ↓reduceIte, Nat.reduceLeDiff, colPV, freeOf, indep, offO, neqO, disj, namesX, axSlot, opXs, rdXs, idsOf, idsOfs, lowH, lowAll, keys, Nat.reduceBneDiff, Option.toList, ← Int.ofNat_tmod, ← Int.ofNat_tdiv, optInt, fillP, repl, chunk, mkCols, mkCol, colInts, colBools, colStrs, colLits, colsApp, Col.app, tailOf, splice, colsPut, Col.put, mmFold, eqK, Nat.reduceLT, colsPaste, Col.paste, mNew, mkKey, keyIn, mGet, mPut, e1, e2, e3, e4, e5, e6, e7, e8, e9])))) ?_⟩
        simp -dsimp only [aqT, ROp, OX, ↓seqK, ↓blkK, ↓loopK, step, stepBin, res, stepIdx, mix, PV.cells, argSlots, Nat.reduceBEq, Nat.reduceBeqDiff, Nat.add_assoc nid, Nat.reduceAdd, reduceCtorEq, ↓reduceIte, Nat.reduceLeDiff, colPV, freeOf, indep, offO, neqO, disj, namesX, axSlot, opXs, rdXs, idsOf, idsOfs, lowH, lowAll, keys, Nat.reduceBneDiff, Option.toList, ← Int.ofNat_tmod, ← Int.ofNat_tdiv, optInt, fillP, repl, chunk, mkCols, mkCol, colInts, colBools, colStrs, colLits, colsApp, Col.app, tailOf, splice, colsPut, Col.put, mmFold, eqK, Nat.reduceLT, colsPaste, Col.paste, mNew, mkKey, keyIn, mGet, mPut, e1, e2, e3, e4, e5, e6, e7, e8, e9]
        have q1 : (((now.length + 1 : Nat) : Int) - 1).toNat = now.length := by omega
        rw [q1]
        refine ⟨by unfold inI64; omega, ⟨by omega, by omega⟩, by unfold inI64; omega, by unfold inI64; omega, k + 1, ⟨by omega, by omega⟩, ?_⟩
        refine Cov.trans (b := ⟨[(65, .int .i64 (k + 1 : Nat)), (64, .int .i64 P.length), (63, litP nl P), (0, .ptr r 0), (2, .int .i64 L)],
          [(r, rtBox nl P (nid + 4) (nid + 5) now.length sum B1), (nid + 4, some (.arr 3 (now.length + 1) [.i .i64 fun i => (now ++ [(k : Int)]).getD i 0])), (nid + 5, bH (nid + 5) B1)], nid + 2000, nid⟩) (Cov.go [(nid + 4, nid + 1180), (nid + 5, nid + 1181)] [] ?_)
          (Cov.trans (Cov.shrink (id := nid + 4) (T := 3) (k := now.length + 1) (q := now.length) (cols := [.i .i64 fun i => (now ++ [(k : Int)]).getD i 0]) ?_ (by omega) (by omega) ?_ ?_) (Cov.go [] [] ?_))
        · cases B1 with
          | none => simp [retPV, over, keys, List.map_nil, List.map_cons, List.contains_cons, List.contains_nil, Bool.or_false, Bool.or_true, Bool.true_or, Bool.false_or, beq_self_eq_true, cond_true, cond_false, HeapCov, orNil, nilSz, onBlk, srcOf, getH_hit, getH_miss, getH.eq_1, getS_hit, getS_miss, getS.eq_1, BlkCov, PVCovs, PVCov, ColsEq, ColEq.refl, liveIds, SlotsCov, List.all_nil, List.all_cons, List.any_nil, List.any_cons, List.nil_append, List.cons_append, inRange, apart, nilBlk, idS1, idS2, readAll, readRes, onAll, step, res, AX.val, List.drop_zero, List.drop_succ_cons, List.take_succ_cons, List.take_zero, e1, e2, e3, e4, e5, e6, e7, e8, e9, litP, arrI, rtBox, bH, bPV, bSum]
          | some lb => simp [retPV, over, keys, List.map_nil, List.map_cons, List.contains_cons, List.contains_nil, Bool.or_false, Bool.or_true, Bool.true_or, Bool.false_or, beq_self_eq_true, cond_true, cond_false, HeapCov, orNil, nilSz, onBlk, srcOf, getH_hit, getH_miss, getH.eq_1, getS_hit, getS_miss, getS.eq_1, BlkCov, PVCovs, PVCov, ColsEq, ColEq.refl, liveIds, SlotsCov, List.all_nil, List.all_cons, List.any_nil, List.any_cons, List.nil_append, List.cons_append, inRange, apart, nilBlk, idS1, idS2, readAll, readRes, onAll, step, res, AX.val, List.drop_zero, List.drop_succ_cons, List.take_succ_cons, List.take_zero, e1, e2, e3, e4, e5, e6, e7, e8, e9, litP, arrI, rtBox, bH, bPV, bSum]
        · simp only [aqT, ROp, OX, ↓seqK, ↓blkK, ↓loopK, step, stepBin, res, stepIdx, mix, PV.cells, argSlots, Nat.reduceBEq, Nat.reduceBeqDiff, Nat.add_assoc nid, Nat.reduceAdd, reduceCtorEq, ↓reduceIte, Nat.reduceLeDiff, colPV, freeOf, indep, offO, neqO, disj, namesX, axSlot, opXs, rdXs, idsOf, idsOfs, lowH, lowAll, keys, Nat.reduceBneDiff, Option.toList, ← Int.ofNat_tmod, ← Int.ofNat_tdiv, optInt, fillP, repl, chunk, mkCols, mkCol, colInts, colBools, colStrs, colLits, colsApp, Col.app, tailOf, splice, colsPut, Col.put, mmFold, eqK, Nat.reduceLT, colsPaste, Col.paste, mNew, mkKey, keyIn, mGet, mPut, e1, e2, e3, e4, e5, e6, e7, e8, e9]
        · simp [fitS, fitP, litP]
        · cases B1 with
          | none => simp [fitH, fitPs, fitP, litP, rtBox, bH, bPV, bSum]
          | some lb => simp [fitH, fitPs, fitP, litP, rtBox, bH, bPV, bSum, arrI]
        · rw [hB1]
          have hce : ColEq now.length (.i .i64 fun i => (now ++ [(k : Int)]).getD i 0) (.i .i64 fun i => now.getD i 0) := ColEq.i fun i hi => by
            simp only [List.getD_eq_getElem?_getD, List.getElem?_append_left hi]
          cases B1 with
          | none => simp [retPV, over, keys, List.map_nil, List.map_cons, List.contains_cons, List.contains_nil, Bool.or_false, Bool.or_true, Bool.true_or, Bool.false_or, beq_self_eq_true, cond_true, cond_false, HeapCov, orNil, nilSz, onBlk, srcOf, getH_hit, getH_miss, getH.eq_1, getS_hit, getS_miss, getS.eq_1, BlkCov, PVCovs, PVCov, ColsEq, ColEq.refl, liveIds, SlotsCov, List.all_nil, List.all_cons, List.any_nil, List.any_cons, List.nil_append, List.cons_append, inRange, apart, nilBlk, idS1, idS2, readAll, readRes, onAll, step, res, AX.val, List.drop_zero, List.drop_succ_cons, List.take_succ_cons, List.take_zero, e1, e2, e3, e4, e5, e6, e7, e8, e9, litP, arrI, rtBox, bH, bPV, bSum, -List.getD_eq_getElem?_getD, hce]
          | some lb => simp [retPV, over, keys, List.map_nil, List.map_cons, List.contains_cons, List.contains_nil, Bool.or_false, Bool.or_true, Bool.true_or, Bool.false_or, beq_self_eq_true, cond_true, cond_false, HeapCov, orNil, nilSz, onBlk, srcOf, getH_hit, getH_miss, getH.eq_1, getS_hit, getS_miss, getS.eq_1, BlkCov, PVCovs, PVCov, ColsEq, ColEq.refl, liveIds, SlotsCov, List.all_nil, List.all_cons, List.any_nil, List.any_cons, List.nil_append, List.cons_append, inRange, apart, nilBlk, idS1, idS2, readAll, readRes, onAll, step, res, AX.val, List.drop_zero, List.drop_succ_cons, List.take_succ_cons, List.take_zero, e1, e2, e3, e4, e5, e6, e7, e8, e9, litP, arrI, rtBox, bH, bPV, bSum, -List.getD_eq_getElem?_getD, hce]
      · rw [hcon, if_pos rfl] at hst
        refine ⟨by unfold inI64; omega, k + 1, ⟨by omega, by omega⟩, Cov.go [] [] ?_⟩
        rw [hst]
        cases B with
        | none => simp [retPV, over, keys, List.map_nil, List.map_cons, List.contains_cons, List.contains_nil, Bool.or_false, Bool.or_true, Bool.true_or, Bool.false_or, beq_self_eq_true, cond_true, cond_false, HeapCov, orNil, nilSz, onBlk, srcOf, getH_hit, getH_miss, getH.eq_1, getS_hit, getS_miss, getS.eq_1, BlkCov, PVCovs, PVCov, ColsEq, ColEq.refl, liveIds, SlotsCov, List.all_nil, List.all_cons, List.any_nil, List.any_cons, List.nil_append, List.cons_append, inRange, apart, nilBlk, idS1, idS2, readAll, readRes, onAll, step, res, AX.val, List.drop_zero, List.drop_succ_cons, List.take_succ_cons, List.take_zero, e1, e2, e3, e4, e5, e6, e7, e8, e9, litP, arrI, rtBox, bH, bPV, bSum]
        | some lb => simp [retPV, over, keys, List.map_nil, List.map_cons, List.contains_cons, List.contains_nil, Bool.or_false, Bool.or_true, Bool.true_or, Bool.false_or, beq_self_eq_true, cond_true, cond_false, HeapCov, orNil, nilSz, onBlk, srcOf, getH_hit, getH_miss, getH.eq_1, getS_hit, getS_miss, getS.eq_1, BlkCov, PVCovs, PVCov, ColsEq, ColEq.refl, liveIds, SlotsCov, List.all_nil, List.all_cons, List.any_nil, List.any_cons, List.nil_append, List.cons_append, inRange, apart, nilBlk, idS1, idS2, readAll, readRes, onAll, step, res, AX.val, List.drop_zero, List.drop_succ_cons, List.take_succ_cons, List.take_zero, e1, e2, e3, e4, e5, e6, e7, e8, e9, litP, arrI, rtBox, bH, bPV, bSum]
    · have hkn : k = P.length := by omega
      subst hkn
      rw [hB]
      refine RetOK.go [(nid, nid + 4), (nid + 1, nid + 5)] [] (.inr rfl) ?_
      cases B with
      | none => simp [retPV, over, keys, List.map_nil, List.map_cons, List.contains_cons, List.contains_nil, Bool.or_false, Bool.or_true, Bool.true_or, Bool.false_or, beq_self_eq_true, cond_true, cond_false, HeapCov, orNil, nilSz, onBlk, srcOf, getH_hit, getH_miss, getH.eq_1, getS_hit, getS_miss, getS.eq_1, BlkCov, PVCovs, PVCov, ColsEq, ColEq.refl, liveIds, SlotsCov, List.all_nil, List.all_cons, List.any_nil, List.any_cons, List.nil_append, List.cons_append, inRange, apart, nilBlk, idS1, idS2, readAll, readRes, onAll, step, res, AX.val, List.drop_zero, List.drop_succ_cons, List.take_succ_cons, List.take_zero, e1, e2, e3, e4, e5, e6, e7, e8, e9, a1, a2, a3, a4, a9, b1, b2, b3, b4, b9, d1, d2, d3, d4, d5, d6, g1, g2, g3, hra, hrc, hac, a5, a6, a7, a8, b5, b6, b7, b8, a58, litP, arrI, rtBox, bH, bPV, bSum]
      | some lb => simp [retPV, over, keys, List.map_nil, List.map_cons, List.contains_cons, List.contains_nil, Bool.or_false, Bool.or_true, Bool.true_or, Bool.false_or, beq_self_eq_true, cond_true, cond_false, HeapCov, orNil, nilSz, onBlk, srcOf, getH_hit, getH_miss, getH.eq_1, getS_hit, getS_miss, getS.eq_1, BlkCov, PVCovs, PVCov, ColsEq, ColEq.refl, liveIds, SlotsCov, List.all_nil, List.all_cons, List.any_nil, List.any_cons, List.nil_append, List.cons_append, inRange, apart, nilBlk, idS1, idS2, readAll, readRes, onAll, step, res, AX.val, List.drop_zero, List.drop_succ_cons, List.take_succ_cons, List.take_zero, e1, e2, e3, e4, e5, e6, e7, e8, e9, a1, a2, a3, a4, a9, b1, b2, b3, b4, b9, d1, d2, d3, d4, d5, d6, g1, g2, g3, hra, hrc, hac, a5, a6, a7, a8, b5, b6, b7, b8, a58, litP, arrI, rtBox, bH, bPV, bSum]
end Go.Proofs.Ytmgfcjblclanmaa
/-
  Route, by the abstract machine.
-/
namespace Go.Proofs.Ytmgfcjblclanmaa
open Go.RowKit
set_option linter.unusedVariables false
set_option linter.unusedSimpArgs false
set_option maxRecDepth 100000
def bestL (b : Best) : List Int := match b with
  | some (l, _) => l
  | none => []
def routeL (P : List Pt) : List Int := if routeFault P = 0 then bestL (routeV P) else []
def routeS (P : List Pt) : Int := if routeFault P = 0 then bSum (routeV P) else 0
theorem badGet {α : Type} (d : α) {f : α → Int} {l : List α} {k : Nat} (h : k < l.length) (h1 : firstBad f (l.take k) = 0) : (f (l.getD k d) = 0 → firstBad f (l.take (k + 1)) = 0) ∧ (f (l.getD k d) ≠ 0 → firstBad f l = f (l.getD k d)) := by
  have hx : l[k]? = some (l.getD k d) := by rw [List.getD_eq_getElem?_getD, List.getElem?_eq_getElem h]; rfl
  exact ⟨fun h2 => firstBad_step hx h1 h2, fun h2 => firstBad_hit hx h1 h2⟩
set_option maxHeartbeats 4000000 in
theorem route_c (nl : Bool) (P : List Pt) (nid : Nat) (hl : P.length ≤ 1000000000) : ACall Try.prog 12 [litP nl P] [] nid (.tup [.sl nid 0 (routeL P).length, .int .i64 (routeS P), .int .i64 (routeFault P)]) [(nid, arrI (routeL P))] := by
  have bad : routeFault P ≠ 0 → routeL P = [] ∧ routeS P = 0 := fun h => by unfold routeL routeS; rw [if_neg h, if_neg h]; exact ⟨rfl, rfl⟩
  refine acall_run c12 (by simp [a12]) ?_
  unfold litP
  simp -dsimp only [aqT, ROp, OX, ↓seqK, ↓blkK, ↓loopK, step, stepBin, res, stepIdx, mix, PV.cells, argSlots, Nat.reduceBEq, Nat.reduceBeqDiff, Nat.add_assoc nid, Nat.reduceAdd, reduceCtorEq, ↓reduceIte, Nat.reduceLeDiff, colPV, freeOf, indep, offO, neqO, disj, namesX, axSlot, opXs, rdXs, idsOf, idsOfs, lowH, lowAll, keys, Nat.reduceBneDiff, Option.toList, ← Int.ofNat_tmod, ← Int.ofNat_tdiv, optInt, fillP, repl, chunk, mkCols, mkCol, colInts, colBools, colStrs, colLits, colsApp, Col.app, tailOf, splice, colsPut, Col.put, mmFold, eqK, Nat.reduceLT, colsPaste, Col.paste, mNew, mkKey, keyIn, mGet, mPut, a12]
  refine S2.intro (fun h => ?_) (fun h => ?_) <;> simp -dsimp only [aqT, ROp, OX, ↓seqK, ↓blkK, ↓loopK, step, stepBin, res, stepIdx, mix, PV.cells, argSlots, Nat.reduceBEq, Nat.reduceBeqDiff, Nat.add_assoc nid, Nat.reduceAdd, reduceCtorEq, ↓reduceIte, Nat.reduceLeDiff, colPV, freeOf, indep, offO, neqO, disj, namesX, axSlot, opXs, rdXs, idsOf, idsOfs, lowH, lowAll, keys, Nat.reduceBneDiff, Option.toList, ← Int.ofNat_tmod, ← Int.ofNat_tdiv, optInt, fillP, repl, chunk, mkCols, mkCol, colInts, colBools, colStrs, colLits, colsApp, Col.app, tailOf, splice, colsPut, Col.put, mmFold, eqK, Nat.reduceLT, colsPaste, Col.paste, mNew, mkKey, keyIn, mGet, mPut]
  · have h0 : P.length = 0 := by have : (P.length : Int) = 0 := by simpa using h
                                 omega
    have hf : routeFault P = 8 := by unfold routeFault; rw [if_pos h0]
    obtain ⟨b1, b2⟩ := bad (by omega)
    rw [b1, b2, hf]
    refine RetOK.go [] [(nid, 1)] (.inl rfl) ?_
    simp [retPV, over, keys, List.map_nil, List.map_cons, List.contains_cons, List.contains_nil, Bool.or_false, Bool.or_true, Bool.true_or, Bool.false_or, beq_self_eq_true, cond_true, cond_false, HeapCov, orNil, nilSz, onBlk, srcOf, getH_hit, getH_miss, getH.eq_1, getS_hit, getS_miss, getS.eq_1, BlkCov, PVCovs, PVCov, ColsEq, ColEq.refl, liveIds, SlotsCov, List.all_nil, List.all_cons, List.any_nil, List.any_cons, List.nil_append, List.cons_append, inRange, apart, nilBlk, idS1, idS2, readAll, readRes, onAll, step, res, AX.val, List.drop_zero, List.drop_succ_cons, List.take_succ_cons, List.take_zero, a12, arrI]
  have h0 : P.length ≠ 0 := by
    intro e
    rw [e] at h
    simp at h
  refine S2.dec (fun h2 => ?_) (fun h2 => ?_) <;> simp -dsimp only [aqT, ROp, OX, ↓seqK, ↓blkK, ↓loopK, step, stepBin, res, stepIdx, mix, PV.cells, argSlots, Nat.reduceBEq, Nat.reduceBeqDiff, Nat.add_assoc nid, Nat.reduceAdd, reduceCtorEq, ↓reduceIte, Nat.reduceLeDiff, colPV, freeOf, indep, offO, neqO, disj, namesX, axSlot, opXs, rdXs, idsOf, idsOfs, lowH, lowAll, keys, Nat.reduceBneDiff, Option.toList, ← Int.ofNat_tmod, ← Int.ofNat_tdiv, optInt, fillP, repl, chunk, mkCols, mkCol, colInts, colBools, colStrs, colLits, colsApp, Col.app, tailOf, splice, colsPut, Col.put, mmFold, eqK, Nat.reduceLT, colsPaste, Col.paste, mNew, mkKey, keyIn, mGet, mPut]
  · have hf : routeFault P = 2 := by unfold routeFault; rw [if_neg h0, if_pos (by omega)]
    obtain ⟨b1, b2⟩ := bad (by omega)
    rw [b1, b2, hf]
    refine RetOK.go [] [(nid, 1)] (.inl rfl) ?_
    simp [retPV, over, keys, List.map_nil, List.map_cons, List.contains_cons, List.contains_nil, Bool.or_false, Bool.or_true, Bool.true_or, Bool.false_or, beq_self_eq_true, cond_true, cond_false, HeapCov, orNil, nilSz, onBlk, srcOf, getH_hit, getH_miss, getH.eq_1, getS_hit, getS_miss, getS.eq_1, BlkCov, PVCovs, PVCov, ColsEq, ColEq.refl, liveIds, SlotsCov, List.all_nil, List.all_cons, List.any_nil, List.any_cons, List.nil_append, List.cons_append, inRange, apart, nilBlk, idS1, idS2, readAll, readRes, onAll, step, res, AX.val, List.drop_zero, List.drop_succ_cons, List.take_succ_cons, List.take_zero, a12, arrI]
  have hfb : routeFault P = firstBad ptBad P := by unfold routeFault; rw [if_neg h0, if_neg (by omega)]
  refine LP.mkP (fun k : Nat => k ≤ P.length ∧ firstBad ptBad (P.take k) = 0) (fun k : Nat => ⟨[(18, .int .i64 k), (17, .int .i64 P.length), (16, litP nl P), (0, litP nl P)], [], nid + 1000, nid⟩) (fun k => P.length + 1 - k) 0 ?_ (Cov.go [] [] ?_) (fun k hk => ?_)
  · exact ⟨by omega, rfl⟩
  · simp [retPV, over, keys, List.map_nil, List.map_cons, List.contains_cons, List.contains_nil, Bool.or_false, Bool.or_true, Bool.true_or, Bool.false_or, beq_self_eq_true, cond_true, cond_false, HeapCov, orNil, nilSz, onBlk, srcOf, getH_hit, getH_miss, getH.eq_1, getS_hit, getS_miss, getS.eq_1, BlkCov, PVCovs, PVCov, ColsEq, ColEq.refl, liveIds, SlotsCov, List.all_nil, List.all_cons, List.any_nil, List.any_cons, List.nil_append, List.cons_append, inRange, apart, nilBlk, idS1, idS2, readAll, readRes, onAll, step, res, AX.val, List.drop_zero, List.drop_succ_cons, List.take_succ_cons, List.take_zero, litP]
  obtain ⟨hk, hb⟩ := hk
  unfold litP
  simp -dsimp only [aqT, ROp, OX, ↓seqK, ↓blkK, ↓loopK, step, stepBin, res, stepIdx, mix, PV.cells, argSlots, Nat.reduceBEq, Nat.reduceBeqDiff, Nat.add_assoc nid, Nat.reduceAdd, reduceCtorEq, ↓reduceIte, Nat.reduceLeDiff, colPV, freeOf, indep, offO, neqO, disj, namesX, axSlot, opXs, rdXs, idsOf, idsOfs, lowH, lowAll, keys, Nat.reduceBneDiff, Option.toList, ← Int.ofNat_tmod, ← Int.ofNat_tdiv, optInt, fillP, repl, chunk, mkCols, mkCol, colInts, colBools, colStrs, colLits, colsApp, Col.app, tailOf, splice, colsPut, Col.put, mmFold, eqK, Nat.reduceLT, colsPaste, Col.paste, mNew, mkKey, keyIn, mGet, mPut]
  refine S2.dec (fun h3 => ?_) (fun h3 => ?_) <;> simp -dsimp only [aqT, ROp, OX, ↓seqK, ↓blkK, ↓loopK, step, stepBin, res, stepIdx, mix, PV.cells, argSlots, Nat.reduceBEq, Nat.reduceBeqDiff, Nat.add_assoc nid, Nat.reduceAdd, reduceCtorEq, ↓reduceIte, Nat.reduceLeDiff, colPV, freeOf, indep, offO, neqO, disj, namesX, axSlot, opXs, rdXs, idsOf, idsOfs, lowH, lowAll, keys, Nat.reduceBneDiff, Option.toList, ← Int.ofNat_tmod, ← Int.ofNat_tdiv, optInt, fillP, repl, chunk, mkCols, mkCol, colInts, colBools, colStrs, colLits, colsApp, Col.app, tailOf, splice, colsPut, Col.put, mmFold, eqK, Nat.reduceLT, colsPaste, Col.paste, mNew, mkKey, keyIn, mGet, mPut]
  · have hkl : k < P.length := by omega
    obtain ⟨g1, g2⟩ := badGet p0 hkl hb
    refine ⟨by omega, ?_⟩
    refine CallO.pure (out_c _ _ _ _) ?_
    simp -dsimp only [aqT, ROp, OX, ↓seqK, ↓blkK, ↓loopK, step, stepBin, res, stepIdx, mix, PV.cells, argSlots, Nat.reduceBEq, Nat.reduceBeqDiff, Nat.add_assoc nid, Nat.reduceAdd, reduceCtorEq, ↓reduceIte, Nat.reduceLeDiff, colPV, freeOf, indep, offO, neqO, disj, namesX, axSlot, opXs, rdXs, idsOf, idsOfs, lowH, lowAll, keys, Nat.reduceBneDiff, Option.toList, ← Int.ofNat_tmod, ← Int.ofNat_tdiv, optInt, fillP, repl, chunk, mkCols, mkCol, colInts, colBools, colStrs, colLits, colsApp, Col.app, tailOf, splice, colsPut, Col.put, mmFold, eqK, Nat.reduceLT, colsPaste, Col.paste, mNew, mkKey, keyIn, mGet, mPut]
    cases ho : outB (P.getD k p0).1 (-1000) 1000 <;> simp -dsimp only [aqT, ROp, OX, ↓seqK, ↓blkK, ↓loopK, step, stepBin, res, stepIdx, mix, PV.cells, argSlots, Nat.reduceBEq, Nat.reduceBeqDiff, Nat.add_assoc nid, Nat.reduceAdd, reduceCtorEq, ↓reduceIte, Nat.reduceLeDiff, colPV, freeOf, indep, offO, neqO, disj, namesX, axSlot, opXs, rdXs, idsOf, idsOfs, lowH, lowAll, keys, Nat.reduceBneDiff, Option.toList, ← Int.ofNat_tmod, ← Int.ofNat_tdiv, optInt, fillP, repl, chunk, mkCols, mkCol, colInts, colBools, colStrs, colLits, colsApp, Col.app, tailOf, splice, colsPut, Col.put, mmFold, eqK, Nat.reduceLT, colsPaste, Col.paste, mNew, mkKey, keyIn, mGet, mPut]
    · refine CallO.pure (out_c _ _ _ _) ?_
      simp -dsimp only [aqT, ROp, OX, ↓seqK, ↓blkK, ↓loopK, step, stepBin, res, stepIdx, mix, PV.cells, argSlots, Nat.reduceBEq, Nat.reduceBeqDiff, Nat.add_assoc nid, Nat.reduceAdd, reduceCtorEq, ↓reduceIte, Nat.reduceLeDiff, colPV, freeOf, indep, offO, neqO, disj, namesX, axSlot, opXs, rdXs, idsOf, idsOfs, lowH, lowAll, keys, Nat.reduceBneDiff, Option.toList, ← Int.ofNat_tmod, ← Int.ofNat_tdiv, optInt, fillP, repl, chunk, mkCols, mkCol, colInts, colBools, colStrs, colLits, colsApp, Col.app, tailOf, splice, colsPut, Col.put, mmFold, eqK, Nat.reduceLT, colsPaste, Col.paste, mNew, mkKey, keyIn, mGet, mPut]
      cases ho2 : outB (P.getD k p0).2 (-1000) 1000 <;> simp -dsimp only [aqT, ROp, OX, ↓seqK, ↓blkK, ↓loopK, step, stepBin, res, stepIdx, mix, PV.cells, argSlots, Nat.reduceBEq, Nat.reduceBeqDiff, Nat.add_assoc nid, Nat.reduceAdd, reduceCtorEq, ↓reduceIte, Nat.reduceLeDiff, colPV, freeOf, indep, offO, neqO, disj, namesX, axSlot, opXs, rdXs, idsOf, idsOfs, lowH, lowAll, keys, Nat.reduceBneDiff, Option.toList, ← Int.ofNat_tmod, ← Int.ofNat_tdiv, optInt, fillP, repl, chunk, mkCols, mkCol, colInts, colBools, colStrs, colLits, colsApp, Col.app, tailOf, splice, colsPut, Col.put, mmFold, eqK, Nat.reduceLT, colsPaste, Col.paste, mNew, mkKey, keyIn, mGet, mPut]
      · refine ⟨by unfold inI64; omega, k + 1, ⟨⟨by omega, g1 (by unfold ptBad; rw [ho, ho2]; rfl)⟩, by omega⟩, Cov.go [] [] ?_⟩
        simp [retPV, over, keys, List.map_nil, List.map_cons, List.contains_cons, List.contains_nil, Bool.or_false, Bool.or_true, Bool.true_or, Bool.false_or, beq_self_eq_true, cond_true, cond_false, HeapCov, orNil, nilSz, onBlk, srcOf, getH_hit, getH_miss, getH.eq_1, getS_hit, getS_miss, getS.eq_1, BlkCov, PVCovs, PVCov, ColsEq, ColEq.refl, liveIds, SlotsCov, List.all_nil, List.all_cons, List.any_nil, List.any_cons, List.nil_append, List.cons_append, inRange, apart, nilBlk, idS1, idS2, readAll, readRes, onAll, step, res, AX.val, List.drop_zero, List.drop_succ_cons, List.take_succ_cons, List.take_zero, litP]
      · have hbad : ptBad (P.getD k p0) = 1 := by unfold ptBad; rw [ho, ho2]; rfl
        have hf : routeFault P = 1 := by rw [hfb, g2 (by omega), hbad]
        obtain ⟨b1, b2⟩ := bad (by omega)
        rw [b1, b2, hf]
        refine RetOK.go [] [(nid, 1)] (.inl rfl) ?_
        simp [retPV, over, keys, List.map_nil, List.map_cons, List.contains_cons, List.contains_nil, Bool.or_false, Bool.or_true, Bool.true_or, Bool.false_or, beq_self_eq_true, cond_true, cond_false, HeapCov, orNil, nilSz, onBlk, srcOf, getH_hit, getH_miss, getH.eq_1, getS_hit, getS_miss, getS.eq_1, BlkCov, PVCovs, PVCov, ColsEq, ColEq.refl, liveIds, SlotsCov, List.all_nil, List.all_cons, List.any_nil, List.any_cons, List.nil_append, List.cons_append, inRange, apart, nilBlk, idS1, idS2, readAll, readRes, onAll, step, res, AX.val, List.drop_zero, List.drop_succ_cons, List.take_succ_cons, List.take_zero, a12, arrI]
    · have hbad : ptBad (P.getD k p0) = 1 := by unfold ptBad; rw [ho]; rfl
      have hf : routeFault P = 1 := by rw [hfb, g2 (by omega), hbad]
      obtain ⟨b1, b2⟩ := bad (by omega)
      rw [b1, b2, hf]
      refine RetOK.go [] [(nid, 1)] (.inl rfl) ?_
      simp [retPV, over, keys, List.map_nil, List.map_cons, List.contains_cons, List.contains_nil, Bool.or_false, Bool.or_true, Bool.true_or, Bool.false_or, beq_self_eq_true, cond_true, cond_false, HeapCov, orNil, nilSz, onBlk, srcOf, getH_hit, getH_miss, getH.eq_1, getS_hit, getS_miss, getS.eq_1, BlkCov, PVCovs, PVCov, ColsEq, ColEq.refl, liveIds, SlotsCov, List.all_nil, List.all_cons, List.any_nil, List.any_cons, List.nil_append, List.cons_append, inRange, apart, nilBlk, idS1, idS2, readAll, readRes, onAll, step, res, AX.val, List.drop_zero, List.drop_succ_cons, List.take_succ_cons, List.take_zero, a12, arrI]
  have hkn : k = P.length := by omega
  subst hkn
  rw [List.take_length] at hb
  have hf : routeFault P = 0 := by rw [hfb, hb]
  obtain ⟨hne, hP⟩ := routeFault_ok hf
  obtain ⟨bl, bs, hbv⟩ := routeV_some hne
  have e1 : routeL P = bl := by unfold routeL bestL; rw [if_pos hf, hbv]
  have e2 : routeS P = bs := by unfold routeS bSum; rw [if_pos hf, hbv]
  rw [e1, e2, hf]
  have hw := walk_c nl P hP P.length [0] 0 none (nid + 1016) (nid + 1008) (nid + 1) (nid + 1028) (by omega) (by omega) (by omega) (by omega) (by omega) (by omega) (by simp; omega) (by omega) (by simp) (fun x hx => by
    rw [List.mem_singleton] at hx; omega) (by omega) (by simp) (fun l s e => by cases e)
  have hbv' : rtGo P P.length [0] 0 none = some (bl, bs) := hbv
  rw [hbv'] at hw
  unfold rtBox arrI litP bPV bH bSum at hw
  simp only [arrI] at hw
  refine CallO.on hw (subH_cons (by simp only [aqT, ROp, OX, ↓seqK, ↓blkK, ↓loopK, step, stepBin, res, stepIdx, mix, PV.cells, argSlots, Nat.reduceBEq, Nat.reduceBeqDiff, Nat.add_assoc nid, Nat.reduceAdd, reduceCtorEq, ↓reduceIte, Nat.reduceLeDiff, colPV, freeOf, indep, offO, neqO, disj, namesX, axSlot, opXs, rdXs, idsOf, idsOfs, lowH, lowAll, keys, Nat.reduceBneDiff, Option.toList, ← Int.ofNat_tmod, ← Int.ofNat_tdiv, optInt, fillP, repl, chunk, mkCols, mkCol, colInts, colBools, colStrs, colLits, colsApp, Col.app, tailOf, splice, colsPut, Col.put, mmFold, eqK, Nat.reduceLT, colsPaste, Col.paste, mNew, mkKey, keyIn, mGet, mPut]) (subH_cons (by simp only [aqT, ROp, OX, ↓seqK, ↓blkK, ↓loopK, step, stepBin, res, stepIdx, mix, PV.cells, argSlots, Nat.reduceBEq, Nat.reduceBeqDiff, Nat.add_assoc nid, Nat.reduceAdd, reduceCtorEq, ↓reduceIte, Nat.reduceLeDiff, colPV, freeOf, indep, offO, neqO, disj, namesX, axSlot, opXs, rdXs, idsOf, idsOfs, lowH, lowAll, keys, Nat.reduceBneDiff, Option.toList, ← Int.ofNat_tmod, ← Int.ofNat_tdiv, optInt, fillP, repl, chunk, mkCols, mkCol, colInts, colBools, colStrs, colLits, colsApp, Col.app, tailOf, splice, colsPut, Col.put, mmFold, eqK, Nat.reduceLT, colsPaste, Col.paste, mNew, mkKey, keyIn, mGet, mPut]) (subH_cons (by simp only [aqT, ROp, OX, ↓seqK, ↓blkK, ↓loopK, step, stepBin, res, stepIdx, mix, PV.cells, argSlots, Nat.reduceBEq, Nat.reduceBeqDiff, Nat.add_assoc nid, Nat.reduceAdd, reduceCtorEq, ↓reduceIte, Nat.reduceLeDiff, colPV, freeOf, indep, offO, neqO, disj, namesX, axSlot, opXs, rdXs, idsOf, idsOfs, lowH, lowAll, keys, Nat.reduceBneDiff, Option.toList, ← Int.ofNat_tmod, ← Int.ofNat_tdiv, optInt, fillP, repl, chunk, mkCols, mkCol, colInts, colBools, colStrs, colLits, colsApp, Col.app, tailOf, splice, colsPut, Col.put, mmFold, eqK, Nat.reduceLT, colsPaste, Col.paste, mNew, mkKey, keyIn, mGet, mPut]) (subH_nil _)))) ?_
  simp -dsimp only [aqT, ROp, OX, ↓seqK, ↓blkK, ↓loopK, step, stepBin, res, stepIdx, mix, PV.cells, argSlots, Nat.reduceBEq, Nat.reduceBeqDiff, Nat.add_assoc nid, Nat.reduceAdd, reduceCtorEq, ↓reduceIte, Nat.reduceLeDiff, colPV, freeOf, indep, offO, neqO, disj, namesX, axSlot, opXs, rdXs, idsOf, idsOfs, lowH, lowAll, keys, Nat.reduceBneDiff, Option.toList, ← Int.ofNat_tmod, ← Int.ofNat_tdiv, optInt, fillP, repl, chunk, mkCols, mkCol, colInts, colBools, colStrs, colLits, colsApp, Col.app, tailOf, splice, colsPut, Col.put, mmFold, eqK, Nat.reduceLT, colsPaste, Col.paste, mNew, mkKey, keyIn, mGet, mPut]
  refine RetOK.go [(nid, nid + 1029)] [] (.inl rfl) ?_
  simp [retPV, over, keys, List.map_nil, List.map_cons, List.contains_cons, List.contains_nil, Bool.or_false, Bool.or_true, Bool.true_or, Bool.false_or, beq_self_eq_true, cond_true, cond_false, HeapCov, orNil, nilSz, onBlk, srcOf, getH_hit, getH_miss, getH.eq_1, getS_hit, getS_miss, getS.eq_1, BlkCov, PVCovs, PVCov, ColsEq, ColEq.refl, liveIds, SlotsCov, List.all_nil, List.all_cons, List.any_nil, List.any_cons, List.nil_append, List.cons_append, inRange, apart, nilBlk, idS1, idS2, readAll, readRes, onAll, step, res, AX.val, List.drop_zero, List.drop_succ_cons, List.take_succ_cons, List.take_zero, a12, arrI]
end Go.Proofs.Ytmgfcjblclanmaa
/-
  The document's shortest way: all orders tried, by the abstract machine.
-/
namespace Go.Proofs.Ytmgfcjblclanmaa
open Go.RowKit
set_option linter.unusedVariables false
set_option linter.unusedSimpArgs false
set_option maxRecDepth 100000
theorem routeFault_c (nl : Bool) (P : List Pt) (nid : Nat) (hl : P.length ≤ 1000000000) : ACall Try.prog 13 [litP nl P] [] nid (.int .i64 (routeFault P)) [] := by
  refine acall_run c13 (by simp [a13]) ?_
  unfold litP
  simp -dsimp only [aqT, ROp, OX, ↓seqK, ↓blkK, ↓loopK, step, stepBin, res, stepIdx, mix, PV.cells, argSlots, Nat.reduceBEq, Nat.reduceBeqDiff, Nat.add_assoc nid, Nat.reduceAdd, reduceCtorEq, ↓reduceIte, Nat.reduceLeDiff, colPV, freeOf, indep, offO, neqO, disj, namesX, axSlot, opXs, rdXs, idsOf, idsOfs, lowH, lowAll, keys, Nat.reduceBneDiff, Option.toList, ← Int.ofNat_tmod, ← Int.ofNat_tdiv, optInt, fillP, repl, chunk, mkCols, mkCol, colInts, colBools, colStrs, colLits, colsApp, Col.app, tailOf, splice, colsPut, Col.put, mmFold, eqK, Nat.reduceLT, colsPaste, Col.paste, mNew, mkKey, keyIn, mGet, mPut, a13]
  refine S2.intro (fun h => ?_) (fun h => ?_) <;> simp -dsimp only [aqT, ROp, OX, ↓seqK, ↓blkK, ↓loopK, step, stepBin, res, stepIdx, mix, PV.cells, argSlots, Nat.reduceBEq, Nat.reduceBeqDiff, Nat.add_assoc nid, Nat.reduceAdd, reduceCtorEq, ↓reduceIte, Nat.reduceLeDiff, colPV, freeOf, indep, offO, neqO, disj, namesX, axSlot, opXs, rdXs, idsOf, idsOfs, lowH, lowAll, keys, Nat.reduceBneDiff, Option.toList, ← Int.ofNat_tmod, ← Int.ofNat_tdiv, optInt, fillP, repl, chunk, mkCols, mkCol, colInts, colBools, colStrs, colLits, colsApp, Col.app, tailOf, splice, colsPut, Col.put, mmFold, eqK, Nat.reduceLT, colsPaste, Col.paste, mNew, mkKey, keyIn, mGet, mPut]
  · have h0 : P.length = 0 := by have : (P.length : Int) = 0 := by simpa using h
                                 omega
    have hf : routeFault P = 8 := by unfold routeFault; rw [if_pos h0]
    rw [hf]
    refine RetOK.pure (.inl rfl) rfl ?_
    simp [retPV, over, keys, List.map_nil, List.map_cons, List.contains_cons, List.contains_nil, Bool.or_false, Bool.or_true, Bool.true_or, Bool.false_or, beq_self_eq_true, cond_true, cond_false, HeapCov, orNil, nilSz, onBlk, srcOf, getH_hit, getH_miss, getH.eq_1, getS_hit, getS_miss, getS.eq_1, BlkCov, PVCovs, PVCov, ColsEq, ColEq.refl, liveIds, SlotsCov, List.all_nil, List.all_cons, List.any_nil, List.any_cons, List.nil_append, List.cons_append, inRange, apart, nilBlk, idS1, idS2, readAll, readRes, onAll, step, res, AX.val, List.drop_zero, List.drop_succ_cons, List.take_succ_cons, List.take_zero]
  have h0 : P.length ≠ 0 := by
    intro e
    rw [e] at h
    simp at h
  refine S2.dec (fun h2 => ?_) (fun h2 => ?_) <;> simp -dsimp only [aqT, ROp, OX, ↓seqK, ↓blkK, ↓loopK, step, stepBin, res, stepIdx, mix, PV.cells, argSlots, Nat.reduceBEq, Nat.reduceBeqDiff, Nat.add_assoc nid, Nat.reduceAdd, reduceCtorEq, ↓reduceIte, Nat.reduceLeDiff, colPV, freeOf, indep, offO, neqO, disj, namesX, axSlot, opXs, rdXs, idsOf, idsOfs, lowH, lowAll, keys, Nat.reduceBneDiff, Option.toList, ← Int.ofNat_tmod, ← Int.ofNat_tdiv, optInt, fillP, repl, chunk, mkCols, mkCol, colInts, colBools, colStrs, colLits, colsApp, Col.app, tailOf, splice, colsPut, Col.put, mmFold, eqK, Nat.reduceLT, colsPaste, Col.paste, mNew, mkKey, keyIn, mGet, mPut]
  · have hf : routeFault P = 2 := by unfold routeFault; rw [if_neg h0, if_pos (by omega)]
    rw [hf]
    refine RetOK.pure (.inl rfl) rfl ?_
    simp [retPV, over, keys, List.map_nil, List.map_cons, List.contains_cons, List.contains_nil, Bool.or_false, Bool.or_true, Bool.true_or, Bool.false_or, beq_self_eq_true, cond_true, cond_false, HeapCov, orNil, nilSz, onBlk, srcOf, getH_hit, getH_miss, getH.eq_1, getS_hit, getS_miss, getS.eq_1, BlkCov, PVCovs, PVCov, ColsEq, ColEq.refl, liveIds, SlotsCov, List.all_nil, List.all_cons, List.any_nil, List.any_cons, List.nil_append, List.cons_append, inRange, apart, nilBlk, idS1, idS2, readAll, readRes, onAll, step, res, AX.val, List.drop_zero, List.drop_succ_cons, List.take_succ_cons, List.take_zero]
  have hfb : routeFault P = firstBad ptBad P := by unfold routeFault; rw [if_neg h0, if_neg (by omega)]
  refine LP.mkP (fun k : Nat => k ≤ P.length ∧ firstBad ptBad (P.take k) = 0) (fun k : Nat => ⟨[(15, .int .i64 k), (14, .int .i64 P.length), (13, litP nl P)], [], nid + 1000, nid⟩) (fun k => P.length + 1 - k) 0 ?_ (Cov.go [] [] ?_) (fun k hk => ?_)
  · exact ⟨by omega, rfl⟩
  · simp [retPV, over, keys, List.map_nil, List.map_cons, List.contains_cons, List.contains_nil, Bool.or_false, Bool.or_true, Bool.true_or, Bool.false_or, beq_self_eq_true, cond_true, cond_false, HeapCov, orNil, nilSz, onBlk, srcOf, getH_hit, getH_miss, getH.eq_1, getS_hit, getS_miss, getS.eq_1, BlkCov, PVCovs, PVCov, ColsEq, ColEq.refl, liveIds, SlotsCov, List.all_nil, List.all_cons, List.any_nil, List.any_cons, List.nil_append, List.cons_append, inRange, apart, nilBlk, idS1, idS2, readAll, readRes, onAll, step, res, AX.val, List.drop_zero, List.drop_succ_cons, List.take_succ_cons, List.take_zero, litP]
  obtain ⟨hk, hb⟩ := hk
  unfold litP
  simp -dsimp only [aqT, ROp, OX, ↓seqK, ↓blkK, ↓loopK, step, stepBin, res, stepIdx, mix, PV.cells, argSlots, Nat.reduceBEq, Nat.reduceBeqDiff, Nat.add_assoc nid, Nat.reduceAdd, reduceCtorEq, ↓reduceIte, Nat.reduceLeDiff, colPV, freeOf, indep, offO, neqO, disj, namesX, axSlot, opXs, rdXs, idsOf, idsOfs, lowH, lowAll, keys, Nat.reduceBneDiff, Option.toList, ← Int.ofNat_tmod, ← Int.ofNat_tdiv, optInt, fillP, repl, chunk, mkCols, mkCol, colInts, colBools, colStrs, colLits, colsApp, Col.app, tailOf, splice, colsPut, Col.put, mmFold, eqK, Nat.reduceLT, colsPaste, Col.paste, mNew, mkKey, keyIn, mGet, mPut]
  refine S2.dec (fun h3 => ?_) (fun h3 => ?_) <;> simp -dsimp only [aqT, ROp, OX, ↓seqK, ↓blkK, ↓loopK, step, stepBin, res, stepIdx, mix, PV.cells, argSlots, Nat.reduceBEq, Nat.reduceBeqDiff, Nat.add_assoc nid, Nat.reduceAdd, reduceCtorEq, ↓reduceIte, Nat.reduceLeDiff, colPV, freeOf, indep, offO, neqO, disj, namesX, axSlot, opXs, rdXs, idsOf, idsOfs, lowH, lowAll, keys, Nat.reduceBneDiff, Option.toList, ← Int.ofNat_tmod, ← Int.ofNat_tdiv, optInt, fillP, repl, chunk, mkCols, mkCol, colInts, colBools, colStrs, colLits, colsApp, Col.app, tailOf, splice, colsPut, Col.put, mmFold, eqK, Nat.reduceLT, colsPaste, Col.paste, mNew, mkKey, keyIn, mGet, mPut]
  · have hkl : k < P.length := by omega
    obtain ⟨g1, g2⟩ := badGet p0 hkl hb
    refine ⟨by omega, ?_⟩
    refine CallO.pure (in_c _ _ _ _) ?_
    cases ho : outB (P.getD k p0).1 (-1000) 1000 <;> simp -dsimp only [aqT, ROp, OX, ↓seqK, ↓blkK, ↓loopK, step, stepBin, res, stepIdx, mix, PV.cells, argSlots, Nat.reduceBEq, Nat.reduceBeqDiff, Nat.add_assoc nid, Nat.reduceAdd, reduceCtorEq, ↓reduceIte, Nat.reduceLeDiff, colPV, freeOf, indep, offO, neqO, disj, namesX, axSlot, opXs, rdXs, idsOf, idsOfs, lowH, lowAll, keys, Nat.reduceBneDiff, Option.toList, ← Int.ofNat_tmod, ← Int.ofNat_tdiv, optInt, fillP, repl, chunk, mkCols, mkCol, colInts, colBools, colStrs, colLits, colsApp, Col.app, tailOf, splice, colsPut, Col.put, mmFold, eqK, Nat.reduceLT, colsPaste, Col.paste, mNew, mkKey, keyIn, mGet, mPut]
    · refine CallO.pure (in_c _ _ _ _) ?_
      cases ho2 : outB (P.getD k p0).2 (-1000) 1000 <;> simp -dsimp only [aqT, ROp, OX, ↓seqK, ↓blkK, ↓loopK, step, stepBin, res, stepIdx, mix, PV.cells, argSlots, Nat.reduceBEq, Nat.reduceBeqDiff, Nat.add_assoc nid, Nat.reduceAdd, reduceCtorEq, ↓reduceIte, Nat.reduceLeDiff, colPV, freeOf, indep, offO, neqO, disj, namesX, axSlot, opXs, rdXs, idsOf, idsOfs, lowH, lowAll, keys, Nat.reduceBneDiff, Option.toList, ← Int.ofNat_tmod, ← Int.ofNat_tdiv, optInt, fillP, repl, chunk, mkCols, mkCol, colInts, colBools, colStrs, colLits, colsApp, Col.app, tailOf, splice, colsPut, Col.put, mmFold, eqK, Nat.reduceLT, colsPaste, Col.paste, mNew, mkKey, keyIn, mGet, mPut]
      · refine ⟨by unfold inI64; omega, k + 1, ⟨⟨by omega, g1 (by unfold ptBad; rw [ho, ho2]; rfl)⟩, by omega⟩, Cov.go [] [] ?_⟩
        simp [retPV, over, keys, List.map_nil, List.map_cons, List.contains_cons, List.contains_nil, Bool.or_false, Bool.or_true, Bool.true_or, Bool.false_or, beq_self_eq_true, cond_true, cond_false, HeapCov, orNil, nilSz, onBlk, srcOf, getH_hit, getH_miss, getH.eq_1, getS_hit, getS_miss, getS.eq_1, BlkCov, PVCovs, PVCov, ColsEq, ColEq.refl, liveIds, SlotsCov, List.all_nil, List.all_cons, List.any_nil, List.any_cons, List.nil_append, List.cons_append, inRange, apart, nilBlk, idS1, idS2, readAll, readRes, onAll, step, res, AX.val, List.drop_zero, List.drop_succ_cons, List.take_succ_cons, List.take_zero, litP]
      · have hbad : ptBad (P.getD k p0) = 1 := by unfold ptBad; rw [ho, ho2]; rfl
        have hf : routeFault P = 1 := by rw [hfb, g2 (by omega), hbad]
        rw [hf]
        refine RetOK.pure (.inl rfl) rfl ?_
        simp [retPV, over, keys, List.map_nil, List.map_cons, List.contains_cons, List.contains_nil, Bool.or_false, Bool.or_true, Bool.true_or, Bool.false_or, beq_self_eq_true, cond_true, cond_false, HeapCov, orNil, nilSz, onBlk, srcOf, getH_hit, getH_miss, getH.eq_1, getS_hit, getS_miss, getS.eq_1, BlkCov, PVCovs, PVCov, ColsEq, ColEq.refl, liveIds, SlotsCov, List.all_nil, List.all_cons, List.any_nil, List.any_cons, List.nil_append, List.cons_append, inRange, apart, nilBlk, idS1, idS2, readAll, readRes, onAll, step, res, AX.val, List.drop_zero, List.drop_succ_cons, List.take_succ_cons, List.take_zero]
    · have hbad : ptBad (P.getD k p0) = 1 := by unfold ptBad; rw [ho]; rfl
      have hf : routeFault P = 1 := by rw [hfb, g2 (by omega), hbad]
      rw [hf]
      refine RetOK.pure (.inl rfl) rfl ?_
      simp [retPV, over, keys, List.map_nil, List.map_cons, List.contains_cons, List.contains_nil, Bool.or_false, Bool.or_true, Bool.true_or, Bool.false_or, beq_self_eq_true, cond_true, cond_false, HeapCov, orNil, nilSz, onBlk, srcOf, getH_hit, getH_miss, getH.eq_1, getS_hit, getS_miss, getS.eq_1, BlkCov, PVCovs, PVCov, ColsEq, ColEq.refl, liveIds, SlotsCov, List.all_nil, List.all_cons, List.any_nil, List.any_cons, List.nil_append, List.cons_append, inRange, apart, nilBlk, idS1, idS2, readAll, readRes, onAll, step, res, AX.val, List.drop_zero, List.drop_succ_cons, List.take_succ_cons, List.take_zero]
  have hkn : k = P.length := by omega
  subst hkn
  rw [List.take_length] at hb
  have hf : routeFault P = 0 := by rw [hfb, hb]
  rw [hf]
  refine RetOK.pure (.inl rfl) rfl ?_
  simp [retPV, over, keys, List.map_nil, List.map_cons, List.contains_cons, List.contains_nil, Bool.or_false, Bool.or_true, Bool.true_or, Bool.false_or, beq_self_eq_true, cond_true, cond_false, HeapCov, orNil, nilSz, onBlk, srcOf, getH_hit, getH_miss, getH.eq_1, getS_hit, getS_miss, getS.eq_1, BlkCov, PVCovs, PVCov, ColsEq, ColEq.refl, liveIds, SlotsCov, List.all_nil, List.all_cons, List.any_nil, List.any_cons, List.nil_append, List.cons_append, inRange, apart, nilBlk, idS1, idS2, readAll, readRes, onAll, step, res, AX.val, List.drop_zero, List.drop_succ_cons, List.take_succ_cons, List.take_zero]
def bLit : Best → PV
  | none => .lit true 0 []
  | some (l, _) => litI false l
def bLeast : Best → Int
  | none => -1
  | some (_, s) => s
def eBox (b : Best) : Option ABlk := some (.box 3 [.int .i64 (bLeast b)])
def bBox (b : Best) : Option ABlk := some (.box 22 [bLit b])
def pBox (nl : Bool) (P : List Pt) : Option ABlk := some (.box 26 [litP nl P])
def tBox (e p b t : Nat) : Option ABlk := some (.box 95 [.fn 60 [.ptr e 0, .ptr p 0, .ptr b 0, .ptr t 0]])
theorem bLit_cov (n : Nat) (r : List (Nat × Nat)) (z : List (Nat × Nat)) (b : Best) : PVCov n r z (bLit b) (bLit b) := by
  cases b with
  | none => simp [retPV, over, keys, List.map_nil, List.map_cons, List.contains_cons, List.contains_nil, Bool.or_false, Bool.or_true, Bool.true_or, Bool.false_or, beq_self_eq_true, cond_true, cond_false, HeapCov, orNil, nilSz, onBlk, srcOf, getH_hit, getH_miss, getH.eq_1, getS_hit, getS_miss, getS.eq_1, BlkCov, PVCovs, PVCov, ColsEq, ColEq.refl, liveIds, SlotsCov, List.all_nil, List.all_cons, List.any_nil, List.any_cons, List.nil_append, List.cons_append, inRange, apart, nilBlk, idS1, idS2, readAll, readRes, onAll, step, res, AX.val, List.drop_zero, List.drop_succ_cons, List.take_succ_cons, List.take_zero, bLit]
  | some x => simp [retPV, over, keys, List.map_nil, List.map_cons, List.contains_cons, List.contains_nil, Bool.or_false, Bool.or_true, Bool.true_or, Bool.false_or, beq_self_eq_true, cond_true, cond_false, HeapCov, orNil, nilSz, onBlk, srcOf, getH_hit, getH_miss, getH.eq_1, getS_hit, getS_miss, getS.eq_1, BlkCov, PVCovs, PVCov, ColsEq, ColEq.refl, liveIds, SlotsCov, List.all_nil, List.all_cons, List.any_nil, List.any_cons, List.nil_append, List.cons_append, inRange, apart, nilBlk, idS1, idS2, readAll, readRes, onAll, step, res, AX.val, List.drop_zero, List.drop_succ_cons, List.take_succ_cons, List.take_zero, bLit, litI]
theorem bLit_ids (b : Best) : idsOf (bLit b) = [] := by
  cases b with
  | none => rfl
  | some x => rfl
set_option maxHeartbeats 4000000 in
theorem try_c (nlp : Bool) (P : List Pt) (hP : PtsOk P) (e p bb t : Nat) (hep : e ≠ p) (heb : e ≠ bb) (het : e ≠ t) (hpb : p ≠ bb) (hpt : p ≠ t) (hbt : bb ≠ t) : ∀ (f : Nat) (now : List Int) (nl : Bool) (sum : Int) (b : Best) (nid : Nat), e < nid → p < nid → bb < nid → t < nid →
    now.length + f = P.length + 1 → 0 < f → 0 < now.length → (∀ x ∈ now, 0 ≤ x ∧ x < (P.length : Int)) → 0 ≤ sum → sum ≤ 2000 * ((now.length : Int) - 1) → BestOk P b →
    ACall Try.prog 60 [litI nl now, .int .i64 sum, .ptr e 0, .ptr p 0, .ptr bb 0, .ptr t 0] [(e, eBox b), (p, pBox nlp P), (bb, bBox b), (t, tBox e p bb t)] nid (.tup [])
      [(e, eBox (rtGo P f now sum b)), (bb, bBox (rtGo P f now sum b))]
  | 0, _, _, _, _, _, _, _, _, _, _, h, _, _, _, _, _ => absurd h (by omega)
  | f + 1, now, nl, sum, b, nid, he, hp, hb', ht, hlen, _, hn0, hnow, h0, h1, hb => by
    refine ACall.nonnil 0 rfl (fun hnl => ?_)
    have hnlf : nl = false := by
      cases nl with
      | false => rfl
      | true => have := hnl rfl; omega
    subst hnlf
    obtain ⟨e1, e2, e3, e4, e5, e6, e7, e8, e9⟩ := id_all he
    obtain ⟨a1, a2, a3, a4, a5, a6, a7, a8, a9⟩ := id_all hp
    obtain ⟨b1, b2, b3, b4, b5, b6, b7, b8, b9⟩ := id_all hb'
    obtain ⟨c1, c2, c3, c4, c5, c6, c7, c8, c9⟩ := id_all ht
    have d1 : (e == p) = false := by simpa using hep
    have d2 : (e == bb) = false := by simpa using heb
    have d3 : (e == t) = false := by simpa using het
    have d4 : (p == bb) = false := by simpa using hpb
    have d5 : (p == t) = false := by simpa using hpt
    have d6 : (bb == t) = false := by simpa using hbt
    have k1 : (p == e) = false := by simpa using fun x => hep x.symm
    have k2 : (bb == e) = false := by simpa using fun x => heb x.symm
    have k3 : (t == e) = false := by simpa using fun x => het x.symm
    have k4 : (bb == p) = false := by simpa using fun x => hpb x.symm
    have k5 : (t == p) = false := by simpa using fun x => hpt x.symm
    have k6 : (t == bb) = false := by simpa using fun x => hbt x.symm
    have g1 : ¬ p = e := fun x => hep x.symm
    have g2 : ¬ bb = e := fun x => heb x.symm
    have g3 : ¬ t = e := fun x => het x.symm
    have g4 : ¬ bb = p := fun x => hpb x.symm
    have g5 : ¬ t = p := fun x => hpt x.symm
    have g6 : ¬ t = bb := fun x => hbt x.symm
    have hPl := hP.len
    refine acall_sr c60 (by simp [a60]) ?_
    unfold a60
    refine SR.seqEx (ι := PLift (cutB b sum = false)) (fun _ => ⟨[(0, litI false now), (1, .int .i64 sum), (2, .ptr e 0), (3, .ptr p 0), (4, .ptr bb 0), (5, .ptr t 0)], [(e, eBox b), (p, pBox nlp P), (bb, bBox b), (t, tBox e p bb t)], nid + 100, nid⟩) ?_ (fun hcut => ?_)
    · cases b with
      | none =>
        unfold eBox pBox bBox tBox bLit bLeast litI litP
        simp -dsimp only [aqT, ROp, OX, ↓seqK, ↓blkK, ↓loopK, step, stepBin, res, stepIdx, mix, PV.cells, argSlots, Nat.reduceBEq, Nat.reduceBeqDiff, Nat.add_assoc nid, Nat.reduceAdd, reduceCtorEq, ↓reduceIte, Nat.reduceLeDiff, colPV, freeOf, indep, offO, neqO, disj, namesX, axSlot, opXs, rdXs, idsOf, idsOfs, lowH, lowAll, keys, Nat.reduceBneDiff, Option.toList, ← Int.ofNat_tmod, ← Int.ofNat_tdiv, optInt, fillP, repl, chunk, mkCols, mkCol, colInts, colBools, colStrs, colLits, colsApp, Col.app, tailOf, splice, colsPut, Col.put, mmFold, eqK, Nat.reduceLT, colsPaste, Col.paste, mNew, mkKey, keyIn, mGet, mPut, Int.cast_ofNat_Int, Int.reduceBEq, Int.reduceBNe, Int.reduceLT, Int.reduceLE, Int.reduceAdd, Int.reduceSub, Int.reduceMul, Int.reduceToNat, Int.reduceNeg, Int.reduceTMod, Int.reduceEq, not_false_eq_true, Int.reducePow, Int.reduceFDiv, Nat.reducePow, Nat.reduceSub, Nat.reduceMul, Nat.min_eq_left, Nat.reduceEqDiff, BEq.rfl, Int.tdiv_one, LN_succ, e1, e2, e3, e4, e5, e6, e7, e8, e9, a1, a2, a3, a4, a5, a6, a7, a8, a9, b1, b2, b3, b4, b5, b6, b7, b8, b9, c1, c2, c3, c4, c5, c6, c7, c8, c9, d1, d2, d3, d4, d5, d6, k1, k2, k3, k4, k5, k6, g1, g2, g3, g4, g5, g6, hep, heb, het, hpb, hpt, hbt]
        refine ⟨⟨rfl⟩, Cov.go [] [] ?_⟩
        simp [retPV, over, keys, List.map_nil, List.map_cons, List.contains_cons, List.contains_nil, Bool.or_false, Bool.or_true, Bool.true_or, Bool.false_or, beq_self_eq_true, cond_true, cond_false, HeapCov, orNil, nilSz, onBlk, srcOf, getH_hit, getH_miss, getH.eq_1, getS_hit, getS_miss, getS.eq_1, BlkCov, PVCovs, PVCov, ColsEq, ColEq.refl, liveIds, SlotsCov, List.all_nil, List.all_cons, List.any_nil, List.any_cons, List.nil_append, List.cons_append, inRange, apart, nilBlk, idS1, idS2, readAll, readRes, onAll, step, res, AX.val, List.drop_zero, List.drop_succ_cons, List.take_succ_cons, List.take_zero, e1, e2, e3, e4, e5, e6, e7, e8, e9, a1, a2, a3, a4, a5, a6, a7, a8, a9, b1, b2, b3, b4, b5, b6, b7, b8, b9, c1, c2, c3, c4, c5, c6, c7, c8, c9, d1, d2, d3, d4, d5, d6, k1, k2, k3, k4, k5, k6, g1, g2, g3, g4, g5, g6, hep, heb, het, hpb, hpt, hbt, litI, litP, eBox, pBox, bBox, tBox, bLit, bLeast]
      | some lb =>
        obtain ⟨bl, bs⟩ := lb
        obtain ⟨hbl, hb0, hb1⟩ := hb bl bs rfl
        have hd : decide (0 ≤ bs) = true := by simpa using hb0
        unfold eBox pBox bBox tBox bLit bLeast litI litP
        simp -dsimp only [aqT, ROp, OX, ↓seqK, ↓blkK, ↓loopK, step, stepBin, res, stepIdx, mix, PV.cells, argSlots, Nat.reduceBEq, Nat.reduceBeqDiff, Nat.add_assoc nid, Nat.reduceAdd, reduceCtorEq, ↓reduceIte, Nat.reduceLeDiff, colPV, freeOf, indep, offO, neqO, disj, namesX, axSlot, opXs, rdXs, idsOf, idsOfs, lowH, lowAll, keys, Nat.reduceBneDiff, Option.toList, ← Int.ofNat_tmod, ← Int.ofNat_tdiv, optInt, fillP, repl, chunk, mkCols, mkCol, colInts, colBools, colStrs, colLits, colsApp, Col.app, tailOf, splice, colsPut, Col.put, mmFold, eqK, Nat.reduceLT, colsPaste, Col.paste, mNew, mkKey, keyIn, mGet, mPut, e1, e2, e3, e4, e5, e6, e7, e8, e9, a1, a2, a3, a4, a5, a6, a7, a8, a9, b1, b2, b3, b4, b5, b6, b7, b8, b9, c1, c2, c3, c4, c5, c6, c7, c8, c9, d1, d2, d3, d4, d5, d6, k1, k2, k3, k4, k5, k6, g1, g2, g3, g4, g5, g6, hep, heb, het, hpb, hpt, hbt, hd]
        refine S2.dec (fun h => ?_) (fun h => ?_) <;> simp -dsimp only [aqT, ROp, OX, ↓seqK, ↓blkK, ↓loopK, step, stepBin, res, stepIdx, mix, PV.cells, argSlots, Nat.reduceBEq, Nat.reduceBeqDiff, Nat.add_assoc nid, Nat.reduceAdd, reduceCtorEq, ↓reduceIte, Nat.reduceLeDiff, colPV, freeOf, indep, offO, neqO, disj, namesX, axSlot, opXs, rdXs, idsOf, idsOfs, lowH, lowAll, keys, Nat.reduceBneDiff, Option.toList, ← Int.ofNat_tmod, ← Int.ofNat_tdiv, optInt, fillP, repl, chunk, mkCols, mkCol, colInts, colBools, colStrs, colLits, colsApp, Col.app, tailOf, splice, colsPut, Col.put, mmFold, eqK, Nat.reduceLT, colsPaste, Col.paste, mNew, mkKey, keyIn, mGet, mPut, e1, e2, e3, e4, e5, e6, e7, e8, e9, a1, a2, a3, a4, a5, a6, a7, a8, a9, b1, b2, b3, b4, b5, b6, b7, b8, b9, c1, c2, c3, c4, c5, c6, c7, c8, c9, d1, d2, d3, d4, d5, d6, k1, k2, k3, k4, k5, k6, g1, g2, g3, g4, g5, g6, hep, heb, het, hpb, hpt, hbt]
        · rw [rtGo_cut (show cutB (some (bl, bs)) sum = true by simp [cutB, h])]
          refine RetOK.go [] [] (.inl rfl) ?_
          simp [retPV, over, keys, List.map_nil, List.map_cons, List.contains_cons, List.contains_nil, Bool.or_false, Bool.or_true, Bool.true_or, Bool.false_or, beq_self_eq_true, cond_true, cond_false, HeapCov, orNil, nilSz, onBlk, srcOf, getH_hit, getH_miss, getH.eq_1, getS_hit, getS_miss, getS.eq_1, BlkCov, PVCovs, PVCov, ColsEq, ColEq.refl, liveIds, SlotsCov, List.all_nil, List.all_cons, List.any_nil, List.any_cons, List.nil_append, List.cons_append, inRange, apart, nilBlk, idS1, idS2, readAll, readRes, onAll, step, res, AX.val, List.drop_zero, List.drop_succ_cons, List.take_succ_cons, List.take_zero, e1, e2, e3, e4, e5, e6, e7, e8, e9, a1, a2, a3, a4, a5, a6, a7, a8, a9, b1, b2, b3, b4, b5, b6, b7, b8, b9, c1, c2, c3, c4, c5, c6, c7, c8, c9, d1, d2, d3, d4, d5, d6, k1, k2, k3, k4, k5, k6, g1, g2, g3, g4, g5, g6, hep, heb, het, hpb, hpt, hbt, a60, litI, litP, eBox, pBox, bBox, tBox, bLit, bLeast]
        · refine ⟨⟨by simp [cutB]; omega⟩, Cov.go [] [] ?_⟩
          simp [retPV, over, keys, List.map_nil, List.map_cons, List.contains_cons, List.contains_nil, Bool.or_false, Bool.or_true, Bool.true_or, Bool.false_or, beq_self_eq_true, cond_true, cond_false, HeapCov, orNil, nilSz, onBlk, srcOf, getH_hit, getH_miss, getH.eq_1, getS_hit, getS_miss, getS.eq_1, BlkCov, PVCovs, PVCov, ColsEq, ColEq.refl, liveIds, SlotsCov, List.all_nil, List.all_cons, List.any_nil, List.any_cons, List.nil_append, List.cons_append, inRange, apart, nilBlk, idS1, idS2, readAll, readRes, onAll, step, res, AX.val, List.drop_zero, List.drop_succ_cons, List.take_succ_cons, List.take_zero, e1, e2, e3, e4, e5, e6, e7, e8, e9, a1, a2, a3, a4, a5, a6, a7, a8, a9, b1, b2, b3, b4, b5, b6, b7, b8, b9, c1, c2, c3, c4, c5, c6, c7, c8, c9, d1, d2, d3, d4, d5, d6, k1, k2, k3, k4, k5, k6, g1, g2, g3, g4, g5, g6, hep, heb, het, hpb, hpt, hbt, litI, litP, eBox, pBox, bBox, tBox, bLit, bLeast]
    have hcut : cutB b sum = false := hcut.down
    -- are all points in it
    refine SR.seqEx (ι := PLift (now.length ≠ P.length)) (fun _ => ⟨[(0, litI false now), (1, .int .i64 sum), (2, .ptr e 0), (3, .ptr p 0), (4, .ptr bb 0), (5, .ptr t 0)], [(e, eBox b), (p, pBox nlp P), (bb, bBox b), (t, tBox e p bb t)], nid + 200, nid⟩) ?_ (fun hfull => ?_)
    · unfold eBox pBox bBox tBox litI litP
      simp -dsimp only [aqT, ROp, OX, ↓seqK, ↓blkK, ↓loopK, step, stepBin, res, stepIdx, mix, PV.cells, argSlots, Nat.reduceBEq, Nat.reduceBeqDiff, Nat.add_assoc nid, Nat.reduceAdd, reduceCtorEq, ↓reduceIte, Nat.reduceLeDiff, colPV, freeOf, indep, offO, neqO, disj, namesX, axSlot, opXs, rdXs, idsOf, idsOfs, lowH, lowAll, keys, Nat.reduceBneDiff, Option.toList, ← Int.ofNat_tmod, ← Int.ofNat_tdiv, optInt, fillP, repl, chunk, mkCols, mkCol, colInts, colBools, colStrs, colLits, colsApp, Col.app, tailOf, splice, colsPut, Col.put, mmFold, eqK, Nat.reduceLT, colsPaste, Col.paste, mNew, mkKey, keyIn, mGet, mPut, e1, e2, e3, e4, e5, e6, e7, e8, e9, a1, a2, a3, a4, a5, a6, a7, a8, a9, b1, b2, b3, b4, b5, b6, b7, b8, b9, c1, c2, c3, c4, c5, c6, c7, c8, c9, d1, d2, d3, d4, d5, d6, k1, k2, k3, k4, k5, k6, g1, g2, g3, g4, g5, g6, hep, heb, het, hpb, hpt, hbt]
      refine S2.intro (fun h => ?_) (fun h => ?_) <;> simp -dsimp only [aqT, ROp, OX, ↓seqK, ↓blkK, ↓loopK, step, stepBin, res, stepIdx, mix, PV.cells, argSlots, Nat.reduceBEq, Nat.reduceBeqDiff, Nat.add_assoc nid, Nat.reduceAdd, reduceCtorEq, ↓reduceIte, Nat.reduceLeDiff, colPV, freeOf, indep, offO, neqO, disj, namesX, axSlot, opXs, rdXs, idsOf, idsOfs, lowH, lowAll, keys, Nat.reduceBneDiff, Option.toList, ← Int.ofNat_tmod, ← Int.ofNat_tdiv, optInt, fillP, repl, chunk, mkCols, mkCol, colInts, colBools, colStrs, colLits, colsApp, Col.app, tailOf, splice, colsPut, Col.put, mmFold, eqK, Nat.reduceLT, colsPaste, Col.paste, mNew, mkKey, keyIn, mGet, mPut, e1, e2, e3, e4, e5, e6, e7, e8, e9, a1, a2, a3, a4, a5, a6, a7, a8, a9, b1, b2, b3, b4, b5, b6, b7, b8, b9, c1, c2, c3, c4, c5, c6, c7, c8, c9, d1, d2, d3, d4, d5, d6, k1, k2, k3, k4, k5, k6, g1, g2, g3, g4, g5, g6, hep, heb, het, hpb, hpt, hbt]
      · have hn : now.length = P.length := by have : (now.length : Int) = P.length := by simpa using h
                                              omega
        rw [rtGo_full hcut hn]
        refine RetOK.go [] [] (.inl rfl) ?_
        simp [retPV, over, keys, List.map_nil, List.map_cons, List.contains_cons, List.contains_nil, Bool.or_false, Bool.or_true, Bool.true_or, Bool.false_or, beq_self_eq_true, cond_true, cond_false, HeapCov, orNil, nilSz, onBlk, srcOf, getH_hit, getH_miss, getH.eq_1, getS_hit, getS_miss, getS.eq_1, BlkCov, PVCovs, PVCov, ColsEq, ColEq.refl, liveIds, SlotsCov, List.all_nil, List.all_cons, List.any_nil, List.any_cons, List.nil_append, List.cons_append, inRange, apart, nilBlk, idS1, idS2, readAll, readRes, onAll, step, res, AX.val, List.drop_zero, List.drop_succ_cons, List.take_succ_cons, List.take_zero, e1, e2, e3, e4, e5, e6, e7, e8, e9, a1, a2, a3, a4, a5, a6, a7, a8, a9, b1, b2, b3, b4, b5, b6, b7, b8, b9, c1, c2, c3, c4, c5, c6, c7, c8, c9, d1, d2, d3, d4, d5, d6, k1, k2, k3, k4, k5, k6, g1, g2, g3, g4, g5, g6, hep, heb, het, hpb, hpt, hbt, a60, litI, litP, eBox, pBox, bBox, tBox, bLit, bLeast]
      · refine ⟨⟨fun e => by simp [e] at h⟩, Cov.go [] [] ?_⟩
        simp [retPV, over, keys, List.map_nil, List.map_cons, List.contains_cons, List.contains_nil, Bool.or_false, Bool.or_true, Bool.true_or, Bool.false_or, beq_self_eq_true, cond_true, cond_false, HeapCov, orNil, nilSz, onBlk, srcOf, getH_hit, getH_miss, getH.eq_1, getS_hit, getS_miss, getS.eq_1, BlkCov, PVCovs, PVCov, ColsEq, ColEq.refl, liveIds, SlotsCov, List.all_nil, List.all_cons, List.any_nil, List.any_cons, List.nil_append, List.cons_append, inRange, apart, nilBlk, idS1, idS2, readAll, readRes, onAll, step, res, AX.val, List.drop_zero, List.drop_succ_cons, List.take_succ_cons, List.take_zero, e1, e2, e3, e4, e5, e6, e7, e8, e9, a1, a2, a3, a4, a5, a6, a7, a8, a9, b1, b2, b3, b4, b5, b6, b7, b8, b9, c1, c2, c3, c4, c5, c6, c7, c8, c9, d1, d2, d3, d4, d5, d6, k1, k2, k3, k4, k5, k6, g1, g2, g3, g4, g5, g6, hep, heb, het, hpb, hpt, hbt, litI, litP, eBox, pBox, bBox, tBox, bLit_cov]
    have hfull : now.length ≠ P.length := hfull.down
    rw [rtGo_more hcut hfull]
    have hlast : (now.getD (now.length - 1) 0) ∈ now := by
      rw [List.getD_eq_getElem?_getD, List.getElem?_eq_getElem (show now.length - 1 < now.length by omega)]
      exact List.getElem_mem _
    have hlb := hnow _ hlast
    obtain ⟨L, hL⟩ : ∃ L, now.getD (now.length - 1) 0 = (L : Nat) := ⟨_, (Int.toNat_of_nonneg hlb.1).symm⟩
    have hLp : lastP P now = P.getD L p0 := by unfold lastP; rw [hL, Int.toNat_natCast]
    have hn1 : ((now.length : Int) - 1).toNat = now.length - 1 := by omega
    refine SR.seq ?_
    unfold eBox pBox bBox tBox litI litP
    simp -dsimp only [aqT, ROp, OX, ↓seqK, ↓blkK, ↓loopK, step, stepBin, res, stepIdx, mix, PV.cells, argSlots, Nat.reduceBEq, Nat.reduceBeqDiff, Nat.add_assoc nid, Nat.reduceAdd, reduceCtorEq, ↓reduceIte, Nat.reduceLeDiff, colPV, freeOf, indep, offO, neqO, disj, namesX, axSlot, opXs, rdXs, idsOf, idsOfs, lowH, lowAll, keys, Nat.reduceBneDiff, Option.toList, ← Int.ofNat_tmod, ← Int.ofNat_tdiv, optInt, fillP, repl, chunk, mkCols, mkCol, colInts, colBools, colStrs, colLits, colsApp, Col.app, tailOf, splice, colsPut, Col.put, mmFold, eqK, Nat.reduceLT, colsPaste, Col.paste, mNew, mkKey, keyIn, mGet, mPut, e1, e2, e3, e4, e5, e6, e7, e8, e9, a1, a2, a3, a4, a5, a6, a7, a8, a9, b1, b2, b3, b4, b5, b6, b7, b8, b9, c1, c2, c3, c4, c5, c6, c7, c8, c9, d1, d2, d3, d4, d5, d6, k1, k2, k3, k4, k5, k6, g1, g2, g3, g4, g5, g6, hep, heb, het, hpb, hpt, hbt]
    rw [hn1, hL]
    refine ⟨by unfold inI64; omega, by omega, by omega, ?_⟩
    refine SR.run (t := .mk) ?_
    simp -dsimp only [aqT, ROp, OX, ↓seqK, ↓blkK, ↓loopK, step, stepBin, res, stepIdx, mix, PV.cells, argSlots, Nat.reduceBEq, Nat.reduceBeqDiff, Nat.add_assoc nid, Nat.reduceAdd, reduceCtorEq, ↓reduceIte, Nat.reduceLeDiff, colPV, freeOf, indep, offO, neqO, disj, namesX, axSlot, opXs, rdXs, idsOf, idsOfs, lowH, lowAll, keys, Nat.reduceBneDiff, Option.toList, ← Int.ofNat_tmod, ← Int.ofNat_tdiv, optInt, fillP, repl, chunk, mkCols, mkCol, colInts, colBools, colStrs, colLits, colsApp, Col.app, tailOf, splice, colsPut, Col.put, mmFold, eqK, Nat.reduceLT, colsPaste, Col.paste, mNew, mkKey, keyIn, mGet, mPut, e1, e2, e3, e4, e5, e6, e7, e8, e9, a1, a2, a3, a4, a5, a6, a7, a8, a9, b1, b2, b3, b4, b5, b6, b7, b8, b9, c1, c2, c3, c4, c5, c6, c7, c8, c9, d1, d2, d3, d4, d5, d6, k1, k2, k3, k4, k5, k6, g1, g2, g3, g4, g5, g6, hep, heb, het, hpb, hpt, hbt]
    refine LP.mkP (fun k : Nat => k ≤ P.length) (fun k : Nat => ⟨[(36, .int .i64 k), (35, .int .i64 P.length), (34, litP nlp P), (0, litI false now), (1, .int .i64 sum), (2, .ptr e 0), (3, .ptr p 0), (4, .ptr bb 0), (5, .ptr t 0), (8, .ptr (nid + 4) 0)],
      [(nid + 4, some (.box 31 [.int .i64 (P.getD L p0).1, .int .i64 (P.getD L p0).2])), (e, eBox (rtTo P f now sum b k)), (p, pBox nlp P), (bb, bBox (rtTo P f now sum b k)), (t, tBox e p bb t)], nid + 1000, nid⟩) (fun k => P.length + 1 - k) 0 (by omega) (Cov.go [(nid + 4, nid + 236)] [] ?_) (fun k hk => ?_)
    · have e0 : rtTo P f now sum b 0 = b := rfl
      rw [e0]
      simp [retPV, over, keys, List.map_nil, List.map_cons, List.contains_cons, List.contains_nil, Bool.or_false, Bool.or_true, Bool.true_or, Bool.false_or, beq_self_eq_true, cond_true, cond_false, HeapCov, orNil, nilSz, onBlk, srcOf, getH_hit, getH_miss, getH.eq_1, getS_hit, getS_miss, getS.eq_1, BlkCov, PVCovs, PVCov, ColsEq, ColEq.refl, liveIds, SlotsCov, List.all_nil, List.all_cons, List.any_nil, List.any_cons, List.nil_append, List.cons_append, inRange, apart, nilBlk, idS1, idS2, readAll, readRes, onAll, step, res, AX.val, List.drop_zero, List.drop_succ_cons, List.take_succ_cons, List.take_zero, e1, e2, e3, e4, e5, e6, e7, e8, e9, a1, a2, a3, a4, a5, a6, a7, a8, a9, b1, b2, b3, b4, b5, b6, b7, b8, b9, c1, c2, c3, c4, c5, c6, c7, c8, c9, d1, d2, d3, d4, d5, d6, k1, k2, k3, k4, k5, k6, g1, g2, g3, g4, g5, g6, hep, heb, het, hpb, hpt, hbt, litI, litP, eBox, pBox, bBox, tBox, bLit_cov]
    have hst := rtTo_succ P f now sum b k
    have hbk := rtTo_ok hP (f := f) (now := now) h0 (by omega) hb k
    have hbk1 := rtTo_ok hP (f := f) (now := now) h0 (by omega) hb (k + 1)
    unfold eBox pBox bBox tBox litI litP
    generalize hB : rtTo P f now sum b k = B at *
    simp -dsimp only [aqT, ROp, OX, ↓seqK, ↓blkK, ↓loopK, step, stepBin, res, stepIdx, mix, PV.cells, argSlots, Nat.reduceBEq, Nat.reduceBeqDiff, Nat.add_assoc nid, Nat.reduceAdd, reduceCtorEq, ↓reduceIte, Nat.reduceLeDiff, colPV, freeOf, indep, offO, neqO, disj, namesX, axSlot, opXs, rdXs, idsOf, idsOfs, lowH, lowAll, keys, Nat.reduceBneDiff, Option.toList, ← Int.ofNat_tmod, ← Int.ofNat_tdiv, optInt, fillP, repl, chunk, mkCols, mkCol, colInts, colBools, colStrs, colLits, colsApp, Col.app, tailOf, splice, colsPut, Col.put, mmFold, eqK, Nat.reduceLT, colsPaste, Col.paste, mNew, mkKey, keyIn, mGet, mPut, e1, e2, e3, e4, e5, e6, e7, e8, e9, a1, a2, a3, a4, a5, a6, a7, a8, a9, b1, b2, b3, b4, b5, b6, b7, b8, b9, c1, c2, c3, c4, c5, c6, c7, c8, c9, d1, d2, d3, d4, d5, d6, k1, k2, k3, k4, k5, k6, g1, g2, g3, g4, g5, g6, hep, heb, het, hpb, hpt, hbt]
    refine S2.dec (fun h3 => ?_) (fun h3 => ?_) <;> simp -dsimp only [aqT, ROp, OX, ↓seqK, ↓blkK, ↓loopK, step, stepBin, res, stepIdx, mix, PV.cells, argSlots, Nat.reduceBEq, Nat.reduceBeqDiff, Nat.add_assoc nid, Nat.reduceAdd, reduceCtorEq, ↓reduceIte, Nat.reduceLeDiff, colPV, freeOf, indep, offO, neqO, disj, namesX, axSlot, opXs, rdXs, idsOf, idsOfs, lowH, lowAll, keys, Nat.reduceBneDiff, Option.toList, ← Int.ofNat_tmod, ← Int.ofNat_tdiv, optInt, fillP, repl, chunk, mkCols, mkCol, colInts, colBools, colStrs, colLits, colsApp, Col.app, tailOf, splice, colsPut, Col.put, mmFold, eqK, Nat.reduceLT, colsPaste, Col.paste, mNew, mkKey, keyIn, mGet, mPut, e1, e2, e3, e4, e5, e6, e7, e8, e9, a1, a2, a3, a4, a5, a6, a7, a8, a9, b1, b2, b3, b4, b5, b6, b7, b8, b9, c1, c2, c3, c4, c5, c6, c7, c8, c9, d1, d2, d3, d4, d5, d6, k1, k2, k3, k4, k5, k6, g1, g2, g3, g4, g5, g6, hep, heb, het, hpb, hpt, hbt]
    · refine ⟨by omega, ?_⟩
      refine CallO.pure (contains_c false now (k : Int) _ (by omega)) ?_
      have hkP : k < P.length := by omega
      have hap := apartI_bd (hP.get L) (hP.get k)
      have hpL := hP.get L
      have hpk := hP.get k
      cases hcon : now.contains (k : Int) <;> simp -dsimp only [aqT, ROp, OX, ↓seqK, ↓blkK, ↓loopK, step, stepBin, res, stepIdx, mix, PV.cells, argSlots, Nat.reduceBEq, Nat.reduceBeqDiff, Nat.add_assoc nid, Nat.reduceAdd, reduceCtorEq, ↓reduceIte, Nat.reduceLeDiff, colPV, freeOf, indep, offO, neqO, disj, namesX, axSlot, opXs, rdXs, idsOf, idsOfs, lowH, lowAll, keys, Nat.reduceBneDiff, Option.toList, ← Int.ofNat_tmod, ← Int.ofNat_tdiv, optInt, fillP, repl, chunk, mkCols, mkCol, colInts, colBools, colStrs, colLits, colsApp, Col.app, tailOf, splice, colsPut, Col.put, mmFold, eqK, Nat.reduceLT, colsPaste, Col.paste, mNew, mkKey, keyIn, mGet, mPut, e1, e2, e3, e4, e5, e6, e7, e8, e9, a1, a2, a3, a4, a5, a6, a7, a8, a9, b1, b2, b3, b4, b5, b6, b7, b8, b9, c1, c2, c3, c4, c5, c6, c7, c8, c9, d1, d2, d3, d4, d5, d6, k1, k2, k3, k4, k5, k6, g1, g2, g3, g4, g5, g6, hep, heb, het, hpb, hpt, hbt]
      · rw [hcon, if_neg (by simp)] at hst
        rw [hLp] at hst
        refine CallX.pure (cloneI_c false now _ (by omega) (fun e => by cases e)) ?_
        unfold arrI
        simp -dsimp only [aqT, ROp, OX, ↓seqK, ↓blkK, ↓loopK, step, stepBin, res, stepIdx, mix, PV.cells, argSlots, Nat.reduceBEq, Nat.reduceBeqDiff, Nat.add_assoc nid, Nat.reduceAdd, reduceCtorEq, ↓reduceIte, Nat.reduceLeDiff, colPV, freeOf, indep, offO, neqO, disj, namesX, axSlot, opXs, rdXs, idsOf, idsOfs, lowH, lowAll, keys, Nat.reduceBneDiff, Option.toList, ← Int.ofNat_tmod, ← Int.ofNat_tdiv, optInt, fillP, repl, chunk, mkCols, mkCol, colInts, colBools, colStrs, colLits, colsApp, Col.app, tailOf, splice, colsPut, Col.put, mmFold, eqK, Nat.reduceLT, colsPaste, Col.paste, mNew, mkKey, keyIn, mGet, mPut, e1, e2, e3, e4, e5, e6, e7, e8, e9, a1, a2, a3, a4, a5, a6, a7, a8, a9, b1, b2, b3, b4, b5, b6, b7, b8, b9, c1, c2, c3, c4, c5, c6, c7, c8, c9, d1, d2, d3, d4, d5, d6, k1, k2, k3, k4, k5, k6, g1, g2, g3, g4, g5, g6, hep, heb, het, hpb, hpt, hbt]
        have hcol : (fun i => if i < now.length then now.getD i 0 else [(k : Int)].getD (i - now.length) 0) = fun i => (now ++ [(k : Int)]).getD i 0 := by
          funext i
          simp only [List.getD_eq_getElem?_getD, List.getElem?_append]
          split <;> rfl
        rw [hcol]
        have had : apartI (P.getD L p0) (P.getD k p0) = max (max (max ((P.getD L p0).1 - (P.getD k p0).1) ((P.getD k p0).1 - (P.getD L p0).1)) ((P.getD L p0).2 - (P.getD k p0).2)) ((P.getD k p0).2 - (P.getD L p0).2) := rfl
        rw [← had]
        generalize hd : apartI (P.getD L p0) (P.getD k p0) = d at *
        have hf : 0 < f := by omega
        have hl1 : (now ++ [(k : Int)]).length = now.length + 1 := by simp
        have hih := fun (nl' : Bool) (nid' : Nat) (h : nid < nid') => try_c nlp P hP e p bb t hep heb het hpb hpt hbt f (now ++ [(k : Int)]) nl' (sum + d) B nid' (by omega) (by omega) (by omega) (by omega) (by omega) hf (by omega)
          (fun x hx => by
            rcases List.mem_append.1 hx with hx | hx
            · exact hnow x hx
            · rw [List.mem_singleton] at hx; omega) (by omega) (by rw [hl1]; push_cast; omega) hbk
        unfold eBox pBox bBox tBox litI litP at hih
        simp only [hl1] at hih
        rw [← hst] at hih
        generalize hB1 : rtTo P f now sum b (k + 1) = B1 at *
        refine ⟨⟨by omega, by omega⟩, by unfold inI64; omega, by unfold inI64; omega, by unfold inI64; omega, by unfold inI64; omega, by unfold inI64; omega, CallX.given [nid + 1064] (fun nl' => by
          simp only [lends, lend, aqT, ROp, OX, ↓seqK, ↓blkK, ↓loopK, step, stepBin, res, stepIdx, mix, PV.cells, argSlots, Nat.reduceBEq, Nat.reduceBeqDiff, Nat.add_assoc nid, Nat.reduceAdd, reduceCtorEq, ↓reduceIte, Nat.reduceLeDiff, colPV, freeOf, indep, offO, neqO, disj, namesX, axSlot, opXs, rdXs, idsOf, idsOfs, lowH, lowAll, keys, Nat.reduceBneDiff, Option.toList, ← Int.ofNat_tmod, ← Int.ofNat_tdiv, optInt, fillP, repl, chunk, mkCols, mkCol, colInts, colBools, colStrs, colLits, colsApp, Col.app, tailOf, splice, colsPut, Col.put, mmFold, eqK, Nat.reduceLT, colsPaste, Col.paste, mNew, mkKey, keyIn, mGet, mPut, e1, e2, e3, e4, e5, e6, e7, e8, e9, a1, a2, a3, a4, a5, a6, a7, a8, a9, b1, b2, b3, b4, b5, b6, b7, b8, b9, c1, c2, c3, c4, c5, c6, c7, c8, c9, d1, d2, d3, d4, d5, d6, k1, k2, k3, k4, k5, k6, g1, g2, g3, g4, g5, g6, hep, heb, het, hpb, hpt, hbt]
          exact hih (nl' _) _ (by omega)) (subH_cons (by simp only [aqT, ROp, OX, ↓seqK, ↓blkK, ↓loopK, step, stepBin, res, stepIdx, mix, PV.cells, argSlots, Nat.reduceBEq, Nat.reduceBeqDiff, Nat.add_assoc nid, Nat.reduceAdd, reduceCtorEq, ↓reduceIte, Nat.reduceLeDiff, colPV, freeOf, indep, offO, neqO, disj, namesX, axSlot, opXs, rdXs, idsOf, idsOfs, lowH, lowAll, keys, Nat.reduceBneDiff, Option.toList, ← Int.ofNat_tmod, ← Int.ofNat_tdiv, optInt, fillP, repl, chunk, mkCols, mkCol, colInts, colBools, colStrs, colLits, colsApp, Col.app, tailOf, splice, colsPut, Col.put, mmFold, eqK, Nat.reduceLT, colsPaste, Col.paste, mNew, mkKey, keyIn, mGet, mPut, e1, e2, e3, e4, e5, e6, e7, e8, e9, a1, a2, a3, a4, a5, a6, a7, a8, a9, b1, b2, b3, b4, b5, b6, b7, b8, b9, c1, c2, c3, c4, c5, c6, c7, c8, c9, d1, d2, d3, d4, d5, d6, k1, k2, k3, k4, k5, k6, g1, g2, g3, g4, g5, g6, hep, heb, het, hpb, hpt, hbt]) (subH_cons (by simp only [aqT, ROp, OX, ↓seqK, ↓blkK, ↓loopK, step, stepBin, res, stepIdx, mix, PV.cells, argSlots, Nat.reduceBEq, Nat.reduceBeqDiff, Nat.add_assoc nid, Nat.reduceAdd, reduceCtorEq, ↓reduceIte, Nat.reduceLeDiff, colPV, freeOf, indep, offO, neqO, disj, namesX, axSlot, opXs, rdXs, idsOf, idsOfs, lowH, lowAll, keys, Nat.reduceBneDiff, Option.toList, ← Int.ofNat_tmod, ← Int.ofNat_tdiv, optInt, fillP, repl, chunk, mkCols, mkCol, colInts, colBools, colStrs, colLits, colsApp, Col.app, tailOf, splice, colsPut, Col.put, mmFold, eqK, Nat.reduceLT, colsPaste, Col.paste, mNew, mkKey, keyIn, mGet, mPut, e1, e2, e3, e4, e5, e6, e7, e8, e9, a1, a2, a3, a4, a5, a6, a7, a8, a9, b1, b2, b3, b4, b5, b6, b7, b8, b9, c1, c2, c3, c4, c5, c6, c7, c8, c9, d1, d2, d3, d4, d5, d6, k1, k2, k3, k4, k5, k6, g1, g2, g3, g4, g5, g6, hep, heb, het, hpb, hpt, hbt]) (subH_cons (by simp only [aqT, ROp, OX, ↓seqK, ↓blkK, ↓loopK, step, stepBin, res, stepIdx, mix, PV.cells, argSlots, Nat.reduceBEq, Nat.reduceBeqDiff, Nat.add_assoc nid, Nat.reduceAdd, reduceCtorEq, ↓reduceIte, Nat.reduceLeDiff, colPV, freeOf, indep, offO, neqO, disj, namesX, axSlot, opXs, rdXs, idsOf, idsOfs, lowH, lowAll, keys, Nat.reduceBneDiff, Option.toList, ← Int.ofNat_tmod, ← Int.ofNat_tdiv, optInt, fillP, repl, chunk, mkCols, mkCol, colInts, colBools, colStrs, colLits, colsApp, Col.app, tailOf, splice, colsPut, Col.put, mmFold, eqK, Nat.reduceLT, colsPaste, Col.paste, mNew, mkKey, keyIn, mGet, mPut, e1, e2, e3, e4, e5, e6, e7, e8, e9, a1, a2, a3, a4, a5, a6, a7, a8, a9, b1, b2, b3, b4, b5, b6, b7, b8, b9, c1, c2, c3, c4, c5, c6, c7, c8, c9, d1, d2, d3, d4, d5, d6, k1, k2, k3, k4, k5, k6, g1, g2, g3, g4, g5, g6, hep, heb, het, hpb, hpt, hbt]) (subH_get (by simp only [aqT, ROp, OX, ↓seqK, ↓blkK, ↓loopK, step, stepBin, res, stepIdx, mix, PV.cells, argSlots, Nat.reduceBEq, Nat.reduceBeqDiff, Nat.add_assoc nid, Nat.reduceAdd, reduceCtorEq, ↓reduceIte, Nat.reduceLeDiff, colPV, freeOf, indep, offO, neqO, disj, namesX, axSlot, opXs, rdXs, idsOf, idsOfs, lowH, lowAll, keys, Nat.reduceBneDiff, Option.toList, ← Int.ofNat_tmod, ← Int.ofNat_tdiv, optInt, fillP, repl, chunk, mkCols, mkCol, colInts, colBools, colStrs, colLits, colsApp, Col.app, tailOf, splice, colsPut, Col.put, mmFold, eqK, Nat.reduceLT, colsPaste, Col.paste, mNew, mkKey, keyIn, mGet, mPut, e1, e2, e3, e4, e5, e6, e7, e8, e9, a1, a2, a3, a4, a5, a6, a7, a8, a9, b1, b2, b3, b4, b5, b6, b7, b8, b9, c1, c2, c3, c4, c5, c6, c7, c8, c9, d1, d2, d3, d4, d5, d6, k1, k2, k3, k4, k5, k6, g1, g2, g3, g4, g5, g6, hep, heb, het, hpb, hpt, hbt]))))) (by simp [getH, e1, e2, e3, e4, e5, e6, e7, e8, e9, a1, a2, a3, a4, a5, a6, a7, a8, a9, b1, b2, b3, b4, b5, b6, b7, b8, b9, c1, c2, c3, c4, c5, c6, c7, c8, c9, d1, d2, d3, d4, d5, d6, k1, k2, k3, k4, k5, k6, g1, g2, g3, g4, g5, g6, hep, heb, het, hpb, hpt, hbt]) ?_⟩
        simp -dsimp only [aqT, ROp, OX, ↓seqK, ↓blkK, ↓loopK, step, stepBin, res, stepIdx, mix, PV.cells, argSlots, Nat.reduceBEq, Nat.reduceBeqDiff, Nat.add_assoc nid, Nat.reduceAdd, reduceCtorEq, ↓reduceIte, Nat.reduceLeDiff, colPV, freeOf, indep, offO, neqO, disj, namesX, axSlot, opXs, rdXs, idsOf, idsOfs, lowH, lowAll, keys, Nat.reduceBneDiff, Option.toList, ← Int.ofNat_tmod, ← Int.ofNat_tdiv, optInt, fillP, repl, chunk, mkCols, mkCol, colInts, colBools, colStrs, colLits, colsApp, Col.app, tailOf, splice, colsPut, Col.put, mmFold, eqK, Nat.reduceLT, colsPaste, Col.paste, mNew, mkKey, keyIn, mGet, mPut, e1, e2, e3, e4, e5, e6, e7, e8, e9, a1, a2, a3, a4, a5, a6, a7, a8, a9, b1, b2, b3, b4, b5, b6, b7, b8, b9, c1, c2, c3, c4, c5, c6, c7, c8, c9, d1, d2, d3, d4, d5, d6, k1, k2, k3, k4, k5, k6, g1, g2, g3, g4, g5, g6, hep, heb, het, hpb, hpt, hbt]
        refine ⟨by simp [bLit_ids], by unfold inI64; omega, k + 1, ⟨by omega, by omega⟩, Cov.go [] [] ?_⟩
        rw [hB1]
        simp [retPV, over, keys, List.map_nil, List.map_cons, List.contains_cons, List.contains_nil, Bool.or_false, Bool.or_true, Bool.true_or, Bool.false_or, beq_self_eq_true, cond_true, cond_false, HeapCov, orNil, nilSz, onBlk, srcOf, getH_hit, getH_miss, getH.eq_1, getS_hit, getS_miss, getS.eq_1, BlkCov, PVCovs, PVCov, ColsEq, ColEq.refl, liveIds, SlotsCov, List.all_nil, List.all_cons, List.any_nil, List.any_cons, List.nil_append, List.cons_append, inRange, apart, nilBlk, idS1, idS2, readAll, readRes, onAll, step, res, AX.val, List.drop_zero, List.drop_succ_cons, List.take_succ_cons, List.take_zero, e1, e2, e3, e4, e5, e6, e7, e8, e9, a1, a2, a3, a4, a5, a6, a7, a8, a9, b1, b2, b3, b4, b5, b6, b7, b8, b9, c1, c2, c3, c4, c5, c6, c7, c8, c9, d1, d2, d3, d4, d5, d6, k1, k2, k3, k4, k5, k6, g1, g2, g3, g4, g5, g6, hep, heb, het, hpb, hpt, hbt, kill, litI, litP, eBox, pBox, bBox, tBox, bLit_cov]
      · rw [hcon, if_pos rfl] at hst
        refine ⟨by unfold inI64; omega, k + 1, ⟨by omega, by omega⟩, Cov.go [] [] ?_⟩
        rw [hst]
        simp [retPV, over, keys, List.map_nil, List.map_cons, List.contains_cons, List.contains_nil, Bool.or_false, Bool.or_true, Bool.true_or, Bool.false_or, beq_self_eq_true, cond_true, cond_false, HeapCov, orNil, nilSz, onBlk, srcOf, getH_hit, getH_miss, getH.eq_1, getS_hit, getS_miss, getS.eq_1, BlkCov, PVCovs, PVCov, ColsEq, ColEq.refl, liveIds, SlotsCov, List.all_nil, List.all_cons, List.any_nil, List.any_cons, List.nil_append, List.cons_append, inRange, apart, nilBlk, idS1, idS2, readAll, readRes, onAll, step, res, AX.val, List.drop_zero, List.drop_succ_cons, List.take_succ_cons, List.take_zero, e1, e2, e3, e4, e5, e6, e7, e8, e9, a1, a2, a3, a4, a5, a6, a7, a8, a9, b1, b2, b3, b4, b5, b6, b7, b8, b9, c1, c2, c3, c4, c5, c6, c7, c8, c9, d1, d2, d3, d4, d5, d6, k1, k2, k3, k4, k5, k6, g1, g2, g3, g4, g5, g6, hep, heb, het, hpb, hpt, hbt, litI, litP, eBox, pBox, bBox, tBox, bLit_cov]
    · have hkn : k = P.length := by omega
      subst hkn
      rw [hB]
      refine RetOK.go [] [] (.inr rfl) ?_
      simp [retPV, over, keys, List.map_nil, List.map_cons, List.contains_cons, List.contains_nil, Bool.or_false, Bool.or_true, Bool.true_or, Bool.false_or, beq_self_eq_true, cond_true, cond_false, HeapCov, orNil, nilSz, onBlk, srcOf, getH_hit, getH_miss, getH.eq_1, getS_hit, getS_miss, getS.eq_1, BlkCov, PVCovs, PVCov, ColsEq, ColEq.refl, liveIds, SlotsCov, List.all_nil, List.all_cons, List.any_nil, List.any_cons, List.nil_append, List.cons_append, inRange, apart, nilBlk, idS1, idS2, readAll, readRes, onAll, step, res, AX.val, List.drop_zero, List.drop_succ_cons, List.take_succ_cons, List.take_zero, e1, e2, e3, e4, e5, e6, e7, e8, e9, a1, a2, a3, a4, a5, a6, a7, a8, a9, b1, b2, b3, b4, b5, b6, b7, b8, b9, c1, c2, c3, c4, c5, c6, c7, c8, c9, d1, d2, d3, d4, d5, d6, k1, k2, k3, k4, k5, k6, g1, g2, g3, g4, g5, g6, hep, heb, het, hpb, hpt, hbt, a60, litI, litP, eBox, pBox, bBox, tBox, bLit_cov]
end Go.Proofs.Ytmgfcjblclanmaa
