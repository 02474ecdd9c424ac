/-
  The functions' forms for the abstract machine, each checked against the program's form.
-/
import Derived.Test.YtmnhlfkphibhfaaKE1
import Derived.Test.YtmnhlfkphibhfaaProg
import Derived.Test.YtmnhlfkphibhfaaKE3
namespace Go.Proofs.Ytmnhlfkphibhfaa
set_option maxRecDepth 100000
def a2 : AFn := ⟨1, [], .ops [⟨(some 0), none, .call 1 []⟩]⟩
theorem c2 : compF Go.Proofs.Try.prog 2 = some a2 := by kernel_rfl
def a3 : AFn := ⟨133, [.t 2], .seq (.ops [⟨(some 2), none, .mv (.c (.bool false))⟩])
 (.seq (.ops [⟨(some 20), none, .mv (.t 0)⟩, ⟨(some 21), none, .build [(.lit true 0 []), (.int .i64 0)] [(0, 1, (.t 20))]⟩, ⟨(some 22), none, .box 25 (.t 21)⟩, ⟨(some 3), none, .mv (.t 22)⟩])
 (.seq (.ops [⟨(some 23), none, .mv (.t 3)⟩, ⟨(some 24), none, .call 9 [(.t 23)]⟩, ⟨(some 4), none, .alloc 27 [(.lit true 0 [])]⟩, ⟨none, none, .store 1 (.t 4) (.t 24)⟩])
 (.seq (.any [(⟨(some 25), none, .mv (.t 3)⟩, []), (⟨(some 26), none, .load (some 1) (.t 4)⟩, [0]), (⟨(some 27), none, .call 10 [(.t 25), (.t 26)]⟩, []), (⟨(some 28), none, .mv (.t 3)⟩, [0, 1, 2]), (⟨(some 29), none, .load (some 1) (.t 4)⟩, [0, 1, 2, 3]), (⟨(some 30), none, .call 11 [(.t 28), (.t 29)]⟩, []), (⟨(some 31), none, .mv (.t 3)⟩, [0, 1, 2, 3, 4, 5]), (⟨(some 32), none, .bslice 3 1 7 [(.int .i64 0)] [(0, 1, (.c (.int .i64 0))), (1, 1, (.c (.int .i64 1))), (2, 1, (.c (.int .i64 3))), (3, 1, (.c (.int .i64 7))), (4, 1, (.c (.int .i64 19))), (5, 1, (.c (.int .i64 20))), (6, 1, (.c (.int .i64 (-1))))]⟩, [0, 1, 2, 3, 4, 5, 6]), (⟨(some 33), none, .call 12 [(.t 31), (.t 32)]⟩, []), (⟨(some 5), none, .mv (.t 27)⟩, []), (⟨(some 6), none, .mv (.t 30)⟩, []), (⟨(some 7), none, .mv (.t 33)⟩, [])])
 (.seq (.any [(⟨(some 34), none, .load (some 1) (.t 4)⟩, []), (⟨(some 35), none, .call 13 [(.t 34)]⟩, []), (⟨(some 36), none, .load (some 1) (.t 4)⟩, [0, 1]), (⟨(some 37), none, .mv (.t 5)⟩, [0, 1, 2]), (⟨(some 38), none, .bslice 22 1 1 [(.lit true 0 [])] [(0, 1, (.t 37))]⟩, [0, 1, 2]), (⟨(some 39), none, .call 14 [(.t 36), (.t 38)]⟩, []), (⟨(some 8), none, .mv (.t 35)⟩, []), (⟨(some 9), none, .mv (.t 39)⟩, [])])
 (.seq (.ops [⟨(some 40), none, .mv (.t 8)⟩, ⟨(some 10), none, .mv (.t 40)⟩])
 (.seq (.seq (.ops [⟨(some 41), none, .mv (.t 10)⟩, ⟨(some 42), none, .bin 0 .eql (.t 41) (.c (.int .i64 0))⟩])
 (.cond (.t 42) (.ops [⟨(some 43), none, .load (some 1) (.t 4)⟩, ⟨(some 44), none, .mv (.t 6)⟩, ⟨(some 45), none, .call 15 [(.t 43), (.t 44)]⟩, ⟨(some 10), none, .mv (.t 45)⟩]) (.skip)))
 (.seq (.seq (.ops [⟨(some 46), none, .load (some 1) (.t 4)⟩, ⟨(some 47), none, .call 16 [(.t 46)]⟩, ⟨(some 48), none, .mv (.t 8)⟩, ⟨(some 49), none, .bin 0 .neq (.t 47) (.t 48)⟩, ⟨(some 50), none, .mv (.t 49)⟩, ⟨(some 51), (some (50, false)), .load (some 1) (.t 4)⟩, ⟨(some 52), (some (50, false)), .mv (.t 5)⟩, ⟨(some 53), (some (50, false)), .call 17 [(.t 51), (.t 52)]⟩, ⟨(some 54), (some (50, false)), .mv (.t 9)⟩, ⟨(some 55), (some (50, false)), .bin 0 .neq (.t 53) (.t 54)⟩, ⟨(some 56), none, .pick (.t 50) (.c (.bool true)) (.t 55)⟩, ⟨(some 57), none, .mv (.t 56)⟩, ⟨(some 58), (some (57, false)), .load (some 1) (.t 4)⟩, ⟨(some 59), (some (57, false)), .mv (.t 6)⟩, ⟨(some 60), (some (57, false)), .call 18 [(.t 58), (.t 59)]⟩, ⟨(some 61), (some (57, false)), .mv (.t 10)⟩, ⟨(some 62), (some (57, false)), .bin 0 .neq (.t 60) (.t 61)⟩, ⟨(some 63), none, .pick (.t 57) (.c (.bool true)) (.t 62)⟩])
 (.cond (.t 63) (.seq (.ops [⟨(some 2), none, .mv (.c (.bool false))⟩])
 (.ret)) (.skip)))
 (.seq (.ops [⟨(some 65), none, .load (some 1) (.t 4)⟩, ⟨(some 66), none, .mv (.t 7)⟩, ⟨(some 67), none, .call 19 [(.t 65), (.t 66)]⟩, ⟨(some 64), none, .mv (.t 67)⟩, ⟨(some 68), none, .ext (.t 64) 0⟩, ⟨(some 69), none, .ext (.t 64) 1⟩, ⟨(some 70), none, .ext (.t 64) 2⟩, ⟨(some 11), none, .mv (.t 68)⟩, ⟨(some 12), none, .mv (.t 69)⟩, ⟨(some 13), none, .mv (.t 70)⟩])
 (.seq (.ops [⟨(some 71), none, .mv (.t 8)⟩, ⟨(some 14), none, .mv (.t 71)⟩])
 (.seq (.ops [⟨(some 15), none, .mv (.c (.int .i64 0))⟩, ⟨(some 16), none, .mv (.c (.int .i64 0))⟩])
 (.seq (.seq (.ops [⟨(some 72), none, .mv (.t 14)⟩, ⟨(some 73), none, .bin 0 .eql (.t 72) (.c (.int .i64 0))⟩])
 (.cond (.t 73) (.seq (.ops [⟨(some 17), none, .mv (.c (.bool false))⟩])
 (.seq (.ops [⟨(some 75), none, .load (some 1) (.t 4)⟩, ⟨(some 76), none, .mv (.t 7)⟩, ⟨(some 77), none, .call 20 [(.t 75), (.t 76)]⟩, ⟨(some 74), none, .mv (.t 77)⟩, ⟨(some 78), none, .ext (.t 74) 0⟩, ⟨(some 79), none, .ext (.t 74) 1⟩, ⟨(some 80), none, .ext (.t 74) 2⟩, ⟨(some 15), none, .mv (.t 78)⟩, ⟨(some 16), none, .mv (.t 79)⟩, ⟨(some 17), none, .mv (.t 80)⟩])
 (.seq (.ops [⟨(some 81), none, .mv (.t 17)⟩, ⟨(some 82), none, .un .not (.t 81)⟩])
 (.cond (.t 82) (.ops [⟨(some 14), none, .mv (.c (.int .i64 1))⟩]) (.skip))))) (.skip)))
 (.seq (.seq (.ops [⟨(some 83), none, .mv (.t 13)⟩, ⟨(some 84), none, .mv (.t 14)⟩, ⟨(some 85), none, .bin 0 .neq (.t 83) (.t 84)⟩, ⟨(some 86), none, .mv (.t 85)⟩, ⟨(some 87), (some (86, false)), .mv (.t 11)⟩, ⟨(some 88), (some (86, false)), .mv (.t 15)⟩, ⟨(some 89), (some (86, false)), .bin 0 .neq (.t 87) (.t 88)⟩, ⟨(some 90), none, .pick (.t 86) (.c (.bool true)) (.t 89)⟩, ⟨(some 91), none, .mv (.t 90)⟩, ⟨(some 92), (some (91, false)), .mv (.t 12)⟩, ⟨(some 93), (some (91, false)), .mv (.t 16)⟩, ⟨(some 94), (some (91, false)), .bin 0 .neq (.t 92) (.t 93)⟩, ⟨(some 95), none, .pick (.t 91) (.c (.bool true)) (.t 94)⟩])
 (.cond (.t 95) (.seq (.ops [⟨(some 2), none, .mv (.c (.bool false))⟩])
 (.ret)) (.skip)))
 (.seq (.ops [⟨(some 97), none, .load (some 1) (.t 4)⟩, ⟨(some 98), none, .mv (.t 5)⟩, ⟨(some 99), none, .mv (.t 6)⟩, ⟨(some 100), none, .call 21 [(.t 97), (.t 98), (.t 99)]⟩, ⟨(some 96), none, .mv (.t 100)⟩, ⟨(some 101), none, .ext (.t 96) 0⟩, ⟨(some 102), none, .ext (.t 96) 1⟩, ⟨(some 18), none, .mv (.t 101)⟩, ⟨(some 13), none, .mv (.t 102)⟩])
 (.seq (.ops [⟨(some 103), none, .mv (.t 9)⟩, ⟨(some 19), none, .mv (.t 103)⟩])
 (.seq (.seq (.ops [⟨(some 104), none, .mv (.t 19)⟩, ⟨(some 105), none, .bin 0 .eql (.t 104) (.c (.int .i64 0))⟩])
 (.cond (.t 105) (.ops [⟨(some 106), none, .mv (.t 10)⟩, ⟨(some 19), none, .mv (.t 106)⟩]) (.skip)))
 (.seq (.seq (.ops [⟨(some 107), none, .mv (.t 19)⟩, ⟨(some 108), none, .bin 0 .neq (.t 107) (.c (.int .i64 0))⟩])
 (.cond (.t 108) (.seq (.ops [⟨(some 109), none, .mv (.t 13)⟩, ⟨(some 110), none, .mv (.t 19)⟩, ⟨(some 111), none, .bin 0 .eql (.t 109) (.t 110)⟩, ⟨(some 112), none, .mv (.t 111)⟩, ⟨(some 113), (some (112, true)), .mv (.t 18)⟩, ⟨(some 114), (some (112, true)), .len false (.t 113)⟩, ⟨(some 115), (some (112, true)), .bin 0 .eql (.t 114) (.c (.int .i64 0))⟩, ⟨(some 116), none, .pick (.t 112) (.t 115) (.c (.bool false))⟩, ⟨(some 117), none, .mv (.t 116)⟩, ⟨(some 118), (some (117, true)), .call 22 []⟩, ⟨(some 119), none, .pick (.t 117) (.t 118) (.c (.bool false))⟩, ⟨(some 2), none, .mv (.t 119)⟩])
 (.ret)) (.skip)))
 (.seq (.ops [⟨(some 120), none, .mv (.t 13)⟩, ⟨(some 121), none, .bin 0 .eql (.t 120) (.c (.int .i64 0))⟩, ⟨(some 122), none, .mv (.t 121)⟩, ⟨(some 123), (some (122, true)), .mv (.t 18)⟩, ⟨(some 124), (some (122, true)), .load (some 1) (.t 4)⟩, ⟨(some 125), (some (122, true)), .mv (.t 5)⟩, ⟨(some 126), (some (122, true)), .mv (.t 6)⟩, ⟨(some 127), (some (122, true)), .call 24 [(.t 124), (.t 125), (.t 126)]⟩, ⟨(some 128), (some (122, true)), .call 23 [(.t 123), (.t 127)]⟩, ⟨(some 129), none, .pick (.t 122) (.t 128) (.c (.bool false))⟩, ⟨(some 130), none, .mv (.t 129)⟩, ⟨(some 131), (some (130, true)), .call 22 []⟩, ⟨(some 132), none, .pick (.t 130) (.t 131) (.c (.bool false))⟩, ⟨(some 2), none, .mv (.t 132)⟩])
 (.ret))))))))))))))))))⟩
theorem c3 : compF Go.Proofs.Try.prog 3 = some a3 := by kernel_rfl
def a4 : AFn := ⟨66, [.t 2], .seq (.ops [⟨(some 2), none, .mv (.c (.bool false))⟩])
 (.seq (.ops [⟨(some 10), none, .mv (.t 0)⟩, ⟨(some 11), none, .build [(.lit true 0 []), (.int .i64 0)] [(0, 1, (.t 10))]⟩, ⟨(some 12), none, .box 25 (.t 11)⟩, ⟨(some 3), none, .mv (.t 12)⟩])
 (.seq (.ops [⟨(some 13), none, .mv (.t 3)⟩, ⟨(some 14), none, .call 25 [(.t 13), (.c (.int .i64 40))]⟩, ⟨(some 15), none, .mv (.t 3)⟩, ⟨(some 16), none, .call 26 [(.t 15), (.c (.int .i64 256))]⟩, ⟨(some 17), none, .conv .u8 (.t 16)⟩, ⟨(some 18), none, .bslice 5 1 1 [(.int .u8 0)] [(0, 1, (.t 17))]⟩, ⟨(some 19), none, .app 5 1 1 (.t 14) (.t 18)⟩, ⟨(some 4), none, .mv (.t 19)⟩])
 (.seq (.ops [⟨(some 20), none, .mv (.t 4)⟩, ⟨(some 21), none, .call 27 [(.t 20)]⟩, ⟨(some 5), none, .mv (.t 21)⟩])
 (.seq (.any [(⟨(some 22), none, .mv (.t 5)⟩, []), (⟨(some 23), none, .mv (.t 3)⟩, [0]), (⟨(some 24), none, .mv (.t 5)⟩, [0, 1]), (⟨(some 25), none, .len false (.t 24)⟩, [0, 1]), (⟨(some 26), none, .call 26 [(.t 23), (.t 25)]⟩, [0]), (⟨(some 27), none, .iadr 1 (.t 22) (.t 26)⟩, []), (⟨(some 28), none, .load none (.t 27)⟩, []), (⟨(some 29), none, .mv (.t 3)⟩, [0, 1, 2, 3, 4, 5, 6]), (⟨(some 30), none, .call 26 [(.t 29), (.c (.int .i64 8))]⟩, [0, 5, 6]), (⟨(some 31), none, .bin 0 .shl (.c (.int .u8 1)) (.t 30)⟩, [0, 5, 6]), (⟨(some 32), none, .bin 0 .xor (.t 28) (.t 31)⟩, []), (⟨(some 33), none, .iadr 1 (.t 22) (.t 26)⟩, []), (⟨none, none, .store 1 (.t 33) (.t 32)⟩, [])])
 (.seq (.ops [⟨(some 35), none, .mv (.t 4)⟩, ⟨(some 36), none, .call 28 [(.t 35)]⟩, ⟨(some 34), none, .mv (.t 36)⟩, ⟨(some 37), none, .ext (.t 34) 0⟩, ⟨(some 38), none, .ext (.t 34) 1⟩, ⟨(some 6), none, .mv (.t 37)⟩, ⟨(some 7), none, .mv (.t 38)⟩])
 (.seq (.ops [⟨(some 40), none, .mv (.t 5)⟩, ⟨(some 41), none, .call 28 [(.t 40)]⟩, ⟨(some 39), none, .mv (.t 41)⟩, ⟨(some 42), none, .ext (.t 39) 0⟩, ⟨(some 43), none, .ext (.t 39) 1⟩, ⟨(some 8), none, .mv (.t 42)⟩, ⟨(some 9), none, .mv (.t 43)⟩])
 (.seq (.ops [⟨(some 44), none, .mv (.t 7)⟩, ⟨(some 45), none, .bin 0 .eql (.t 44) (.c (.int .i64 0))⟩, ⟨(some 46), none, .mv (.t 45)⟩, ⟨(some 47), (some (46, true)), .mv (.t 9)⟩, ⟨(some 48), (some (46, true)), .bin 0 .eql (.t 47) (.c (.int .i64 0))⟩, ⟨(some 49), none, .pick (.t 46) (.t 48) (.c (.bool false))⟩, ⟨(some 50), none, .mv (.t 49)⟩, ⟨(some 51), (some (50, true)), .mv (.t 6)⟩, ⟨(some 52), (some (50, true)), .mv (.t 8)⟩, ⟨(some 53), (some (50, true)), .bin 0 .neq (.t 51) (.t 52)⟩, ⟨(some 54), none, .pick (.t 50) (.t 53) (.c (.bool false))⟩, ⟨(some 55), none, .mv (.t 54)⟩, ⟨(some 56), (some (55, true)), .mv (.t 6)⟩, ⟨(some 57), (some (55, true)), .bin 0 .geq (.t 56) (.c (.int .i64 0))⟩, ⟨(some 58), none, .pick (.t 55) (.t 57) (.c (.bool false))⟩, ⟨(some 59), none, .mv (.t 58)⟩, ⟨(some 60), (some (59, true)), .mv (.t 6)⟩, ⟨(some 61), (some (59, true)), .bin 0 .leq (.t 60) (.c (.int .i64 65535))⟩, ⟨(some 62), none, .pick (.t 59) (.t 61) (.c (.bool false))⟩, ⟨(some 63), none, .mv (.t 62)⟩, ⟨(some 64), (some (63, true)), .call 29 []⟩, ⟨(some 65), none, .pick (.t 63) (.t 64) (.c (.bool false))⟩, ⟨(some 2), none, .mv (.t 65)⟩])
 (.ret))))))))⟩
theorem c4 : compF Go.Proofs.Try.prog 4 = some a4 := by kernel_rfl
def a5 : AFn := ⟨232, [.t 2], .seq (.ops [⟨(some 2), none, .mv (.c (.bool false))⟩])
 (.seq (.ops [⟨(some 23), none, .mv (.t 0)⟩, ⟨(some 24), none, .build [(.lit true 0 []), (.int .i64 0)] [(0, 1, (.t 23))]⟩, ⟨(some 25), none, .box 25 (.t 24)⟩, ⟨(some 3), none, .mv (.t 25)⟩])
 (.seq (.ops [⟨(some 26), none, .mv (.t 3)⟩, ⟨(some 27), none, .call 9 [(.t 26)]⟩, ⟨(some 4), none, .alloc 27 [(.lit true 0 [])]⟩, ⟨none, none, .store 1 (.t 4) (.t 27)⟩])
 (.seq (.any [(⟨(some 28), none, .mv (.t 3)⟩, []), (⟨(some 29), none, .load (some 1) (.t 4)⟩, [0]), (⟨(some 30), none, .call 10 [(.t 28), (.t 29)]⟩, []), (⟨(some 31), none, .mv (.t 3)⟩, [0, 1, 2]), (⟨(some 32), none, .load (some 1) (.t 4)⟩, [0, 1, 2, 3]), (⟨(some 33), none, .call 10 [(.t 31), (.t 32)]⟩, []), (⟨(some 34), none, .mv (.t 3)⟩, [0, 1, 2, 3, 4, 5]), (⟨(some 35), none, .load (some 1) (.t 4)⟩, [0, 1, 2, 3, 4, 5, 6]), (⟨(some 36), none, .call 11 [(.t 34), (.t 35)]⟩, []), (⟨(some 5), none, .mv (.t 30)⟩, []), (⟨(some 6), none, .mv (.t 33)⟩, []), (⟨(some 7), none, .mv (.t 36)⟩, [])])
 (.seq (.ops [⟨(some 8), none, .mv (.c (.lit true 0 []))⟩, ⟨(some 9), none, .mv (.c (.lit true 0 []))⟩])
 (.seq (.seq (.ops [⟨(some 37), none, .fadr 0 (.t 4)⟩, ⟨(some 38), none, .load none (.t 37)⟩, ⟨(some 39), none, .len false (.t 38)⟩, ⟨(some 40), none, .mv (.c (.int .i64 0))⟩])
 (.block 0 (.loop (.seq (.ops [⟨(some 41), none, .bin 0 .lss (.t 40) (.t 39)⟩])
 (.seq (.cond (.t 41) (.skip) (.exit 0))
 (.seq (.block 1 (.ops [⟨(some 42), none, .mv (.t 8)⟩, ⟨(some 43), none, .mv (.t 3)⟩, ⟨(some 44), none, .bslice 3 1 4 [(.int .i64 0)] [(0, 1, (.c (.int .i64 0))), (1, 1, (.c (.int .i64 1))), (2, 1, (.c (.int .i64 2))), (3, 1, (.c (.int .i64 5)))]⟩, ⟨(some 45), none, .call 12 [(.t 43), (.t 44)]⟩, ⟨(some 46), none, .bslice 3 1 1 [(.int .i64 0)] [(0, 1, (.t 45))]⟩, ⟨(some 47), none, .app 3 1 8 (.t 42) (.t 46)⟩, ⟨(some 8), none, .mv (.t 47)⟩]))
 (.ops [⟨(some 48), none, .bin 0 .add (.t 40) (.c (.int .i64 1))⟩, ⟨(some 40), none, .mv (.t 48)⟩])))))))
 (.seq (.seq (.ops [⟨(some 49), none, .mv (.t 3)⟩, ⟨(some 50), none, .call 30 [(.t 49), (.c (.int .i64 0)), (.c (.int .i64 3))]⟩, ⟨(some 51), none, .mv (.c (.int .i64 0))⟩])
 (.block 2 (.loop (.seq (.ops [⟨(some 52), none, .bin 0 .lss (.t 51) (.t 50)⟩])
 (.seq (.cond (.t 52) (.skip) (.exit 2))
 (.seq (.block 3 (.ops [⟨(some 53), none, .mv (.t 9)⟩, ⟨(some 54), none, .mv (.t 3)⟩, ⟨(some 55), none, .bslice 3 1 4 [(.int .i64 0)] [(0, 1, (.c (.int .i64 1))), (1, 1, (.c (.int .i64 2))), (2, 1, (.c (.int .i64 3))), (3, 1, (.c (.int .i64 5)))]⟩, ⟨(some 56), none, .call 12 [(.t 54), (.t 55)]⟩, ⟨(some 57), none, .bslice 3 1 1 [(.int .i64 0)] [(0, 1, (.t 56))]⟩, ⟨(some 58), none, .app 3 1 8 (.t 53) (.t 57)⟩, ⟨(some 9), none, .mv (.t 58)⟩]))
 (.ops [⟨(some 59), none, .bin 0 .add (.t 51) (.c (.int .i64 1))⟩, ⟨(some 51), none, .mv (.t 59)⟩])))))))
 (.seq (.seq (.ops [⟨(some 60), none, .mv (.t 3)⟩, ⟨(some 61), none, .call 31 [(.t 60), (.c (.int .i64 15))]⟩])
 (.cond (.t 61) (.ops [⟨(some 62), none, .mv (.t 8)⟩, ⟨(some 63), none, .mv (.t 3)⟩, ⟨(some 64), none, .bslice 3 1 2 [(.int .i64 0)] [(0, 1, (.c (.int .i64 0))), (1, 1, (.c (.int .i64 (-1))))]⟩, ⟨(some 65), none, .call 12 [(.t 63), (.t 64)]⟩, ⟨(some 66), none, .bslice 3 1 1 [(.int .i64 0)] [(0, 1, (.t 65))]⟩, ⟨(some 67), none, .app 3 1 8 (.t 62) (.t 66)⟩, ⟨(some 8), none, .mv (.t 67)⟩]) (.skip)))
 (.seq (.seq (.ops [⟨(some 68), none, .mv (.t 3)⟩, ⟨(some 69), none, .call 31 [(.t 68), (.c (.int .i64 15))]⟩])
 (.cond (.t 69) (.ops [⟨(some 70), none, .mv (.t 9)⟩, ⟨(some 71), none, .mv (.t 3)⟩, ⟨(some 72), none, .bslice 3 1 2 [(.int .i64 0)] [(0, 1, (.c (.int .i64 0))), (1, 1, (.c (.int .i64 4097)))]⟩, ⟨(some 73), none, .call 12 [(.t 71), (.t 72)]⟩, ⟨(some 74), none, .bslice 3 1 6 [(.int .i64 0)] [(0, 1, (.t 73)), (1, 1, (.c (.int .i64 1))), (2, 1, (.c (.int .i64 1))), (3, 1, (.c (.int .i64 1))), (4, 1, (.c (.int .i64 1))), (5, 1, (.c (.int .i64 1)))]⟩, ⟨(some 75), none, .app 3 1 8 (.t 70) (.t 74)⟩, ⟨(some 9), none, .mv (.t 75)⟩]) (.skip)))
 (.seq (.ops [⟨(some 76), none, .load (some 1) (.t 4)⟩, ⟨(some 77), none, .mv (.t 5)⟩, ⟨(some 78), none, .mv (.t 6)⟩, ⟨(some 79), none, .bslice 22 1 2 [(.lit true 0 [])] [(0, 1, (.t 77)), (1, 1, (.t 78))]⟩, ⟨(some 80), none, .call 14 [(.t 76), (.t 79)]⟩, ⟨(some 10), none, .mv (.t 80)⟩])
 (.seq (.ops [⟨(some 82), none, .load (some 1) (.t 4)⟩, ⟨(some 83), none, .mv (.t 5)⟩, ⟨(some 84), none, .mv (.t 6)⟩, ⟨(some 85), none, .call 32 [(.t 82), (.t 83), (.t 84)]⟩, ⟨(some 81), none, .mv (.t 85)⟩, ⟨(some 86), none, .ext (.t 81) 0⟩, ⟨(some 87), none, .ext (.t 81) 1⟩, ⟨(some 11), none, .mv (.t 86)⟩, ⟨(some 12), none, .mv (.t 87)⟩])
 (.seq (.ops [⟨(some 89), none, .load (some 1) (.t 4)⟩, ⟨(some 90), none, .mv (.t 5)⟩, ⟨(some 91), none, .mv (.t 6)⟩, ⟨(some 92), none, .call 33 [(.t 89), (.t 90), (.t 91)]⟩, ⟨(some 88), none, .mv (.t 92)⟩, ⟨(some 93), none, .ext (.t 88) 0⟩, ⟨(some 94), none, .ext (.t 88) 1⟩, ⟨(some 13), none, .mv (.t 93)⟩, ⟨(some 14), none, .mv (.t 94)⟩])
 (.seq (.seq (.ops [⟨(some 95), none, .mv (.t 10)⟩, ⟨(some 96), none, .bin 0 .neq (.t 95) (.c (.int .i64 0))⟩, ⟨(some 97), none, .mv (.t 96)⟩, ⟨(some 98), (some (97, true)), .mv (.t 12)⟩, ⟨(some 99), (some (97, true)), .mv (.t 10)⟩, ⟨(some 100), (some (97, true)), .bin 0 .neq (.t 98) (.t 99)⟩, ⟨(some 101), (some (97, true)), .mv (.t 100)⟩, ⟨(some 102), (some (101, false)), .mv (.t 14)⟩, ⟨(some 103), (some (101, false)), .mv (.t 10)⟩, ⟨(some 104), (some (101, false)), .bin 0 .neq (.t 102) (.t 103)⟩, ⟨(some 105), (some (97, true)), .pick (.t 101) (.c (.bool true)) (.t 104)⟩, ⟨(some 106), (some (97, true)), .mv (.t 105)⟩, ⟨(some 107), (some (106, false)), .mv (.t 11)⟩, ⟨(some 108), (some (106, false)), .len false (.t 107)⟩, ⟨(some 109), (some (106, false)), .mv (.t 13)⟩, ⟨(some 110), (some (106, false)), .len false (.t 109)⟩, ⟨(some 111), (some (106, false)), .bin 0 .add (.t 108) (.t 110)⟩, ⟨(some 112), (some (106, false)), .bin 0 .gtr (.t 111) (.c (.int .i64 0))⟩, ⟨(some 113), (some (97, true)), .pick (.t 106) (.c (.bool true)) (.t 112)⟩, ⟨(some 114), none, .pick (.t 97) (.t 113) (.c (.bool false))⟩])
 (.cond (.t 114) (.seq (.ops [⟨(some 2), none, .mv (.c (.bool false))⟩])
 (.ret)) (.skip)))
 (.seq (.seq (.ops [⟨(some 115), none, .mv (.t 10)⟩, ⟨(some 116), none, .bin 0 .eql (.t 115) (.c (.int .i64 0))⟩, ⟨(some 117), none, .mv (.t 116)⟩, ⟨(some 118), (some (117, true)), .mv (.t 12)⟩, ⟨(some 119), (some (117, true)), .bin 0 .neq (.t 118) (.c (.int .i64 0))⟩, ⟨(some 120), (some (117, true)), .mv (.t 119)⟩, ⟨(some 121), (some (120, false)), .mv (.t 11)⟩, ⟨(some 122), (some (120, false)), .load (some 1) (.t 4)⟩, ⟨(some 123), (some (120, false)), .mv (.t 5)⟩, ⟨(some 124), (some (120, false)), .mv (.t 6)⟩, ⟨(some 125), (some (120, false)), .call 35 [(.t 122), (.t 123), (.t 124)]⟩, ⟨(some 126), (some (120, false)), .call 34 [(.t 121), (.t 125)]⟩, ⟨(some 127), (some (120, false)), .un .not (.t 126)⟩, ⟨(some 128), (some (117, true)), .pick (.t 120) (.c (.bool true)) (.t 127)⟩, ⟨(some 129), (some (117, true)), .mv (.t 128)⟩, ⟨(some 130), (some (129, false)), .mv (.t 14)⟩, ⟨(some 131), (some (129, false)), .bin 0 .neq (.t 130) (.c (.int .i64 0))⟩, ⟨(some 132), (some (117, true)), .pick (.t 129) (.c (.bool true)) (.t 131)⟩, ⟨(some 133), (some (117, true)), .mv (.t 132)⟩, ⟨(some 134), (some (133, false)), .mv (.t 13)⟩, ⟨(some 135), (some (133, false)), .mv (.t 5)⟩, ⟨(some 136), (some (133, false)), .mv (.t 6)⟩, ⟨(some 137), (some (133, false)), .call 37 [(.t 135), (.t 136)]⟩, ⟨(some 138), (some (133, false)), .call 36 [(.t 134), (.t 137)]⟩, ⟨(some 139), (some (133, false)), .un .not (.t 138)⟩, ⟨(some 140), (some (117, true)), .pick (.t 133) (.c (.bool true)) (.t 139)⟩, ⟨(some 141), none, .pick (.t 117) (.t 140) (.c (.bool false))⟩])
 (.cond (.t 141) (.seq (.ops [⟨(some 2), none, .mv (.c (.bool false))⟩])
 (.ret)) (.skip)))
 (.seq (.ops [⟨(some 142), none, .load (some 1) (.t 4)⟩, ⟨(some 143), none, .call 13 [(.t 142)]⟩, ⟨(some 15), none, .mv (.t 143)⟩])
 (.seq (.ops [⟨(some 144), none, .mv (.t 15)⟩, ⟨(some 145), none, .mv (.t 15)⟩, ⟨(some 16), none, .mv (.t 144)⟩, ⟨(some 17), none, .mv (.t 145)⟩])
 (.seq (.seq (.ops [⟨(some 146), none, .mv (.t 15)⟩, ⟨(some 147), none, .bin 0 .eql (.t 146) (.c (.int .i64 0))⟩])
 (.cond (.t 147) (.any [(⟨(some 148), none, .load (some 1) (.t 4)⟩, []), (⟨(some 149), none, .mv (.t 7)⟩, [0]), (⟨(some 150), none, .call 15 [(.t 148), (.t 149)]⟩, []), (⟨(some 151), none, .load (some 1) (.t 4)⟩, [0, 1, 2]), (⟨(some 152), none, .mv (.t 8)⟩, [0, 1, 2, 3]), (⟨(some 153), none, .mv (.t 9)⟩, [0, 1, 2, 3, 4]), (⟨(some 154), none, .call 38 [(.t 151), (.t 152), (.t 153)]⟩, []), (⟨(some 16), none, .mv (.t 150)⟩, []), (⟨(some 17), none, .mv (.t 154)⟩, [])]) (.skip)))
 (.seq (.ops [⟨(some 156), none, .load (some 1) (.t 4)⟩, ⟨(some 157), none, .mv (.t 7)⟩, ⟨(some 158), none, .call 39 [(.t 156), (.t 157)]⟩, ⟨(some 155), none, .mv (.t 158)⟩, ⟨(some 159), none, .ext (.t 155) 0⟩, ⟨(some 160), none, .ext (.t 155) 1⟩, ⟨(some 18), none, .mv (.t 159)⟩, ⟨(some 12), none, .mv (.t 160)⟩])
 (.seq (.seq (.ops [⟨(some 161), none, .mv (.t 12)⟩, ⟨(some 162), none, .mv (.t 16)⟩, ⟨(some 163), none, .bin 0 .neq (.t 161) (.t 162)⟩, ⟨(some 164), none, .mv (.t 163)⟩, ⟨(some 165), (some (164, false)), .mv (.t 16)⟩, ⟨(some 166), (some (164, false)), .bin 0 .eql (.t 165) (.c (.int .i64 0))⟩, ⟨(some 167), (some (164, false)), .mv (.t 166)⟩, ⟨(some 168), (some (167, true)), .mv (.t 18)⟩, ⟨(some 169), (some (167, true)), .load (some 1) (.t 4)⟩, ⟨(some 170), (some (167, true)), .mv (.t 7)⟩, ⟨(some 171), (some (167, true)), .call 40 [(.t 169), (.t 170)]⟩, ⟨(some 172), (some (167, true)), .call 23 [(.t 168), (.t 171)]⟩, ⟨(some 173), (some (167, true)), .un .not (.t 172)⟩, ⟨(some 174), (some (164, false)), .pick (.t 167) (.t 173) (.c (.bool false))⟩, ⟨(some 175), none, .pick (.t 164) (.c (.bool true)) (.t 174)⟩, ⟨(some 176), none, .mv (.t 175)⟩, ⟨(some 177), (some (176, false)), .mv (.t 16)⟩, ⟨(some 178), (some (176, false)), .bin 0 .neq (.t 177) (.c (.int .i64 0))⟩, ⟨(some 179), (some (176, false)), .mv (.t 178)⟩, ⟨(some 180), (some (179, true)), .mv (.t 18)⟩, ⟨(some 181), (some (179, true)), .len false (.t 180)⟩, ⟨(some 182), (some (179, true)), .bin 0 .gtr (.t 181) (.c (.int .i64 0))⟩, ⟨(some 183), (some (176, false)), .pick (.t 179) (.t 182) (.c (.bool false))⟩, ⟨(some 184), none, .pick (.t 176) (.c (.bool true)) (.t 183)⟩])
 (.cond (.t 184) (.seq (.ops [⟨(some 2), none, .mv (.c (.bool false))⟩])
 (.ret)) (.skip)))
 (.seq (.ops [⟨(some 186), none, .load (some 1) (.t 4)⟩, ⟨(some 187), none, .mv (.t 8)⟩, ⟨(some 188), none, .mv (.t 9)⟩, ⟨(some 189), none, .call 41 [(.t 186), (.t 187), (.t 188)]⟩, ⟨(some 185), none, .mv (.t 189)⟩, ⟨(some 190), none, .ext (.t 185) 0⟩, ⟨(some 191), none, .ext (.t 185) 1⟩, ⟨(some 192), none, .ext (.t 185) 2⟩, ⟨(some 19), none, .mv (.t 190)⟩, ⟨(some 20), none, .mv (.t 191)⟩, ⟨(some 12), none, .mv (.t 192)⟩])
 (.seq (.seq (.ops [⟨(some 193), none, .mv (.t 17)⟩, ⟨(some 194), none, .bin 0 .neq (.t 193) (.c (.int .i64 0))⟩])
 (.cond (.t 194) (.seq (.ops [⟨(some 195), none, .mv (.t 12)⟩, ⟨(some 196), none, .mv (.t 17)⟩, ⟨(some 197), none, .bin 0 .eql (.t 195) (.t 196)⟩, ⟨(some 198), none, .mv (.t 197)⟩, ⟨(some 199), (some (198, true)), .mv (.t 19)⟩, ⟨(some 200), (some (198, true)), .len false (.t 199)⟩, ⟨(some 201), (some (198, true)), .bin 0 .eql (.t 200) (.c (.int .i64 0))⟩, ⟨(some 202), none, .pick (.t 198) (.t 201) (.c (.bool false))⟩, ⟨(some 203), none, .mv (.t 202)⟩, ⟨(some 204), (some (203, true)), .mv (.t 20)⟩, ⟨(some 205), (some (203, true)), .un .not (.t 204)⟩, ⟨(some 206), none, .pick (.t 203) (.t 205) (.c (.bool false))⟩, ⟨(some 207), none, .mv (.t 206)⟩, ⟨(some 208), (some (207, true)), .call 22 []⟩, ⟨(some 209), none, .pick (.t 207) (.t 208) (.c (.bool false))⟩, ⟨(some 2), none, .mv (.t 209)⟩])
 (.ret)) (.skip)))
 (.seq (.ops [⟨(some 211), none, .load (some 1) (.t 4)⟩, ⟨(some 212), none, .mv (.t 8)⟩, ⟨(some 213), none, .mv (.t 9)⟩, ⟨(some 214), none, .call 42 [(.t 211), (.t 212), (.t 213)]⟩, ⟨(some 210), none, .mv (.t 214)⟩, ⟨(some 215), none, .ext (.t 210) 0⟩, ⟨(some 216), none, .ext (.t 210) 1⟩, ⟨(some 21), none, .mv (.t 215)⟩, ⟨(some 22), none, .mv (.t 216)⟩])
 (.seq (.ops [⟨(some 217), none, .mv (.t 12)⟩, ⟨(some 218), none, .bin 0 .eql (.t 217) (.c (.int .i64 0))⟩, ⟨(some 219), none, .mv (.t 218)⟩, ⟨(some 220), (some (219, true)), .mv (.t 19)⟩, ⟨(some 221), (some (219, true)), .mv (.t 21)⟩, ⟨(some 222), (some (219, true)), .call 23 [(.t 220), (.t 221)]⟩, ⟨(some 223), none, .pick (.t 219) (.t 222) (.c (.bool false))⟩, ⟨(some 224), none, .mv (.t 223)⟩, ⟨(some 225), (some (224, true)), .mv (.t 20)⟩, ⟨(some 226), (some (224, true)), .mv (.t 22)⟩, ⟨(some 227), (some (224, true)), .bin 2 .eql (.t 225) (.t 226)⟩, ⟨(some 228), none, .pick (.t 224) (.t 227) (.c (.bool false))⟩, ⟨(some 229), none, .mv (.t 228)⟩, ⟨(some 230), (some (229, true)), .call 22 []⟩, ⟨(some 231), none, .pick (.t 229) (.t 230) (.c (.bool false))⟩, ⟨(some 2), none, .mv (.t 231)⟩])
 (.ret)))))))))))))))))))))))⟩
def a6 : AFn := ⟨152, [.t 2], .seq (.ops [⟨(some 2), none, .mv (.c (.bool false))⟩])
 (.seq (.ops [⟨(some 22), none, .mv (.t 0)⟩, ⟨(some 23), none, .build [(.lit true 0 []), (.int .i64 0)] [(0, 1, (.t 22))]⟩, ⟨(some 24), none, .box 25 (.t 23)⟩, ⟨(some 3), none, .mv (.t 24)⟩])
 (.seq (.ops [⟨(some 25), none, .mv (.t 3)⟩, ⟨(some 26), none, .call 9 [(.t 25)]⟩, ⟨(some 4), none, .alloc 27 [(.lit true 0 [])]⟩, ⟨none, none, .store 1 (.t 4) (.t 26)⟩])
 (.seq (.any [(⟨(some 27), none, .mv (.t 3)⟩, []), (⟨(some 28), none, .load (some 1) (.t 4)⟩, [0]), (⟨(some 29), none, .call 10 [(.t 27), (.t 28)]⟩, []), (⟨(some 30), none, .mv (.t 3)⟩, [0, 1, 2]), (⟨(some 31), none, .load (some 1) (.t 4)⟩, [0, 1, 2, 3]), (⟨(some 32), none, .call 11 [(.t 30), (.t 31)]⟩, []), (⟨(some 33), none, .mv (.t 3)⟩, [0, 1, 2, 3, 4, 5]), (⟨(some 34), none, .call 43 [(.t 33)]⟩, []), (⟨(some 35), none, .mv (.t 3)⟩, [0, 1, 2, 3, 4, 5, 6, 7]), (⟨(some 36), none, .bslice 3 1 5 [(.int .i64 0)] [(0, 1, (.c (.int .i64 1))), (1, 1, (.c (.int .i64 10))), (2, 1, (.c (.int .i64 1000))), (3, 1, (.c (.int .i64 0))), (4, 1, (.c (.int .i64 100001)))]⟩, [0, 1, 2, 3, 4, 5, 6, 7, 8]), (⟨(some 37), none, .call 12 [(.t 35), (.t 36)]⟩, []), (⟨(some 5), none, .mv (.t 29)⟩, []), (⟨(some 6), none, .mv (.t 32)⟩, []), (⟨(some 7), none, .mv (.t 34)⟩, []), (⟨(some 8), none, .mv (.t 37)⟩, [])])
 (.seq (.ops [⟨(some 38), none, .load (some 1) (.t 4)⟩, ⟨(some 39), none, .call 13 [(.t 38)]⟩, ⟨(some 9), none, .mv (.t 39)⟩])
 (.seq (.seq (.ops [⟨(some 40), none, .mv (.t 9)⟩, ⟨(some 41), none, .bin 0 .eql (.t 40) (.c (.int .i64 0))⟩])
 (.cond (.t 41) (.ops [⟨(some 42), none, .load (some 1) (.t 4)⟩, ⟨(some 43), none, .mv (.t 6)⟩, ⟨(some 44), none, .call 15 [(.t 42), (.t 43)]⟩, ⟨(some 9), none, .mv (.t 44)⟩]) (.skip)))
 (.seq (.ops [⟨(some 46), none, .load (some 1) (.t 4)⟩, ⟨(some 47), none, .mv (.t 6)⟩, ⟨(some 48), none, .call 44 [(.t 46), (.t 47)]⟩, ⟨(some 45), none, .mv (.t 48)⟩, ⟨(some 49), none, .ext (.t 45) 0⟩, ⟨(some 50), none, .ext (.t 45) 1⟩, ⟨(some 10), none, .mv (.t 49)⟩, ⟨(some 11), none, .mv (.t 50)⟩])
 (.seq (.ops [⟨(some 51), none, .mv (.t 9)⟩, ⟨(some 12), none, .mv (.t 51)⟩])
 (.seq (.ops [⟨(some 13), none, .mv (.c (.lit true 0 []))⟩])
 (.seq (.seq (.ops [⟨(some 52), none, .mv (.t 12)⟩, ⟨(some 53), none, .bin 0 .eql (.t 52) (.c (.int .i64 0))⟩])
 (.cond (.t 53) (.ops [⟨(some 55), none, .load (some 1) (.t 4)⟩, ⟨(some 56), none, .mv (.t 6)⟩, ⟨(some 57), none, .call 45 [(.t 55), (.t 56)]⟩, ⟨(some 54), none, .mv (.t 57)⟩, ⟨(some 58), none, .ext (.t 54) 0⟩, ⟨(some 59), none, .ext (.t 54) 1⟩, ⟨(some 13), none, .mv (.t 58)⟩, ⟨(some 12), none, .mv (.t 59)⟩]) (.skip)))
 (.seq (.seq (.ops [⟨(some 60), none, .mv (.t 11)⟩, ⟨(some 61), none, .mv (.t 12)⟩, ⟨(some 62), none, .bin 0 .neq (.t 60) (.t 61)⟩, ⟨(some 63), none, .mv (.t 62)⟩, ⟨(some 64), (some (63, false)), .mv (.t 10)⟩, ⟨(some 65), (some (63, false)), .mv (.t 13)⟩, ⟨(some 66), (some (63, false)), .call 46 [(.t 64), (.t 65)]⟩, ⟨(some 67), (some (63, false)), .un .not (.t 66)⟩, ⟨(some 68), none, .pick (.t 63) (.c (.bool true)) (.t 67)⟩])
 (.cond (.t 68) (.seq (.ops [⟨(some 2), none, .mv (.c (.bool false))⟩])
 (.ret)) (.skip)))
 (.seq (.ops [⟨(some 70), none, .load (some 1) (.t 4)⟩, ⟨(some 71), none, .mv (.t 6)⟩, ⟨(some 72), none, .mv (.t 8)⟩, ⟨(some 73), none, .call 47 [(.t 70), (.t 71), (.t 72)]⟩, ⟨(some 69), none, .mv (.t 73)⟩, ⟨(some 74), none, .ext (.t 69) 0⟩, ⟨(some 75), none, .ext (.t 69) 1⟩, ⟨(some 14), none, .mv (.t 74)⟩, ⟨(some 11), none, .mv (.t 75)⟩])
 (.seq (.ops [⟨(some 76), none, .mv (.t 9)⟩, ⟨(some 77), none, .mv (.t 8)⟩, ⟨(some 78), none, .call 49 [(.t 77), (.c (.int .i64 1)), (.c (.int .i64 100000))]⟩, ⟨(some 79), none, .bslice 33 1 2 [(.int .i64 0)] [(0, 1, (.t 76)), (1, 1, (.t 78))]⟩, ⟨(some 80), none, .call 48 [(.t 79)]⟩, ⟨(some 15), none, .mv (.t 80)⟩])
 (.seq (.ops [⟨(some 16), none, .mv (.c (.int .i64 0))⟩])
 (.seq (.seq (.ops [⟨(some 81), none, .mv (.t 15)⟩, ⟨(some 82), none, .bin 0 .eql (.t 81) (.c (.int .i64 0))⟩])
 (.cond (.t 82) (.ops [⟨(some 84), none, .load (some 1) (.t 4)⟩, ⟨(some 85), none, .mv (.t 6)⟩, ⟨(some 86), none, .mv (.t 8)⟩, ⟨(some 87), none, .call 50 [(.t 84), (.t 85), (.t 86)]⟩, ⟨(some 83), none, .mv (.t 87)⟩, ⟨(some 88), none, .ext (.t 83) 0⟩, ⟨(some 89), none, .ext (.t 83) 1⟩, ⟨(some 16), none, .mv (.t 88)⟩, ⟨(some 15), none, .mv (.t 89)⟩]) (.skip)))
 (.seq (.seq (.ops [⟨(some 90), none, .mv (.t 11)⟩, ⟨(some 91), none, .mv (.t 15)⟩, ⟨(some 92), none, .bin 0 .neq (.t 90) (.t 91)⟩, ⟨(some 93), none, .mv (.t 92)⟩, ⟨(some 94), (some (93, false)), .mv (.t 14)⟩, ⟨(some 95), (some (93, false)), .mv (.t 16)⟩, ⟨(some 96), (some (93, false)), .bin 0 .neq (.t 94) (.t 95)⟩, ⟨(some 97), none, .pick (.t 93) (.c (.bool true)) (.t 96)⟩])
 (.cond (.t 97) (.seq (.ops [⟨(some 2), none, .mv (.c (.bool false))⟩])
 (.ret)) (.skip)))
 (.seq (.ops [⟨(some 99), none, .load (some 1) (.t 4)⟩, ⟨(some 100), none, .mv (.t 5)⟩, ⟨(some 101), none, .mv (.t 7)⟩, ⟨(some 102), none, .call 51 [(.t 99), (.t 100), (.t 101)]⟩, ⟨(some 98), none, .mv (.t 102)⟩, ⟨(some 103), none, .ext (.t 98) 0⟩, ⟨(some 104), none, .ext (.t 98) 1⟩, ⟨(some 105), none, .ext (.t 98) 2⟩, ⟨(some 17), none, .mv (.t 103)⟩, ⟨(some 18), none, .mv (.t 104)⟩, ⟨(some 11), none, .mv (.t 105)⟩])
 (.seq (.ops [⟨(some 106), none, .load (some 1) (.t 4)⟩, ⟨(some 107), none, .mv (.t 5)⟩, ⟨(some 108), none, .bslice 22 1 1 [(.lit true 0 [])] [(0, 1, (.t 107))]⟩, ⟨(some 109), none, .call 14 [(.t 106), (.t 108)]⟩, ⟨(some 110), none, .mv (.t 7)⟩, ⟨(some 111), none, .call 52 [(.t 110)]⟩, ⟨(some 112), none, .bslice 33 1 2 [(.int .i64 0)] [(0, 1, (.t 109)), (1, 1, (.t 111))]⟩, ⟨(some 113), none, .call 48 [(.t 112)]⟩, ⟨(some 19), none, .mv (.t 113)⟩])
 (.seq (.seq (.ops [⟨(some 114), none, .mv (.t 19)⟩, ⟨(some 115), none, .bin 0 .neq (.t 114) (.c (.int .i64 0))⟩])
 (.cond (.t 115) (.seq (.ops [⟨(some 116), none, .mv (.t 11)⟩, ⟨(some 117), none, .mv (.t 19)⟩, ⟨(some 118), none, .bin 0 .eql (.t 116) (.t 117)⟩, ⟨(some 119), none, .mv (.t 118)⟩, ⟨(some 120), (some (119, true)), .mv (.t 17)⟩, ⟨(some 121), (some (119, true)), .len false (.t 120)⟩, ⟨(some 122), (some (119, true)), .mv (.t 18)⟩, ⟨(some 123), (some (119, true)), .len false (.t 122)⟩, ⟨(some 124), (some (119, true)), .bin 0 .add (.t 121) (.t 123)⟩, ⟨(some 125), (some (119, true)), .bin 0 .eql (.t 124) (.c (.int .i64 0))⟩, ⟨(some 126), none, .pick (.t 119) (.t 125) (.c (.bool false))⟩, ⟨(some 127), none, .mv (.t 126)⟩, ⟨(some 128), (some (127, true)), .call 22 []⟩, ⟨(some 129), none, .pick (.t 127) (.t 128) (.c (.bool false))⟩, ⟨(some 2), none, .mv (.t 129)⟩])
 (.ret)) (.skip)))
 (.seq (.ops [⟨(some 131), none, .load (some 1) (.t 4)⟩, ⟨(some 132), none, .mv (.t 5)⟩, ⟨(some 133), none, .mv (.t 7)⟩, ⟨(some 134), none, .call 53 [(.t 131), (.t 132), (.t 133)]⟩, ⟨(some 130), none, .mv (.t 134)⟩, ⟨(some 135), none, .ext (.t 130) 0⟩, ⟨(some 136), none, .ext (.t 130) 1⟩, ⟨(some 20), none, .mv (.t 135)⟩, ⟨(some 21), none, .mv (.t 136)⟩])
 (.seq (.ops [⟨(some 137), none, .mv (.t 11)⟩, ⟨(some 138), none, .bin 0 .eql (.t 137) (.c (.int .i64 0))⟩, ⟨(some 139), none, .mv (.t 138)⟩, ⟨(some 140), (some (139, true)), .mv (.t 17)⟩, ⟨(some 141), (some (139, true)), .mv (.t 20)⟩, ⟨(some 142), (some (139, true)), .call 23 [(.t 140), (.t 141)]⟩, ⟨(some 143), none, .pick (.t 139) (.t 142) (.c (.bool false))⟩, ⟨(some 144), none, .mv (.t 143)⟩, ⟨(some 145), (some (144, true)), .mv (.t 18)⟩, ⟨(some 146), (some (144, true)), .mv (.t 21)⟩, ⟨(some 147), (some (144, true)), .call 23 [(.t 145), (.t 146)]⟩, ⟨(some 148), none, .pick (.t 144) (.t 147) (.c (.bool false))⟩, ⟨(some 149), none, .mv (.t 148)⟩, ⟨(some 150), (some (149, true)), .call 22 []⟩, ⟨(some 151), none, .pick (.t 149) (.t 150) (.c (.bool false))⟩, ⟨(some 2), none, .mv (.t 151)⟩])
 (.ret)))))))))))))))))))))⟩
def a7 : AFn := ⟨98, [.t 2], .seq (.ops [⟨(some 2), none, .mv (.c (.bool false))⟩])
 (.seq (.ops [⟨(some 13), none, .mv (.t 0)⟩, ⟨(some 14), none, .build [(.lit true 0 []), (.int .i64 0)] [(0, 1, (.t 13))]⟩, ⟨(some 15), none, .box 25 (.t 14)⟩, ⟨(some 3), none, .mv (.t 15)⟩])
 (.seq (.ops [⟨(some 16), none, .mv (.t 3)⟩, ⟨(some 17), none, .call 9 [(.t 16)]⟩, ⟨(some 4), none, .alloc 27 [(.lit true 0 [])]⟩, ⟨none, none, .store 1 (.t 4) (.t 17)⟩])
 (.seq (.any [(⟨(some 18), none, .mv (.t 3)⟩, []), (⟨(some 19), none, .load (some 1) (.t 4)⟩, [0]), (⟨(some 20), none, .call 10 [(.t 18), (.t 19)]⟩, []), (⟨(some 21), none, .mv (.t 3)⟩, [0, 1, 2]), (⟨(some 22), none, .load (some 1) (.t 4)⟩, [0, 1, 2, 3]), (⟨(some 23), none, .call 10 [(.t 21), (.t 22)]⟩, []), (⟨(some 5), none, .mv (.t 20)⟩, []), (⟨(some 6), none, .mv (.t 23)⟩, [])])
 (.seq (.seq (.ops [⟨(some 24), none, .load (some 1) (.t 4)⟩, ⟨(some 25), none, .call 13 [(.t 24)]⟩, ⟨(some 26), none, .bin 0 .neq (.t 25) (.c (.int .i64 0))⟩, ⟨(some 27), none, .mv (.t 26)⟩, ⟨(some 28), (some (27, false)), .load (some 1) (.t 4)⟩, ⟨(some 29), (some (27, false)), .mv (.t 5)⟩, ⟨(some 30), (some (27, false)), .call 54 [(.t 28), (.t 29)]⟩, ⟨(some 31), (some (27, false)), .bin 0 .neq (.t 30) (.c (.int .i64 0))⟩, ⟨(some 32), none, .pick (.t 27) (.c (.bool true)) (.t 31)⟩, ⟨(some 33), none, .mv (.t 32)⟩, ⟨(some 34), (some (33, false)), .load (some 1) (.t 4)⟩, ⟨(some 35), (some (33, false)), .mv (.t 6)⟩, ⟨(some 36), (some (33, false)), .call 54 [(.t 34), (.t 35)]⟩, ⟨(some 37), (some (33, false)), .bin 0 .neq (.t 36) (.c (.int .i64 0))⟩, ⟨(some 38), none, .pick (.t 33) (.c (.bool true)) (.t 37)⟩])
 (.cond (.t 38) (.seq (.ops [⟨(some 39), none, .call 29 []⟩, ⟨(some 2), none, .mv (.t 39)⟩])
 (.ret)) (.skip)))
 (.seq (.ops [⟨(some 41), none, .load (some 1) (.t 4)⟩, ⟨(some 42), none, .mv (.t 5)⟩, ⟨(some 43), none, .mv (.t 6)⟩, ⟨(some 44), none, .call 32 [(.t 41), (.t 42), (.t 43)]⟩, ⟨(some 40), none, .mv (.t 44)⟩, ⟨(some 45), none, .ext (.t 40) 0⟩, ⟨(some 46), none, .ext (.t 40) 1⟩, ⟨(some 7), none, .mv (.t 45)⟩, ⟨(some 8), none, .mv (.t 46)⟩])
 (.seq (.seq (.ops [⟨(some 47), none, .mv (.t 8)⟩, ⟨(some 48), none, .bin 0 .neq (.t 47) (.c (.int .i64 0))⟩])
 (.cond (.t 48) (.seq (.ops [⟨(some 2), none, .mv (.c (.bool false))⟩])
 (.ret)) (.skip)))
 (.seq (.seq (.ops [⟨(some 49), none, .mv (.t 7)⟩, ⟨(some 50), none, .len false (.t 49)⟩, ⟨(some 51), none, .mv (.c (.int .i64 0))⟩])
 (.block 0 (.loop (.seq (.ops [⟨(some 52), none, .bin 0 .lss (.t 51) (.t 50)⟩])
 (.seq (.cond (.t 52) (.skip) (.exit 0))
 (.seq (.block 1 (.seq (.ops [⟨(some 53), none, .mv (.t 51)⟩, ⟨(some 9), none, .mv (.t 53)⟩])
 (.seq (.any [(⟨(some 55), none, .load (some 1) (.t 4)⟩, []), (⟨(some 56), none, .mv (.t 5)⟩, [0]), (⟨(some 57), none, .mv (.t 7)⟩, [0, 1]), (⟨(some 58), none, .call 56 [(.t 57)]⟩, [0, 1]), (⟨(some 59), none, .mv (.t 9)⟩, [0, 1, 2, 3]), (⟨(some 60), none, .mv (.t 9)⟩, [0, 1, 2, 3, 4]), (⟨(some 61), none, .bin 0 .add (.t 60) (.c (.int .i64 1))⟩, [0, 1, 2, 3, 4]), (⟨(some 62), none, .call 55 [(.t 58), (.t 59), (.t 61)]⟩, [0, 1]), (⟨(some 63), none, .call 21 [(.t 55), (.t 56), (.t 62)]⟩, []), (⟨(some 54), none, .mv (.t 63)⟩, []), (⟨(some 64), none, .ext (.t 54) 0⟩, []), (⟨(some 65), none, .ext (.t 54) 1⟩, [10]), (⟨(some 10), none, .mv (.t 64)⟩, [11]), (⟨(some 11), none, .mv (.t 65)⟩, [])])
 (.seq (.ops [⟨(some 66), none, .mv (.t 11)⟩, ⟨(some 67), none, .bin 0 .neq (.t 66) (.c (.int .i64 0))⟩, ⟨(some 68), none, .mv (.t 67)⟩, ⟨(some 69), (some (68, false)), .mv (.t 10)⟩, ⟨(some 70), (some (68, false)), .mv (.t 6)⟩, ⟨(some 71), (some (68, false)), .call 23 [(.t 69), (.t 70)]⟩, ⟨(some 72), none, .pick (.t 68) (.c (.bool true)) (.t 71)⟩])
 (.cond (.t 72) (.seq (.ops [⟨(some 2), none, .mv (.c (.bool false))⟩])
 (.ret)) (.skip))))))
 (.ops [⟨(some 73), none, .bin 0 .add (.t 51) (.c (.int .i64 1))⟩, ⟨(some 51), none, .mv (.t 73)⟩])))))))
 (.seq (.ops [⟨(some 75), none, .load (some 1) (.t 4)⟩, ⟨(some 76), none, .mv (.t 7)⟩, ⟨(some 77), none, .call 39 [(.t 75), (.t 76)]⟩, ⟨(some 74), none, .mv (.t 77)⟩, ⟨(some 78), none, .ext (.t 74) 0⟩, ⟨(some 79), none, .ext (.t 74) 1⟩, ⟨(some 12), none, .mv (.t 78)⟩, ⟨(some 8), none, .mv (.t 79)⟩])
 (.seq (.ops [⟨(some 80), none, .mv (.t 8)⟩, ⟨(some 81), none, .bin 0 .eql (.t 80) (.c (.int .i64 0))⟩, ⟨(some 82), none, .mv (.t 81)⟩, ⟨(some 83), (some (82, true)), .mv (.t 12)⟩, ⟨(some 84), (some (82, true)), .len false (.t 83)⟩, ⟨(some 85), (some (82, true)), .fadr 0 (.t 4)⟩, ⟨(some 86), (some (82, true)), .load none (.t 85)⟩, ⟨(some 87), (some (82, true)), .len false (.t 86)⟩, ⟨(some 88), (some (82, true)), .bin 0 .eql (.t 84) (.t 87)⟩, ⟨(some 89), none, .pick (.t 82) (.t 88) (.c (.bool false))⟩, ⟨(some 90), none, .mv (.t 89)⟩, ⟨(some 91), (some (90, true)), .mv (.t 12)⟩, ⟨(some 92), (some (90, true)), .call 57 [(.t 91), (.c (.fn 58 []))]⟩, ⟨(some 93), (some (90, true)), .un .not (.t 92)⟩, ⟨(some 94), none, .pick (.t 90) (.t 93) (.c (.bool false))⟩, ⟨(some 95), none, .mv (.t 94)⟩, ⟨(some 96), (some (95, true)), .call 29 []⟩, ⟨(some 97), none, .pick (.t 95) (.t 96) (.c (.bool false))⟩, ⟨(some 2), none, .mv (.t 97)⟩])
 (.ret))))))))))⟩
theorem c7 : compF Go.Proofs.Try.prog 7 = some a7 := by kernel_rfl
def a9 : AFn := ⟨33, [.c 2 (some 1)], .seq (.ops [⟨(some 2), none, .alloc 27 [(.lit true 0 [])]⟩])
 (.seq (.ops [⟨(some 3), none, .alloc 27 [(.lit true 0 [])]⟩])
 (.seq (.seq (.ops [⟨(some 4), none, .mv (.t 0)⟩, ⟨(some 5), none, .call 30 [(.t 4), (.c (.int .i64 1)), (.c (.int .i64 4))]⟩, ⟨(some 6), none, .mv (.c (.int .i64 0))⟩])
 (.block 0 (.loop (.seq (.ops [⟨(some 7), none, .bin 0 .lss (.t 6) (.t 5)⟩])
 (.seq (.cond (.t 7) (.skip) (.exit 0))
 (.seq (.block 1 (.any [(⟨(some 8), none, .fadr 0 (.t 3)⟩, []), (⟨(some 9), none, .load none (.t 8)⟩, []), (⟨(some 10), none, .mv (.t 0)⟩, [0, 1]), (⟨(some 11), none, .call 30 [(.t 10), (.c (.int .i64 1)), (.c (.int .i64 5))]⟩, [0, 1]), (⟨(some 12), none, .bslice 3 1 1 [(.int .i64 0)] [(0, 1, (.t 11))]⟩, [0, 1]), (⟨(some 13), none, .app 3 1 8 (.t 9) (.t 12)⟩, []), (⟨(some 14), none, .fadr 0 (.t 3)⟩, []), (⟨none, none, .store 1 (.t 14) (.t 13)⟩, [])]))
 (.ops [⟨(some 15), none, .bin 0 .add (.t 6) (.c (.int .i64 1))⟩, ⟨(some 6), none, .mv (.t 15)⟩])))))))
 (.seq (.seq (.ops [⟨(some 16), none, .mv (.t 0)⟩, ⟨(some 17), none, .call 31 [(.t 16), (.c (.int .i64 20))]⟩])
 (.cond (.t 17) (.any [(⟨(some 18), none, .fadr 0 (.t 3)⟩, []), (⟨(some 19), none, .load none (.t 18)⟩, []), (⟨(some 20), none, .mv (.t 0)⟩, [0, 1]), (⟨(some 21), none, .fadr 0 (.t 3)⟩, [0, 1, 2]), (⟨(some 22), none, .load none (.t 21)⟩, [0, 1, 2]), (⟨(some 23), none, .len false (.t 22)⟩, [0, 1, 2]), (⟨(some 24), none, .call 26 [(.t 20), (.t 23)]⟩, [0, 1]), (⟨(some 25), none, .mv (.t 0)⟩, [0, 1, 2, 3, 4, 5, 6]), (⟨(some 26), none, .bslice 3 1 4 [(.int .i64 0)] [(0, 1, (.c (.int .i64 0))), (1, 1, (.c (.int .i64 (-1)))), (2, 1, (.c (.int .i64 4096))), (3, 1, (.c (.int .i64 4097)))]⟩, [0, 1, 2, 3, 4, 5, 6, 7]), (⟨(some 27), none, .call 12 [(.t 25), (.t 26)]⟩, [0, 1]), (⟨(some 28), none, .iadr 1 (.t 19) (.t 24)⟩, []), (⟨none, none, .store 1 (.t 28) (.t 27)⟩, [])]) (.skip)))
 (.seq (.seq (.ops [⟨(some 29), none, .mv (.t 0)⟩, ⟨(some 30), none, .call 31 [(.t 29), (.c (.int .i64 40))]⟩])
 (.cond (.t 30) (.ops [⟨(some 31), none, .fadr 0 (.t 3)⟩, ⟨none, none, .store 1 (.t 31) (.c (.lit true 0 []))⟩]) (.skip)))
 (.seq (.ops [⟨(some 32), none, .load (some 1) (.t 3)⟩, ⟨none, none, .store 1 (.t 2) (.t 32)⟩])
 (.ret))))))⟩
theorem c9 : compF Go.Proofs.Try.prog 9 = some a9 := by kernel_rfl
def a10 : AFn := ⟨56, [.t 4], .seq (.ops [⟨(some 3), none, .box 27 (.t 1)⟩, ⟨(some 4), none, .mv (.c (.lit true 0 []))⟩])
 (.seq (.ops [⟨(some 5), none, .mv (.c (.int .i64 0))⟩])
 (.seq (.seq (.ops [⟨(some 9), none, .fadr 0 (.t 3)⟩, ⟨(some 10), none, .load none (.t 9)⟩, ⟨(some 11), none, .len false (.t 10)⟩, ⟨(some 12), none, .mv (.c (.int .i64 0))⟩])
 (.block 0 (.loop (.seq (.ops [⟨(some 13), none, .bin 0 .lss (.t 12) (.t 11)⟩])
 (.seq (.cond (.t 13) (.skip) (.exit 0))
 (.seq (.block 1 (.seq (.ops [⟨(some 14), none, .iadr 1 (.t 10) (.t 12)⟩, ⟨(some 15), none, .load none (.t 14)⟩, ⟨(some 7), none, .mv (.t 15)⟩])
 (.ops [⟨(some 16), none, .mv (.t 5)⟩, ⟨(some 17), none, .mv (.t 7)⟩, ⟨(some 18), none, .mm true (.t 17) [(.c (.int .i64 0))]⟩, ⟨(some 19), none, .bin 0 .add (.t 16) (.t 18)⟩, ⟨(some 5), none, .mv (.t 19)⟩])))
 (.ops [⟨(some 20), none, .bin 0 .add (.t 12) (.c (.int .i64 1))⟩, ⟨(some 12), none, .mv (.t 20)⟩])))))))
 (.seq (.ops [⟨(some 8), none, .mv (.c (.lit true 0 []))⟩])
 (.seq (.seq (.ops [⟨(some 21), none, .mv (.t 5)⟩, ⟨(some 22), none, .mm false (.t 21) [(.c (.int .i64 40))]⟩, ⟨(some 23), none, .mv (.c (.int .i64 0))⟩])
 (.block 2 (.loop (.seq (.ops [⟨(some 24), none, .bin 0 .lss (.t 23) (.t 22)⟩])
 (.seq (.cond (.t 24) (.skip) (.exit 2))
 (.seq (.block 3 (.ops [⟨(some 25), none, .mv (.t 8)⟩, ⟨(some 26), none, .mv (.t 0)⟩, ⟨(some 27), none, .mv (.t 0)⟩, ⟨(some 28), none, .call 26 [(.t 27), (.c (.int .i64 65536))]⟩, ⟨(some 29), none, .bslice 3 1 7 [(.int .i64 0)] [(0, 1, (.c (.int .i64 65535))), (1, 1, (.c (.int .i64 65535))), (2, 1, (.c (.int .i64 0))), (3, 1, (.c (.int .i64 1))), (4, 1, (.c (.int .i64 3))), (5, 1, (.c (.int .i64 65534))), (6, 1, (.t 28))]⟩, ⟨(some 30), none, .call 12 [(.t 26), (.t 29)]⟩, ⟨(some 31), none, .bslice 3 1 1 [(.int .i64 0)] [(0, 1, (.t 30))]⟩, ⟨(some 32), none, .app 3 1 8 (.t 25) (.t 31)⟩, ⟨(some 8), none, .mv (.t 32)⟩]))
 (.ops [⟨(some 33), none, .bin 0 .add (.t 23) (.c (.int .i64 1))⟩, ⟨(some 23), none, .mv (.t 33)⟩])))))))
 (.seq (.seq (.ops [⟨(some 34), none, .mv (.t 8)⟩, ⟨(some 35), none, .len false (.t 34)⟩, ⟨(some 36), none, .bin 0 .gtr (.t 35) (.c (.int .i64 0))⟩, ⟨(some 37), none, .mv (.t 36)⟩, ⟨(some 38), (some (37, true)), .mv (.t 0)⟩, ⟨(some 39), (some (37, true)), .call 31 [(.t 38), (.c (.int .i64 20))]⟩, ⟨(some 40), none, .pick (.t 37) (.t 39) (.c (.bool false))⟩])
 (.cond (.t 40) (.ops [⟨(some 41), none, .mv (.t 8)⟩, ⟨(some 42), none, .mv (.t 0)⟩, ⟨(some 43), none, .mv (.t 8)⟩, ⟨(some 44), none, .len false (.t 43)⟩, ⟨(some 45), none, .call 26 [(.t 42), (.t 44)]⟩, ⟨(some 46), none, .mv (.t 0)⟩, ⟨(some 47), none, .bslice 3 1 2 [(.int .i64 0)] [(0, 1, (.c (.int .i64 (-1)))), (1, 1, (.c (.int .i64 65536)))]⟩, ⟨(some 48), none, .call 12 [(.t 46), (.t 47)]⟩, ⟨(some 49), none, .iadr 1 (.t 41) (.t 45)⟩, ⟨none, none, .store 1 (.t 49) (.t 48)⟩]) (.skip)))
 (.seq (.seq (.ops [⟨(some 50), none, .mv (.t 0)⟩, ⟨(some 51), none, .call 31 [(.t 50), (.c (.int .i64 30))]⟩])
 (.cond (.t 51) (.ops [⟨(some 52), none, .mv (.t 8)⟩, ⟨(some 53), none, .bslice 3 1 1 [(.int .i64 0)] [(0, 1, (.c (.int .i64 0)))]⟩, ⟨(some 54), none, .app 3 1 8 (.t 52) (.t 53)⟩, ⟨(some 8), none, .mv (.t 54)⟩]) (.skip)))
 (.seq (.ops [⟨(some 55), none, .mv (.t 8)⟩, ⟨(some 4), none, .mv (.t 55)⟩])
 (.ret))))))))⟩
theorem c10 : compF Go.Proofs.Try.prog 10 = some a10 := by kernel_rfl
def a12 : AFn := ⟨12, [.t 4], .seq (.ops [⟨(some 4), none, .mv (.c (.int .i64 0))⟩])
 (.seq (.ops [⟨(some 5), none, .mv (.t 1)⟩, ⟨(some 6), none, .mv (.t 0)⟩, ⟨(some 7), none, .mv (.t 1)⟩, ⟨(some 8), none, .len false (.t 7)⟩, ⟨(some 9), none, .call 26 [(.t 6), (.t 8)]⟩, ⟨(some 10), none, .iadr 1 (.t 5) (.t 9)⟩, ⟨(some 11), none, .load none (.t 10)⟩, ⟨(some 4), none, .mv (.t 11)⟩])
 (.ret))⟩
theorem c12 : compF Go.Proofs.Try.prog 12 = some a12 := by kernel_rfl
def a13 : AFn := ⟨29, [.t 2], .seq (.ops [⟨(some 1), none, .box 27 (.t 0)⟩, ⟨(some 2), none, .mv (.c (.int .i64 0))⟩])
 (.seq (.block 0 (.seq (.ops [⟨(some 6), none, .fadr 0 (.t 1)⟩, ⟨(some 7), none, .load none (.t 6)⟩, ⟨(some 8), none, .len false (.t 7)⟩, ⟨(some 9), none, .bin 0 .eql (.t 8) (.c (.int .i64 0))⟩, ⟨(some 5), none, .mv (.t 9)⟩])
 (.cond (.t 5) (.seq (.ops [⟨(some 2), none, .mv (.c (.int .i64 8))⟩])
 (.ret)) (.seq (.ops [⟨(some 11), none, .fadr 0 (.t 1)⟩, ⟨(some 12), none, .load none (.t 11)⟩, ⟨(some 13), none, .len false (.t 12)⟩, ⟨(some 14), none, .bin 0 .gtr (.t 13) (.c (.int .i64 20))⟩, ⟨(some 10), none, .mv (.t 14)⟩])
 (.cond (.t 10) (.seq (.ops [⟨(some 2), none, .mv (.c (.int .i64 2))⟩])
 (.ret)) (.skip))))))
 (.seq (.seq (.ops [⟨(some 15), none, .fadr 0 (.t 1)⟩, ⟨(some 16), none, .load none (.t 15)⟩, ⟨(some 17), none, .len false (.t 16)⟩, ⟨(some 18), none, .mv (.c (.int .i64 0))⟩])
 (.block 1 (.loop (.seq (.ops [⟨(some 19), none, .bin 0 .lss (.t 18) (.t 17)⟩])
 (.seq (.cond (.t 19) (.skip) (.exit 1))
 (.seq (.block 2 (.seq (.ops [⟨(some 20), none, .iadr 1 (.t 16) (.t 18)⟩, ⟨(some 21), none, .load none (.t 20)⟩, ⟨(some 4), none, .mv (.t 21)⟩])
 (.seq (.ops [⟨(some 22), none, .mv (.t 4)⟩, ⟨(some 23), none, .call 60 [(.t 22), (.c (.int .i64 1)), (.c (.int .i64 4096))]⟩, ⟨(some 24), none, .un .not (.t 23)⟩])
 (.cond (.t 24) (.seq (.ops [⟨(some 2), none, .mv (.c (.int .i64 1))⟩])
 (.ret)) (.skip)))))
 (.ops [⟨(some 25), none, .bin 0 .add (.t 18) (.c (.int .i64 1))⟩, ⟨(some 18), none, .mv (.t 25)⟩])))))))
 (.seq (.seq (.ops [⟨(some 26), none, .load (some 1) (.t 1)⟩, ⟨(some 27), none, .call 61 [(.t 26)]⟩, ⟨(some 28), none, .bin 0 .gtr (.t 27) (.c (.int .i64 4096))⟩])
 (.cond (.t 28) (.seq (.ops [⟨(some 2), none, .mv (.c (.int .i64 2))⟩])
 (.ret)) (.skip)))
 (.seq (.ops [⟨(some 2), none, .mv (.c (.int .i64 0))⟩])
 (.ret)))))⟩
theorem c13 : compF Go.Proofs.Try.prog 13 = some a13 := by kernel_rfl
def a16 : AFn := ⟨28, [.t 2], .seq (.ops [⟨(some 1), none, .box 27 (.t 0)⟩, ⟨(some 2), none, .mv (.c (.int .i64 0))⟩])
 (.seq (.block 0 (.seq (.ops [⟨(some 6), none, .fadr 0 (.t 1)⟩, ⟨(some 7), none, .load none (.t 6)⟩, ⟨(some 8), none, .len false (.t 7)⟩, ⟨(some 9), none, .bin 0 .eql (.t 8) (.c (.int .i64 0))⟩, ⟨(some 5), none, .mv (.t 9)⟩])
 (.cond (.t 5) (.seq (.ops [⟨(some 2), none, .mv (.c (.int .i64 8))⟩])
 (.ret)) (.seq (.ops [⟨(some 11), none, .fadr 0 (.t 1)⟩, ⟨(some 12), none, .load none (.t 11)⟩, ⟨(some 13), none, .len false (.t 12)⟩, ⟨(some 14), none, .bin 0 .gtr (.t 13) (.c (.int .i64 20))⟩, ⟨(some 10), none, .mv (.t 14)⟩])
 (.cond (.t 10) (.seq (.ops [⟨(some 2), none, .mv (.c (.int .i64 2))⟩])
 (.ret)) (.skip))))))
 (.seq (.seq (.ops [⟨(some 15), none, .fadr 0 (.t 1)⟩, ⟨(some 16), none, .load none (.t 15)⟩, ⟨(some 17), none, .len false (.t 16)⟩, ⟨(some 18), none, .mv (.c (.int .i64 0))⟩])
 (.block 1 (.loop (.seq (.ops [⟨(some 19), none, .bin 0 .lss (.t 18) (.t 17)⟩])
 (.seq (.cond (.t 19) (.skip) (.exit 1))
 (.seq (.block 2 (.seq (.ops [⟨(some 20), none, .iadr 1 (.t 16) (.t 18)⟩, ⟨(some 21), none, .load none (.t 20)⟩, ⟨(some 4), none, .mv (.t 21)⟩])
 (.seq (.ops [⟨(some 22), none, .mv (.t 4)⟩, ⟨(some 23), none, .call 62 [(.t 22), (.c (.int .i64 1)), (.c (.int .i64 4096))]⟩])
 (.cond (.t 23) (.seq (.ops [⟨(some 2), none, .mv (.c (.int .i64 1))⟩])
 (.ret)) (.skip)))))
 (.ops [⟨(some 24), none, .bin 0 .add (.t 18) (.c (.int .i64 1))⟩, ⟨(some 18), none, .mv (.t 24)⟩])))))))
 (.seq (.seq (.ops [⟨(some 25), none, .load (some 1) (.t 1)⟩, ⟨(some 26), none, .call 63 [(.t 25)]⟩, ⟨(some 27), none, .bin 0 .gtr (.t 26) (.c (.int .i64 4096))⟩])
 (.cond (.t 27) (.seq (.ops [⟨(some 2), none, .mv (.c (.int .i64 2))⟩])
 (.ret)) (.skip)))
 (.seq (.ops [⟨(some 2), none, .mv (.c (.int .i64 0))⟩])
 (.ret)))))⟩
theorem c16 : compF Go.Proofs.Try.prog 16 = some a16 := by kernel_rfl
def a17 : AFn := ⟨27, [.t 4], .seq (.ops [⟨(some 2), none, .box 27 (.t 0)⟩, ⟨(some 4), none, .mv (.c (.int .i64 0))⟩])
 (.seq (.seq (.ops [⟨(some 8), none, .load (some 1) (.t 2)⟩, ⟨(some 9), none, .call 16 [(.t 8)]⟩, ⟨(some 5), none, .mv (.t 9)⟩])
 (.seq (.ops [⟨(some 10), none, .mv (.t 5)⟩, ⟨(some 11), none, .bin 0 .neq (.t 10) (.c (.int .i64 0))⟩])
 (.cond (.t 11) (.seq (.ops [⟨(some 12), none, .mv (.t 5)⟩, ⟨(some 4), none, .mv (.t 12)⟩])
 (.ret)) (.skip))))
 (.seq (.seq (.ops [⟨(some 13), none, .mv (.t 1)⟩, ⟨(some 14), none, .len false (.t 13)⟩, ⟨(some 15), none, .load (some 1) (.t 2)⟩, ⟨(some 16), none, .call 63 [(.t 15)]⟩, ⟨(some 17), none, .bin 0 .neq (.t 14) (.t 16)⟩])
 (.cond (.t 17) (.seq (.ops [⟨(some 4), none, .mv (.c (.int .i64 3))⟩])
 (.ret)) (.skip)))
 (.seq (.seq (.ops [⟨(some 18), none, .mv (.t 1)⟩, ⟨(some 19), none, .len false (.t 18)⟩, ⟨(some 20), none, .mv (.c (.int .i64 0))⟩])
 (.block 0 (.loop (.seq (.ops [⟨(some 21), none, .bin 0 .lss (.t 20) (.t 19)⟩])
 (.seq (.cond (.t 21) (.skip) (.exit 0))
 (.seq (.block 1 (.seq (.ops [⟨(some 22), none, .iadr 1 (.t 18) (.t 20)⟩, ⟨(some 23), none, .load none (.t 22)⟩, ⟨(some 7), none, .mv (.t 23)⟩])
 (.seq (.ops [⟨(some 24), none, .mv (.t 7)⟩, ⟨(some 25), none, .call 62 [(.t 24), (.c (.int .i64 0)), (.c (.int .i64 65535))]⟩])
 (.cond (.t 25) (.seq (.ops [⟨(some 4), none, .mv (.c (.int .i64 1))⟩])
 (.ret)) (.skip)))))
 (.ops [⟨(some 26), none, .bin 0 .add (.t 20) (.c (.int .i64 1))⟩, ⟨(some 20), none, .mv (.t 26)⟩])))))))
 (.seq (.ops [⟨(some 4), none, .mv (.c (.int .i64 0))⟩])
 (.ret)))))⟩
theorem c17 : compF Go.Proofs.Try.prog 17 = some a17 := by kernel_rfl
def a18 : AFn := ⟨50, [.t 4], .seq (.ops [⟨(some 2), none, .box 27 (.t 0)⟩, ⟨(some 4), none, .mv (.c (.int .i64 0))⟩])
 (.seq (.seq (.ops [⟨(some 8), none, .load (some 1) (.t 2)⟩, ⟨(some 9), none, .call 16 [(.t 8)]⟩, ⟨(some 5), none, .mv (.t 9)⟩])
 (.seq (.ops [⟨(some 10), none, .mv (.t 5)⟩, ⟨(some 11), none, .bin 0 .neq (.t 10) (.c (.int .i64 0))⟩])
 (.cond (.t 11) (.seq (.ops [⟨(some 12), none, .mv (.t 5)⟩, ⟨(some 4), none, .mv (.t 12)⟩])
 (.ret)) (.skip))))
 (.seq (.seq (.ops [⟨(some 13), none, .mv (.t 1)⟩, ⟨(some 14), none, .len false (.t 13)⟩, ⟨(some 15), none, .bin 0 .gtr (.t 14) (.c (.int .i64 50000))⟩])
 (.cond (.t 15) (.seq (.ops [⟨(some 4), none, .mv (.c (.int .i64 2))⟩])
 (.ret)) (.skip)))
 (.seq (.seq (.ops [⟨(some 16), none, .mv (.t 1)⟩, ⟨(some 17), none, .len false (.t 16)⟩, ⟨(some 18), none, .mv (.c (.int .i64 0))⟩])
 (.block 0 (.loop (.seq (.ops [⟨(some 19), none, .bin 0 .lss (.t 18) (.t 17)⟩])
 (.seq (.cond (.t 19) (.skip) (.exit 0))
 (.seq (.block 1 (.seq (.ops [⟨(some 20), none, .iadr 3 (.t 16) (.t 18)⟩, ⟨(some 21), none, .load (some 3) (.t 20)⟩, ⟨(some 7), none, .alloc 63 [(.int .i64 0), (.int .i64 0), (.int .i64 0)]⟩, ⟨none, none, .store 3 (.t 7) (.t 21)⟩])
 (.seq (.ops [⟨(some 22), none, .fadr 0 (.t 7)⟩, ⟨(some 23), none, .load none (.t 22)⟩])
 (.block 2 (.seq (.ops [⟨(some 25), none, .bin 0 .eql (.t 23) (.c (.int .i64 1))⟩, ⟨(some 24), none, .mv (.t 25)⟩])
 (.cond (.t 24) (.seq (.seq (.ops [⟨(some 26), none, .fadr 1 (.t 7)⟩, ⟨(some 27), none, .load none (.t 26)⟩, ⟨(some 28), none, .fadr 0 (.t 2)⟩, ⟨(some 29), none, .load none (.t 28)⟩, ⟨(some 30), none, .len false (.t 29)⟩, ⟨(some 31), none, .bin 0 .sub (.t 30) (.c (.int .i64 1))⟩, ⟨(some 32), none, .call 62 [(.t 27), (.c (.int .i64 0)), (.t 31)]⟩])
 (.cond (.t 32) (.seq (.ops [⟨(some 4), none, .mv (.c (.int .i64 1))⟩])
 (.ret)) (.skip)))
 (.seq (.ops [⟨(some 33), none, .fadr 2 (.t 7)⟩, ⟨(some 34), none, .load none (.t 33)⟩, ⟨(some 35), none, .bin 0 .neq (.t 34) (.c (.int .i64 0))⟩])
 (.cond (.t 35) (.seq (.ops [⟨(some 4), none, .mv (.c (.int .i64 3))⟩])
 (.ret)) (.skip)))) (.seq (.ops [⟨(some 37), none, .bin 0 .eql (.t 23) (.c (.int .i64 2))⟩, ⟨(some 36), none, .mv (.t 37)⟩])
 (.cond (.t 36) (.seq (.any [(⟨(some 38), none, .fadr 1 (.t 7)⟩, []), (⟨(some 39), none, .load none (.t 38)⟩, []), (⟨(some 40), none, .load (some 1) (.t 2)⟩, [0, 1]), (⟨(some 41), none, .call 63 [(.t 40)]⟩, [0, 1]), (⟨(some 42), none, .bin 0 .sub (.t 41) (.c (.int .i64 1))⟩, [0, 1]), (⟨(some 43), none, .call 62 [(.t 39), (.c (.int .i64 0)), (.t 42)]⟩, []), (⟨(some 44), none, .mv (.t 43)⟩, []), (⟨(some 45), (some (44, false)), .fadr 2 (.t 7)⟩, []), (⟨(some 46), (some (44, false)), .load none (.t 45)⟩, []), (⟨(some 47), (some (44, false)), .call 62 [(.t 46), (.c (.int .i64 0)), (.c (.int .i64 65535))]⟩, []), (⟨(some 48), none, .pick (.t 44) (.c (.bool true)) (.t 47)⟩, [])])
 (.cond (.t 48) (.seq (.ops [⟨(some 4), none, .mv (.c (.int .i64 1))⟩])
 (.ret)) (.skip))) (.seq (.ops [⟨(some 4), none, .mv (.c (.int .i64 4))⟩])
 (.ret))))))))))
 (.ops [⟨(some 49), none, .bin 0 .add (.t 18) (.c (.int .i64 1))⟩, ⟨(some 18), none, .mv (.t 49)⟩])))))))
 (.seq (.ops [⟨(some 4), none, .mv (.c (.int .i64 0))⟩])
 (.ret)))))⟩
theorem c18 : compF Go.Proofs.Try.prog 18 = some a18 := by kernel_rfl
def a21 : AFn := ⟨50, [.t 6, .t 7], .seq (.ops [⟨(some 3), none, .box 27 (.t 0)⟩, ⟨(some 6), none, .mv (.c (.lit true 0 []))⟩, ⟨(some 7), none, .mv (.c (.int .i64 0))⟩])
 (.seq (.seq (.any [(⟨(some 12), none, .load (some 1) (.t 3)⟩, []), (⟨(some 13), none, .mv (.t 1)⟩, [0]), (⟨(some 14), none, .call 17 [(.t 12), (.t 13)]⟩, []), (⟨(some 15), none, .load (some 1) (.t 3)⟩, [0, 1, 2]), (⟨(some 16), none, .mv (.t 2)⟩, [0, 1, 2, 3]), (⟨(some 17), none, .call 18 [(.t 15), (.t 16)]⟩, []), (⟨(some 18), none, .bslice 33 1 2 [(.int .i64 0)] [(0, 1, (.t 14)), (1, 1, (.t 17))]⟩, []), (⟨(some 19), none, .call 65 [(.t 18)]⟩, []), (⟨(some 8), none, .mv (.t 19)⟩, [])])
 (.seq (.ops [⟨(some 20), none, .mv (.t 8)⟩, ⟨(some 21), none, .bin 0 .neq (.t 20) (.c (.int .i64 0))⟩])
 (.cond (.t 21) (.seq (.ops [⟨(some 22), none, .mv (.t 8)⟩, ⟨(some 6), none, .mv (.c (.lit true 0 []))⟩, ⟨(some 7), none, .mv (.t 22)⟩])
 (.ret)) (.skip))))
 (.seq (.ops [⟨(some 23), none, .mv (.t 1)⟩, ⟨(some 24), none, .call 66 [(.t 23)]⟩, ⟨(some 9), none, .mv (.t 24)⟩])
 (.seq (.seq (.ops [⟨(some 25), none, .mv (.t 2)⟩, ⟨(some 26), none, .len false (.t 25)⟩, ⟨(some 27), none, .mv (.c (.int .i64 0))⟩])
 (.block 0 (.loop (.seq (.ops [⟨(some 28), none, .bin 0 .lss (.t 27) (.t 26)⟩])
 (.seq (.cond (.t 28) (.skip) (.exit 0))
 (.seq (.block 1 (.seq (.ops [⟨(some 29), none, .iadr 3 (.t 25) (.t 27)⟩, ⟨(some 30), none, .load (some 3) (.t 29)⟩, ⟨(some 11), none, .alloc 63 [(.int .i64 0), (.int .i64 0), (.int .i64 0)]⟩, ⟨none, none, .store 3 (.t 11) (.t 30)⟩])
 (.seq (.ops [⟨(some 31), none, .fadr 0 (.t 11)⟩, ⟨(some 32), none, .load none (.t 31)⟩, ⟨(some 33), none, .bin 0 .eql (.t 32) (.c (.int .i64 1))⟩])
 (.cond (.t 33) (.ops [⟨(some 34), none, .load (some 1) (.t 3)⟩, ⟨(some 35), none, .mv (.t 9)⟩, ⟨(some 36), none, .fadr 1 (.t 11)⟩, ⟨(some 37), none, .load none (.t 36)⟩, ⟨(some 38), none, .call 67 [(.t 34), (.t 35), (.t 37)]⟩]) (.any [(⟨(some 39), none, .mv (.t 9)⟩, []), (⟨(some 40), none, .fadr 1 (.t 11)⟩, [0]), (⟨(some 41), none, .load none (.t 40)⟩, [0]), (⟨(some 42), none, .iadr 1 (.t 39) (.t 41)⟩, []), (⟨(some 43), none, .load none (.t 42)⟩, []), (⟨(some 44), none, .fadr 2 (.t 11)⟩, [0, 1, 2, 3, 4]), (⟨(some 45), none, .load none (.t 44)⟩, [0, 1, 2, 3, 4]), (⟨(some 46), none, .bin 0 .and (.t 43) (.t 45)⟩, []), (⟨(some 47), none, .iadr 1 (.t 39) (.t 41)⟩, []), (⟨none, none, .store 1 (.t 47) (.t 46)⟩, [])])))))
 (.ops [⟨(some 48), none, .bin 0 .add (.t 27) (.c (.int .i64 1))⟩, ⟨(some 27), none, .mv (.t 48)⟩])))))))
 (.seq (.ops [⟨(some 49), none, .mv (.t 9)⟩, ⟨(some 6), none, .mv (.t 49)⟩, ⟨(some 7), none, .mv (.c (.int .i64 0))⟩])
 (.ret)))))⟩
theorem c21 : compF Go.Proofs.Try.prog 21 = some a21 := by kernel_rfl
def a23 : AFn := ⟨26, [.t 4], .seq (.ops [⟨(some 4), none, .mv (.c (.bool false))⟩])
 (.seq (.seq (.ops [⟨(some 6), none, .mv (.t 0)⟩, ⟨(some 7), none, .len false (.t 6)⟩, ⟨(some 8), none, .mv (.t 1)⟩, ⟨(some 9), none, .len false (.t 8)⟩, ⟨(some 10), none, .bin 0 .neq (.t 7) (.t 9)⟩])
 (.cond (.t 10) (.seq (.ops [⟨(some 4), none, .mv (.c (.bool false))⟩])
 (.ret)) (.skip)))
 (.seq (.seq (.ops [⟨(some 11), none, .mv (.t 0)⟩, ⟨(some 12), none, .len false (.t 11)⟩, ⟨(some 13), none, .mv (.c (.int .i64 0))⟩])
 (.block 0 (.loop (.seq (.ops [⟨(some 14), none, .bin 0 .lss (.t 13) (.t 12)⟩])
 (.seq (.cond (.t 14) (.skip) (.exit 0))
 (.seq (.block 1 (.seq (.ops [⟨(some 15), none, .mv (.t 13)⟩, ⟨(some 5), none, .mv (.t 15)⟩])
 (.seq (.any [(⟨(some 16), none, .mv (.t 0)⟩, []), (⟨(some 17), none, .mv (.t 5)⟩, [0]), (⟨(some 18), none, .iadr 1 (.t 16) (.t 17)⟩, []), (⟨(some 19), none, .load none (.t 18)⟩, []), (⟨(some 20), none, .mv (.t 1)⟩, [0, 1, 2, 3]), (⟨(some 21), none, .mv (.t 5)⟩, [0, 1, 2, 3, 4]), (⟨(some 22), none, .iadr 1 (.t 20) (.t 21)⟩, [0, 1, 2, 3]), (⟨(some 23), none, .load none (.t 22)⟩, [0, 1, 2, 3]), (⟨(some 24), none, .bin 0 .neq (.t 19) (.t 23)⟩, [])])
 (.cond (.t 24) (.seq (.ops [⟨(some 4), none, .mv (.c (.bool false))⟩])
 (.ret)) (.skip)))))
 (.ops [⟨(some 25), none, .bin 0 .add (.t 13) (.c (.int .i64 1))⟩, ⟨(some 13), none, .mv (.t 25)⟩])))))))
 (.seq (.ops [⟨(some 4), none, .mv (.c (.bool true))⟩])
 (.ret))))⟩
theorem c23 : compF Go.Proofs.Try.prog 23 = some a23 := by kernel_rfl
def a26 : AFn := ⟨64, [.t 4], .seq (.ops [⟨(some 4), none, .mv (.c (.int .i64 0))⟩])
 (.seq (.ops [⟨(some 7), none, .mv (.t 0)⟩, ⟨(some 8), none, .nilchk (.t 7)⟩, ⟨(some 9), none, .fadr 1 (.t 8)⟩, ⟨(some 10), none, .load none (.t 9)⟩, ⟨(some 11), none, .bin 0 .add (.t 10) (.c (.int .i64 1))⟩, ⟨(some 12), none, .nilchk (.t 7)⟩, ⟨(some 13), none, .fadr 1 (.t 12)⟩, ⟨none, none, .store 1 (.t 13) (.t 11)⟩])
 (.seq (.seq (.ops [⟨(some 14), none, .mv (.t 0)⟩, ⟨(some 15), none, .nilchk (.t 14)⟩, ⟨(some 16), none, .fadr 0 (.t 15)⟩, ⟨(some 17), none, .load none (.t 16)⟩, ⟨(some 18), none, .len false (.t 17)⟩, ⟨(some 19), none, .bin 0 .eql (.t 18) (.c (.int .i64 0))⟩])
 (.cond (.t 19) (.seq (.ops [⟨(some 20), none, .mv (.t 0)⟩, ⟨(some 21), none, .nilchk (.t 20)⟩, ⟨(some 22), none, .fadr 1 (.t 21)⟩, ⟨(some 23), none, .load none (.t 22)⟩, ⟨(some 24), none, .bin 0 .mul (.t 23) (.c (.int .i64 7919))⟩, ⟨(some 25), none, .mv (.t 1)⟩, ⟨(some 26), none, .call 69 [(.t 24), (.t 25)]⟩, ⟨(some 4), none, .mv (.t 26)⟩])
 (.ret)) (.skip)))
 (.seq (.any [(⟨(some 27), none, .mv (.t 0)⟩, []), (⟨(some 28), none, .nilchk (.t 27)⟩, []), (⟨(some 29), none, .fadr 1 (.t 28)⟩, []), (⟨(some 30), none, .load none (.t 29)⟩, []), (⟨(some 31), none, .bin 0 .sub (.t 30) (.c (.int .i64 1))⟩, []), (⟨(some 32), none, .mv (.t 0)⟩, [0, 1, 2, 3, 4]), (⟨(some 33), none, .nilchk (.t 32)⟩, [0, 1, 2, 3, 4]), (⟨(some 34), none, .fadr 0 (.t 33)⟩, [0, 1, 2, 3, 4]), (⟨(some 35), none, .load none (.t 34)⟩, [0, 1, 2, 3, 4]), (⟨(some 36), none, .len false (.t 35)⟩, [0, 1, 2, 3, 4]), (⟨(some 37), none, .bin 0 .rem (.t 31) (.t 36)⟩, []), (⟨(some 5), none, .mv (.t 37)⟩, [])])
 (.seq (.any [(⟨(some 38), none, .mv (.t 0)⟩, []), (⟨(some 39), none, .nilchk (.t 38)⟩, []), (⟨(some 40), none, .fadr 1 (.t 39)⟩, []), (⟨(some 41), none, .load none (.t 40)⟩, []), (⟨(some 42), none, .bin 0 .sub (.t 41) (.c (.int .i64 1))⟩, []), (⟨(some 43), none, .mv (.t 0)⟩, [0, 1, 2, 3, 4]), (⟨(some 44), none, .nilchk (.t 43)⟩, [0, 1, 2, 3, 4]), (⟨(some 45), none, .fadr 0 (.t 44)⟩, [0, 1, 2, 3, 4]), (⟨(some 46), none, .load none (.t 45)⟩, [0, 1, 2, 3, 4]), (⟨(some 47), none, .len false (.t 46)⟩, [0, 1, 2, 3, 4]), (⟨(some 48), none, .bin 0 .quo (.t 42) (.t 47)⟩, []), (⟨(some 6), none, .mv (.t 48)⟩, [])])
 (.seq (.ops [⟨(some 49), none, .mv (.t 0)⟩, ⟨(some 50), none, .nilchk (.t 49)⟩, ⟨(some 51), none, .fadr 0 (.t 50)⟩, ⟨(some 52), none, .load none (.t 51)⟩, ⟨(some 53), none, .mv (.t 5)⟩, ⟨(some 54), none, .iadr 1 (.t 52) (.t 53)⟩, ⟨(some 55), none, .load none (.t 54)⟩, ⟨(some 56), none, .call 69 [(.t 55), (.c (.int .i64 1073741824))]⟩, ⟨(some 57), none, .mv (.t 6)⟩, ⟨(some 58), none, .mv (.t 5)⟩, ⟨(some 59), none, .bin 0 .add (.c (.int .i64 7919)) (.t 58)⟩, ⟨(some 60), none, .bin 0 .mul (.t 57) (.t 59)⟩, ⟨(some 61), none, .bin 0 .add (.t 56) (.t 60)⟩, ⟨(some 62), none, .mv (.t 1)⟩, ⟨(some 63), none, .call 69 [(.t 61), (.t 62)]⟩, ⟨(some 4), none, .mv (.t 63)⟩])
 (.ret))))))⟩
theorem c26 : compF Go.Proofs.Try.prog 26 = some a26 := by kernel_rfl
def a29 : AFn := ⟨50, [.t 0], .seq (.ops [⟨(some 0), none, .mv (.c (.bool false))⟩])
 (.seq (.ops [⟨(some 9), none, .call 70 [(.c (.int .i64 4)), (.c (.int .i64 1))]⟩, ⟨(some 8), none, .mv (.t 9)⟩, ⟨(some 10), none, .ext (.t 8) 0⟩, ⟨(some 11), none, .ext (.t 8) 1⟩, ⟨(some 1), none, .mv (.t 10)⟩, ⟨(some 2), none, .mv (.t 11)⟩])
 (.seq (.ops [⟨(some 13), none, .call 71 [(.c (.int .i64 3))]⟩, ⟨(some 12), none, .mv (.t 13)⟩, ⟨(some 14), none, .ext (.t 12) 0⟩, ⟨(some 15), none, .ext (.t 12) 1⟩, ⟨(some 3), none, .mv (.t 14)⟩, ⟨(some 4), none, .mv (.t 15)⟩])
 (.seq (.ops [⟨(some 17), none, .bslice 9 1 1 [(.str [])] [(0, 1, (.c (.str [49, 120])))]⟩, ⟨(some 18), none, .build [(.lit true 0 []), (.str [])] [(0, 1, (.t 17)), (1, 1, (.c (.str [49])))]⟩, ⟨(some 19), none, .call 72 [(.t 18)]⟩, ⟨(some 16), none, .mv (.t 19)⟩, ⟨(some 20), none, .ext (.t 16) 0⟩, ⟨(some 21), none, .ext (.t 16) 1⟩, ⟨(some 22), none, .ext (.t 16) 2⟩, ⟨(some 5), none, .alloc 110 [(.int .i64 0), (.int .i64 0)]⟩, ⟨none, none, .store 2 (.t 5) (.t 20)⟩, ⟨(some 6), none, .mv (.t 21)⟩, ⟨(some 7), none, .mv (.t 22)⟩])
 (.seq (.ops [⟨(some 23), none, .mv (.t 2)⟩, ⟨(some 24), none, .bin 0 .eql (.t 23) (.c (.int .i64 0))⟩, ⟨(some 25), none, .mv (.t 24)⟩, ⟨(some 26), (some (25, true)), .mv (.t 1)⟩, ⟨(some 27), (some (25, true)), .bin 1 .eql (.t 26) (.c (.str [49, 49, 48]))⟩, ⟨(some 28), none, .pick (.t 25) (.t 27) (.c (.bool false))⟩, ⟨(some 29), none, .mv (.t 28)⟩, ⟨(some 30), (some (29, true)), .mv (.t 4)⟩, ⟨(some 31), (some (29, true)), .bin 0 .eql (.t 30) (.c (.int .i64 0))⟩, ⟨(some 32), none, .pick (.t 29) (.t 31) (.c (.bool false))⟩, ⟨(some 33), none, .mv (.t 32)⟩, ⟨(some 34), (some (33, true)), .mv (.t 3)⟩, ⟨(some 35), (some (33, true)), .len false (.t 34)⟩, ⟨(some 36), (some (33, true)), .bin 0 .eql (.t 35) (.c (.int .i64 3))⟩, ⟨(some 37), none, .pick (.t 33) (.t 36) (.c (.bool false))⟩, ⟨(some 38), none, .mv (.t 37)⟩, ⟨(some 39), (some (38, true)), .mv (.t 7)⟩, ⟨(some 40), (some (38, true)), .bin 0 .eql (.t 39) (.c (.int .i64 0))⟩, ⟨(some 41), none, .pick (.t 38) (.t 40) (.c (.bool false))⟩, ⟨(some 42), none, .mv (.t 41)⟩, ⟨(some 43), (some (42, true)), .mv (.t 6)⟩, ⟨(some 44), none, .pick (.t 42) (.t 43) (.c (.bool false))⟩, ⟨(some 45), none, .mv (.t 44)⟩, ⟨(some 46), (some (45, true)), .load (some 2) (.t 5)⟩, ⟨(some 47), (some (45, true)), .build [(.int .i64 0), (.int .i64 0)] [(0, 1, (.c (.int .i64 1))), (1, 1, (.c (.int .i64 2)))]⟩, ⟨(some 48), (some (45, true)), .eqs false [0, 0] (.t 46) (.t 47)⟩, ⟨(some 49), none, .pick (.t 45) (.t 48) (.c (.bool false))⟩, ⟨(some 0), none, .mv (.t 49)⟩])
 (.ret)))))⟩
theorem c29 : compF Go.Proofs.Try.prog 29 = some a29 := by kernel_rfl
def a30 : AFn := ⟨19, [.t 6], .seq (.ops [⟨(some 6), none, .mv (.c (.int .i64 0))⟩])
 (.seq (.seq (.ops [⟨(some 7), none, .mv (.t 2)⟩, ⟨(some 8), none, .mv (.t 1)⟩, ⟨(some 9), none, .bin 0 .lss (.t 7) (.t 8)⟩])
 (.cond (.t 9) (.seq (.ops [⟨(some 10), none, .mv (.t 1)⟩, ⟨(some 6), none, .mv (.t 10)⟩])
 (.ret)) (.skip)))
 (.seq (.ops [⟨(some 11), none, .mv (.t 1)⟩, ⟨(some 12), none, .mv (.t 0)⟩, ⟨(some 13), none, .mv (.t 2)⟩, ⟨(some 14), none, .mv (.t 1)⟩, ⟨(some 15), none, .bin 0 .sub (.t 13) (.t 14)⟩, ⟨(some 16), none, .bin 0 .add (.t 15) (.c (.int .i64 1))⟩, ⟨(some 17), none, .call 26 [(.t 12), (.t 16)]⟩, ⟨(some 18), none, .bin 0 .add (.t 11) (.t 17)⟩, ⟨(some 6), none, .mv (.t 18)⟩])
 (.ret)))⟩
theorem c30 : compF Go.Proofs.Try.prog 30 = some a30 := by kernel_rfl
def a31 : AFn := ⟨9, [.t 4], .seq (.ops [⟨(some 4), none, .mv (.c (.bool false))⟩])
 (.seq (.ops [⟨(some 5), none, .mv (.t 0)⟩, ⟨(some 6), none, .mv (.t 1)⟩, ⟨(some 7), none, .call 26 [(.t 5), (.t 6)]⟩, ⟨(some 8), none, .bin 0 .eql (.t 7) (.c (.int .i64 0))⟩, ⟨(some 4), none, .mv (.t 8)⟩])
 (.ret))⟩
theorem c31 : compF Go.Proofs.Try.prog 31 = some a31 := by kernel_rfl
def a32 : AFn := ⟨91, [.t 6, .t 7], .seq (.ops [⟨(some 3), none, .box 27 (.t 0)⟩, ⟨(some 6), none, .mv (.c (.lit true 0 []))⟩, ⟨(some 7), none, .mv (.c (.int .i64 0))⟩])
 (.seq (.seq (.any [(⟨(some 14), none, .load (some 1) (.t 3)⟩, []), (⟨(some 15), none, .mv (.t 1)⟩, [0]), (⟨(some 16), none, .call 17 [(.t 14), (.t 15)]⟩, []), (⟨(some 17), none, .load (some 1) (.t 3)⟩, [0, 1, 2]), (⟨(some 18), none, .mv (.t 2)⟩, [0, 1, 2, 3]), (⟨(some 19), none, .call 17 [(.t 17), (.t 18)]⟩, []), (⟨(some 20), none, .bslice 33 1 2 [(.int .i64 0)] [(0, 1, (.t 16)), (1, 1, (.t 19))]⟩, []), (⟨(some 21), none, .call 65 [(.t 20)]⟩, []), (⟨(some 8), none, .mv (.t 21)⟩, [])])
 (.seq (.ops [⟨(some 22), none, .mv (.t 8)⟩, ⟨(some 23), none, .bin 0 .neq (.t 22) (.c (.int .i64 0))⟩])
 (.cond (.t 23) (.seq (.ops [⟨(some 24), none, .mv (.t 8)⟩, ⟨(some 6), none, .mv (.c (.lit true 0 []))⟩, ⟨(some 7), none, .mv (.t 24)⟩])
 (.ret)) (.skip))))
 (.seq (.ops [⟨(some 25), none, .mv (.t 1)⟩, ⟨(some 26), none, .call 66 [(.t 25)]⟩, ⟨(some 1), none, .mv (.t 26)⟩])
 (.seq (.ops [⟨(some 9), none, .mv (.c (.lit true 0 []))⟩])
 (.seq (.seq (.ops [⟨(some 27), none, .fadr 0 (.t 3)⟩, ⟨(some 28), none, .load none (.t 27)⟩, ⟨(some 29), none, .len false (.t 28)⟩, ⟨(some 30), none, .mv (.c (.int .i64 0))⟩])
 (.block 0 (.loop (.seq (.ops [⟨(some 31), none, .bin 0 .lss (.t 30) (.t 29)⟩])
 (.seq (.cond (.t 31) (.skip) (.exit 0))
 (.seq (.block 1 (.seq (.ops [⟨(some 32), none, .mv (.t 30)⟩, ⟨(some 10), none, .mv (.t 32)⟩])
 (.seq (.ops [⟨(some 33), none, .load (some 1) (.t 3)⟩, ⟨(some 34), none, .mv (.t 10)⟩, ⟨(some 35), none, .call 73 [(.t 33), (.t 34)]⟩, ⟨(some 11), none, .alloc 67 [(.int .i64 0), (.int .i64 0)]⟩, ⟨none, none, .store 2 (.t 11) (.t 35)⟩])
 (.seq (.seq (.ops [⟨(some 36), none, .fadr 0 (.t 11)⟩, ⟨(some 37), none, .load none (.t 36)⟩, ⟨(some 12), none, .mv (.t 37)⟩])
 (.block 2 (.loop (.seq (.seq (.ops [⟨(some 38), none, .mv (.t 12)⟩, ⟨(some 39), none, .fadr 1 (.t 11)⟩, ⟨(some 40), none, .load none (.t 39)⟩, ⟨(some 41), none, .bin 0 .lss (.t 38) (.t 40)⟩])
 (.cond (.t 41) (.skip) (.exit 2)))
 (.seq (.block 3 (.seq (.any [(⟨(some 44), none, .mv (.t 2)⟩, []), (⟨(some 45), none, .mv (.t 12)⟩, [0]), (⟨(some 46), none, .iadr 1 (.t 44) (.t 45)⟩, []), (⟨(some 47), none, .load none (.t 46)⟩, []), (⟨(some 48), none, .mv (.t 1)⟩, [0, 1, 2, 3]), (⟨(some 49), none, .mv (.t 12)⟩, [0, 1, 2, 3, 4]), (⟨(some 50), none, .iadr 1 (.t 48) (.t 49)⟩, [0, 1, 2, 3]), (⟨(some 51), none, .load none (.t 50)⟩, [0, 1, 2, 3]), (⟨(some 52), none, .bin 0 .andNot (.t 47) (.t 51)⟩, []), (⟨(some 53), none, .bin 0 .neq (.t 52) (.c (.int .i64 0))⟩, [])])
 (.cond (.t 53) (.seq (.ops [⟨(some 54), none, .mv (.t 9)⟩, ⟨(some 55), none, .mv (.t 10)⟩, ⟨(some 56), none, .build [(.int .i64 0), (.int .i64 0), (.int .i64 0)] [(0, 1, (.c (.int .i64 1))), (1, 1, (.t 55))]⟩, ⟨(some 57), none, .bslice 63 3 1 [(.int .i64 0), (.int .i64 0), (.int .i64 0)] [(0, 3, (.t 56))]⟩, ⟨(some 58), none, .app 63 3 24 (.t 54) (.t 57)⟩, ⟨(some 9), none, .mv (.t 58)⟩])
 (.seq (.ops [⟨(some 59), none, .load (some 1) (.t 3)⟩, ⟨(some 60), none, .mv (.t 1)⟩, ⟨(some 61), none, .mv (.t 10)⟩, ⟨(some 62), none, .call 67 [(.t 59), (.t 60), (.t 61)]⟩])
 (.exit 2))) (.skip))))
 (.ops [⟨(some 42), none, .mv (.t 12)⟩, ⟨(some 43), none, .bin 0 .add (.t 42) (.c (.int .i64 1))⟩, ⟨(some 12), none, .mv (.t 43)⟩]))))))
 (.seq (.ops [⟨(some 63), none, .fadr 0 (.t 11)⟩, ⟨(some 64), none, .load none (.t 63)⟩, ⟨(some 13), none, .mv (.t 64)⟩])
 (.block 4 (.loop (.seq (.seq (.ops [⟨(some 65), none, .mv (.t 13)⟩, ⟨(some 66), none, .fadr 1 (.t 11)⟩, ⟨(some 67), none, .load none (.t 66)⟩, ⟨(some 68), none, .bin 0 .lss (.t 65) (.t 67)⟩])
 (.cond (.t 68) (.skip) (.exit 4)))
 (.seq (.block 5 (.seq (.any [(⟨(some 71), none, .mv (.t 1)⟩, []), (⟨(some 72), none, .mv (.t 13)⟩, [0]), (⟨(some 73), none, .iadr 1 (.t 71) (.t 72)⟩, []), (⟨(some 74), none, .load none (.t 73)⟩, []), (⟨(some 75), none, .mv (.t 2)⟩, [0, 1, 2, 3]), (⟨(some 76), none, .mv (.t 13)⟩, [0, 1, 2, 3, 4]), (⟨(some 77), none, .iadr 1 (.t 75) (.t 76)⟩, [0, 1, 2, 3]), (⟨(some 78), none, .load none (.t 77)⟩, [0, 1, 2, 3]), (⟨(some 79), none, .bin 0 .neq (.t 74) (.t 78)⟩, [])])
 (.cond (.t 79) (.ops [⟨(some 80), none, .mv (.t 9)⟩, ⟨(some 81), none, .mv (.t 13)⟩, ⟨(some 82), none, .mv (.t 2)⟩, ⟨(some 83), none, .mv (.t 13)⟩, ⟨(some 84), none, .iadr 1 (.t 82) (.t 83)⟩, ⟨(some 85), none, .load none (.t 84)⟩, ⟨(some 86), none, .build [(.int .i64 0), (.int .i64 0), (.int .i64 0)] [(0, 1, (.c (.int .i64 2))), (1, 1, (.t 81)), (2, 1, (.t 85))]⟩, ⟨(some 87), none, .bslice 63 3 1 [(.int .i64 0), (.int .i64 0), (.int .i64 0)] [(0, 3, (.t 86))]⟩, ⟨(some 88), none, .app 63 3 24 (.t 80) (.t 87)⟩, ⟨(some 9), none, .mv (.t 88)⟩]) (.skip))))
 (.ops [⟨(some 69), none, .mv (.t 13)⟩, ⟨(some 70), none, .bin 0 .add (.t 69) (.c (.int .i64 1))⟩, ⟨(some 13), none, .mv (.t 70)⟩]))))))))))
 (.ops [⟨(some 89), none, .bin 0 .add (.t 30) (.c (.int .i64 1))⟩, ⟨(some 30), none, .mv (.t 89)⟩])))))))
 (.seq (.ops [⟨(some 90), none, .mv (.t 9)⟩, ⟨(some 6), none, .mv (.t 90)⟩, ⟨(some 7), none, .mv (.c (.int .i64 0))⟩])
 (.ret))))))⟩
theorem c32 : compF Go.Proofs.Try.prog 32 = some a32 := by kernel_rfl
def a39 : AFn := ⟨38, [.t 4, .t 5], .seq (.ops [⟨(some 2), none, .box 27 (.t 0)⟩, ⟨(some 4), none, .mv (.c (.lit true 0 []))⟩, ⟨(some 5), none, .mv (.c (.int .i64 0))⟩])
 (.seq (.seq (.ops [⟨(some 10), none, .load (some 1) (.t 2)⟩, ⟨(some 11), none, .mv (.t 1)⟩, ⟨(some 12), none, .call 18 [(.t 10), (.t 11)]⟩, ⟨(some 6), none, .mv (.t 12)⟩])
 (.seq (.ops [⟨(some 13), none, .mv (.t 6)⟩, ⟨(some 14), none, .bin 0 .neq (.t 13) (.c (.int .i64 0))⟩])
 (.cond (.t 14) (.seq (.ops [⟨(some 15), none, .mv (.t 6)⟩, ⟨(some 4), none, .mv (.c (.lit true 0 []))⟩, ⟨(some 5), none, .mv (.t 15)⟩])
 (.ret)) (.skip))))
 (.seq (.ops [⟨(some 16), none, .fadr 0 (.t 2)⟩, ⟨(some 17), none, .load none (.t 16)⟩, ⟨(some 18), none, .len false (.t 17)⟩, ⟨(some 19), none, .mks 3 1 8 [(.int .i64 0)] (.t 18)⟩, ⟨(some 7), none, .mv (.t 19)⟩])
 (.seq (.seq (.ops [⟨(some 20), none, .mv (.t 1)⟩, ⟨(some 21), none, .len false (.t 20)⟩, ⟨(some 22), none, .mv (.c (.int .i64 0))⟩])
 (.block 0 (.loop (.seq (.ops [⟨(some 23), none, .bin 0 .lss (.t 22) (.t 21)⟩])
 (.seq (.cond (.t 23) (.skip) (.exit 0))
 (.seq (.block 1 (.seq (.ops [⟨(some 24), none, .iadr 3 (.t 20) (.t 22)⟩, ⟨(some 25), none, .load (some 3) (.t 24)⟩, ⟨(some 9), none, .alloc 63 [(.int .i64 0), (.int .i64 0), (.int .i64 0)]⟩, ⟨none, none, .store 3 (.t 9) (.t 25)⟩])
 (.seq (.ops [⟨(some 26), none, .fadr 0 (.t 9)⟩, ⟨(some 27), none, .load none (.t 26)⟩, ⟨(some 28), none, .bin 0 .eql (.t 27) (.c (.int .i64 1))⟩])
 (.cond (.t 28) (.ops [⟨(some 29), none, .mv (.t 7)⟩, ⟨(some 30), none, .fadr 1 (.t 9)⟩, ⟨(some 31), none, .load none (.t 30)⟩, ⟨(some 32), none, .iadr 1 (.t 29) (.t 31)⟩, ⟨(some 33), none, .load none (.t 32)⟩, ⟨(some 34), none, .bin 0 .add (.t 33) (.c (.int .i64 1))⟩, ⟨(some 35), none, .iadr 1 (.t 29) (.t 31)⟩, ⟨none, none, .store 1 (.t 35) (.t 34)⟩]) (.skip)))))
 (.ops [⟨(some 36), none, .bin 0 .add (.t 22) (.c (.int .i64 1))⟩, ⟨(some 22), none, .mv (.t 36)⟩])))))))
 (.seq (.ops [⟨(some 37), none, .mv (.t 7)⟩, ⟨(some 4), none, .mv (.t 37)⟩, ⟨(some 5), none, .mv (.c (.int .i64 0))⟩])
 (.ret)))))⟩
theorem c39 : compF Go.Proofs.Try.prog 39 = some a39 := by kernel_rfl
def a54 : AFn := ⟨22, [.t 4], .seq (.ops [⟨(some 2), none, .box 27 (.t 0)⟩, ⟨(some 4), none, .mv (.c (.int .i64 0))⟩])
 (.seq (.seq (.ops [⟨(some 7), none, .mv (.t 1)⟩, ⟨(some 8), none, .len false (.t 7)⟩, ⟨(some 9), none, .load (some 1) (.t 2)⟩, ⟨(some 10), none, .call 61 [(.t 9)]⟩, ⟨(some 11), none, .bin 0 .neq (.t 8) (.t 10)⟩])
 (.cond (.t 11) (.seq (.ops [⟨(some 4), none, .mv (.c (.int .i64 3))⟩])
 (.ret)) (.skip)))
 (.seq (.seq (.ops [⟨(some 12), none, .mv (.t 1)⟩, ⟨(some 13), none, .len false (.t 12)⟩, ⟨(some 14), none, .mv (.c (.int .i64 0))⟩])
 (.block 0 (.loop (.seq (.ops [⟨(some 15), none, .bin 0 .lss (.t 14) (.t 13)⟩])
 (.seq (.cond (.t 15) (.skip) (.exit 0))
 (.seq (.block 1 (.seq (.ops [⟨(some 16), none, .iadr 1 (.t 12) (.t 14)⟩, ⟨(some 17), none, .load none (.t 16)⟩, ⟨(some 6), none, .mv (.t 17)⟩])
 (.seq (.ops [⟨(some 18), none, .mv (.t 6)⟩, ⟨(some 19), none, .call 60 [(.t 18), (.c (.int .i64 0)), (.c (.int .i64 65535))]⟩, ⟨(some 20), none, .un .not (.t 19)⟩])
 (.cond (.t 20) (.seq (.ops [⟨(some 4), none, .mv (.c (.int .i64 1))⟩])
 (.ret)) (.skip)))))
 (.ops [⟨(some 21), none, .bin 0 .add (.t 14) (.c (.int .i64 1))⟩, ⟨(some 14), none, .mv (.t 21)⟩])))))))
 (.seq (.ops [⟨(some 4), none, .mv (.c (.int .i64 0))⟩])
 (.ret))))⟩
theorem c54 : compF Go.Proofs.Try.prog 54 = some a54 := by kernel_rfl
def a55 : AFn := ⟨33, [.t 6], .seq (.ops [⟨(some 6), none, .mv (.c (.lit true 0 []))⟩])
 (.seq (.ops [⟨(some 8), none, .mv (.t 0)⟩, ⟨(some 9), none, .mv (.t 1)⟩, ⟨(some 10), none, .mv (.t 2)⟩, ⟨(some 11), none, .mv (.t 0)⟩, ⟨(some 12), none, .len false (.t 11)⟩, ⟨(some 13), none, .slc3 3 (.t 8) (some (.t 9)) (some (.t 10)) (.t 12)⟩])
 (.seq (.seq (.ops [⟨(some 14), none, .mv (.t 1)⟩, ⟨(some 15), none, .mv (.t 2)⟩, ⟨(some 16), none, .bin 0 .eql (.t 14) (.t 15)⟩])
 (.cond (.t 16) (.seq (.ops [⟨(some 17), none, .mv (.t 0)⟩, ⟨(some 6), none, .mv (.t 17)⟩])
 (.ret)) (.skip)))
 (.seq (.ops [⟨(some 18), none, .mv (.t 0)⟩, ⟨(some 19), none, .len false (.t 18)⟩, ⟨(some 7), none, .mv (.t 19)⟩])
 (.seq (.any [(⟨(some 20), none, .mv (.t 0)⟩, []), (⟨(some 21), none, .mv (.t 1)⟩, [0]), (⟨(some 22), none, .slc 3 (.t 20) none (some (.t 21))⟩, []), (⟨(some 23), none, .mv (.t 0)⟩, [0, 1, 2]), (⟨(some 24), none, .mv (.t 2)⟩, [0, 1, 2, 3]), (⟨(some 25), none, .slc 3 (.t 23) (some (.t 24)) none⟩, [0, 1, 2]), (⟨(some 26), none, .appin 3 (.t 22) (.t 25)⟩, []), (⟨(some 0), none, .mv (.t 26)⟩, [])])
 (.seq (.ops [⟨(some 27), none, .mv (.t 0)⟩, ⟨(some 28), none, .mv (.t 0)⟩, ⟨(some 29), none, .len false (.t 28)⟩, ⟨(some 30), none, .mv (.t 7)⟩, ⟨(some 31), none, .slc 3 (.t 27) (some (.t 29)) (some (.t 30))⟩, ⟨none, none, .clr [(.int .i64 0), (.int .i64 0), (.int .i64 0)] (.t 31)⟩])
 (.seq (.ops [⟨(some 32), none, .mv (.t 0)⟩, ⟨(some 6), none, .mv (.t 32)⟩])
 (.ret)))))))⟩
theorem c55 : compF Go.Proofs.Try.prog 55 = some a55 := by kernel_rfl
def a56 : AFn := ⟨8, [.t 2], .seq (.ops [⟨(some 2), none, .mv (.c (.lit true 0 []))⟩])
 (.seq (.seq (.ops [⟨(some 3), none, .mv (.t 0)⟩, ⟨(some 4), none, .bin 3 .eql (.t 3) (.c (.lit true 0 []))⟩])
 (.cond (.t 4) (.seq (.ops [⟨(some 2), none, .mv (.c (.lit true 0 []))⟩])
 (.ret)) (.skip)))
 (.seq (.ops [⟨(some 5), none, .bslice 63 3 0 [(.int .i64 0), (.int .i64 0), (.int .i64 0)] []⟩, ⟨(some 6), none, .mv (.t 0)⟩, ⟨(some 7), none, .app 63 3 24 (.t 5) (.t 6)⟩, ⟨(some 2), none, .mv (.t 7)⟩])
 (.ret)))⟩
theorem c56 : compF Go.Proofs.Try.prog 56 = some a56 := by kernel_rfl
def a57 : AFn := ⟨9, [.t 4], .seq (.ops [⟨(some 4), none, .mv (.c (.bool false))⟩])
 (.seq (.ops [⟨(some 5), none, .mv (.t 0)⟩, ⟨(some 6), none, .mv (.t 1)⟩, ⟨(some 7), none, .call 84 [(.t 5), (.t 6)]⟩, ⟨(some 8), none, .bin 0 .geq (.t 7) (.c (.int .i64 0))⟩, ⟨(some 4), none, .mv (.t 8)⟩])
 (.ret))⟩
theorem c57 : compF Go.Proofs.Try.prog 57 = some a57 := by kernel_rfl
def a58 : AFn := ⟨5, [.t 2], .seq (.ops [⟨(some 2), none, .mv (.c (.bool false))⟩])
 (.seq (.ops [⟨(some 3), none, .mv (.t 0)⟩, ⟨(some 4), none, .bin 0 .gtr (.t 3) (.c (.int .i64 1))⟩, ⟨(some 2), none, .mv (.t 4)⟩])
 (.ret))⟩
theorem c58 : compF Go.Proofs.Try.prog 58 = some a58 := by kernel_rfl
def a60 : AFn := ⟨15, [.t 6], .seq (.ops [⟨(some 6), none, .mv (.c (.bool false))⟩])
 (.seq (.ops [⟨(some 7), none, .mv (.t 1)⟩, ⟨(some 8), none, .mv (.t 0)⟩, ⟨(some 9), none, .bin 0 .leq (.t 7) (.t 8)⟩, ⟨(some 10), none, .mv (.t 9)⟩, ⟨(some 11), (some (10, true)), .mv (.t 0)⟩, ⟨(some 12), (some (10, true)), .mv (.t 2)⟩, ⟨(some 13), (some (10, true)), .bin 0 .leq (.t 11) (.t 12)⟩, ⟨(some 14), none, .pick (.t 10) (.t 13) (.c (.bool false))⟩, ⟨(some 6), none, .mv (.t 14)⟩])
 (.ret))⟩
theorem c60 : compF Go.Proofs.Try.prog 60 = some a60 := by kernel_rfl
def a61 : AFn := ⟨18, [.t 2], .seq (.ops [⟨(some 1), none, .box 27 (.t 0)⟩, ⟨(some 2), none, .mv (.c (.int .i64 0))⟩])
 (.seq (.ops [⟨(some 3), none, .mv (.c (.int .i64 0))⟩])
 (.seq (.seq (.ops [⟨(some 6), none, .fadr 0 (.t 1)⟩, ⟨(some 7), none, .load none (.t 6)⟩, ⟨(some 8), none, .len false (.t 7)⟩, ⟨(some 9), none, .mv (.c (.int .i64 0))⟩])
 (.block 0 (.loop (.seq (.ops [⟨(some 10), none, .bin 0 .lss (.t 9) (.t 8)⟩])
 (.seq (.cond (.t 10) (.skip) (.exit 0))
 (.seq (.block 1 (.seq (.ops [⟨(some 11), none, .iadr 1 (.t 7) (.t 9)⟩, ⟨(some 12), none, .load none (.t 11)⟩, ⟨(some 5), none, .mv (.t 12)⟩])
 (.ops [⟨(some 13), none, .mv (.t 3)⟩, ⟨(some 14), none, .mv (.t 5)⟩, ⟨(some 15), none, .bin 0 .add (.t 13) (.t 14)⟩, ⟨(some 3), none, .mv (.t 15)⟩])))
 (.ops [⟨(some 16), none, .bin 0 .add (.t 9) (.c (.int .i64 1))⟩, ⟨(some 9), none, .mv (.t 16)⟩])))))))
 (.seq (.ops [⟨(some 17), none, .mv (.t 3)⟩, ⟨(some 2), none, .mv (.t 17)⟩])
 (.ret))))⟩
theorem c61 : compF Go.Proofs.Try.prog 61 = some a61 := by kernel_rfl
def a62 : AFn := ⟨15, [.t 6], .seq (.ops [⟨(some 6), none, .mv (.c (.bool false))⟩])
 (.seq (.ops [⟨(some 7), none, .mv (.t 0)⟩, ⟨(some 8), none, .mv (.t 1)⟩, ⟨(some 9), none, .bin 0 .lss (.t 7) (.t 8)⟩, ⟨(some 10), none, .mv (.t 9)⟩, ⟨(some 11), (some (10, false)), .mv (.t 0)⟩, ⟨(some 12), (some (10, false)), .mv (.t 2)⟩, ⟨(some 13), (some (10, false)), .bin 0 .gtr (.t 11) (.t 12)⟩, ⟨(some 14), none, .pick (.t 10) (.c (.bool true)) (.t 13)⟩, ⟨(some 6), none, .mv (.t 14)⟩])
 (.ret))⟩
theorem c62 : compF Go.Proofs.Try.prog 62 = some a62 := by kernel_rfl
def a63 : AFn := ⟨18, [.t 2], .seq (.ops [⟨(some 1), none, .box 27 (.t 0)⟩, ⟨(some 2), none, .mv (.c (.int .i64 0))⟩])
 (.seq (.ops [⟨(some 3), none, .mv (.c (.int .i64 0))⟩])
 (.seq (.seq (.ops [⟨(some 6), none, .fadr 0 (.t 1)⟩, ⟨(some 7), none, .load none (.t 6)⟩, ⟨(some 8), none, .len false (.t 7)⟩, ⟨(some 9), none, .mv (.c (.int .i64 0))⟩])
 (.block 0 (.loop (.seq (.ops [⟨(some 10), none, .bin 0 .lss (.t 9) (.t 8)⟩])
 (.seq (.cond (.t 10) (.skip) (.exit 0))
 (.seq (.block 1 (.seq (.ops [⟨(some 11), none, .iadr 1 (.t 7) (.t 9)⟩, ⟨(some 12), none, .load none (.t 11)⟩, ⟨(some 5), none, .mv (.t 12)⟩])
 (.ops [⟨(some 13), none, .mv (.t 3)⟩, ⟨(some 14), none, .mv (.t 5)⟩, ⟨(some 15), none, .bin 0 .add (.t 13) (.t 14)⟩, ⟨(some 3), none, .mv (.t 15)⟩])))
 (.ops [⟨(some 16), none, .bin 0 .add (.t 9) (.c (.int .i64 1))⟩, ⟨(some 9), none, .mv (.t 16)⟩])))))))
 (.seq (.ops [⟨(some 17), none, .mv (.t 3)⟩, ⟨(some 2), none, .mv (.t 17)⟩])
 (.ret))))⟩
theorem c63 : compF Go.Proofs.Try.prog 63 = some a63 := by kernel_rfl
def a65 : AFn := ⟨15, [.t 2], .seq (.ops [⟨(some 2), none, .mv (.c (.int .i64 0))⟩])
 (.seq (.seq (.ops [⟨(some 5), none, .mv (.t 0)⟩, ⟨(some 6), none, .len false (.t 5)⟩, ⟨(some 7), none, .mv (.c (.int .i64 0))⟩])
 (.block 0 (.loop (.seq (.ops [⟨(some 8), none, .bin 0 .lss (.t 7) (.t 6)⟩])
 (.seq (.cond (.t 8) (.skip) (.exit 0))
 (.seq (.block 1 (.seq (.ops [⟨(some 9), none, .iadr 1 (.t 5) (.t 7)⟩, ⟨(some 10), none, .load none (.t 9)⟩, ⟨(some 4), none, .mv (.t 10)⟩])
 (.seq (.ops [⟨(some 11), none, .mv (.t 4)⟩, ⟨(some 12), none, .bin 0 .neq (.t 11) (.c (.int .i64 0))⟩])
 (.cond (.t 12) (.seq (.ops [⟨(some 13), none, .mv (.t 4)⟩, ⟨(some 2), none, .mv (.t 13)⟩])
 (.ret)) (.skip)))))
 (.ops [⟨(some 14), none, .bin 0 .add (.t 7) (.c (.int .i64 1))⟩, ⟨(some 7), none, .mv (.t 14)⟩])))))))
 (.seq (.ops [⟨(some 2), none, .mv (.c (.int .i64 0))⟩])
 (.ret)))⟩
theorem c65 : compF Go.Proofs.Try.prog 65 = some a65 := by kernel_rfl
def a66 : AFn := ⟨8, [.t 2], .seq (.ops [⟨(some 2), none, .mv (.c (.lit true 0 []))⟩])
 (.seq (.seq (.ops [⟨(some 3), none, .mv (.t 0)⟩, ⟨(some 4), none, .bin 3 .eql (.t 3) (.c (.lit true 0 []))⟩])
 (.cond (.t 4) (.seq (.ops [⟨(some 2), none, .mv (.c (.lit true 0 []))⟩])
 (.ret)) (.skip)))
 (.seq (.ops [⟨(some 5), none, .bslice 3 1 0 [(.int .i64 0)] []⟩, ⟨(some 6), none, .mv (.t 0)⟩, ⟨(some 7), none, .app 3 1 8 (.t 5) (.t 6)⟩, ⟨(some 2), none, .mv (.t 7)⟩])
 (.ret)))⟩
theorem c66 : compF Go.Proofs.Try.prog 66 = some a66 := by kernel_rfl
def a67 : AFn := ⟨22, [], .seq (.ops [⟨(some 3), none, .box 27 (.t 0)⟩])
 (.seq (.ops [⟨(some 8), none, .load (some 1) (.t 3)⟩, ⟨(some 9), none, .mv (.t 2)⟩, ⟨(some 10), none, .call 73 [(.t 8), (.t 9)]⟩, ⟨(some 6), none, .alloc 67 [(.int .i64 0), (.int .i64 0)]⟩, ⟨none, none, .store 2 (.t 6) (.t 10)⟩])
 (.seq (.ops [⟨(some 11), none, .fadr 0 (.t 6)⟩, ⟨(some 12), none, .load none (.t 11)⟩, ⟨(some 7), none, .mv (.t 12)⟩])
 (.block 0 (.loop (.seq (.seq (.ops [⟨(some 13), none, .mv (.t 7)⟩, ⟨(some 14), none, .fadr 1 (.t 6)⟩, ⟨(some 15), none, .load none (.t 14)⟩, ⟨(some 16), none, .bin 0 .lss (.t 13) (.t 15)⟩])
 (.cond (.t 16) (.skip) (.exit 0)))
 (.seq (.block 1 (.ops [⟨(some 19), none, .mv (.t 1)⟩, ⟨(some 20), none, .mv (.t 7)⟩, ⟨(some 21), none, .iadr 1 (.t 19) (.t 20)⟩, ⟨none, none, .store 1 (.t 21) (.c (.int .i64 65535))⟩]))
 (.ops [⟨(some 17), none, .mv (.t 7)⟩, ⟨(some 18), none, .bin 0 .add (.t 17) (.c (.int .i64 1))⟩, ⟨(some 7), none, .mv (.t 18)⟩])))))))⟩
theorem c67 : compF Go.Proofs.Try.prog 67 = some a67 := by kernel_rfl
def a69 : AFn := ⟨16, [.t 4], .seq (.ops [⟨(some 4), none, .mv (.c (.int .i64 0))⟩])
 (.seq (.seq (.ops [⟨(some 5), none, .mv (.t 1)⟩, ⟨(some 6), none, .bin 0 .lss (.t 5) (.c (.int .i64 1))⟩])
 (.cond (.t 6) (.seq (.ops [⟨(some 4), none, .mv (.c (.int .i64 0))⟩])
 (.ret)) (.skip)))
 (.seq (.ops [⟨(some 7), none, .mv (.t 0)⟩, ⟨(some 8), none, .mv (.t 1)⟩, ⟨(some 9), none, .bin 0 .rem (.t 7) (.t 8)⟩, ⟨(some 0), none, .mv (.t 9)⟩])
 (.seq (.seq (.ops [⟨(some 10), none, .mv (.t 0)⟩, ⟨(some 11), none, .bin 0 .lss (.t 10) (.c (.int .i64 0))⟩])
 (.cond (.t 11) (.ops [⟨(some 12), none, .mv (.t 0)⟩, ⟨(some 13), none, .mv (.t 1)⟩, ⟨(some 14), none, .bin 0 .add (.t 12) (.t 13)⟩, ⟨(some 0), none, .mv (.t 14)⟩]) (.skip)))
 (.seq (.ops [⟨(some 15), none, .mv (.t 0)⟩, ⟨(some 4), none, .mv (.t 15)⟩])
 (.ret)))))⟩
theorem c69 : compF Go.Proofs.Try.prog 69 = some a69 := by kernel_rfl
def a70 : AFn := ⟨17, [.t 4, .t 5], .seq (.ops [⟨(some 4), none, .mv (.c (.str []))⟩, ⟨(some 5), none, .mv (.c (.int .i64 0))⟩])
 (.seq (.seq (.ops [⟨(some 6), none, .mv (.t 0)⟩, ⟨(some 7), none, .call 85 [(.t 6)]⟩, ⟨(some 8), none, .un .not (.t 7)⟩, ⟨(some 9), none, .mv (.t 8)⟩, ⟨(some 10), (some (9, false)), .mv (.t 1)⟩, ⟨(some 11), (some (9, false)), .call 85 [(.t 10)]⟩, ⟨(some 12), (some (9, false)), .un .not (.t 11)⟩, ⟨(some 13), none, .pick (.t 9) (.c (.bool true)) (.t 12)⟩])
 (.cond (.t 13) (.seq (.ops [⟨(some 4), none, .mv (.c (.str []))⟩, ⟨(some 5), none, .mv (.c (.int .i64 1))⟩])
 (.ret)) (.skip)))
 (.seq (.ops [⟨(some 14), none, .mv (.t 0)⟩, ⟨(some 15), none, .mv (.t 1)⟩, ⟨(some 16), none, .call 86 [(.t 14), (.t 15)]⟩, ⟨(some 4), none, .mv (.t 16)⟩, ⟨(some 5), none, .mv (.c (.int .i64 0))⟩])
 (.ret)))⟩
theorem c70 : compF Go.Proofs.Try.prog 70 = some a70 := by kernel_rfl
def a71 : AFn := ⟨30, [.t 2, .t 3], .seq (.ops [⟨(some 1), none, .box 3 (.t 0)⟩, ⟨(some 2), none, .mv (.c (.lit true 0 []))⟩, ⟨(some 3), none, .mv (.c (.int .i64 0))⟩])
 (.seq (.seq (.ops [⟨(some 8), none, .load none (.t 1)⟩, ⟨(some 9), none, .call 87 [(.t 8)]⟩, ⟨(some 4), none, .mv (.t 9)⟩])
 (.seq (.ops [⟨(some 10), none, .mv (.t 4)⟩, ⟨(some 11), none, .bin 0 .neq (.t 10) (.c (.int .i64 0))⟩])
 (.cond (.t 11) (.seq (.ops [⟨(some 12), none, .mv (.t 4)⟩, ⟨(some 2), none, .mv (.c (.lit true 0 []))⟩, ⟨(some 3), none, .mv (.t 12)⟩])
 (.ret)) (.skip))))
 (.seq (.ops [⟨(some 13), none, .mkfn 89 [(.t 1)]⟩, ⟨(some 14), none, .call 88 [(.c (.int .i64 0)), (.t 13)]⟩, ⟨(some 5), none, .mv (.t 14)⟩])
 (.seq (.ops [⟨(some 6), none, .mv (.c (.lit true 0 []))⟩])
 (.seq (.seq (.ops [⟨(some 15), none, .load none (.t 1)⟩, ⟨(some 16), none, .mv (.c (.int .i64 0))⟩])
 (.block 0 (.loop (.seq (.ops [⟨(some 17), none, .bin 0 .lss (.t 16) (.t 15)⟩])
 (.seq (.cond (.t 17) (.skip) (.exit 0))
 (.seq (.block 1 (.seq (.ops [⟨(some 18), none, .mv (.t 16)⟩, ⟨(some 7), none, .mv (.t 18)⟩])
 (.ops [⟨(some 19), none, .mv (.t 6)⟩, ⟨(some 20), none, .mv (.t 7)⟩, ⟨(some 21), none, .bin 0 .add (.t 20) (.c (.int .i64 1))⟩, ⟨(some 22), none, .mv (.t 5)⟩, ⟨(some 23), none, .call 90 [(.t 21), (.t 22)]⟩, ⟨(some 24), none, .bslice 9 1 1 [(.str [])] [(0, 1, (.t 23))]⟩, ⟨(some 25), none, .app 9 1 16 (.t 19) (.t 24)⟩, ⟨(some 6), none, .mv (.t 25)⟩])))
 (.ops [⟨(some 26), none, .bin 0 .add (.t 16) (.c (.int .i64 1))⟩, ⟨(some 16), none, .mv (.t 26)⟩])))))))
 (.seq (.ops [⟨(some 27), none, .mv (.t 6)⟩, ⟨(some 28), none, .mv (.t 5)⟩, ⟨(some 29), none, .call 91 [(.t 27), (.t 28)]⟩, ⟨(some 2), none, .mv (.t 29)⟩, ⟨(some 3), none, .mv (.c (.int .i64 0))⟩])
 (.ret))))))⟩
theorem c71 : compF Go.Proofs.Try.prog 71 = some a71 := by kernel_rfl
def a72 : AFn := ⟨27, [.c 2 (some 2), .t 3, .t 4], .seq (.ops [⟨(some 1), none, .box 114 (.t 0)⟩, ⟨(some 2), none, .alloc 110 [(.int .i64 0), (.int .i64 0)]⟩, ⟨(some 3), none, .mv (.c (.bool false))⟩, ⟨(some 4), none, .mv (.c (.int .i64 0))⟩])
 (.seq (.seq (.ops [⟨(some 8), none, .load (some 2) (.t 1)⟩, ⟨(some 9), none, .call 92 [(.t 8)]⟩, ⟨(some 5), none, .mv (.t 9)⟩])
 (.seq (.ops [⟨(some 10), none, .mv (.t 5)⟩, ⟨(some 11), none, .bin 0 .neq (.t 10) (.c (.int .i64 0))⟩])
 (.cond (.t 11) (.seq (.ops [⟨(some 12), none, .build [(.int .i64 0), (.int .i64 0)] []⟩, ⟨(some 13), none, .mv (.t 5)⟩, ⟨none, none, .store 2 (.t 2) (.t 12)⟩, ⟨(some 3), none, .mv (.c (.bool false))⟩, ⟨(some 4), none, .mv (.t 13)⟩])
 (.ret)) (.skip))))
 (.seq (.any [(⟨(some 15), none, .load (some 2) (.t 1)⟩, []), (⟨(some 16), none, .load (some 2) (.t 1)⟩, [0]), (⟨(some 17), none, .call 94 [(.t 16)]⟩, [0]), (⟨(some 18), none, .call 93 [(.t 15), (.t 17)]⟩, []), (⟨(some 14), none, .mv (.t 18)⟩, []), (⟨(some 19), none, .ext (.t 14) 0⟩, []), (⟨(some 20), none, .ext (.t 14) 1⟩, [5]), (⟨(some 6), none, .mv (.t 19)⟩, [6]), (⟨(some 7), none, .mv (.t 20)⟩, [])])
 (.seq (.seq (.ops [⟨(some 21), none, .mv (.t 7)⟩, ⟨(some 22), none, .bin 0 .eql (.t 21) (.c (.int .i64 0))⟩])
 (.cond (.t 22) (.seq (.ops [⟨(some 23), none, .build [(.int .i64 0), (.int .i64 0)] []⟩, ⟨none, none, .store 2 (.t 2) (.t 23)⟩, ⟨(some 3), none, .mv (.c (.bool false))⟩, ⟨(some 4), none, .mv (.c (.int .i64 0))⟩])
 (.ret)) (.skip)))
 (.seq (.ops [⟨(some 24), none, .mv (.t 6)⟩, ⟨(some 25), none, .mv (.t 7)⟩, ⟨(some 26), none, .call 95 [(.t 24), (.t 25)]⟩, ⟨none, none, .store 2 (.t 2) (.t 26)⟩, ⟨(some 3), none, .mv (.c (.bool true))⟩, ⟨(some 4), none, .mv (.c (.int .i64 0))⟩])
 (.ret)))))⟩
theorem c72 : compF Go.Proofs.Try.prog 72 = some a72 := by kernel_rfl
def a73 : AFn := ⟨30, [.c 4 (some 2)], .seq (.ops [⟨(some 2), none, .box 27 (.t 0)⟩, ⟨(some 4), none, .alloc 67 [(.int .i64 0), (.int .i64 0)]⟩])
 (.seq (.ops [⟨(some 5), none, .mv (.c (.int .i64 0))⟩])
 (.seq (.seq (.ops [⟨(some 8), none, .fadr 0 (.t 2)⟩, ⟨(some 9), none, .load none (.t 8)⟩, ⟨(some 10), none, .mv (.t 1)⟩, ⟨(some 11), none, .slc 1 (.t 9) none (some (.t 10))⟩, ⟨(some 12), none, .len false (.t 11)⟩, ⟨(some 13), none, .mv (.c (.int .i64 0))⟩])
 (.block 0 (.loop (.seq (.ops [⟨(some 14), none, .bin 0 .lss (.t 13) (.t 12)⟩])
 (.seq (.cond (.t 14) (.skip) (.exit 0))
 (.seq (.block 1 (.seq (.ops [⟨(some 15), none, .iadr 1 (.t 11) (.t 13)⟩, ⟨(some 16), none, .load none (.t 15)⟩, ⟨(some 7), none, .mv (.t 16)⟩])
 (.ops [⟨(some 17), none, .mv (.t 5)⟩, ⟨(some 18), none, .mv (.t 7)⟩, ⟨(some 19), none, .bin 0 .add (.t 17) (.t 18)⟩, ⟨(some 5), none, .mv (.t 19)⟩])))
 (.ops [⟨(some 20), none, .bin 0 .add (.t 13) (.c (.int .i64 1))⟩, ⟨(some 13), none, .mv (.t 20)⟩])))))))
 (.seq (.ops [⟨(some 21), none, .mv (.t 5)⟩, ⟨(some 22), none, .mv (.t 5)⟩, ⟨(some 23), none, .fadr 0 (.t 2)⟩, ⟨(some 24), none, .load none (.t 23)⟩, ⟨(some 25), none, .mv (.t 1)⟩, ⟨(some 26), none, .iadr 1 (.t 24) (.t 25)⟩, ⟨(some 27), none, .load none (.t 26)⟩, ⟨(some 28), none, .bin 0 .add (.t 22) (.t 27)⟩, ⟨(some 29), none, .build [(.int .i64 0), (.int .i64 0)] [(0, 1, (.t 21)), (1, 1, (.t 28))]⟩, ⟨none, none, .store 2 (.t 4) (.t 29)⟩])
 (.ret))))⟩
theorem c73 : compF Go.Proofs.Try.prog 73 = some a73 := by kernel_rfl
def a84 : AFn := ⟨19, [.t 4], .seq (.ops [⟨(some 4), none, .mv (.c (.int .i64 0))⟩])
 (.seq (.seq (.ops [⟨(some 6), none, .mv (.t 0)⟩, ⟨(some 7), none, .len false (.t 6)⟩, ⟨(some 8), none, .mv (.c (.int .i64 0))⟩])
 (.block 0 (.loop (.seq (.ops [⟨(some 9), none, .bin 0 .lss (.t 8) (.t 7)⟩])
 (.seq (.cond (.t 9) (.skip) (.exit 0))
 (.seq (.block 1 (.seq (.ops [⟨(some 10), none, .mv (.t 8)⟩, ⟨(some 5), none, .mv (.t 10)⟩])
 (.seq (.ops [⟨(some 11), none, .mv (.t 1)⟩, ⟨(some 12), none, .mv (.t 0)⟩, ⟨(some 13), none, .mv (.t 5)⟩, ⟨(some 14), none, .iadr 1 (.t 12) (.t 13)⟩, ⟨(some 15), none, .load none (.t 14)⟩, ⟨(some 16), none, .callv (.t 11) [(.t 15)]⟩])
 (.cond (.t 16) (.seq (.ops [⟨(some 17), none, .mv (.t 5)⟩, ⟨(some 4), none, .mv (.t 17)⟩])
 (.ret)) (.skip)))))
 (.ops [⟨(some 18), none, .bin 0 .add (.t 8) (.c (.int .i64 1))⟩, ⟨(some 8), none, .mv (.t 18)⟩])))))))
 (.seq (.ops [⟨(some 4), none, .mv (.c (.int .i64 (-1)))⟩])
 (.ret)))⟩
theorem c84 : compF Go.Proofs.Try.prog 84 = some a84 := by kernel_rfl
def a85 : AFn := ⟨6, [.t 2], .seq (.ops [⟨(some 2), none, .mv (.c (.bool false))⟩])
 (.seq (.ops [⟨(some 3), none, .mv (.t 0)⟩, ⟨(some 4), none, .call 62 [(.t 3), (.c (.int .i64 0)), (.c (.int .i64 15))]⟩, ⟨(some 5), none, .un .not (.t 4)⟩, ⟨(some 2), none, .mv (.t 5)⟩])
 (.ret))⟩
theorem c85 : compF Go.Proofs.Try.prog 85 = some a85 := by kernel_rfl
def a86 : AFn := ⟨57, [.t 4], .seq (.ops [⟨(some 4), none, .mv (.c (.str []))⟩])
 (.seq (.ops [⟨(some 12), none, .mmk (some (.i64)) (.str [])⟩, ⟨(some 13), none, .mv (.t 0)⟩, ⟨none, none, .mup (some (.i64)) (.t 12) (.t 13) (.c (.str []))⟩, ⟨(some 14), none, .mv (.t 12)⟩, ⟨(some 5), none, .mv (.t 14)⟩])
 (.seq (.ops [⟨(some 15), none, .mv (.t 0)⟩, ⟨(some 16), none, .bslice 3 1 1 [(.int .i64 0)] [(0, 1, (.t 15))]⟩, ⟨(some 6), none, .mv (.t 16)⟩])
 (.seq (.block 0 (.loop (.seq (.seq (.ops [⟨(some 17), none, .mv (.t 6)⟩, ⟨(some 18), none, .len false (.t 17)⟩, ⟨(some 19), none, .bin 0 .gtr (.t 18) (.c (.int .i64 0))⟩])
 (.cond (.t 19) (.skip) (.exit 0)))
 (.block 1 (.seq (.ops [⟨(some 20), none, .mv (.t 6)⟩, ⟨(some 21), none, .iadr 1 (.t 20) (.c (.int .i64 0))⟩, ⟨(some 22), none, .load none (.t 21)⟩, ⟨(some 7), none, .mv (.t 22)⟩])
 (.seq (.ops [⟨(some 23), none, .mv (.t 6)⟩, ⟨(some 24), none, .slc 1 (.t 23) (some (.c (.int .i64 1))) none⟩, ⟨(some 6), none, .mv (.t 24)⟩])
 (.seq (.ops [⟨(some 25), none, .mv (.c (.int .i64 0))⟩])
 (.block 2 (.loop (.seq (.ops [⟨(some 26), none, .bin 0 .lss (.t 25) (.c (.int .i64 2))⟩])
 (.seq (.cond (.t 26) (.skip) (.exit 2))
 (.seq (.block 3 (.seq (.ops [⟨(some 27), none, .mv (.t 25)⟩, ⟨(some 8), none, .mv (.t 27)⟩])
 (.seq (.ops [⟨(some 28), none, .mv (.t 7)⟩, ⟨(some 29), none, .mv (.t 8)⟩, ⟨(some 30), none, .call 98 [(.t 28), (.t 29)]⟩, ⟨(some 9), none, .mv (.t 30)⟩])
 (.seq (.ops [⟨(some 32), none, .mv (.t 5)⟩, ⟨(some 33), none, .mv (.t 9)⟩, ⟨(some 34), none, .mlk true (some (.i64)) (.str []) (.t 32) (.t 33)⟩, ⟨(some 31), none, .mv (.t 34)⟩, ⟨(some 35), none, .ext (.t 31) 0⟩, ⟨(some 36), none, .ext (.t 31) 1⟩, ⟨(some 10), none, .mv (.t 35)⟩, ⟨(some 11), none, .mv (.t 36)⟩])
 (.seq (.ops [⟨(some 37), none, .mv (.t 11)⟩, ⟨(some 38), none, .un .not (.t 37)⟩])
 (.cond (.t 38) (.seq (.ops [⟨(some 39), none, .mv (.t 5)⟩, ⟨(some 40), none, .mv (.t 9)⟩, ⟨(some 41), none, .mv (.t 5)⟩, ⟨(some 42), none, .mv (.t 7)⟩, ⟨(some 43), none, .mlk false (some (.i64)) (.str []) (.t 41) (.t 42)⟩, ⟨(some 44), none, .mv (.t 8)⟩, ⟨(some 45), none, .bin 0 .add (.c (.int .i64 48)) (.t 44)⟩, ⟨(some 46), none, .conv .i32 (.t 45)⟩, ⟨(some 47), none, .i2s (.t 46)⟩, ⟨(some 48), none, .bin 1 .add (.t 43) (.t 47)⟩, ⟨none, none, .mup (some (.i64)) (.t 39) (.t 40) (.t 48)⟩])
 (.ops [⟨(some 49), none, .mv (.t 6)⟩, ⟨(some 50), none, .mv (.t 9)⟩, ⟨(some 51), none, .bslice 3 1 1 [(.int .i64 0)] [(0, 1, (.t 50))]⟩, ⟨(some 52), none, .app 3 1 8 (.t 49) (.t 51)⟩, ⟨(some 6), none, .mv (.t 52)⟩])) (.skip)))))))
 (.ops [⟨(some 53), none, .bin 0 .add (.t 25) (.c (.int .i64 1))⟩, ⟨(some 25), none, .mv (.t 53)⟩])))))))))))))
 (.seq (.ops [⟨(some 54), none, .mv (.t 5)⟩, ⟨(some 55), none, .mv (.t 1)⟩, ⟨(some 56), none, .mlk false (some (.i64)) (.str []) (.t 54) (.t 55)⟩, ⟨(some 4), none, .mv (.t 56)⟩])
 (.ret)))))⟩
theorem c86 : compF Go.Proofs.Try.prog 86 = some a86 := by kernel_rfl
def a87 : AFn := ⟨5, [.t 2], .seq (.ops [⟨(some 2), none, .mv (.c (.int .i64 0))⟩])
 (.seq (.seq (.ops [⟨(some 3), none, .mv (.t 0)⟩, ⟨(some 4), none, .call 62 [(.t 3), (.c (.int .i64 1)), (.c (.int .i64 100))]⟩])
 (.cond (.t 4) (.seq (.ops [⟨(some 2), none, .mv (.c (.int .i64 1))⟩])
 (.ret)) (.skip)))
 (.seq (.ops [⟨(some 2), none, .mv (.c (.int .i64 0))⟩])
 (.ret)))⟩
theorem c87 : compF Go.Proofs.Try.prog 87 = some a87 := by kernel_rfl
def a88 : AFn := ⟨12, [.t 4], .seq (.ops [⟨(some 4), none, .mv (.c (.int .i64 0))⟩])
 (.seq (.block 0 (.loop (.seq (.seq (.ops [⟨(some 5), none, .mv (.t 1)⟩, ⟨(some 6), none, .mv (.t 0)⟩, ⟨(some 7), none, .callv (.t 5) [(.t 6)]⟩, ⟨(some 8), none, .un .not (.t 7)⟩])
 (.cond (.t 8) (.skip) (.exit 0)))
 (.block 1 (.ops [⟨(some 9), none, .mv (.t 0)⟩, ⟨(some 10), none, .bin 0 .add (.t 9) (.c (.int .i64 1))⟩, ⟨(some 0), none, .mv (.t 10)⟩])))))
 (.seq (.ops [⟨(some 11), none, .mv (.t 0)⟩, ⟨(some 4), none, .mv (.t 11)⟩])
 (.ret)))⟩
theorem c88 : compF Go.Proofs.Try.prog 88 = some a88 := by kernel_rfl
def a89 : AFn := ⟨9, [.t 3], .seq (.ops [⟨(some 3), none, .mv (.c (.bool false))⟩])
 (.seq (.any [(⟨(some 4), none, .mv (.t 0)⟩, []), (⟨(some 5), none, .bin 0 .shl (.c (.int .i64 1)) (.t 4)⟩, []), (⟨(some 6), none, .bin 0 .sub (.t 5) (.c (.int .i64 2))⟩, []), (⟨(some 7), none, .load none (.t 1)⟩, [0, 1, 2]), (⟨(some 8), none, .bin 0 .geq (.t 6) (.t 7)⟩, []), (⟨(some 3), none, .mv (.t 8)⟩, [])])
 (.ret))⟩
theorem c89 : compF Go.Proofs.Try.prog 89 = some a89 := by kernel_rfl
def a90 : AFn := ⟨24, [.t 4], .seq (.ops [⟨(some 4), none, .mv (.c (.str []))⟩])
 (.seq (.ops [⟨(some 5), none, .mv (.c (.lit true 0 []))⟩])
 (.seq (.seq (.ops [⟨(some 7), none, .mv (.t 1)⟩, ⟨(some 8), none, .bin 0 .sub (.t 7) (.c (.int .i64 1))⟩, ⟨(some 6), none, .mv (.t 8)⟩])
 (.block 0 (.loop (.seq (.seq (.ops [⟨(some 9), none, .mv (.t 6)⟩, ⟨(some 10), none, .bin 0 .geq (.t 9) (.c (.int .i64 0))⟩])
 (.cond (.t 10) (.skip) (.exit 0)))
 (.seq (.block 1 (.ops [⟨(some 13), none, .mv (.t 5)⟩, ⟨(some 14), none, .mv (.t 0)⟩, ⟨(some 15), none, .mv (.t 6)⟩, ⟨(some 16), none, .bin 0 .shr (.t 14) (.t 15)⟩, ⟨(some 17), none, .bin 0 .and (.t 16) (.c (.int .i64 1))⟩, ⟨(some 18), none, .bin 0 .add (.c (.int .i64 48)) (.t 17)⟩, ⟨(some 19), none, .conv .u8 (.t 18)⟩, ⟨(some 20), none, .bslice 5 1 1 [(.int .u8 0)] [(0, 1, (.t 19))]⟩, ⟨(some 21), none, .app 5 1 1 (.t 13) (.t 20)⟩, ⟨(some 5), none, .mv (.t 21)⟩]))
 (.ops [⟨(some 11), none, .mv (.t 6)⟩, ⟨(some 12), none, .bin 0 .sub (.t 11) (.c (.int .i64 1))⟩, ⟨(some 6), none, .mv (.t 12)⟩]))))))
 (.seq (.ops [⟨(some 22), none, .mv (.t 5)⟩, ⟨(some 23), none, .b2s (.t 22)⟩, ⟨(some 4), none, .mv (.t 23)⟩])
 (.ret))))⟩
theorem c90 : compF Go.Proofs.Try.prog 90 = some a90 := by kernel_rfl
def a91 : AFn := ⟨38, [.t 4], .seq (.ops [⟨(some 4), none, .mv (.c (.lit true 0 []))⟩])
 (.seq (.ops [⟨(some 5), none, .mv (.c (.lit true 0 []))⟩])
 (.seq (.seq (.ops [⟨(some 10), none, .mv (.t 1)⟩, ⟨(some 11), none, .mv (.c (.int .i64 0))⟩])
 (.block 0 (.loop (.seq (.ops [⟨(some 12), none, .bin 0 .lss (.t 11) (.t 10)⟩])
 (.seq (.cond (.t 12) (.skip) (.exit 0))
 (.seq (.block 1 (.seq (.ops [⟨(some 13), none, .mv (.t 11)⟩, ⟨(some 6), none, .mv (.t 13)⟩])
 (.seq (.ops [⟨(some 14), none, .mv (.t 0)⟩, ⟨(some 15), none, .len false (.t 14)⟩, ⟨(some 16), none, .mks 5 1 1 [(.int .u8 0)] (.t 15)⟩, ⟨(some 7), none, .mv (.t 16)⟩])
 (.seq (.seq (.ops [⟨(some 17), none, .mv (.t 0)⟩, ⟨(some 18), none, .len false (.t 17)⟩, ⟨(some 19), none, .mv (.c (.int .i64 0))⟩])
 (.block 2 (.loop (.seq (.ops [⟨(some 20), none, .bin 0 .lss (.t 19) (.t 18)⟩])
 (.seq (.cond (.t 20) (.skip) (.exit 2))
 (.seq (.block 3 (.seq (.ops [⟨(some 21), none, .mv (.t 19)⟩, ⟨(some 22), none, .iadr 1 (.t 17) (.t 19)⟩, ⟨(some 23), none, .load none (.t 22)⟩, ⟨(some 8), none, .mv (.t 21)⟩, ⟨(some 9), none, .mv (.t 23)⟩])
 (.ops [⟨(some 24), none, .mv (.t 7)⟩, ⟨(some 25), none, .mv (.t 8)⟩, ⟨(some 26), none, .mv (.t 9)⟩, ⟨(some 27), none, .mv (.t 6)⟩, ⟨(some 28), none, .idxs (.t 26) (.t 27)⟩, ⟨(some 29), none, .iadr 1 (.t 24) (.t 25)⟩, ⟨none, none, .store 1 (.t 29) (.t 28)⟩])))
 (.ops [⟨(some 30), none, .bin 0 .add (.t 19) (.c (.int .i64 1))⟩, ⟨(some 19), none, .mv (.t 30)⟩])))))))
 (.ops [⟨(some 31), none, .mv (.t 5)⟩, ⟨(some 32), none, .mv (.t 7)⟩, ⟨(some 33), none, .b2s (.t 32)⟩, ⟨(some 34), none, .bslice 9 1 1 [(.str [])] [(0, 1, (.t 33))]⟩, ⟨(some 35), none, .app 9 1 16 (.t 31) (.t 34)⟩, ⟨(some 5), none, .mv (.t 35)⟩])))))
 (.ops [⟨(some 36), none, .bin 0 .add (.t 11) (.c (.int .i64 1))⟩, ⟨(some 11), none, .mv (.t 36)⟩])))))))
 (.seq (.ops [⟨(some 37), none, .mv (.t 5)⟩, ⟨(some 4), none, .mv (.t 37)⟩])
 (.ret))))⟩
theorem c91 : compF Go.Proofs.Try.prog 91 = some a91 := by kernel_rfl
def a92 : AFn := ⟨72, [.t 2], .seq (.ops [⟨(some 1), none, .box 114 (.t 0)⟩, ⟨(some 2), none, .mv (.c (.int .i64 0))⟩])
 (.seq (.block 0 (.seq (.ops [⟨(some 7), none, .fadr 0 (.t 1)⟩, ⟨(some 8), none, .load none (.t 7)⟩, ⟨(some 9), none, .len false (.t 8)⟩, ⟨(some 10), none, .bin 0 .eql (.t 9) (.c (.int .i64 0))⟩, ⟨(some 6), none, .mv (.t 10)⟩])
 (.cond (.t 6) (.seq (.ops [⟨(some 2), none, .mv (.c (.int .i64 8))⟩])
 (.ret)) (.seq (.ops [⟨(some 12), none, .fadr 0 (.t 1)⟩, ⟨(some 13), none, .load none (.t 12)⟩, ⟨(some 14), none, .len false (.t 13)⟩, ⟨(some 15), none, .bin 0 .gtr (.t 14) (.c (.int .i64 60))⟩, ⟨(some 11), none, .mv (.t 15)⟩])
 (.cond (.t 11) (.seq (.ops [⟨(some 2), none, .mv (.c (.int .i64 2))⟩])
 (.ret)) (.skip))))))
 (.seq (.seq (.ops [⟨(some 16), none, .fadr 0 (.t 1)⟩, ⟨(some 17), none, .load none (.t 16)⟩, ⟨(some 18), none, .len false (.t 17)⟩, ⟨(some 19), none, .mv (.c (.int .i64 0))⟩])
 (.block 1 (.loop (.seq (.ops [⟨(some 20), none, .bin 0 .lss (.t 19) (.t 18)⟩])
 (.seq (.cond (.t 20) (.skip) (.exit 1))
 (.seq (.block 2 (.seq (.ops [⟨(some 21), none, .iadr 1 (.t 17) (.t 19)⟩, ⟨(some 22), none, .load none (.t 21)⟩, ⟨(some 4), none, .mv (.t 22)⟩])
 (.block 3 (.seq (.ops [⟨(some 24), none, .mv (.t 4)⟩, ⟨(some 25), none, .bin 1 .eql (.t 24) (.c (.str []))⟩, ⟨(some 23), none, .mv (.t 25)⟩])
 (.cond (.t 23) (.seq (.ops [⟨(some 2), none, .mv (.c (.int .i64 8))⟩])
 (.ret)) (.seq (.ops [⟨(some 27), none, .mv (.t 4)⟩, ⟨(some 28), none, .len true (.t 27)⟩, ⟨(some 29), none, .bin 0 .gtr (.t 28) (.c (.int .i64 60))⟩, ⟨(some 26), none, .mv (.t 29)⟩])
 (.cond (.t 26) (.seq (.ops [⟨(some 2), none, .mv (.c (.int .i64 2))⟩])
 (.ret)) (.seq (.ops [⟨(some 31), none, .mv (.t 4)⟩, ⟨(some 32), none, .len true (.t 31)⟩, ⟨(some 33), none, .fadr 0 (.t 1)⟩, ⟨(some 34), none, .load none (.t 33)⟩, ⟨(some 35), none, .iadr 1 (.t 34) (.c (.int .i64 0))⟩, ⟨(some 36), none, .load none (.t 35)⟩, ⟨(some 37), none, .len true (.t 36)⟩, ⟨(some 38), none, .bin 0 .neq (.t 32) (.t 37)⟩, ⟨(some 30), none, .mv (.t 38)⟩])
 (.cond (.t 30) (.seq (.ops [⟨(some 2), none, .mv (.c (.int .i64 3))⟩])
 (.ret)) (.seq (.ops [⟨(some 40), none, .mv (.t 4)⟩, ⟨(some 41), none, .call 99 [(.t 40)]⟩, ⟨(some 39), none, .mv (.t 41)⟩])
 (.cond (.t 39) (.seq (.ops [⟨(some 2), none, .mv (.c (.int .i64 9))⟩])
 (.ret)) (.skip))))))))))))
 (.ops [⟨(some 42), none, .bin 0 .add (.t 19) (.c (.int .i64 1))⟩, ⟨(some 19), none, .mv (.t 42)⟩])))))))
 (.seq (.seq (.ops [⟨(some 43), none, .fadr 1 (.t 1)⟩, ⟨(some 44), none, .load none (.t 43)⟩, ⟨(some 45), none, .len true (.t 44)⟩, ⟨(some 46), none, .mv (.c (.int .i64 0))⟩])
 (.block 4 (.loop (.seq (.ops [⟨(some 47), none, .bin 0 .lss (.t 46) (.t 45)⟩])
 (.seq (.cond (.t 47) (.skip) (.exit 4))
 (.seq (.block 5 (.seq (.ops [⟨(some 48), none, .mv (.t 46)⟩, ⟨(some 5), none, .mv (.t 48)⟩])
 (.block 6 (.seq (.ops [⟨(some 50), none, .fadr 1 (.t 1)⟩, ⟨(some 51), none, .load none (.t 50)⟩, ⟨(some 52), none, .mv (.t 5)⟩, ⟨(some 53), none, .idxs (.t 51) (.t 52)⟩, ⟨(some 54), none, .call 100 [(.t 53)]⟩, ⟨(some 55), none, .un .not (.t 54)⟩, ⟨(some 49), none, .mv (.t 55)⟩])
 (.cond (.t 49) (.seq (.ops [⟨(some 2), none, .mv (.c (.int .i64 9))⟩])
 (.ret)) (.seq (.any [(⟨(some 57), none, .mv (.t 5)⟩, []), (⟨(some 58), none, .bin 0 .gtr (.t 57) (.c (.int .i64 0))⟩, []), (⟨(some 59), none, .mv (.t 58)⟩, []), (⟨(some 60), (some (59, true)), .fadr 1 (.t 1)⟩, []), (⟨(some 61), (some (59, true)), .load none (.t 60)⟩, []), (⟨(some 62), (some (59, true)), .mv (.t 5)⟩, [3, 4]), (⟨(some 63), (some (59, true)), .idxs (.t 61) (.t 62)⟩, []), (⟨(some 64), (some (59, true)), .fadr 1 (.t 1)⟩, [3, 4, 5, 6]), (⟨(some 65), (some (59, true)), .load none (.t 64)⟩, [3, 4, 5, 6]), (⟨(some 66), (some (59, true)), .mv (.t 5)⟩, [3, 4, 5, 6, 7, 8]), (⟨(some 67), (some (59, true)), .bin 0 .sub (.t 66) (.c (.int .i64 1))⟩, [3, 4, 5, 6, 7, 8]), (⟨(some 68), (some (59, true)), .idxs (.t 65) (.t 67)⟩, [3, 4, 5, 6]), (⟨(some 69), (some (59, true)), .bin 0 .leq (.t 63) (.t 68)⟩, []), (⟨(some 70), none, .pick (.t 59) (.t 69) (.c (.bool false))⟩, []), (⟨(some 56), none, .mv (.t 70)⟩, [])])
 (.cond (.t 56) (.seq (.ops [⟨(some 2), none, .mv (.c (.int .i64 7))⟩])
 (.ret)) (.skip))))))))
 (.ops [⟨(some 71), none, .bin 0 .add (.t 46) (.c (.int .i64 1))⟩, ⟨(some 46), none, .mv (.t 71)⟩])))))))
 (.seq (.ops [⟨(some 2), none, .mv (.c (.int .i64 0))⟩])
 (.ret)))))⟩
theorem c92 : compF Go.Proofs.Try.prog 92 = some a92 := by kernel_rfl
def a93 : AFn := ⟨30, [.t 4, .t 5], .seq (.ops [⟨(some 2), none, .box 114 (.t 0)⟩, ⟨(some 4), none, .mv (.c (.int .i64 0))⟩, ⟨(some 5), none, .mv (.c (.int .i64 0))⟩])
 (.seq (.seq (.ops [⟨(some 9), none, .mv (.t 1)⟩, ⟨(some 10), none, .len false (.t 9)⟩, ⟨(some 11), none, .mv (.c (.int .i64 0))⟩])
 (.block 0 (.loop (.seq (.ops [⟨(some 12), none, .bin 0 .lss (.t 11) (.t 10)⟩])
 (.seq (.cond (.t 12) (.skip) (.exit 0))
 (.seq (.block 1 (.seq (.ops [⟨(some 13), none, .iadr 2 (.t 9) (.t 11)⟩, ⟨(some 14), none, .load (some 2) (.t 13)⟩, ⟨(some 7), none, .alloc 152 [(.int .i64 0), (.int .i64 0)]⟩, ⟨none, none, .store 2 (.t 7) (.t 14)⟩])
 (.seq (.ops [⟨(some 15), none, .load (some 2) (.t 2)⟩, ⟨(some 16), none, .load (some 2) (.t 7)⟩, ⟨(some 17), none, .call 101 [(.t 15), (.t 16)]⟩, ⟨(some 8), none, .mv (.t 17)⟩])
 (.seq (.seq (.ops [⟨(some 18), none, .mv (.t 8)⟩, ⟨(some 19), none, .call 102 [(.t 18)]⟩])
 (.cond (.t 19) (.ops [⟨(some 20), none, .mv (.t 5)⟩, ⟨(some 21), none, .bin 0 .add (.t 20) (.c (.int .i64 1))⟩, ⟨(some 5), none, .mv (.t 21)⟩]) (.skip)))
 (.seq (.ops [⟨(some 22), none, .load (some 2) (.t 2)⟩, ⟨(some 23), none, .mv (.t 8)⟩, ⟨(some 24), none, .call 103 [(.t 22), (.t 23)]⟩])
 (.cond (.t 24) (.ops [⟨(some 25), none, .mv (.t 4)⟩, ⟨(some 26), none, .bin 0 .add (.t 25) (.c (.int .i64 1))⟩, ⟨(some 4), none, .mv (.t 26)⟩]) (.skip)))))))
 (.ops [⟨(some 27), none, .bin 0 .add (.t 11) (.c (.int .i64 1))⟩, ⟨(some 11), none, .mv (.t 27)⟩])))))))
 (.seq (.ops [⟨(some 28), none, .mv (.t 4)⟩, ⟨(some 29), none, .mv (.t 5)⟩, ⟨(some 4), none, .mv (.t 28)⟩, ⟨(some 5), none, .mv (.t 29)⟩])
 (.ret)))⟩
theorem c93 : compF Go.Proofs.Try.prog 93 = some a93 := by kernel_rfl
def a94 : AFn := ⟨29, [.t 2], .seq (.ops [⟨(some 1), none, .box 114 (.t 0)⟩, ⟨(some 2), none, .mv (.c (.lit true 0 []))⟩])
 (.seq (.ops [⟨(some 3), none, .mv (.c (.lit true 0 []))⟩])
 (.seq (.seq (.ops [⟨(some 7), none, .fadr 0 (.t 1)⟩, ⟨(some 8), none, .load none (.t 7)⟩, ⟨(some 9), none, .len false (.t 8)⟩, ⟨(some 10), none, .mv (.c (.int .i64 0))⟩])
 (.block 0 (.loop (.seq (.ops [⟨(some 11), none, .bin 0 .lss (.t 10) (.t 9)⟩])
 (.seq (.cond (.t 11) (.skip) (.exit 0))
 (.seq (.block 1 (.seq (.ops [⟨(some 12), none, .mv (.t 10)⟩, ⟨(some 13), none, .iadr 1 (.t 8) (.t 10)⟩, ⟨(some 14), none, .load none (.t 13)⟩, ⟨(some 4), none, .mv (.t 12)⟩, ⟨(some 5), none, .mv (.t 14)⟩])
 (.seq (.ops [⟨(some 15), none, .mv (.t 5)⟩, ⟨(some 16), none, .len true (.t 15)⟩, ⟨(some 17), none, .mv (.c (.int .i64 0))⟩])
 (.block 2 (.loop (.seq (.ops [⟨(some 18), none, .bin 0 .lss (.t 17) (.t 16)⟩])
 (.seq (.cond (.t 18) (.skip) (.exit 2))
 (.seq (.block 3 (.seq (.ops [⟨(some 19), none, .mv (.t 17)⟩, ⟨(some 6), none, .mv (.t 19)⟩])
 (.ops [⟨(some 20), none, .mv (.t 3)⟩, ⟨(some 21), none, .mv (.t 6)⟩, ⟨(some 22), none, .mv (.t 4)⟩, ⟨(some 23), none, .build [(.int .i64 0), (.int .i64 0)] [(0, 1, (.t 21)), (1, 1, (.t 22))]⟩, ⟨(some 24), none, .bslice 152 2 1 [(.int .i64 0), (.int .i64 0)] [(0, 2, (.t 23))]⟩, ⟨(some 25), none, .app 152 2 16 (.t 20) (.t 24)⟩, ⟨(some 3), none, .mv (.t 25)⟩])))
 (.ops [⟨(some 26), none, .bin 0 .add (.t 17) (.c (.int .i64 1))⟩, ⟨(some 17), none, .mv (.t 26)⟩])))))))))
 (.ops [⟨(some 27), none, .bin 0 .add (.t 10) (.c (.int .i64 1))⟩, ⟨(some 10), none, .mv (.t 27)⟩])))))))
 (.seq (.ops [⟨(some 28), none, .mv (.t 3)⟩, ⟨(some 2), none, .mv (.t 28)⟩])
 (.ret))))⟩
theorem c94 : compF Go.Proofs.Try.prog 94 = some a94 := by kernel_rfl
def a95 : AFn := ⟨19, [.c 4 (some 2)], .seq (.ops [⟨(some 4), none, .alloc 110 [(.int .i64 0), (.int .i64 0)]⟩])
 (.seq (.ops [⟨(some 6), none, .mv (.t 0)⟩, ⟨(some 7), none, .mv (.t 0)⟩, ⟨(some 8), none, .un .neg (.t 7)⟩, ⟨(some 9), none, .mm true (.t 6) [(.t 8)]⟩, ⟨(some 10), none, .mv (.t 1)⟩, ⟨(some 11), none, .call 104 [(.t 9), (.t 10)]⟩, ⟨(some 5), none, .mv (.t 11)⟩])
 (.seq (.any [(⟨(some 12), none, .mv (.t 0)⟩, []), (⟨(some 13), none, .mv (.t 5)⟩, [0]), (⟨(some 14), none, .bin 0 .quo (.t 12) (.t 13)⟩, []), (⟨(some 15), none, .mv (.t 1)⟩, [0, 1, 2]), (⟨(some 16), none, .mv (.t 5)⟩, [0, 1, 2, 3]), (⟨(some 17), none, .bin 0 .quo (.t 15) (.t 16)⟩, [0, 1, 2]), (⟨(some 18), none, .build [(.int .i64 0), (.int .i64 0)] [(0, 1, (.t 14)), (1, 1, (.t 17))]⟩, []), (⟨none, none, .store 2 (.t 4) (.t 18)⟩, [])])
 (.ret)))⟩
theorem c95 : compF Go.Proofs.Try.prog 95 = some a95 := by kernel_rfl
def a98 : AFn := ⟨28, [.t 4], .seq (.ops [⟨(some 4), none, .mv (.c (.int .i64 0))⟩])
 (.seq (.ops [⟨(some 6), none, .build [(.int .i64 0), (.int .i64 0)] [(0, 1, (.c (.int .i64 1))), (1, 1, (.c (.int .i64 0)))]⟩, ⟨(some 7), none, .build [(.int .i64 0), (.int .i64 0)] [(0, 1, (.c (.int .i64 1))), (1, 1, (.c (.int .i64 2)))]⟩, ⟨(some 8), none, .build [(.int .i64 0), (.int .i64 0)] [(0, 1, (.c (.int .i64 3))), (1, 1, (.c (.int .i64 9)))]⟩, ⟨(some 9), none, .build [(.int .i64 0), (.int .i64 0)] [(0, 1, (.c (.int .i64 4))), (1, 1, (.c (.int .i64 5)))]⟩, ⟨(some 10), none, .build [(.int .i64 0), (.int .i64 0)] [(0, 1, (.c (.int .i64 4))), (1, 1, (.c (.int .i64 5)))]⟩, ⟨(some 11), none, .build [(.int .i64 0), (.int .i64 0)] [(0, 1, (.c (.int .i64 6))), (1, 1, (.c (.int .i64 8)))]⟩, ⟨(some 12), none, .build [(.int .i64 0), (.int .i64 0)] [(0, 1, (.c (.int .i64 6))), (1, 1, (.c (.int .i64 7)))]⟩, ⟨(some 13), none, .build [(.int .i64 0), (.int .i64 0)] [(0, 1, (.c (.int .i64 4))), (1, 1, (.c (.int .i64 8)))]⟩, ⟨(some 14), none, .build [(.int .i64 0), (.int .i64 0)] [(0, 1, (.c (.int .i64 1))), (1, 1, (.c (.int .i64 2)))]⟩, ⟨(some 15), none, .build [(.int .i64 0), (.int .i64 0)] [(0, 1, (.c (.int .i64 10))), (1, 1, (.c (.int .i64 0)))]⟩, ⟨(some 16), none, .build [(.int .i64 0), (.int .i64 0)] [(0, 1, (.c (.int .i64 11))), (1, 1, (.c (.int .i64 12)))]⟩, ⟨(some 17), none, .build [(.int .i64 0), (.int .i64 0)] [(0, 1, (.c (.int .i64 11))), (1, 1, (.c (.int .i64 12)))]⟩, ⟨(some 18), none, .build [(.int .i64 0), (.int .i64 0)] [(0, 1, (.c (.int .i64 13))), (1, 1, (.c (.int .i64 15)))]⟩, ⟨(some 19), none, .build [(.int .i64 0), (.int .i64 0)] [(0, 1, (.c (.int .i64 13))), (1, 1, (.c (.int .i64 14)))]⟩, ⟨(some 20), none, .build [(.int .i64 0), (.int .i64 0)] [(0, 1, (.c (.int .i64 11))), (1, 1, (.c (.int .i64 15)))]⟩, ⟨(some 21), none, .build [(.int .i64 0), (.int .i64 0)] [(0, 1, (.c (.int .i64 1))), (1, 1, (.c (.int .i64 2)))]⟩, ⟨(some 22), none, .build [(.int .i64 0), (.int .i64 0), (.int .i64 0), (.int .i64 0), (.int .i64 0), (.int .i64 0), (.int .i64 0), (.int .i64 0), (.int .i64 0), (.int .i64 0), (.int .i64 0), (.int .i64 0), (.int .i64 0), (.int .i64 0), (.int .i64 0), (.int .i64 0), (.int .i64 0), (.int .i64 0), (.int .i64 0), (.int .i64 0), (.int .i64 0), (.int .i64 0), (.int .i64 0), (.int .i64 0), (.int .i64 0), (.int .i64 0), (.int .i64 0), (.int .i64 0), (.int .i64 0), (.int .i64 0), (.int .i64 0), (.int .i64 0)] [(0, 2, (.t 6)), (2, 2, (.t 7)), (4, 2, (.t 8)), (6, 2, (.t 9)), (8, 2, (.t 10)), (10, 2, (.t 11)), (12, 2, (.t 12)), (14, 2, (.t 13)), (16, 2, (.t 14)), (18, 2, (.t 15)), (20, 2, (.t 16)), (22, 2, (.t 17)), (24, 2, (.t 18)), (26, 2, (.t 19)), (28, 2, (.t 20)), (30, 2, (.t 21))]⟩, ⟨(some 5), none, .alloc 156 [(.int .i64 0), (.int .i64 0), (.int .i64 0), (.int .i64 0), (.int .i64 0), (.int .i64 0), (.int .i64 0), (.int .i64 0), (.int .i64 0), (.int .i64 0), (.int .i64 0), (.int .i64 0), (.int .i64 0), (.int .i64 0), (.int .i64 0), (.int .i64 0), (.int .i64 0), (.int .i64 0), (.int .i64 0), (.int .i64 0), (.int .i64 0), (.int .i64 0), (.int .i64 0), (.int .i64 0), (.int .i64 0), (.int .i64 0), (.int .i64 0), (.int .i64 0), (.int .i64 0), (.int .i64 0), (.int .i64 0), (.int .i64 0)]⟩, ⟨none, none, .store 32 (.t 5) (.t 22)⟩])
 (.seq (.ops [⟨(some 23), none, .mv (.t 0)⟩, ⟨(some 24), none, .mv (.t 1)⟩, ⟨(some 25), none, .aadr 16 2 (.t 5) (.t 23)⟩, ⟨(some 26), none, .aadr 2 1 (.t 25) (.t 24)⟩, ⟨(some 27), none, .load none (.t 26)⟩, ⟨(some 4), none, .mv (.t 27)⟩])
 (.ret)))⟩
theorem c98 : compF Go.Proofs.Try.prog 98 = some a98 := by kernel_rfl
def a99 : AFn := ⟨6, [.t 2], .seq (.ops [⟨(some 2), none, .mv (.c (.bool false))⟩])
 (.seq (.ops [⟨(some 3), none, .mv (.t 0)⟩, ⟨(some 4), none, .s2b (.t 3)⟩, ⟨(some 5), none, .call 105 [(.t 4), (.c (.fn 106 []))]⟩, ⟨(some 2), none, .mv (.t 5)⟩])
 (.ret))⟩
theorem c99 : compF Go.Proofs.Try.prog 99 = some a99 := by kernel_rfl
def a100 : AFn := ⟨17, [.t 2], .seq (.ops [⟨(some 2), none, .mv (.c (.bool false))⟩])
 (.seq (.ops [⟨(some 3), none, .mv (.t 0)⟩, ⟨(some 4), none, .bin 0 .geq (.t 3) (.c (.int .u8 48))⟩, ⟨(some 5), none, .mv (.t 4)⟩, ⟨(some 6), (some (5, true)), .mv (.t 0)⟩, ⟨(some 7), (some (5, true)), .bin 0 .leq (.t 6) (.c (.int .u8 57))⟩, ⟨(some 8), none, .pick (.t 5) (.t 7) (.c (.bool false))⟩, ⟨(some 9), none, .mv (.t 8)⟩, ⟨(some 10), (some (9, false)), .mv (.t 0)⟩, ⟨(some 11), (some (9, false)), .bin 0 .geq (.t 10) (.c (.int .u8 97))⟩, ⟨(some 12), (some (9, false)), .mv (.t 11)⟩, ⟨(some 13), (some (12, true)), .mv (.t 0)⟩, ⟨(some 14), (some (12, true)), .bin 0 .leq (.t 13) (.c (.int .u8 122))⟩, ⟨(some 15), (some (9, false)), .pick (.t 12) (.t 14) (.c (.bool false))⟩, ⟨(some 16), none, .pick (.t 9) (.c (.bool true)) (.t 15)⟩, ⟨(some 2), none, .mv (.t 16)⟩])
 (.ret))⟩
theorem c100 : compF Go.Proofs.Try.prog 100 = some a100 := by kernel_rfl
def a101 : AFn := ⟨32, [.t 4], .seq (.ops [⟨(some 2), none, .box 114 (.t 0)⟩, ⟨(some 3), none, .box 152 (.t 1)⟩, ⟨(some 4), none, .mv (.c (.int .u8 0))⟩])
 (.seq (.seq (.any [(⟨(some 5), none, .fadr 1 (.t 3)⟩, []), (⟨(some 6), none, .load none (.t 5)⟩, []), (⟨(some 7), none, .fadr 0 (.t 2)⟩, [0, 1]), (⟨(some 8), none, .load none (.t 7)⟩, [0, 1]), (⟨(some 9), none, .len false (.t 8)⟩, [0, 1]), (⟨(some 10), none, .bin 0 .sub (.t 9) (.c (.int .i64 1))⟩, [0, 1]), (⟨(some 11), none, .call 62 [(.t 6), (.c (.int .i64 0)), (.t 10)]⟩, []), (⟨(some 12), none, .mv (.t 11)⟩, []), (⟨(some 13), (some (12, false)), .fadr 0 (.t 3)⟩, []), (⟨(some 14), (some (12, false)), .load none (.t 13)⟩, []), (⟨(some 15), (some (12, false)), .fadr 0 (.t 2)⟩, [8, 9]), (⟨(some 16), (some (12, false)), .load none (.t 15)⟩, [8, 9]), (⟨(some 17), (some (12, false)), .iadr 1 (.t 16) (.c (.int .i64 0))⟩, [8, 9]), (⟨(some 18), (some (12, false)), .load none (.t 17)⟩, [8, 9]), (⟨(some 19), (some (12, false)), .len true (.t 18)⟩, [8, 9]), (⟨(some 20), (some (12, false)), .bin 0 .sub (.t 19) (.c (.int .i64 1))⟩, [8, 9]), (⟨(some 21), (some (12, false)), .call 62 [(.t 14), (.c (.int .i64 0)), (.t 20)]⟩, []), (⟨(some 22), none, .pick (.t 12) (.c (.bool true)) (.t 21)⟩, [])])
 (.cond (.t 22) (.seq (.ops [⟨(some 4), none, .mv (.c (.int .u8 46))⟩])
 (.ret)) (.skip)))
 (.seq (.any [(⟨(some 23), none, .fadr 0 (.t 2)⟩, []), (⟨(some 24), none, .load none (.t 23)⟩, []), (⟨(some 25), none, .fadr 1 (.t 3)⟩, [0, 1]), (⟨(some 26), none, .load none (.t 25)⟩, [0, 1]), (⟨(some 27), none, .iadr 1 (.t 24) (.t 26)⟩, []), (⟨(some 28), none, .load none (.t 27)⟩, []), (⟨(some 29), none, .fadr 0 (.t 3)⟩, [0, 1, 2, 3, 4, 5]), (⟨(some 30), none, .load none (.t 29)⟩, [0, 1, 2, 3, 4, 5]), (⟨(some 31), none, .idxs (.t 28) (.t 30)⟩, []), (⟨(some 4), none, .mv (.t 31)⟩, [])])
 (.ret)))⟩
theorem c101 : compF Go.Proofs.Try.prog 101 = some a101 := by kernel_rfl
def a102 : AFn := ⟨9, [.t 2], .seq (.ops [⟨(some 2), none, .mv (.c (.bool false))⟩])
 (.seq (.ops [⟨(some 3), none, .mv (.t 0)⟩, ⟨(some 4), none, .call 100 [(.t 3)]⟩, ⟨(some 5), none, .mv (.t 4)⟩, ⟨(some 6), (some (5, false)), .mv (.t 0)⟩, ⟨(some 7), (some (5, false)), .bin 0 .eql (.t 6) (.c (.int .u8 42))⟩, ⟨(some 8), none, .pick (.t 5) (.c (.bool true)) (.t 7)⟩, ⟨(some 2), none, .mv (.t 8)⟩])
 (.ret))⟩
theorem c102 : compF Go.Proofs.Try.prog 102 = some a102 := by kernel_rfl
def a103 : AFn := ⟨14, [.t 4], .seq (.ops [⟨(some 2), none, .box 114 (.t 0)⟩, ⟨(some 4), none, .mv (.c (.bool false))⟩])
 (.seq (.ops [⟨(some 5), none, .mv (.t 1)⟩, ⟨(some 6), none, .call 100 [(.t 5)]⟩, ⟨(some 7), none, .mv (.t 6)⟩, ⟨(some 8), (some (7, true)), .fadr 1 (.t 2)⟩, ⟨(some 9), (some (7, true)), .load none (.t 8)⟩, ⟨(some 10), (some (7, true)), .mv (.t 1)⟩, ⟨(some 11), (some (7, true)), .call 108 [(.t 9), (.t 10)]⟩, ⟨(some 12), (some (7, true)), .bin 0 .geq (.t 11) (.c (.int .i64 0))⟩, ⟨(some 13), none, .pick (.t 7) (.t 12) (.c (.bool false))⟩, ⟨(some 4), none, .mv (.t 13)⟩])
 (.ret))⟩
theorem c103 : compF Go.Proofs.Try.prog 103 = some a103 := by kernel_rfl
def a104 : AFn := ⟨12, [.t 4], .seq (.ops [⟨(some 4), none, .mv (.c (.int .i64 0))⟩])
 (.seq (.block 0 (.loop (.seq (.seq (.ops [⟨(some 5), none, .mv (.t 1)⟩, ⟨(some 6), none, .bin 0 .neq (.t 5) (.c (.int .i64 0))⟩])
 (.cond (.t 6) (.skip) (.exit 0)))
 (.block 1 (.any [(⟨(some 7), none, .mv (.t 1)⟩, []), (⟨(some 8), none, .mv (.t 0)⟩, [0]), (⟨(some 9), none, .mv (.t 1)⟩, [0, 1]), (⟨(some 10), none, .bin 0 .rem (.t 8) (.t 9)⟩, [0]), (⟨(some 0), none, .mv (.t 7)⟩, [2, 3]), (⟨(some 1), none, .mv (.t 10)⟩, [])])))))
 (.seq (.ops [⟨(some 11), none, .mv (.t 0)⟩, ⟨(some 4), none, .mv (.t 11)⟩])
 (.ret)))⟩
theorem c104 : compF Go.Proofs.Try.prog 104 = some a104 := by kernel_rfl
def a105 : AFn := ⟨9, [.t 4], .seq (.ops [⟨(some 4), none, .mv (.c (.bool false))⟩])
 (.seq (.ops [⟨(some 5), none, .mv (.t 0)⟩, ⟨(some 6), none, .mv (.t 1)⟩, ⟨(some 7), none, .call 109 [(.t 5), (.t 6)]⟩, ⟨(some 8), none, .bin 0 .geq (.t 7) (.c (.int .i64 0))⟩, ⟨(some 4), none, .mv (.t 8)⟩])
 (.ret))⟩
theorem c105 : compF Go.Proofs.Try.prog 105 = some a105 := by kernel_rfl
def a106 : AFn := ⟨6, [.t 2], .seq (.ops [⟨(some 2), none, .mv (.c (.bool false))⟩])
 (.seq (.ops [⟨(some 3), none, .mv (.t 0)⟩, ⟨(some 4), none, .call 107 [(.t 3)]⟩, ⟨(some 5), none, .un .not (.t 4)⟩, ⟨(some 2), none, .mv (.t 5)⟩])
 (.ret))⟩
theorem c106 : compF Go.Proofs.Try.prog 106 = some a106 := by kernel_rfl
def a107 : AFn := ⟨17, [.t 2], .seq (.ops [⟨(some 2), none, .mv (.c (.bool false))⟩])
 (.seq (.ops [⟨(some 3), none, .mv (.t 0)⟩, ⟨(some 4), none, .call 100 [(.t 3)]⟩, ⟨(some 5), none, .mv (.t 4)⟩, ⟨(some 6), (some (5, false)), .mv (.t 0)⟩, ⟨(some 7), (some (5, false)), .bin 0 .eql (.t 6) (.c (.int .u8 46))⟩, ⟨(some 8), none, .pick (.t 5) (.c (.bool true)) (.t 7)⟩, ⟨(some 9), none, .mv (.t 8)⟩, ⟨(some 10), (some (9, false)), .mv (.t 0)⟩, ⟨(some 11), (some (9, false)), .bin 0 .eql (.t 10) (.c (.int .u8 63))⟩, ⟨(some 12), none, .pick (.t 9) (.c (.bool true)) (.t 11)⟩, ⟨(some 13), none, .mv (.t 12)⟩, ⟨(some 14), (some (13, false)), .mv (.t 0)⟩, ⟨(some 15), (some (13, false)), .bin 0 .eql (.t 14) (.c (.int .u8 42))⟩, ⟨(some 16), none, .pick (.t 13) (.c (.bool true)) (.t 15)⟩, ⟨(some 2), none, .mv (.t 16)⟩])
 (.ret))⟩
theorem c107 : compF Go.Proofs.Try.prog 107 = some a107 := by kernel_rfl
def a108 : AFn := ⟨8, [.t 4], .seq (.ops [⟨(some 4), none, .mv (.c (.int .i64 0))⟩])
 (.seq (.ops [⟨(some 5), none, .mv (.t 0)⟩, ⟨(some 6), none, .mv (.t 1)⟩, ⟨(some 7), none, .call 110 [(.t 5), (.t 6)]⟩, ⟨(some 4), none, .mv (.t 7)⟩])
 (.ret))⟩
theorem c108 : compF Go.Proofs.Try.prog 108 = some a108 := by kernel_rfl
def a109 : AFn := ⟨19, [.t 4], .seq (.ops [⟨(some 4), none, .mv (.c (.int .i64 0))⟩])
 (.seq (.seq (.ops [⟨(some 6), none, .mv (.t 0)⟩, ⟨(some 7), none, .len false (.t 6)⟩, ⟨(some 8), none, .mv (.c (.int .i64 0))⟩])
 (.block 0 (.loop (.seq (.ops [⟨(some 9), none, .bin 0 .lss (.t 8) (.t 7)⟩])
 (.seq (.cond (.t 9) (.skip) (.exit 0))
 (.seq (.block 1 (.seq (.ops [⟨(some 10), none, .mv (.t 8)⟩, ⟨(some 5), none, .mv (.t 10)⟩])
 (.seq (.ops [⟨(some 11), none, .mv (.t 1)⟩, ⟨(some 12), none, .mv (.t 0)⟩, ⟨(some 13), none, .mv (.t 5)⟩, ⟨(some 14), none, .iadr 1 (.t 12) (.t 13)⟩, ⟨(some 15), none, .load none (.t 14)⟩, ⟨(some 16), none, .callv (.t 11) [(.t 15)]⟩])
 (.cond (.t 16) (.seq (.ops [⟨(some 17), none, .mv (.t 5)⟩, ⟨(some 4), none, .mv (.t 17)⟩])
 (.ret)) (.skip)))))
 (.ops [⟨(some 18), none, .bin 0 .add (.t 8) (.c (.int .i64 1))⟩, ⟨(some 8), none, .mv (.t 18)⟩])))))))
 (.seq (.ops [⟨(some 4), none, .mv (.c (.int .i64 (-1)))⟩])
 (.ret)))⟩
theorem c109 : compF Go.Proofs.Try.prog 109 = some a109 := by kernel_rfl
def a110 : AFn := ⟨8, [.t 4], .seq (.ops [⟨(some 4), none, .mv (.c (.int .i64 0))⟩])
 (.seq (.ops [⟨(some 5), none, .mv (.t 0)⟩, ⟨(some 6), none, .mv (.t 1)⟩, ⟨(some 7), none, .call 111 [(.t 5), (.t 6)]⟩, ⟨(some 4), none, .mv (.t 7)⟩])
 (.ret))⟩
theorem c110 : compF Go.Proofs.Try.prog 110 = some a110 := by kernel_rfl
end Go.Proofs.Ytmnhlfkphibhfaa
/-
  The stream's draws, by the abstract machine.
-/
namespace Go.Proofs.Ytmnhlfkphibhfaa
open Go.RowKit
set_option linter.unusedVariables false
set_option linter.unusedSimpArgs false
set_option maxRecDepth 100000
theorem below_c (x n : Int) (nid : Nat) (hn : n ≤ 9223372036854775807) : ACall Try.prog 69 [.int .i64 x, .int .i64 n] [] nid (.int .i64 (below x n)) [] := by
  refine acall_run c69 (by simp [a69]) ?_
  simp -dsimp only [a69, aqT, ROp, OX, ↓seqK, ↓blkK, ↓loopK, step, stepBin, res, stepIdx, mix, PV.cells, argSlots, Nat.reduceBEq, Nat.reduceBeqDiff, Nat.add_assoc nid, Nat.reduceAdd, reduceCtorEq, ↓reduceIte, Nat.reduceLeDiff, colPV, freeOf, indep, offO, neqO, disj, namesX, axSlot, opXs, rdXs, idsOf, idsOfs, lowH, lowAll, keys, Nat.reduceBneDiff, Option.toList, ← Int.ofNat_tmod, ← Int.ofNat_tdiv, optInt, fillP, repl, chunk, mkCols, mkCol, colInts, colBools, colStrs, colLits, colsApp, Col.app, tailOf, splice, colsPut, Col.put, mmFold, eqK, Nat.reduceLT, colsPaste, Col.paste]
  refine S2.dec (fun h => ?_) (fun h => ?_)
  · simp -dsimp only [aqT, ROp, OX, ↓seqK, ↓blkK, ↓loopK, step, stepBin, res, stepIdx, mix, PV.cells, argSlots, Nat.reduceBEq, Nat.reduceBeqDiff, Nat.add_assoc nid, Nat.reduceAdd, reduceCtorEq, ↓reduceIte, Nat.reduceLeDiff, colPV, freeOf, indep, offO, neqO, disj, namesX, axSlot, opXs, rdXs, idsOf, idsOfs, lowH, lowAll, keys, Nat.reduceBneDiff, Option.toList, ← Int.ofNat_tmod, ← Int.ofNat_tdiv, optInt, fillP, repl, chunk, mkCols, mkCol, colInts, colBools, colStrs, colLits, colsApp, Col.app, tailOf, splice, colsPut, Col.put, mmFold, eqK, Nat.reduceLT, colsPaste, Col.paste]
    refine RetOK.pure (.inl rfl) rfl ?_
    simp [retPV, PVCov, getS, below, h]
  simp -dsimp only [aqT, ROp, OX, ↓seqK, ↓blkK, ↓loopK, step, stepBin, res, stepIdx, mix, PV.cells, argSlots, Nat.reduceBEq, Nat.reduceBeqDiff, Nat.add_assoc nid, Nat.reduceAdd, reduceCtorEq, ↓reduceIte, Nat.reduceLeDiff, colPV, freeOf, indep, offO, neqO, disj, namesX, axSlot, opXs, rdXs, idsOf, idsOfs, lowH, lowAll, keys, Nat.reduceBneDiff, Option.toList, ← Int.ofNat_tmod, ← Int.ofNat_tdiv, optInt, fillP, repl, chunk, mkCols, mkCol, colInts, colBools, colStrs, colLits, colsApp, Col.app, tailOf, splice, colsPut, Col.put, mmFold, eqK, Nat.reduceLT, colsPaste, Col.paste]
  refine ⟨by omega, S2.dec (fun h2 => ?_) (fun h2 => ?_)⟩
  · simp -dsimp only [aqT, ROp, OX, ↓seqK, ↓blkK, ↓loopK, step, stepBin, res, stepIdx, mix, PV.cells, argSlots, Nat.reduceBEq, Nat.reduceBeqDiff, Nat.add_assoc nid, Nat.reduceAdd, reduceCtorEq, ↓reduceIte, Nat.reduceLeDiff, colPV, freeOf, indep, offO, neqO, disj, namesX, axSlot, opXs, rdXs, idsOf, idsOfs, lowH, lowAll, keys, Nat.reduceBneDiff, Option.toList, ← Int.ofNat_tmod, ← Int.ofNat_tdiv, optInt, fillP, repl, chunk, mkCols, mkCol, colInts, colBools, colStrs, colLits, colsApp, Col.app, tailOf, splice, colsPut, Col.put, mmFold, eqK, Nat.reduceLT, colsPaste, Col.paste]
    have := Int.lt_tmod_of_pos x (show 0 < n by omega)
    refine ⟨by unfold inI64; omega, RetOK.pure (.inl rfl) rfl ?_⟩
    have h3 : x.tmod n + n = x % n := by rw [Int.tmod_eq_emod]; split <;> rw [Int.tmod_eq_emod] at h2 <;> rename_i h6 <;> simp only [h6, if_true, if_false, not_false_eq_true] at h2 <;> have := Int.emod_nonneg x (show n ≠ 0 by omega) <;> omega
    simp [retPV, over, keys, List.map_nil, List.map_cons, List.contains_cons, List.contains_nil, Bool.or_false, Bool.or_true, Bool.true_or, Bool.false_or, beq_self_eq_true, cond_true, cond_false, HeapCov, orNil, nilSz, onBlk, srcOf, getH_hit, getH_miss, getH.eq_1, getS_hit, getS_miss, getS.eq_1, BlkCov, PVCovs, PVCov, ColsEq, ColEq.refl, liveIds, SlotsCov, List.all_nil, List.all_cons, List.any_nil, List.any_cons, List.nil_append, List.cons_append, inRange, apart, nilBlk, idS1, idS2, readAll, readRes, onAll, step, res, AX.val, List.drop_zero, List.drop_succ_cons, List.take_succ_cons, List.take_zero, below, h, h3]
  · simp -dsimp only [aqT, ROp, OX, ↓seqK, ↓blkK, ↓loopK, step, stepBin, res, stepIdx, mix, PV.cells, argSlots, Nat.reduceBEq, Nat.reduceBeqDiff, Nat.add_assoc nid, Nat.reduceAdd, reduceCtorEq, ↓reduceIte, Nat.reduceLeDiff, colPV, freeOf, indep, offO, neqO, disj, namesX, axSlot, opXs, rdXs, idsOf, idsOfs, lowH, lowAll, keys, Nat.reduceBneDiff, Option.toList, ← Int.ofNat_tmod, ← Int.ofNat_tdiv, optInt, fillP, repl, chunk, mkCols, mkCol, colInts, colBools, colStrs, colLits, colsApp, Col.app, tailOf, splice, colsPut, Col.put, mmFold, eqK, Nat.reduceLT, colsPaste, Col.paste]
    refine RetOK.pure (.inl rfl) rfl ?_
    have h3 : x.tmod n = x % n := by rw [Int.tmod_eq_emod]; split <;> rw [Int.tmod_eq_emod] at h2 <;> rename_i h6 <;> simp only [h6, if_true, if_false, not_false_eq_true] at h2 <;> have := Int.emod_lt_of_pos x (show 0 < n by omega) <;> omega
    simp [retPV, over, keys, List.map_nil, List.map_cons, List.contains_cons, List.contains_nil, Bool.or_false, Bool.or_true, Bool.true_or, Bool.false_or, beq_self_eq_true, cond_true, cond_false, HeapCov, orNil, nilSz, onBlk, srcOf, getH_hit, getH_miss, getH.eq_1, getS_hit, getS_miss, getS.eq_1, BlkCov, PVCovs, PVCov, ColsEq, ColEq.refl, liveIds, SlotsCov, List.all_nil, List.all_cons, List.any_nil, List.any_cons, List.nil_append, List.cons_append, inRange, apart, nilBlk, idS1, idS2, readAll, readRes, onAll, step, res, AX.val, List.drop_zero, List.drop_succ_cons, List.take_succ_cons, List.take_zero, below, h, h3]
def strmC (nl : Bool) (A : List Int) (p : Nat) : Option ABlk := some (.box 25 [.lit nl A.length [.i .i64 fun i => A.getD i 0], .int .i64 p])
theorem strmC_low (n : Nat) (nl : Bool) (A : List Int) (p : Nat) : lowBlk n (strmC nl A p) = true := rfl
theorem next_c (s nid : Nat) (nl : Bool) (A : List Int) (p : Nat) (n : Int) (h : s < nid) (hp : p ≤ 1099511627775) (hA : A.length ≤ 17592186044416) (hn : n ≤ 9223372036854775807) :
    ACall Try.prog 26 [.ptr s 0, .int .i64 n] [(s, strmC nl A p)] nid (.int .i64 (nextV A p n)) [(s, strmC nl A (p + 1))] := by
  obtain ⟨e1, e2, e3, e4, e5, e6, e7, e8, e9⟩ := id_all h
  refine acall_run c26 (by simp [a26]) ?_
  simp -dsimp only [a26, strmC, aqT, ROp, OX, ↓seqK, ↓blkK, ↓loopK, step, stepBin, res, stepIdx, mix, PV.cells, argSlots, Nat.reduceBEq, Nat.reduceBeqDiff, Nat.add_assoc nid, Nat.reduceAdd, reduceCtorEq, ↓reduceIte, Nat.reduceLeDiff, colPV, freeOf, indep, offO, neqO, disj, namesX, axSlot, opXs, rdXs, idsOf, idsOfs, lowH, lowAll, keys, Nat.reduceBneDiff, Option.toList, ← Int.ofNat_tmod, ← Int.ofNat_tdiv, optInt, fillP, repl, chunk, mkCols, mkCol, colInts, colBools, colStrs, colLits, colsApp, Col.app, tailOf, splice, colsPut, Col.put, mmFold, eqK, Nat.reduceLT, colsPaste, Col.paste, e1, e2, e3, e4, e5, e6, e7, e8, e9]
  refine ⟨by unfold inI64; omega, S2.intro (fun h2 => ?_) (fun h2 => ?_)⟩
  · simp -dsimp only [aqT, ROp, OX, ↓seqK, ↓blkK, ↓loopK, step, stepBin, res, stepIdx, mix, PV.cells, argSlots, Nat.reduceBEq, Nat.reduceBeqDiff, Nat.add_assoc nid, Nat.reduceAdd, reduceCtorEq, ↓reduceIte, Nat.reduceLeDiff, colPV, freeOf, indep, offO, neqO, disj, namesX, axSlot, opXs, rdXs, idsOf, idsOfs, lowH, lowAll, keys, Nat.reduceBneDiff, Option.toList, ← Int.ofNat_tmod, ← Int.ofNat_tdiv, optInt, fillP, repl, chunk, mkCols, mkCol, colInts, colBools, colStrs, colLits, colsApp, Col.app, tailOf, splice, colsPut, Col.put, mmFold, eqK, Nat.reduceLT, colsPaste, Col.paste, e1, e2, e3, e4, e5, e6, e7, e8, e9]
    refine ⟨by unfold inI64; omega, CallO.pure (below_c _ _ _ hn) ?_⟩
    simp -dsimp only [aqT, ROp, OX, ↓seqK, ↓blkK, ↓loopK, step, stepBin, res, stepIdx, mix, PV.cells, argSlots, Nat.reduceBEq, Nat.reduceBeqDiff, Nat.add_assoc nid, Nat.reduceAdd, reduceCtorEq, ↓reduceIte, Nat.reduceLeDiff, colPV, freeOf, indep, offO, neqO, disj, namesX, axSlot, opXs, rdXs, idsOf, idsOfs, lowH, lowAll, keys, Nat.reduceBneDiff, Option.toList, ← Int.ofNat_tmod, ← Int.ofNat_tdiv, optInt, fillP, repl, chunk, mkCols, mkCol, colInts, colBools, colStrs, colLits, colsApp, Col.app, tailOf, splice, colsPut, Col.put, mmFold, eqK, Nat.reduceLT, colsPaste, Col.paste, e1, e2, e3, e4, e5, e6, e7, e8, e9]
    have h3 : A.length = 0 := by simpa using h2
    refine RetOK.same (.inl rfl) rfl (by simp [strmC, liveIds]; omega) ?_ ?_
    · simp [retPV, over, keys, List.map_nil, List.map_cons, List.contains_cons, List.contains_nil, Bool.or_false, Bool.or_true, Bool.true_or, Bool.false_or, beq_self_eq_true, cond_true, cond_false, HeapCov, orNil, nilSz, onBlk, srcOf, getH_hit, getH_miss, getH.eq_1, getS_hit, getS_miss, getS.eq_1, BlkCov, PVCovs, PVCov, ColsEq, ColEq.refl, liveIds, SlotsCov, List.all_nil, List.all_cons, List.any_nil, List.any_cons, List.nil_append, List.cons_append, inRange, apart, nilBlk, idS1, idS2, readAll, readRes, onAll, step, res, AX.val, List.drop_zero, List.drop_succ_cons, List.take_succ_cons, List.take_zero, strmC]
    · simp [retPV, over, keys, List.map_nil, List.map_cons, List.contains_cons, List.contains_nil, Bool.or_false, Bool.or_true, Bool.true_or, Bool.false_or, beq_self_eq_true, cond_true, cond_false, HeapCov, orNil, nilSz, onBlk, srcOf, getH_hit, getH_miss, getH.eq_1, getS_hit, getS_miss, getS.eq_1, BlkCov, PVCovs, PVCov, ColsEq, ColEq.refl, liveIds, SlotsCov, List.all_nil, List.all_cons, List.any_nil, List.any_cons, List.nil_append, List.cons_append, inRange, apart, nilBlk, idS1, idS2, readAll, readRes, onAll, step, res, AX.val, List.drop_zero, List.drop_succ_cons, List.take_succ_cons, List.take_zero, nextV, h3]
  · simp -dsimp only [aqT, ROp, OX, ↓seqK, ↓blkK, ↓loopK, step, stepBin, res, stepIdx, mix, PV.cells, argSlots, Nat.reduceBEq, Nat.reduceBeqDiff, Nat.add_assoc nid, Nat.reduceAdd, reduceCtorEq, ↓reduceIte, Nat.reduceLeDiff, colPV, freeOf, indep, offO, neqO, disj, namesX, axSlot, opXs, rdXs, idsOf, idsOfs, lowH, lowAll, keys, Nat.reduceBneDiff, Option.toList, ← Int.ofNat_tmod, ← Int.ofNat_tdiv, optInt, fillP, repl, chunk, mkCols, mkCol, colInts, colBools, colStrs, colLits, colsApp, Col.app, tailOf, splice, colsPut, Col.put, mmFold, eqK, Nat.reduceLT, colsPaste, Col.paste, e1, e2, e3, e4, e5, e6, e7, e8, e9]
    have h3 : 0 < A.length := by have : ¬ A.length = 0 := by simpa using h2
                                 omega
    have h4 : ∀ z : Nat, z ≤ 1099511627776 → IntKind.i64.wrap (z : Int) = z := fun z hz => IntWalk.i64_in _ (by omega)
    have h5 : p / A.length ≤ p := Nat.div_le_self _ _
    have h6 : p % A.length < A.length := Nat.mod_lt _ h3
    have h11 := h4 _ (show p / A.length ≤ 1099511627776 by omega)
    refine ⟨by unfold inI64; omega, by omega, by unfold inI64; omega, by omega, by omega, CallO.pure (below_c _ _ _ (by omega)) ?_⟩
    simp -dsimp only [aqT, ROp, OX, ↓seqK, ↓blkK, ↓loopK, step, stepBin, res, stepIdx, mix, PV.cells, argSlots, Nat.reduceBEq, Nat.reduceBeqDiff, Nat.add_assoc nid, Nat.reduceAdd, reduceCtorEq, ↓reduceIte, Nat.reduceLeDiff, colPV, freeOf, indep, offO, neqO, disj, namesX, axSlot, opXs, rdXs, idsOf, idsOfs, lowH, lowAll, keys, Nat.reduceBneDiff, Option.toList, ← Int.ofNat_tmod, ← Int.ofNat_tdiv, optInt, fillP, repl, chunk, mkCols, mkCol, colInts, colBools, colStrs, colLits, colsApp, Col.app, tailOf, splice, colsPut, Col.put, mmFold, eqK, Nat.reduceLT, colsPaste, Col.paste, h11, e1, e2, e3, e4, e5, e6, e7, e8, e9]
    have h7 := round_bd p A.length h3 (by omega)
    have h8 := below_bd (A.getD (p % A.length) 0) (n := 1073741824) (by omega)
    rw [← Int.natCast_emod, ← Int.natCast_ediv] at h7
    generalize h9 : ((p / A.length : Nat) : Int) * (7919 + ((p % A.length : Nat) : Int)) = z at h7 ⊢
    refine ⟨by unfold inI64; omega, by unfold inI64; omega, by unfold inI64; omega, CallO.pure (below_c _ _ _ hn) ?_⟩
    simp -dsimp only [aqT, ROp, OX, ↓seqK, ↓blkK, ↓loopK, step, stepBin, res, stepIdx, mix, PV.cells, argSlots, Nat.reduceBEq, Nat.reduceBeqDiff, Nat.add_assoc nid, Nat.reduceAdd, reduceCtorEq, ↓reduceIte, Nat.reduceLeDiff, colPV, freeOf, indep, offO, neqO, disj, namesX, axSlot, opXs, rdXs, idsOf, idsOfs, lowH, lowAll, keys, Nat.reduceBneDiff, Option.toList, ← Int.ofNat_tmod, ← Int.ofNat_tdiv, optInt, fillP, repl, chunk, mkCols, mkCol, colInts, colBools, colStrs, colLits, colsApp, Col.app, tailOf, splice, colsPut, Col.put, mmFold, eqK, Nat.reduceLT, colsPaste, Col.paste, e1, e2, e3, e4, e5, e6, e7, e8, e9]
    refine RetOK.same (.inl rfl) rfl (by simp [strmC, liveIds]; omega) ?_ ?_
    · simp [retPV, over, keys, List.map_nil, List.map_cons, List.contains_cons, List.contains_nil, Bool.or_false, Bool.or_true, Bool.true_or, Bool.false_or, beq_self_eq_true, cond_true, cond_false, HeapCov, orNil, nilSz, onBlk, srcOf, getH_hit, getH_miss, getH.eq_1, getS_hit, getS_miss, getS.eq_1, BlkCov, PVCovs, PVCov, ColsEq, ColEq.refl, liveIds, SlotsCov, List.all_nil, List.all_cons, List.any_nil, List.any_cons, List.nil_append, List.cons_append, inRange, apart, nilBlk, idS1, idS2, readAll, readRes, onAll, step, res, AX.val, List.drop_zero, List.drop_succ_cons, List.take_succ_cons, List.take_zero, strmC]
    · have h10 : A.length ≠ 0 := by omega
      simp [retPV, over, keys, List.map_nil, List.map_cons, List.contains_cons, List.contains_nil, Bool.or_false, Bool.or_true, Bool.true_or, Bool.false_or, beq_self_eq_true, cond_true, cond_false, HeapCov, orNil, nilSz, onBlk, srcOf, getH_hit, getH_miss, getH.eq_1, getS_hit, getS_miss, getS.eq_1, BlkCov, PVCovs, PVCov, ColsEq, ColEq.refl, liveIds, SlotsCov, List.all_nil, List.all_cons, List.any_nil, List.any_cons, List.nil_append, List.cons_append, inRange, apart, nilBlk, idS1, idS2, readAll, readRes, onAll, step, res, AX.val, List.drop_zero, List.drop_succ_cons, List.take_succ_cons, List.take_zero, nextV, h10, ← h9]
theorem range_c (s nid : Nat) (nl : Bool) (A : List Int) (p : Nat) (lo hi : Int) (h : s < nid) (hp : p ≤ 1099511627775) (hA : A.length ≤ 17592186044416) (h1 : lo ≤ hi) (hl : -1099511627776 ≤ lo) (hh : hi ≤ 1099511627776) :
    ACall Try.prog 30 [.ptr s 0, .int .i64 lo, .int .i64 hi] [(s, strmC nl A p)] nid (.int .i64 (rangeV A p lo hi)) [(s, strmC nl A (p + 1))] := by
  obtain ⟨e1, e2, e3, e4, e5, e6, e7, e8, e9⟩ := id_all h
  refine acall_run c30 (by simp [a30]) ?_
  simp -dsimp only [a30, aqT, ROp, OX, ↓seqK, ↓blkK, ↓loopK, step, stepBin, res, stepIdx, mix, PV.cells, argSlots, Nat.reduceBEq, Nat.reduceBeqDiff, Nat.add_assoc nid, Nat.reduceAdd, reduceCtorEq, ↓reduceIte, Nat.reduceLeDiff, colPV, freeOf, indep, offO, neqO, disj, namesX, axSlot, opXs, rdXs, idsOf, idsOfs, lowH, lowAll, keys, Nat.reduceBneDiff, Option.toList, ← Int.ofNat_tmod, ← Int.ofNat_tdiv, optInt, fillP, repl, chunk, mkCols, mkCol, colInts, colBools, colStrs, colLits, colsApp, Col.app, tailOf, splice, colsPut, Col.put, mmFold, eqK, Nat.reduceLT, colsPaste, Col.paste, e1, e2, e3, e4, e5, e6, e7, e8, e9]
  refine S2.dec (fun h => absurd h (by omega)) (fun h => ?_)
  simp -dsimp only [aqT, ROp, OX, ↓seqK, ↓blkK, ↓loopK, step, stepBin, res, stepIdx, mix, PV.cells, argSlots, Nat.reduceBEq, Nat.reduceBeqDiff, Nat.add_assoc nid, Nat.reduceAdd, reduceCtorEq, ↓reduceIte, Nat.reduceLeDiff, colPV, freeOf, indep, offO, neqO, disj, namesX, axSlot, opXs, rdXs, idsOf, idsOfs, lowH, lowAll, keys, Nat.reduceBneDiff, Option.toList, ← Int.ofNat_tmod, ← Int.ofNat_tdiv, optInt, fillP, repl, chunk, mkCols, mkCol, colInts, colBools, colStrs, colLits, colsApp, Col.app, tailOf, splice, colsPut, Col.put, mmFold, eqK, Nat.reduceLT, colsPaste, Col.paste, e1, e2, e3, e4, e5, e6, e7, e8, e9]
  refine ⟨by unfold inI64; omega, by unfold inI64; omega, CallO.on (next_c _ _ _ _ _ _ (by omega) hp hA (by omega)) (subH_hit _ _ _) ?_⟩
  simp -dsimp only [aqT, ROp, OX, ↓seqK, ↓blkK, ↓loopK, step, stepBin, res, stepIdx, mix, PV.cells, argSlots, Nat.reduceBEq, Nat.reduceBeqDiff, Nat.add_assoc nid, Nat.reduceAdd, reduceCtorEq, ↓reduceIte, Nat.reduceLeDiff, colPV, freeOf, indep, offO, neqO, disj, namesX, axSlot, opXs, rdXs, idsOf, idsOfs, lowH, lowAll, keys, Nat.reduceBneDiff, Option.toList, ← Int.ofNat_tmod, ← Int.ofNat_tdiv, optInt, fillP, repl, chunk, mkCols, mkCol, colInts, colBools, colStrs, colLits, colsApp, Col.app, tailOf, splice, colsPut, Col.put, mmFold, eqK, Nat.reduceLT, colsPaste, Col.paste, e1, e2, e3, e4, e5, e6, e7, e8, e9]
  have := nextV_bd A p (n := hi - lo + 1) (by omega)
  refine ⟨by unfold inI64; omega, RetOK.same (.inl rfl) rfl (by simp [strmC, liveIds]; omega) ?_ ?_⟩
  · simp [retPV, over, keys, List.map_nil, List.map_cons, List.contains_cons, List.contains_nil, Bool.or_false, Bool.or_true, Bool.true_or, Bool.false_or, beq_self_eq_true, cond_true, cond_false, HeapCov, orNil, nilSz, onBlk, srcOf, getH_hit, getH_miss, getH.eq_1, getS_hit, getS_miss, getS.eq_1, BlkCov, PVCovs, PVCov, ColsEq, ColEq.refl, liveIds, SlotsCov, List.all_nil, List.all_cons, List.any_nil, List.any_cons, List.nil_append, List.cons_append, inRange, apart, nilBlk, idS1, idS2, readAll, readRes, onAll, step, res, AX.val, List.drop_zero, List.drop_succ_cons, List.take_succ_cons, List.take_zero, strmC]
  · simp [retPV, over, keys, List.map_nil, List.map_cons, List.contains_cons, List.contains_nil, Bool.or_false, Bool.or_true, Bool.true_or, Bool.false_or, beq_self_eq_true, cond_true, cond_false, HeapCov, orNil, nilSz, onBlk, srcOf, getH_hit, getH_miss, getH.eq_1, getS_hit, getS_miss, getS.eq_1, BlkCov, PVCovs, PVCov, ColsEq, ColEq.refl, liveIds, SlotsCov, List.all_nil, List.all_cons, List.any_nil, List.any_cons, List.nil_append, List.cons_append, inRange, apart, nilBlk, idS1, idS2, readAll, readRes, onAll, step, res, AX.val, List.drop_zero, List.drop_succ_cons, List.take_succ_cons, List.take_zero, rangeV]
theorem flip_c (s nid : Nat) (nl : Bool) (A : List Int) (p : Nat) (n : Int) (h : s < nid) (hp : p ≤ 1099511627775) (hA : A.length ≤ 17592186044416) (hn : n ≤ 9223372036854775807) :
    ACall Try.prog 31 [.ptr s 0, .int .i64 n] [(s, strmC nl A p)] nid (.bool (flipV A p n)) [(s, strmC nl A (p + 1))] := by
  obtain ⟨e1, e2, e3, e4, e5, e6, e7, e8, e9⟩ := id_all h
  refine acall_run c31 (by simp [a31]) ?_
  simp -dsimp only [a31, aqT, ROp, OX, ↓seqK, ↓blkK, ↓loopK, step, stepBin, res, stepIdx, mix, PV.cells, argSlots, Nat.reduceBEq, Nat.reduceBeqDiff, Nat.add_assoc nid, Nat.reduceAdd, reduceCtorEq, ↓reduceIte, Nat.reduceLeDiff, colPV, freeOf, indep, offO, neqO, disj, namesX, axSlot, opXs, rdXs, idsOf, idsOfs, lowH, lowAll, keys, Nat.reduceBneDiff, Option.toList, ← Int.ofNat_tmod, ← Int.ofNat_tdiv, optInt, fillP, repl, chunk, mkCols, mkCol, colInts, colBools, colStrs, colLits, colsApp, Col.app, tailOf, splice, colsPut, Col.put, mmFold, eqK, Nat.reduceLT, colsPaste, Col.paste, e1, e2, e3, e4, e5, e6, e7, e8, e9]
  refine CallO.on (next_c _ _ _ _ _ _ (by omega) hp hA hn) (subH_hit _ _ _) ?_
  simp -dsimp only [aqT, ROp, OX, ↓seqK, ↓blkK, ↓loopK, step, stepBin, res, stepIdx, mix, PV.cells, argSlots, Nat.reduceBEq, Nat.reduceBeqDiff, Nat.add_assoc nid, Nat.reduceAdd, reduceCtorEq, ↓reduceIte, Nat.reduceLeDiff, colPV, freeOf, indep, offO, neqO, disj, namesX, axSlot, opXs, rdXs, idsOf, idsOfs, lowH, lowAll, keys, Nat.reduceBneDiff, Option.toList, ← Int.ofNat_tmod, ← Int.ofNat_tdiv, optInt, fillP, repl, chunk, mkCols, mkCol, colInts, colBools, colStrs, colLits, colsApp, Col.app, tailOf, splice, colsPut, Col.put, mmFold, eqK, Nat.reduceLT, colsPaste, Col.paste, e1, e2, e3, e4, e5, e6, e7, e8, e9]
  refine RetOK.same (.inl rfl) rfl (by simp [strmC, liveIds]; omega) ?_ ?_
  · simp [retPV, over, keys, List.map_nil, List.map_cons, List.contains_cons, List.contains_nil, Bool.or_false, Bool.or_true, Bool.true_or, Bool.false_or, beq_self_eq_true, cond_true, cond_false, HeapCov, orNil, nilSz, onBlk, srcOf, getH_hit, getH_miss, getH.eq_1, getS_hit, getS_miss, getS.eq_1, BlkCov, PVCovs, PVCov, ColsEq, ColEq.refl, liveIds, SlotsCov, List.all_nil, List.all_cons, List.any_nil, List.any_cons, List.nil_append, List.cons_append, inRange, apart, nilBlk, idS1, idS2, readAll, readRes, onAll, step, res, AX.val, List.drop_zero, List.drop_succ_cons, List.take_succ_cons, List.take_zero, strmC]
  · simp [retPV, over, keys, List.map_nil, List.map_cons, List.contains_cons, List.contains_nil, Bool.or_false, Bool.or_true, Bool.true_or, Bool.false_or, beq_self_eq_true, cond_true, cond_false, HeapCov, orNil, nilSz, onBlk, srcOf, getH_hit, getH_miss, getH.eq_1, getS_hit, getS_miss, getS.eq_1, BlkCov, PVCovs, PVCov, ColsEq, ColEq.refl, liveIds, SlotsCov, List.all_nil, List.all_cons, List.any_nil, List.any_cons, List.nil_append, List.cons_append, inRange, apart, nilBlk, idS1, idS2, readAll, readRes, onAll, step, res, AX.val, List.drop_zero, List.drop_succ_cons, List.take_succ_cons, List.take_zero, flipV]
/-- of n listed numbers -/
theorem pick_c (s nid : Nat) (nl nl' : Bool) (A : List Int) (p : Nat) (n : Nat) (g : Nat → Int) (h : s < nid) (hp : p ≤ 1099511627775) (hA : A.length ≤ 17592186044416) (h1 : 0 < n) (hn : n ≤ 1099511627776) :
    ACall Try.prog 12 [.ptr s 0, .lit nl' n [.i .i64 g]] [(s, strmC nl A p)] nid (.int .i64 (g (pickI A p n))) [(s, strmC nl A (p + 1))] := by
  obtain ⟨e1, e2, e3, e4, e5, e6, e7, e8, e9⟩ := id_all h
  refine acall_run c12 (by simp [a12]) ?_
  simp -dsimp only [a12, aqT, ROp, OX, ↓seqK, ↓blkK, ↓loopK, step, stepBin, res, stepIdx, mix, PV.cells, argSlots, Nat.reduceBEq, Nat.reduceBeqDiff, Nat.add_assoc nid, Nat.reduceAdd, reduceCtorEq, ↓reduceIte, Nat.reduceLeDiff, colPV, freeOf, indep, offO, neqO, disj, namesX, axSlot, opXs, rdXs, idsOf, idsOfs, lowH, lowAll, keys, Nat.reduceBneDiff, Option.toList, ← Int.ofNat_tmod, ← Int.ofNat_tdiv, optInt, fillP, repl, chunk, mkCols, mkCol, colInts, colBools, colStrs, colLits, colsApp, Col.app, tailOf, splice, colsPut, Col.put, mmFold, eqK, Nat.reduceLT, colsPaste, Col.paste, e1, e2, e3, e4, e5, e6, e7, e8, e9]
  refine CallO.on (next_c _ _ _ _ _ _ (by omega) hp hA (by omega)) (subH_hit _ _ _) ?_
  simp -dsimp only [aqT, ROp, OX, ↓seqK, ↓blkK, ↓loopK, step, stepBin, res, stepIdx, mix, PV.cells, argSlots, Nat.reduceBEq, Nat.reduceBeqDiff, Nat.add_assoc nid, Nat.reduceAdd, reduceCtorEq, ↓reduceIte, Nat.reduceLeDiff, colPV, freeOf, indep, offO, neqO, disj, namesX, axSlot, opXs, rdXs, idsOf, idsOfs, lowH, lowAll, keys, Nat.reduceBneDiff, Option.toList, ← Int.ofNat_tmod, ← Int.ofNat_tdiv, optInt, fillP, repl, chunk, mkCols, mkCol, colInts, colBools, colStrs, colLits, colsApp, Col.app, tailOf, splice, colsPut, Col.put, mmFold, eqK, Nat.reduceLT, colsPaste, Col.paste, e1, e2, e3, e4, e5, e6, e7, e8, e9]
  have := nextV_bd A p (n := (n : Int)) (by omega)
  refine ⟨this, RetOK.same (.inl rfl) rfl (by simp [strmC, liveIds]; omega) ?_ ?_⟩
  · simp [retPV, over, keys, List.map_nil, List.map_cons, List.contains_cons, List.contains_nil, Bool.or_false, Bool.or_true, Bool.true_or, Bool.false_or, beq_self_eq_true, cond_true, cond_false, HeapCov, orNil, nilSz, onBlk, srcOf, getH_hit, getH_miss, getH.eq_1, getS_hit, getS_miss, getS.eq_1, BlkCov, PVCovs, PVCov, ColsEq, ColEq.refl, liveIds, SlotsCov, List.all_nil, List.all_cons, List.any_nil, List.any_cons, List.nil_append, List.cons_append, inRange, apart, nilBlk, idS1, idS2, readAll, readRes, onAll, step, res, AX.val, List.drop_zero, List.drop_succ_cons, List.take_succ_cons, List.take_zero, strmC]
  · simp [retPV, over, keys, List.map_nil, List.map_cons, List.contains_cons, List.contains_nil, Bool.or_false, Bool.or_true, Bool.true_or, Bool.false_or, beq_self_eq_true, cond_true, cond_false, HeapCov, orNil, nilSz, onBlk, srcOf, getH_hit, getH_miss, getH.eq_1, getS_hit, getS_miss, getS.eq_1, BlkCov, PVCovs, PVCov, ColsEq, ColEq.refl, liveIds, SlotsCov, List.all_nil, List.all_cons, List.any_nil, List.any_cons, List.nil_append, List.cons_append, inRange, apart, nilBlk, idS1, idS2, readAll, readRes, onAll, step, res, AX.val, List.drop_zero, List.drop_succ_cons, List.take_succ_cons, List.take_zero, pickI]
/-- .. of a listed array, which is given up -/
theorem CallX.pick_go {s id nid : Nat} {nl : Bool} {A : List Int} {p : Nat} {n T : Nat} {g : Nat → Int} {H : Heap} {K : PV → Heap → List Nat → Prop} (hs : getH H s = strmC nl A p) (hid : getH H id = some (.arr T n [.i .i64 g])) (hne : (s == id) = false) (h : s < nid) (hp : p ≤ 1099511627775) (hA : A.length ≤ 17592186044416) (h1 : 0 < n) (hn : n ≤ 1099511627776)
    (hK : K (.int .i64 (g (pickI A p n))) [(s, strmC nl A (p + 1)), (id, none)] [s, id]) : CallX Try.prog 12 [.ptr s 0, .sl id 0 n] H nid K := by
  refine CallX.given [id] (u := [(s, strmC nl A (p + 1))]) (fun nl' => ?_) (subH_get hs) (by simp [getH, hne]) hK
  have e : lends H [id] nl' [.ptr s 0, .sl id 0 n] = [.ptr s 0, .lit (nl' id) n [.i .i64 g]] := by simp [lends, lend, hid]
  rw [e]
  exact pick_c s _ nl _ A p n _ h hp hA h1 hn
theorem CallO.pick_go {s id nid : Nat} {nl : Bool} {A : List Int} {p : Nat} {n T : Nat} {g : Nat → Int} {H : Heap} {K : PV → Heap → Prop} (hs : getH H s = strmC nl A p) (hid : getH H id = some (.arr T n [.i .i64 g])) (hne : (s == id) = false) (h : s < nid) (hp : p ≤ 1099511627775) (hA : A.length ≤ 17592186044416) (h1 : 0 < n) (hn : n ≤ 1099511627776)
    (hK : K (.int .i64 (g (pickI A p n))) [(s, strmC nl A (p + 1)), (id, none)]) : CallOK Try.prog 12 [.ptr s 0, .sl id 0 n] H nid K :=
  CallO.x (CallX.pick_go hs hid hne h hp hA h1 hn hK)
end Go.Proofs.Ytmnhlfkphibhfaa
/-
  The makers of flash memories, words and operations, by the abstract machine.
-/
namespace Go.Proofs.Ytmnhlfkphibhfaa
open Go.RowKit
set_option linter.unusedVariables false
set_option linter.unusedSimpArgs false
set_option maxRecDepth 100000

def arrI (l : List Int) : Option ABlk := some (.arr 3 l.length [.i .i64 fun i => l.getD i 0])
theorem flashOf_c (s nid : Nat) (nl : Bool) (A : List Int) (p : Nat) (h : s < nid) (hp : p ≤ 1099511600000) (hA : A.length ≤ 17592186044416) :
    ACall Try.prog 9 [.ptr s 0] [(s, strmC nl A p)] nid (.agg [.sl nid 0 (flashOfV A p).1.length]) [(s, strmC nl A (flashOfV A p).2), (nid, arrI (flashOfV A p).1)] := by
  obtain ⟨e1, e2, e3, e4, e5, e6, e7, e8, e9⟩ := id_all h
  refine acall_run c9 (by simp [a9]) ?_
  simp -dsimp only [a9, aqT, ROp, OX, ↓seqK, ↓blkK, ↓loopK, step, stepBin, res, stepIdx, mix, PV.cells, argSlots, Nat.reduceBEq, Nat.reduceBeqDiff, Nat.add_assoc nid, Nat.reduceAdd, reduceCtorEq, ↓reduceIte, Nat.reduceLeDiff, colPV, freeOf, indep, offO, neqO, disj, namesX, axSlot, opXs, rdXs, idsOf, idsOfs, lowH, lowAll, keys, Nat.reduceBneDiff, Option.toList, ← Int.ofNat_tmod, ← Int.ofNat_tdiv, optInt, fillP, repl, chunk, mkCols, mkCol, colInts, colBools, colStrs, colLits, colsApp, Col.app, tailOf, splice, colsPut, Col.put, mmFold, eqK, Nat.reduceLT, colsPaste, Col.paste, strmC_low, e1, e2, e3, e4, e5, e6, e7, e8, e9]
  refine CallO.on (range_c s _ nl A p _ _ (by omega) (by omega) hA (by omega) (by omega) (by omega)) (subH_get (by simp only [aqT, ROp, OX, ↓seqK, ↓blkK, ↓loopK, step, stepBin, res, stepIdx, mix, PV.cells, argSlots, Nat.reduceBEq, Nat.reduceBeqDiff, Nat.add_assoc nid, Nat.reduceAdd, reduceCtorEq, ↓reduceIte, Nat.reduceLeDiff, colPV, freeOf, indep, offO, neqO, disj, namesX, axSlot, opXs, rdXs, idsOf, idsOfs, lowH, lowAll, keys, Nat.reduceBneDiff, Option.toList, ← Int.ofNat_tmod, ← Int.ofNat_tdiv, optInt, fillP, repl, chunk, mkCols, mkCol, colInts, colBools, colStrs, colLits, colsApp, Col.app, tailOf, splice, colsPut, Col.put, mmFold, eqK, Nat.reduceLT, colsPaste, Col.paste, strmC_low, e1, e2, e3, e4, e5, e6, e7, e8, e9])) ?_
  simp -dsimp only [aqT, ROp, OX, ↓seqK, ↓blkK, ↓loopK, step, stepBin, res, stepIdx, mix, PV.cells, argSlots, Nat.reduceBEq, Nat.reduceBeqDiff, Nat.add_assoc nid, Nat.reduceAdd, reduceCtorEq, ↓reduceIte, Nat.reduceLeDiff, colPV, freeOf, indep, offO, neqO, disj, namesX, axSlot, opXs, rdXs, idsOf, idsOfs, lowH, lowAll, keys, Nat.reduceBneDiff, Option.toList, ← Int.ofNat_tmod, ← Int.ofNat_tdiv, optInt, fillP, repl, chunk, mkCols, mkCol, colInts, colBools, colStrs, colLits, colsApp, Col.app, tailOf, splice, colsPut, Col.put, mmFold, eqK, Nat.reduceLT, colsPaste, Col.paste, strmC_low, e1, e2, e3, e4, e5, e6, e7, e8, e9]
  have hr := rangeV_bd A p (lo := 1) (hi := 4) (by decide)
  refine LP.mkP (fun k : Nat => (k : Int) ≤ rangeV A p 1 4) (fun k : Nat => ⟨[(6, .int .i64 k), (5, .int .i64 (rangeV A p 1 4)), (3, .ptr (nid + 4) 0), (2, .ptr nid 0), (0, .ptr s 0)],
    [(s, strmC nl A (p + 1 + k)), (nid, some (.box 27 [.lit true 0 []])), (nid + 4, some (.box 27 [.sl (nid + 20) 0 k])), (nid + 20, some (.arr 3 k [.i .i64 fun i => rangeV A (p + 1 + i) 1 5]))], nid + 24, nid⟩)
    (fun k => 5 - k) 0 (by omega) (Cov.go [] [(nid + 20, 1)] ?_) (fun k hkn => ?_)
  · simp [retPV, over, keys, List.map_nil, List.map_cons, List.contains_cons, List.contains_nil, Bool.or_false, Bool.or_true, Bool.true_or, Bool.false_or, beq_self_eq_true, cond_true, cond_false, HeapCov, orNil, nilSz, onBlk, srcOf, getH_hit, getH_miss, getH.eq_1, getS_hit, getS_miss, getS.eq_1, BlkCov, PVCovs, PVCov, ColsEq, ColEq.refl, liveIds, SlotsCov, List.all_nil, List.all_cons, List.any_nil, List.any_cons, List.nil_append, List.cons_append, inRange, apart, nilBlk, idS1, idS2, readAll, readRes, onAll, step, res, AX.val, List.drop_zero, List.drop_succ_cons, List.take_succ_cons, List.take_zero, e1, e2, e3, e4, e5, e6, e7, e8, e9, strmC]
  · simp -dsimp only [aqT, ROp, OX, ↓seqK, ↓blkK, ↓loopK, step, stepBin, res, stepIdx, mix, PV.cells, argSlots, Nat.reduceBEq, Nat.reduceBeqDiff, Nat.add_assoc nid, Nat.reduceAdd, reduceCtorEq, ↓reduceIte, Nat.reduceLeDiff, colPV, freeOf, indep, offO, neqO, disj, namesX, axSlot, opXs, rdXs, idsOf, idsOfs, lowH, lowAll, keys, Nat.reduceBneDiff, Option.toList, ← Int.ofNat_tmod, ← Int.ofNat_tdiv, optInt, fillP, repl, chunk, mkCols, mkCol, colInts, colBools, colStrs, colLits, colsApp, Col.app, tailOf, splice, colsPut, Col.put, mmFold, eqK, Nat.reduceLT, colsPaste, Col.paste, strmC_low, e1, e2, e3, e4, e5, e6, e7, e8, e9]
    refine S2.dec (fun h1 => ?_) (fun h1 => ?_)
    · simp -dsimp only [aqT, ROp, OX, ↓seqK, ↓blkK, ↓loopK, step, stepBin, res, stepIdx, mix, PV.cells, argSlots, Nat.reduceBEq, Nat.reduceBeqDiff, Nat.add_assoc nid, Nat.reduceAdd, reduceCtorEq, ↓reduceIte, Nat.reduceLeDiff, colPV, freeOf, indep, offO, neqO, disj, namesX, axSlot, opXs, rdXs, idsOf, idsOfs, lowH, lowAll, keys, Nat.reduceBneDiff, Option.toList, ← Int.ofNat_tmod, ← Int.ofNat_tdiv, optInt, fillP, repl, chunk, mkCols, mkCol, colInts, colBools, colStrs, colLits, colsApp, Col.app, tailOf, splice, colsPut, Col.put, mmFold, eqK, Nat.reduceLT, colsPaste, Col.paste, strmC_low, e1, e2, e3, e4, e5, e6, e7, e8, e9]
      refine CallX.on (range_c s _ nl A (p + 1 + k) _ _ (by omega) (by omega) hA (by omega) (by omega) (by omega)) (subH_get (by simp only [aqT, ROp, OX, ↓seqK, ↓blkK, ↓loopK, step, stepBin, res, stepIdx, mix, PV.cells, argSlots, Nat.reduceBEq, Nat.reduceBeqDiff, Nat.add_assoc nid, Nat.reduceAdd, reduceCtorEq, ↓reduceIte, Nat.reduceLeDiff, colPV, freeOf, indep, offO, neqO, disj, namesX, axSlot, opXs, rdXs, idsOf, idsOfs, lowH, lowAll, keys, Nat.reduceBneDiff, Option.toList, ← Int.ofNat_tmod, ← Int.ofNat_tdiv, optInt, fillP, repl, chunk, mkCols, mkCol, colInts, colBools, colStrs, colLits, colsApp, Col.app, tailOf, splice, colsPut, Col.put, mmFold, eqK, Nat.reduceLT, colsPaste, Col.paste, strmC_low, e1, e2, e3, e4, e5, e6, e7, e8, e9])) ?_
      simp -dsimp only [aqT, ROp, OX, ↓seqK, ↓blkK, ↓loopK, step, stepBin, res, stepIdx, mix, PV.cells, argSlots, Nat.reduceBEq, Nat.reduceBeqDiff, Nat.add_assoc nid, Nat.reduceAdd, reduceCtorEq, ↓reduceIte, Nat.reduceLeDiff, colPV, freeOf, indep, offO, neqO, disj, namesX, axSlot, opXs, rdXs, idsOf, idsOfs, lowH, lowAll, keys, Nat.reduceBneDiff, Option.toList, ← Int.ofNat_tmod, ← Int.ofNat_tdiv, optInt, fillP, repl, chunk, mkCols, mkCol, colInts, colBools, colStrs, colLits, colsApp, Col.app, tailOf, splice, colsPut, Col.put, mmFold, eqK, Nat.reduceLT, colsPaste, Col.paste, strmC_low, e1, e2, e3, e4, e5, e6, e7, e8, e9]
      refine ⟨⟨by omega, by omega⟩, by unfold inI64; omega, k + 1, ⟨by omega, by omega⟩, Cov.go [(nid + 20, nid + 48)] [] ?_⟩
      simp [retPV, over, keys, List.map_nil, List.map_cons, List.contains_cons, List.contains_nil, Bool.or_false, Bool.or_true, Bool.true_or, Bool.false_or, beq_self_eq_true, cond_true, cond_false, HeapCov, orNil, nilSz, onBlk, srcOf, getH_hit, getH_miss, getH.eq_1, getS_hit, getS_miss, getS.eq_1, BlkCov, PVCovs, PVCov, ColsEq, ColEq.refl, liveIds, SlotsCov, List.all_nil, List.all_cons, List.any_nil, List.any_cons, List.nil_append, List.cons_append, inRange, apart, nilBlk, idS1, idS2, readAll, readRes, onAll, step, res, AX.val, List.drop_zero, List.drop_succ_cons, List.take_succ_cons, List.take_zero, e1, e2, e3, e4, e5, e6, e7, e8, e9, strmC, Nat.add_assoc]
      refine ColEq.i fun j hj => ?_
      by_cases hjk : j < k
      · simp [hjk]
      · have : j = k := by omega
        subst this; simp
    · simp -dsimp only [aqT, ROp, OX, ↓seqK, ↓blkK, ↓loopK, step, stepBin, res, stepIdx, mix, PV.cells, argSlots, Nat.reduceBEq, Nat.reduceBeqDiff, Nat.add_assoc nid, Nat.reduceAdd, reduceCtorEq, ↓reduceIte, Nat.reduceLeDiff, colPV, freeOf, indep, offO, neqO, disj, namesX, axSlot, opXs, rdXs, idsOf, idsOfs, lowH, lowAll, keys, Nat.reduceBneDiff, Option.toList, ← Int.ofNat_tmod, ← Int.ofNat_tdiv, optInt, fillP, repl, chunk, mkCols, mkCol, colInts, colBools, colStrs, colLits, colsApp, Col.app, tailOf, splice, colsPut, Col.put, mmFold, eqK, Nat.reduceLT, colsPaste, Col.paste, strmC_low, e1, e2, e3, e4, e5, e6, e7, e8, e9]
      have hk : 1 ≤ k := by omega
      have hk4 : k ≤ 4 := by omega
      have hkr : (rangeV A p 1 4).toNat = k := by omega
      have hs0 : secs0 A p = (List.range k).map fun i => rangeV A (p + 1 + i) 1 5 := by unfold secs0; rw [hkr]
      have hl0 : (secs0 A p).length = k := by rw [hs0]; simp
      refine CallO.on (flip_c s _ nl A (p + 1 + k) _ (by omega) (by omega) hA (by omega)) (subH_get (by simp only [aqT, ROp, OX, ↓seqK, ↓blkK, ↓loopK, step, stepBin, res, stepIdx, mix, PV.cells, argSlots, Nat.reduceBEq, Nat.reduceBeqDiff, Nat.add_assoc nid, Nat.reduceAdd, reduceCtorEq, ↓reduceIte, Nat.reduceLeDiff, colPV, freeOf, indep, offO, neqO, disj, namesX, axSlot, opXs, rdXs, idsOf, idsOfs, lowH, lowAll, keys, Nat.reduceBneDiff, Option.toList, ← Int.ofNat_tmod, ← Int.ofNat_tdiv, optInt, fillP, repl, chunk, mkCols, mkCol, colInts, colBools, colStrs, colLits, colsApp, Col.app, tailOf, splice, colsPut, Col.put, mmFold, eqK, Nat.reduceLT, colsPaste, Col.paste, e1, e2, e3, e4, e5, e6, e7, e8, e9])) ?_
      simp -dsimp only [aqT, ROp, OX, ↓seqK, ↓blkK, ↓loopK, step, stepBin, res, stepIdx, mix, PV.cells, argSlots, Nat.reduceBEq, Nat.reduceBeqDiff, Nat.add_assoc nid, Nat.reduceAdd, reduceCtorEq, ↓reduceIte, Nat.reduceLeDiff, colPV, freeOf, indep, offO, neqO, disj, namesX, axSlot, opXs, rdXs, idsOf, idsOfs, lowH, lowAll, keys, Nat.reduceBneDiff, Option.toList, ← Int.ofNat_tmod, ← Int.ofNat_tdiv, optInt, fillP, repl, chunk, mkCols, mkCol, colInts, colBools, colStrs, colLits, colsApp, Col.app, tailOf, splice, colsPut, Col.put, mmFold, eqK, Nat.reduceLT, colsPaste, Col.paste, strmC_low, e1, e2, e3, e4, e5, e6, e7, e8, e9]
      refine S2.intro (fun h2 => ?_) (fun h2 => ?_)
      · simp -dsimp only [aqT, ROp, OX, ↓seqK, ↓blkK, ↓loopK, step, stepBin, res, stepIdx, mix, PV.cells, argSlots, Nat.reduceBEq, Nat.reduceBeqDiff, Nat.add_assoc nid, Nat.reduceAdd, reduceCtorEq, ↓reduceIte, Nat.reduceLeDiff, colPV, freeOf, indep, offO, neqO, disj, namesX, axSlot, opXs, rdXs, idsOf, idsOfs, lowH, lowAll, keys, Nat.reduceBneDiff, Option.toList, ← Int.ofNat_tmod, ← Int.ofNat_tdiv, optInt, fillP, repl, chunk, mkCols, mkCol, colInts, colBools, colStrs, colLits, colsApp, Col.app, tailOf, splice, colsPut, Col.put, mmFold, eqK, Nat.reduceLT, colsPaste, Col.paste, strmC_low, e1, e2, e3, e4, e5, e6, e7, e8, e9]
        refine CallX.on (next_c s _ nl A (p + 1 + k + 1) _ (by omega) (by omega) hA (by omega)) (subH_get (by simp only [aqT, ROp, OX, ↓seqK, ↓blkK, ↓loopK, step, stepBin, res, stepIdx, mix, PV.cells, argSlots, Nat.reduceBEq, Nat.reduceBeqDiff, Nat.add_assoc nid, Nat.reduceAdd, reduceCtorEq, ↓reduceIte, Nat.reduceLeDiff, colPV, freeOf, indep, offO, neqO, disj, namesX, axSlot, opXs, rdXs, idsOf, idsOfs, lowH, lowAll, keys, Nat.reduceBneDiff, Option.toList, ← Int.ofNat_tmod, ← Int.ofNat_tdiv, optInt, fillP, repl, chunk, mkCols, mkCol, colInts, colBools, colStrs, colLits, colsApp, Col.app, tailOf, splice, colsPut, Col.put, mmFold, eqK, Nat.reduceLT, colsPaste, Col.paste, e1, e2, e3, e4, e5, e6, e7, e8, e9])) ?_
        simp -dsimp only [aqT, ROp, OX, ↓seqK, ↓blkK, ↓loopK, step, stepBin, res, stepIdx, mix, PV.cells, argSlots, Nat.reduceBEq, Nat.reduceBeqDiff, Nat.add_assoc nid, Nat.reduceAdd, reduceCtorEq, ↓reduceIte, Nat.reduceLeDiff, colPV, freeOf, indep, offO, neqO, disj, namesX, axSlot, opXs, rdXs, idsOf, idsOfs, lowH, lowAll, keys, Nat.reduceBneDiff, Option.toList, ← Int.ofNat_tmod, ← Int.ofNat_tdiv, optInt, fillP, repl, chunk, mkCols, mkCol, colInts, colBools, colStrs, colLits, colsApp, Col.app, tailOf, splice, colsPut, Col.put, mmFold, eqK, Nat.reduceLT, colsPaste, Col.paste, strmC_low, e1, e2, e3, e4, e5, e6, e7, e8, e9]
        have hnx := nextV_bd A (p + 1 + k + 1) (n := (k : Int)) (by omega)
        have hpi : (nextV A (p + 1 + k + 1) (k : Int)).toNat = pickI A (p + 1 + k + 1) k := rfl
        refine CallX.given [nid + 68] (fun nl' => by
          simp only [lends, lend, aqT, ROp, OX, ↓seqK, ↓blkK, ↓loopK, step, stepBin, res, stepIdx, mix, PV.cells, argSlots, Nat.reduceBEq, Nat.reduceBeqDiff, Nat.add_assoc nid, Nat.reduceAdd, reduceCtorEq, ↓reduceIte, Nat.reduceLeDiff, colPV, freeOf, indep, offO, neqO, disj, namesX, axSlot, opXs, rdXs, idsOf, idsOfs, lowH, lowAll, keys, Nat.reduceBneDiff, Option.toList, ← Int.ofNat_tmod, ← Int.ofNat_tdiv, optInt, fillP, repl, chunk, mkCols, mkCol, colInts, colBools, colStrs, colLits, colsApp, Col.app, tailOf, splice, colsPut, Col.put, mmFold, eqK, Nat.reduceLT, colsPaste, Col.paste]
          exact pick_c s _ nl _ A (p + 1 + k + 1 + 1) 4 _ (by omega) (by omega) hA (by omega) (by omega)) (subH_get (by simp only [aqT, ROp, OX, ↓seqK, ↓blkK, ↓loopK, step, stepBin, res, stepIdx, mix, PV.cells, argSlots, Nat.reduceBEq, Nat.reduceBeqDiff, Nat.add_assoc nid, Nat.reduceAdd, reduceCtorEq, ↓reduceIte, Nat.reduceLeDiff, colPV, freeOf, indep, offO, neqO, disj, namesX, axSlot, opXs, rdXs, idsOf, idsOfs, lowH, lowAll, keys, Nat.reduceBneDiff, Option.toList, ← Int.ofNat_tmod, ← Int.ofNat_tdiv, optInt, fillP, repl, chunk, mkCols, mkCol, colInts, colBools, colStrs, colLits, colsApp, Col.app, tailOf, splice, colsPut, Col.put, mmFold, eqK, Nat.reduceLT, colsPaste, Col.paste, e1, e2, e3, e4, e5, e6, e7, e8, e9])) (by simp [getH, strmC, e1, e2, e3, e4, e5, e6, e7, e8, e9]) ?_
        simp -dsimp only [aqT, ROp, OX, ↓seqK, ↓blkK, ↓loopK, step, stepBin, res, stepIdx, mix, PV.cells, argSlots, Nat.reduceBEq, Nat.reduceBeqDiff, Nat.add_assoc nid, Nat.reduceAdd, reduceCtorEq, ↓reduceIte, Nat.reduceLeDiff, colPV, freeOf, indep, offO, neqO, disj, namesX, axSlot, opXs, rdXs, idsOf, idsOfs, lowH, lowAll, keys, Nat.reduceBneDiff, Option.toList, ← Int.ofNat_tmod, ← Int.ofNat_tdiv, optInt, fillP, repl, chunk, mkCols, mkCol, colInts, colBools, colStrs, colLits, colsApp, Col.app, tailOf, splice, colsPut, Col.put, mmFold, eqK, Nat.reduceLT, colsPaste, Col.paste, kill, strmC_low, e1, e2, e3, e4, e5, e6, e7, e8, e9, hpi]
        have hs1 : secs1 A p = ((secs0 A p).set (pickI A (p + 1 + k + 1) k) (pickV A (p + 1 + k + 2) [0, -1, 4096, 4097]), p + 1 + k + 3) := by unfold secs1; rw [hl0, h2]; rfl
        refine ⟨hnx, ?_⟩
        refine CallO.on (flip_c s _ nl A (p + 1 + k + 1 + 1 + 1) _ (by omega) (by omega) hA (by omega)) (subH_get (by simp only [aqT, ROp, OX, ↓seqK, ↓blkK, ↓loopK, step, stepBin, res, stepIdx, mix, PV.cells, argSlots, Nat.reduceBEq, Nat.reduceBeqDiff, Nat.add_assoc nid, Nat.reduceAdd, reduceCtorEq, ↓reduceIte, Nat.reduceLeDiff, colPV, freeOf, indep, offO, neqO, disj, namesX, axSlot, opXs, rdXs, idsOf, idsOfs, lowH, lowAll, keys, Nat.reduceBneDiff, Option.toList, ← Int.ofNat_tmod, ← Int.ofNat_tdiv, optInt, fillP, repl, chunk, mkCols, mkCol, colInts, colBools, colStrs, colLits, colsApp, Col.app, tailOf, splice, colsPut, Col.put, mmFold, eqK, Nat.reduceLT, colsPaste, Col.paste, e1, e2, e3, e4, e5, e6, e7, e8, e9])) ?_
        simp -dsimp only [aqT, ROp, OX, ↓seqK, ↓blkK, ↓loopK, step, stepBin, res, stepIdx, mix, PV.cells, argSlots, Nat.reduceBEq, Nat.reduceBeqDiff, Nat.add_assoc nid, Nat.reduceAdd, reduceCtorEq, ↓reduceIte, Nat.reduceLeDiff, colPV, freeOf, indep, offO, neqO, disj, namesX, axSlot, opXs, rdXs, idsOf, idsOfs, lowH, lowAll, keys, Nat.reduceBneDiff, Option.toList, ← Int.ofNat_tmod, ← Int.ofNat_tdiv, optInt, fillP, repl, chunk, mkCols, mkCol, colInts, colBools, colStrs, colLits, colsApp, Col.app, tailOf, splice, colsPut, Col.put, mmFold, eqK, Nat.reduceLT, colsPaste, Col.paste, strmC_low, e1, e2, e3, e4, e5, e6, e7, e8, e9]
        refine S2.intro (fun h3 => ?_) (fun h3 => ?_)
        · simp -dsimp only [aqT, ROp, OX, ↓seqK, ↓blkK, ↓loopK, step, stepBin, res, stepIdx, mix, PV.cells, argSlots, Nat.reduceBEq, Nat.reduceBeqDiff, Nat.add_assoc nid, Nat.reduceAdd, reduceCtorEq, ↓reduceIte, Nat.reduceLeDiff, colPV, freeOf, indep, offO, neqO, disj, namesX, axSlot, opXs, rdXs, idsOf, idsOfs, lowH, lowAll, keys, Nat.reduceBneDiff, Option.toList, ← Int.ofNat_tmod, ← Int.ofNat_tdiv, optInt, fillP, repl, chunk, mkCols, mkCol, colInts, colBools, colStrs, colLits, colsApp, Col.app, tailOf, splice, colsPut, Col.put, mmFold, eqK, Nat.reduceLT, colsPaste, Col.paste, strmC_low, e1, e2, e3, e4, e5, e6, e7, e8, e9]
          have hf : flashOfV A p = ([], p + 1 + k + 3 + 1) := by unfold flashOfV; rw [hs1]; simp only; rw [show p + 1 + k + 3 = p + 1 + k + 1 + 1 + 1 by omega, h3]; rfl
          rw [hf]
          refine RetOK.go [] [(nid, 1)] (.inl rfl) ?_
          simp [a9, retPV, over, keys, List.map_nil, List.map_cons, List.contains_cons, List.contains_nil, Bool.or_false, Bool.or_true, Bool.true_or, Bool.false_or, beq_self_eq_true, cond_true, cond_false, HeapCov, orNil, nilSz, onBlk, srcOf, getH_hit, getH_miss, getH.eq_1, getS_hit, getS_miss, getS.eq_1, BlkCov, PVCovs, PVCov, ColsEq, ColEq.refl, liveIds, SlotsCov, List.all_nil, List.all_cons, List.any_nil, List.any_cons, List.nil_append, List.cons_append, inRange, apart, nilBlk, idS1, idS2, readAll, readRes, onAll, step, res, AX.val, List.drop_zero, List.drop_succ_cons, List.take_succ_cons, List.take_zero, e1, e2, e3, e4, e5, e6, e7, e8, e9, strmC, arrI]
          omega
        · simp -dsimp only [aqT, ROp, OX, ↓seqK, ↓blkK, ↓loopK, step, stepBin, res, stepIdx, mix, PV.cells, argSlots, Nat.reduceBEq, Nat.reduceBeqDiff, Nat.add_assoc nid, Nat.reduceAdd, reduceCtorEq, ↓reduceIte, Nat.reduceLeDiff, colPV, freeOf, indep, offO, neqO, disj, namesX, axSlot, opXs, rdXs, idsOf, idsOfs, lowH, lowAll, keys, Nat.reduceBneDiff, Option.toList, ← Int.ofNat_tmod, ← Int.ofNat_tdiv, optInt, fillP, repl, chunk, mkCols, mkCol, colInts, colBools, colStrs, colLits, colsApp, Col.app, tailOf, splice, colsPut, Col.put, mmFold, eqK, Nat.reduceLT, colsPaste, Col.paste, strmC_low, e1, e2, e3, e4, e5, e6, e7, e8, e9]
          have hf : flashOfV A p = ((secs0 A p).set (pickI A (p + 1 + k + 1) k) (pickV A (p + 1 + k + 2) [0, -1, 4096, 4097]), p + 1 + k + 3 + 1) := by unfold flashOfV; rw [hs1]; simp only; rw [show p + 1 + k + 3 = p + 1 + k + 1 + 1 + 1 by omega, h3]; rfl
          rw [hf]
          refine RetOK.go [(nid, nid + 20)] [] (.inl rfl) ?_
          simp [a9, retPV, over, keys, List.map_nil, List.map_cons, List.contains_cons, List.contains_nil, Bool.or_false, Bool.or_true, Bool.true_or, Bool.false_or, beq_self_eq_true, cond_true, cond_false, HeapCov, orNil, nilSz, onBlk, srcOf, getH_hit, getH_miss, getH.eq_1, getS_hit, getS_miss, getS.eq_1, BlkCov, PVCovs, PVCov, ColsEq, ColEq.refl, liveIds, SlotsCov, List.all_nil, List.all_cons, List.any_nil, List.any_cons, List.nil_append, List.cons_append, inRange, apart, nilBlk, idS1, idS2, readAll, readRes, onAll, step, res, AX.val, List.drop_zero, List.drop_succ_cons, List.take_succ_cons, List.take_zero, e1, e2, e3, e4, e5, e6, e7, e8, e9, strmC, arrI]
          have hcol : ColEq k (Col.i IntKind.i64 fun j => if j = pickI A (p + 1 + k + 1) k then [0, -1, 4096, 4097][pickI A (p + 1 + k + 1 + 1) 4]?.getD 0 else rangeV A (p + 1 + j) 1 5)
              (Col.i IntKind.i64 fun i => ((secs0 A p).set (pickI A (p + 1 + k + 1) k) (pickV A (p + 1 + k + 2) [0, -1, 4096, 4097]))[i]?.getD 0) := ColEq.i fun j hj => by
            rw [List.getElem?_set]
            by_cases hji : j = pickI A (p + 1 + k + 1) k
            · subst hji
              simp [hl0, hj, pickV]
            · rw [if_neg hji, if_neg (fun e => hji e.symm), hs0]; simp [hj]
          exact ⟨⟨by omega, hl0.symm, hcol⟩, hl0.symm⟩
      · simp -dsimp only [aqT, ROp, OX, ↓seqK, ↓blkK, ↓loopK, step, stepBin, res, stepIdx, mix, PV.cells, argSlots, Nat.reduceBEq, Nat.reduceBeqDiff, Nat.add_assoc nid, Nat.reduceAdd, reduceCtorEq, ↓reduceIte, Nat.reduceLeDiff, colPV, freeOf, indep, offO, neqO, disj, namesX, axSlot, opXs, rdXs, idsOf, idsOfs, lowH, lowAll, keys, Nat.reduceBneDiff, Option.toList, ← Int.ofNat_tmod, ← Int.ofNat_tdiv, optInt, fillP, repl, chunk, mkCols, mkCol, colInts, colBools, colStrs, colLits, colsApp, Col.app, tailOf, splice, colsPut, Col.put, mmFold, eqK, Nat.reduceLT, colsPaste, Col.paste, strmC_low, e1, e2, e3, e4, e5, e6, e7, e8, e9]
        refine CallO.on (flip_c s _ nl A (p + 1 + k + 1) _ (by omega) (by omega) hA (by omega)) (subH_get (by simp only [aqT, ROp, OX, ↓seqK, ↓blkK, ↓loopK, step, stepBin, res, stepIdx, mix, PV.cells, argSlots, Nat.reduceBEq, Nat.reduceBeqDiff, Nat.add_assoc nid, Nat.reduceAdd, reduceCtorEq, ↓reduceIte, Nat.reduceLeDiff, colPV, freeOf, indep, offO, neqO, disj, namesX, axSlot, opXs, rdXs, idsOf, idsOfs, lowH, lowAll, keys, Nat.reduceBneDiff, Option.toList, ← Int.ofNat_tmod, ← Int.ofNat_tdiv, optInt, fillP, repl, chunk, mkCols, mkCol, colInts, colBools, colStrs, colLits, colsApp, Col.app, tailOf, splice, colsPut, Col.put, mmFold, eqK, Nat.reduceLT, colsPaste, Col.paste, e1, e2, e3, e4, e5, e6, e7, e8, e9])) ?_
        simp -dsimp only [aqT, ROp, OX, ↓seqK, ↓blkK, ↓loopK, step, stepBin, res, stepIdx, mix, PV.cells, argSlots, Nat.reduceBEq, Nat.reduceBeqDiff, Nat.add_assoc nid, Nat.reduceAdd, reduceCtorEq, ↓reduceIte, Nat.reduceLeDiff, colPV, freeOf, indep, offO, neqO, disj, namesX, axSlot, opXs, rdXs, idsOf, idsOfs, lowH, lowAll, keys, Nat.reduceBneDiff, Option.toList, ← Int.ofNat_tmod, ← Int.ofNat_tdiv, optInt, fillP, repl, chunk, mkCols, mkCol, colInts, colBools, colStrs, colLits, colsApp, Col.app, tailOf, splice, colsPut, Col.put, mmFold, eqK, Nat.reduceLT, colsPaste, Col.paste, strmC_low, e1, e2, e3, e4, e5, e6, e7, e8, e9]
        have hs1 : secs1 A p = (secs0 A p, p + 1 + k + 1) := by unfold secs1; rw [hl0, h2]; rfl
        refine S2.intro (fun h3 => ?_) (fun h3 => ?_)
        · simp -dsimp only [aqT, ROp, OX, ↓seqK, ↓blkK, ↓loopK, step, stepBin, res, stepIdx, mix, PV.cells, argSlots, Nat.reduceBEq, Nat.reduceBeqDiff, Nat.add_assoc nid, Nat.reduceAdd, reduceCtorEq, ↓reduceIte, Nat.reduceLeDiff, colPV, freeOf, indep, offO, neqO, disj, namesX, axSlot, opXs, rdXs, idsOf, idsOfs, lowH, lowAll, keys, Nat.reduceBneDiff, Option.toList, ← Int.ofNat_tmod, ← Int.ofNat_tdiv, optInt, fillP, repl, chunk, mkCols, mkCol, colInts, colBools, colStrs, colLits, colsApp, Col.app, tailOf, splice, colsPut, Col.put, mmFold, eqK, Nat.reduceLT, colsPaste, Col.paste, strmC_low, e1, e2, e3, e4, e5, e6, e7, e8, e9]
          have hf : flashOfV A p = ([], p + 1 + k + 1 + 1) := by unfold flashOfV; rw [hs1]; simp only [h3, if_true]
          rw [hf]
          refine RetOK.go [] [(nid, 1)] (.inl rfl) ?_
          simp [a9, retPV, over, keys, List.map_nil, List.map_cons, List.contains_cons, List.contains_nil, Bool.or_false, Bool.or_true, Bool.true_or, Bool.false_or, beq_self_eq_true, cond_true, cond_false, HeapCov, orNil, nilSz, onBlk, srcOf, getH_hit, getH_miss, getH.eq_1, getS_hit, getS_miss, getS.eq_1, BlkCov, PVCovs, PVCov, ColsEq, ColEq.refl, liveIds, SlotsCov, List.all_nil, List.all_cons, List.any_nil, List.any_cons, List.nil_append, List.cons_append, inRange, apart, nilBlk, idS1, idS2, readAll, readRes, onAll, step, res, AX.val, List.drop_zero, List.drop_succ_cons, List.take_succ_cons, List.take_zero, e1, e2, e3, e4, e5, e6, e7, e8, e9, strmC, arrI]
        · simp -dsimp only [aqT, ROp, OX, ↓seqK, ↓blkK, ↓loopK, step, stepBin, res, stepIdx, mix, PV.cells, argSlots, Nat.reduceBEq, Nat.reduceBeqDiff, Nat.add_assoc nid, Nat.reduceAdd, reduceCtorEq, ↓reduceIte, Nat.reduceLeDiff, colPV, freeOf, indep, offO, neqO, disj, namesX, axSlot, opXs, rdXs, idsOf, idsOfs, lowH, lowAll, keys, Nat.reduceBneDiff, Option.toList, ← Int.ofNat_tmod, ← Int.ofNat_tdiv, optInt, fillP, repl, chunk, mkCols, mkCol, colInts, colBools, colStrs, colLits, colsApp, Col.app, tailOf, splice, colsPut, Col.put, mmFold, eqK, Nat.reduceLT, colsPaste, Col.paste, strmC_low, e1, e2, e3, e4, e5, e6, e7, e8, e9]
          have hf : flashOfV A p = (secs0 A p, p + 1 + k + 1 + 1) := by unfold flashOfV; rw [hs1]; simp [h3]
          rw [hf]
          refine RetOK.go [(nid, nid + 20)] [] (.inl rfl) ?_
          simp [a9, retPV, over, keys, List.map_nil, List.map_cons, List.contains_cons, List.contains_nil, Bool.or_false, Bool.or_true, Bool.true_or, Bool.false_or, beq_self_eq_true, cond_true, cond_false, HeapCov, orNil, nilSz, onBlk, srcOf, getH_hit, getH_miss, getH.eq_1, getS_hit, getS_miss, getS.eq_1, BlkCov, PVCovs, PVCov, ColsEq, ColEq.refl, liveIds, SlotsCov, List.all_nil, List.all_cons, List.any_nil, List.any_cons, List.nil_append, List.cons_append, inRange, apart, nilBlk, idS1, idS2, readAll, readRes, onAll, step, res, AX.val, List.drop_zero, List.drop_succ_cons, List.take_succ_cons, List.take_zero, e1, e2, e3, e4, e5, e6, e7, e8, e9, strmC, arrI]
          have hcol : ColEq k (Col.i IntKind.i64 fun i => rangeV A (p + 1 + i) 1 5) (Col.i IntKind.i64 fun i => (secs0 A p)[i]?.getD 0) := ColEq.i fun j hj => by rw [hs0]; simp [hj]
          exact ⟨⟨hl0.symm, hcol⟩, hl0.symm⟩
end Go.Proofs.Ytmnhlfkphibhfaa
/-
  The maker of words, by the abstract machine.
-/
namespace Go.Proofs.Ytmnhlfkphibhfaa
open Go.RowKit
set_option linter.unusedVariables false
set_option linter.unusedSimpArgs false
set_option maxRecDepth 100000
def litI (nl : Bool) (l : List Int) : PV := .lit nl l.length [.i .i64 fun i => l.getD i 0]
theorem smaxS {l : List Int} {k : Nat} (h : k < l.length) : sumMax (l.take (k + 1)) = sumMax (l.take k) + max (l.getD k 0) 0 := by
  rw [take_snoc (x := l.getD k 0) (by rw [List.getD_eq_getElem?_getD, List.getElem?_eq_getElem h]; rfl), sumMax_snoc]
theorem smaxP {l : List Int} (hv : Within (-1) 4097 l) (hn : l.length ≤ 4) (k : Nat) : 0 ≤ sumMax (l.take k) ∧ sumMax (l.take k) ≤ 16388 := by
  have h := sumMax_bd (l.take k) (hv.take k)
  have : (l.take k).length ≤ 4 := by rw [List.length_take]; omega
  omega
theorem getDin {lo hi : Int} {l : List Int} (h : Within lo hi l) {k : Nat} (hk : k < l.length) : lo ≤ l.getD k 0 ∧ l.getD k 0 ≤ hi := by
  rw [List.getD_eq_getElem?_getD, List.getElem?_eq_getElem hk]
  exact h _ (List.getElem_mem hk)
theorem col_snoc {k : IntKind} {m : Nat} {g : Nat → Int} {l : List Int} (hl : l.length = m) (hc : ∀ i, i < m → g i = l[i]?.getD 0) (x : Int) : ColEq (m + 1) (.i k fun i => if i < m then g i else [x][i - m]?.getD 0) (.i k fun i => (l ++ [x])[i]?.getD 0) :=
  ColEq.i fun i hi => by
    by_cases him : i < m
    · rw [if_pos him, List.getElem?_append_left (by omega)]; exact hc i him
    · have : i = m := by omega
      subst this
      rw [if_neg him, List.getElem?_append_right (by omega), hl]
theorem wordList_c (s nid : Nat) (nl nlS : Bool) (A : List Int) (p : Nat) (secs : List Int) (h : s < nid) (hp : p ≤ 1099511600000) (hA : A.length ≤ 17592186044416) (hv : Within (-1) 4097 secs) (hn : secs.length ≤ 4) :
    ACall Try.prog 10 [.ptr s 0, .agg [litI nlS secs]] [(s, strmC nl A p)] nid (.sl nid 0 (wordListV A p secs).1.length) [(s, strmC nl A (wordListV A p secs).2), (nid, arrI (wordListV A p secs).1)] := by
  obtain ⟨e1, e2, e3, e4, e5, e6, e7, e8, e9⟩ := id_all h
  refine acall_run c10 (by simp [a10]) ?_
  unfold litI
  simp -dsimp only [a10, aqT, ROp, OX, ↓seqK, ↓blkK, ↓loopK, step, stepBin, res, stepIdx, mix, PV.cells, argSlots, Nat.reduceBEq, Nat.reduceBeqDiff, Nat.add_assoc nid, Nat.reduceAdd, reduceCtorEq, ↓reduceIte, Nat.reduceLeDiff, colPV, freeOf, indep, offO, neqO, disj, namesX, axSlot, opXs, rdXs, idsOf, idsOfs, lowH, lowAll, keys, Nat.reduceBneDiff, Option.toList, ← Int.ofNat_tmod, ← Int.ofNat_tdiv, optInt, fillP, repl, chunk, mkCols, mkCol, colInts, colBools, colStrs, colLits, colsApp, Col.app, tailOf, splice, colsPut, Col.put, mmFold, eqK, Nat.reduceLT, colsPaste, Col.paste, strmC_low, e1, e2, e3, e4, e5, e6, e7, e8, e9]
  refine LP.mkP (fun k : Nat => k ≤ secs.length) (fun k : Nat => ⟨[(12, .int .i64 k), (11, .int .i64 secs.length), (10, litI nlS secs), (5, .int .i64 (sumMax (secs.take k))), (0, .ptr s 0)], [(s, strmC nl A p)], nid + 32, nid⟩)
    (fun k => secs.length + 1 - k) 0 (by omega) (Cov.go [] [] ?_) (fun k hk => ?_)
  · simp [retPV, over, keys, List.map_nil, List.map_cons, List.contains_cons, List.contains_nil, Bool.or_false, Bool.or_true, Bool.true_or, Bool.false_or, beq_self_eq_true, cond_true, cond_false, HeapCov, orNil, nilSz, onBlk, srcOf, getH_hit, getH_miss, getH.eq_1, getS_hit, getS_miss, getS.eq_1, BlkCov, PVCovs, PVCov, ColsEq, ColEq.refl, liveIds, SlotsCov, List.all_nil, List.all_cons, List.any_nil, List.any_cons, List.nil_append, List.cons_append, inRange, apart, nilBlk, idS1, idS2, readAll, readRes, onAll, step, res, AX.val, List.drop_zero, List.drop_succ_cons, List.take_succ_cons, List.take_zero, e1, e2, e3, e4, e5, e6, e7, e8, e9, strmC, litI, sumMax]
  unfold litI
  simp -dsimp only [aqT, ROp, OX, ↓seqK, ↓blkK, ↓loopK, step, stepBin, res, stepIdx, mix, PV.cells, argSlots, Nat.reduceBEq, Nat.reduceBeqDiff, Nat.add_assoc nid, Nat.reduceAdd, reduceCtorEq, ↓reduceIte, Nat.reduceLeDiff, colPV, freeOf, indep, offO, neqO, disj, namesX, axSlot, opXs, rdXs, idsOf, idsOfs, lowH, lowAll, keys, Nat.reduceBneDiff, Option.toList, ← Int.ofNat_tmod, ← Int.ofNat_tdiv, optInt, fillP, repl, chunk, mkCols, mkCol, colInts, colBools, colStrs, colLits, colsApp, Col.app, tailOf, splice, colsPut, Col.put, mmFold, eqK, Nat.reduceLT, colsPaste, Col.paste, strmC_low, e1, e2, e3, e4, e5, e6, e7, e8, e9]
  refine S2.dec (fun h1 => ?_) (fun h1 => ?_)
  · simp -dsimp only [aqT, ROp, OX, ↓seqK, ↓blkK, ↓loopK, step, stepBin, res, stepIdx, mix, PV.cells, argSlots, Nat.reduceBEq, Nat.reduceBeqDiff, Nat.add_assoc nid, Nat.reduceAdd, reduceCtorEq, ↓reduceIte, Nat.reduceLeDiff, colPV, freeOf, indep, offO, neqO, disj, namesX, axSlot, opXs, rdXs, idsOf, idsOfs, lowH, lowAll, keys, Nat.reduceBneDiff, Option.toList, ← Int.ofNat_tmod, ← Int.ofNat_tdiv, optInt, fillP, repl, chunk, mkCols, mkCol, colInts, colBools, colStrs, colLits, colsApp, Col.app, tailOf, splice, colsPut, Col.put, mmFold, eqK, Nat.reduceLT, colsPaste, Col.paste, strmC_low, e1, e2, e3, e4, e5, e6, e7, e8, e9]
    have h2 := smaxP hv hn k
    have h3 := smaxS (l := secs) (k := k) (by omega)
    have h4 := getDin hv (k := k) (by omega)
    refine ⟨by omega, by unfold inI64; omega, by unfold inI64; omega, k + 1, ⟨by omega, by omega⟩, Cov.go [] [] ?_⟩
    simp [retPV, over, keys, List.map_nil, List.map_cons, List.contains_cons, List.contains_nil, Bool.or_false, Bool.or_true, Bool.true_or, Bool.false_or, beq_self_eq_true, cond_true, cond_false, HeapCov, orNil, nilSz, onBlk, srcOf, getH_hit, getH_miss, getH.eq_1, getS_hit, getS_miss, getS.eq_1, BlkCov, PVCovs, PVCov, ColsEq, ColEq.refl, liveIds, SlotsCov, List.all_nil, List.all_cons, List.any_nil, List.any_cons, List.nil_append, List.cons_append, inRange, apart, nilBlk, idS1, idS2, readAll, readRes, onAll, step, res, AX.val, List.drop_zero, List.drop_succ_cons, List.take_succ_cons, List.take_zero, e1, e2, e3, e4, e5, e6, e7, e8, e9, strmC, h3]
  simp -dsimp only [aqT, ROp, OX, ↓seqK, ↓blkK, ↓loopK, step, stepBin, res, stepIdx, mix, PV.cells, argSlots, Nat.reduceBEq, Nat.reduceBeqDiff, Nat.add_assoc nid, Nat.reduceAdd, reduceCtorEq, ↓reduceIte, Nat.reduceLeDiff, colPV, freeOf, indep, offO, neqO, disj, namesX, axSlot, opXs, rdXs, idsOf, idsOfs, lowH, lowAll, keys, Nat.reduceBneDiff, Option.toList, ← Int.ofNat_tmod, ← Int.ofNat_tdiv, optInt, fillP, repl, chunk, mkCols, mkCol, colInts, colBools, colStrs, colLits, colsApp, Col.app, tailOf, splice, colsPut, Col.put, mmFold, eqK, Nat.reduceLT, colsPaste, Col.paste, strmC_low, e1, e2, e3, e4, e5, e6, e7, e8, e9]
  have hfull : secs.take k = secs := List.take_of_length_le (by omega)
  rw [hfull]
  have hmany := wordMany_le secs
  obtain ⟨m, hm⟩ : ∃ m, wordMany secs = m := ⟨_, rfl⟩
  rw [hm] at hmany
  have hmin : min (sumMax secs) 40 = (m : Int) := by
    have := (smaxP hv hn secs.length).1
    rw [List.take_length] at this
    unfold wordMany at hm; omega
  rw [hmin]
  refine LP.mkP (fun j : Nat => j ≤ m) (fun j : Nat => ⟨[(23, .int .i64 j), (22, .int .i64 m), (8, .sl (nid + 52) 0 j), (0, .ptr s 0)], [(s, strmC nl A (p + 2 * j)), (nid + 52, some (.arr 3 j [.i .i64 fun i => word1 A (p + 2 * i)]))], nid + 56, nid⟩)
    (fun j => m + 1 - j) 0 (by omega) (Cov.go [] [(nid + 52, 1)] ?_) (fun j hj => ?_)
  · simp [retPV, over, keys, List.map_nil, List.map_cons, List.contains_cons, List.contains_nil, Bool.or_false, Bool.or_true, Bool.true_or, Bool.false_or, beq_self_eq_true, cond_true, cond_false, HeapCov, orNil, nilSz, onBlk, srcOf, getH_hit, getH_miss, getH.eq_1, getS_hit, getS_miss, getS.eq_1, BlkCov, PVCovs, PVCov, ColsEq, ColEq.refl, liveIds, SlotsCov, List.all_nil, List.all_cons, List.any_nil, List.any_cons, List.nil_append, List.cons_append, inRange, apart, nilBlk, idS1, idS2, readAll, readRes, onAll, step, res, AX.val, List.drop_zero, List.drop_succ_cons, List.take_succ_cons, List.take_zero, e1, e2, e3, e4, e5, e6, e7, e8, e9, strmC]
  simp -dsimp only [aqT, ROp, OX, ↓seqK, ↓blkK, ↓loopK, step, stepBin, res, stepIdx, mix, PV.cells, argSlots, Nat.reduceBEq, Nat.reduceBeqDiff, Nat.add_assoc nid, Nat.reduceAdd, reduceCtorEq, ↓reduceIte, Nat.reduceLeDiff, colPV, freeOf, indep, offO, neqO, disj, namesX, axSlot, opXs, rdXs, idsOf, idsOfs, lowH, lowAll, keys, Nat.reduceBneDiff, Option.toList, ← Int.ofNat_tmod, ← Int.ofNat_tdiv, optInt, fillP, repl, chunk, mkCols, mkCol, colInts, colBools, colStrs, colLits, colsApp, Col.app, tailOf, splice, colsPut, Col.put, mmFold, eqK, Nat.reduceLT, colsPaste, Col.paste, strmC_low, e1, e2, e3, e4, e5, e6, e7, e8, e9]
  refine S2.dec (fun h2 => ?_) (fun h2 => ?_)
  · simp -dsimp only [aqT, ROp, OX, ↓seqK, ↓blkK, ↓loopK, step, stepBin, res, stepIdx, mix, PV.cells, argSlots, Nat.reduceBEq, Nat.reduceBeqDiff, Nat.add_assoc nid, Nat.reduceAdd, reduceCtorEq, ↓reduceIte, Nat.reduceLeDiff, colPV, freeOf, indep, offO, neqO, disj, namesX, axSlot, opXs, rdXs, idsOf, idsOfs, lowH, lowAll, keys, Nat.reduceBneDiff, Option.toList, ← Int.ofNat_tmod, ← Int.ofNat_tdiv, optInt, fillP, repl, chunk, mkCols, mkCol, colInts, colBools, colStrs, colLits, colsApp, Col.app, tailOf, splice, colsPut, Col.put, mmFold, eqK, Nat.reduceLT, colsPaste, Col.paste, strmC_low, e1, e2, e3, e4, e5, e6, e7, e8, e9]
    refine CallO.on (next_c s _ nl A (p + 2 * j) _ (by omega) (by omega) hA (by omega)) (subH_get (by simp only [aqT, ROp, OX, ↓seqK, ↓blkK, ↓loopK, step, stepBin, res, stepIdx, mix, PV.cells, argSlots, Nat.reduceBEq, Nat.reduceBeqDiff, Nat.add_assoc nid, Nat.reduceAdd, reduceCtorEq, ↓reduceIte, Nat.reduceLeDiff, colPV, freeOf, indep, offO, neqO, disj, namesX, axSlot, opXs, rdXs, idsOf, idsOfs, lowH, lowAll, keys, Nat.reduceBneDiff, Option.toList, ← Int.ofNat_tmod, ← Int.ofNat_tdiv, optInt, fillP, repl, chunk, mkCols, mkCol, colInts, colBools, colStrs, colLits, colsApp, Col.app, tailOf, splice, colsPut, Col.put, mmFold, eqK, Nat.reduceLT, colsPaste, Col.paste, e1, e2, e3, e4, e5, e6, e7, e8, e9])) ?_
    simp -dsimp only [aqT, ROp, OX, ↓seqK, ↓blkK, ↓loopK, step, stepBin, res, stepIdx, mix, PV.cells, argSlots, Nat.reduceBEq, Nat.reduceBeqDiff, Nat.add_assoc nid, Nat.reduceAdd, reduceCtorEq, ↓reduceIte, Nat.reduceLeDiff, colPV, freeOf, indep, offO, neqO, disj, namesX, axSlot, opXs, rdXs, idsOf, idsOfs, lowH, lowAll, keys, Nat.reduceBneDiff, Option.toList, ← Int.ofNat_tmod, ← Int.ofNat_tdiv, optInt, fillP, repl, chunk, mkCols, mkCol, colInts, colBools, colStrs, colLits, colsApp, Col.app, tailOf, splice, colsPut, Col.put, mmFold, eqK, Nat.reduceLT, colsPaste, Col.paste, strmC_low, e1, e2, e3, e4, e5, e6, e7, e8, e9]
    refine CallO.pick_go (p := p + 2 * j + 1) (nl := nl) (A := A) (by simp only [aqT, ROp, OX, ↓seqK, ↓blkK, ↓loopK, step, stepBin, res, stepIdx, mix, PV.cells, argSlots, Nat.reduceBEq, Nat.reduceBeqDiff, Nat.add_assoc nid, Nat.reduceAdd, reduceCtorEq, ↓reduceIte, Nat.reduceLeDiff, colPV, freeOf, indep, offO, neqO, disj, namesX, axSlot, opXs, rdXs, idsOf, idsOfs, lowH, lowAll, keys, Nat.reduceBneDiff, Option.toList, ← Int.ofNat_tmod, ← Int.ofNat_tdiv, optInt, fillP, repl, chunk, mkCols, mkCol, colInts, colBools, colStrs, colLits, colsApp, Col.app, tailOf, splice, colsPut, Col.put, mmFold, eqK, Nat.reduceLT, colsPaste, Col.paste, e1, e2, e3, e4, e5, e6, e7, e8, e9]) (by simp only [aqT, ROp, OX, ↓seqK, ↓blkK, ↓loopK, step, stepBin, res, stepIdx, mix, PV.cells, argSlots, Nat.reduceBEq, Nat.reduceBeqDiff, Nat.add_assoc nid, Nat.reduceAdd, reduceCtorEq, ↓reduceIte, Nat.reduceLeDiff, colPV, freeOf, indep, offO, neqO, disj, namesX, axSlot, opXs, rdXs, idsOf, idsOfs, lowH, lowAll, keys, Nat.reduceBneDiff, Option.toList, ← Int.ofNat_tmod, ← Int.ofNat_tdiv, optInt, fillP, repl, chunk, mkCols, mkCol, colInts, colBools, colStrs, colLits, colsApp, Col.app, tailOf, splice, colsPut, Col.put, mmFold, eqK, Nat.reduceLT, colsPaste, Col.paste, e1, e2, e3, e4, e5, e6, e7, e8, e9]; rfl) (by simp only [e1, e2, e3, e4, e5, e6, e7, e8, e9]) (by omega) (by omega) hA (by omega) (by omega) ?_
    simp -dsimp only [aqT, ROp, OX, ↓seqK, ↓blkK, ↓loopK, step, stepBin, res, stepIdx, mix, PV.cells, argSlots, Nat.reduceBEq, Nat.reduceBeqDiff, Nat.add_assoc nid, Nat.reduceAdd, reduceCtorEq, ↓reduceIte, Nat.reduceLeDiff, colPV, freeOf, indep, offO, neqO, disj, namesX, axSlot, opXs, rdXs, idsOf, idsOfs, lowH, lowAll, keys, Nat.reduceBneDiff, Option.toList, ← Int.ofNat_tmod, ← Int.ofNat_tdiv, optInt, fillP, repl, chunk, mkCols, mkCol, colInts, colBools, colStrs, colLits, colsApp, Col.app, tailOf, splice, colsPut, Col.put, mmFold, eqK, Nat.reduceLT, colsPaste, Col.paste, kill, strmC_low, e1, e2, e3, e4, e5, e6, e7, e8, e9]
    refine ⟨⟨by omega, by omega⟩, by unfold inI64; omega, j + 1, ⟨by omega, by omega⟩, Cov.go [(nid + 52, nid + 88)] [] ?_⟩
    simp [retPV, over, keys, List.map_nil, List.map_cons, List.contains_cons, List.contains_nil, Bool.or_false, Bool.or_true, Bool.true_or, Bool.false_or, beq_self_eq_true, cond_true, cond_false, HeapCov, orNil, nilSz, onBlk, srcOf, getH_hit, getH_miss, getH.eq_1, getS_hit, getS_miss, getS.eq_1, BlkCov, PVCovs, PVCov, ColsEq, ColEq.refl, liveIds, SlotsCov, List.all_nil, List.all_cons, List.any_nil, List.any_cons, List.nil_append, List.cons_append, inRange, apart, nilBlk, idS1, idS2, readAll, readRes, onAll, step, res, AX.val, List.drop_zero, List.drop_succ_cons, List.take_succ_cons, List.take_zero, e1, e2, e3, e4, e5, e6, e7, e8, e9, strmC]
    refine ⟨by omega, ColEq.i fun i hi => ?_⟩
    by_cases hij : i < j
    · simp [hij]
    · have : i = j := by omega
      subst this
      simp [word1, pickV]
  simp -dsimp only [aqT, ROp, OX, ↓seqK, ↓blkK, ↓loopK, step, stepBin, res, stepIdx, mix, PV.cells, argSlots, Nat.reduceBEq, Nat.reduceBeqDiff, Nat.add_assoc nid, Nat.reduceAdd, reduceCtorEq, ↓reduceIte, Nat.reduceLeDiff, colPV, freeOf, indep, offO, neqO, disj, namesX, axSlot, opXs, rdXs, idsOf, idsOfs, lowH, lowAll, keys, Nat.reduceBneDiff, Option.toList, ← Int.ofNat_tmod, ← Int.ofNat_tdiv, optInt, fillP, repl, chunk, mkCols, mkCol, colInts, colBools, colStrs, colLits, colsApp, Col.app, tailOf, splice, colsPut, Col.put, mmFold, eqK, Nat.reduceLT, colsPaste, Col.paste, strmC_low, e1, e2, e3, e4, e5, e6, e7, e8, e9]
  refine S2.dec (fun h3 => ?_) (fun h3 => ?_)
  · simp -dsimp only [aqT, ROp, OX, ↓seqK, ↓blkK, ↓loopK, step, stepBin, res, stepIdx, mix, PV.cells, argSlots, Nat.reduceBEq, Nat.reduceBeqDiff, Nat.add_assoc nid, Nat.reduceAdd, reduceCtorEq, ↓reduceIte, Nat.reduceLeDiff, colPV, freeOf, indep, offO, neqO, disj, namesX, axSlot, opXs, rdXs, idsOf, idsOfs, lowH, lowAll, keys, Nat.reduceBneDiff, Option.toList, ← Int.ofNat_tmod, ← Int.ofNat_tdiv, optInt, fillP, repl, chunk, mkCols, mkCol, colInts, colBools, colStrs, colLits, colsApp, Col.app, tailOf, splice, colsPut, Col.put, mmFold, eqK, Nat.reduceLT, colsPaste, Col.paste, strmC_low, e1, e2, e3, e4, e5, e6, e7, e8, e9]
    refine CallO.on (flip_c s _ nl A (p + 2 * j) _ (by omega) (by omega) hA (by omega)) (subH_get (by simp only [aqT, ROp, OX, ↓seqK, ↓blkK, ↓loopK, step, stepBin, res, stepIdx, mix, PV.cells, argSlots, Nat.reduceBEq, Nat.reduceBeqDiff, Nat.add_assoc nid, Nat.reduceAdd, reduceCtorEq, ↓reduceIte, Nat.reduceLeDiff, colPV, freeOf, indep, offO, neqO, disj, namesX, axSlot, opXs, rdXs, idsOf, idsOfs, lowH, lowAll, keys, Nat.reduceBneDiff, Option.toList, ← Int.ofNat_tmod, ← Int.ofNat_tdiv, optInt, fillP, repl, chunk, mkCols, mkCol, colInts, colBools, colStrs, colLits, colsApp, Col.app, tailOf, splice, colsPut, Col.put, mmFold, eqK, Nat.reduceLT, colsPaste, Col.paste, e1, e2, e3, e4, e5, e6, e7, e8, e9])) ?_
    simp -dsimp only [aqT, ROp, OX, ↓seqK, ↓blkK, ↓loopK, step, stepBin, res, stepIdx, mix, PV.cells, argSlots, Nat.reduceBEq, Nat.reduceBeqDiff, Nat.add_assoc nid, Nat.reduceAdd, reduceCtorEq, ↓reduceIte, Nat.reduceLeDiff, colPV, freeOf, indep, offO, neqO, disj, namesX, axSlot, opXs, rdXs, idsOf, idsOfs, lowH, lowAll, keys, Nat.reduceBneDiff, Option.toList, ← Int.ofNat_tmod, ← Int.ofNat_tdiv, optInt, fillP, repl, chunk, mkCols, mkCol, colInts, colBools, colStrs, colLits, colsApp, Col.app, tailOf, splice, colsPut, Col.put, mmFold, eqK, Nat.reduceLT, colsPaste, Col.paste, strmC_low, e1, e2, e3, e4, e5, e6, e7, e8, e9]
    have hjm : j = m := by omega
    subst hjm
    have hw0 : ∀ i, i < j → word1 A (p + 2 * i) = (words0 A p j)[i]?.getD 0 := fun i hi => by rw [words0_get A p hi]; rfl
    have hl0 := words0_len A p j
    have hj0 : j ≠ 0 := by omega
    refine S2.intro (fun h4 => ?_) (fun h4 => ?_)
    · simp -dsimp only [aqT, ROp, OX, ↓seqK, ↓blkK, ↓loopK, step, stepBin, res, stepIdx, mix, PV.cells, argSlots, Nat.reduceBEq, Nat.reduceBeqDiff, Nat.add_assoc nid, Nat.reduceAdd, reduceCtorEq, ↓reduceIte, Nat.reduceLeDiff, colPV, freeOf, indep, offO, neqO, disj, namesX, axSlot, opXs, rdXs, idsOf, idsOfs, lowH, lowAll, keys, Nat.reduceBneDiff, Option.toList, ← Int.ofNat_tmod, ← Int.ofNat_tdiv, optInt, fillP, repl, chunk, mkCols, mkCol, colInts, colBools, colStrs, colLits, colsApp, Col.app, tailOf, splice, colsPut, Col.put, mmFold, eqK, Nat.reduceLT, colsPaste, Col.paste, strmC_low, e1, e2, e3, e4, e5, e6, e7, e8, e9]
      have hnx := nextV_bd A (p + 2 * j + 1) (n := (j : Int)) (by omega)
      have hpi : (nextV A (p + 2 * j + 1) (j : Int)).toNat = pickI A (p + 2 * j + 1) j := rfl
      refine CallO.on (next_c s _ nl A (p + 2 * j + 1) _ (by omega) (by omega) hA (by omega)) (subH_get (by simp only [aqT, ROp, OX, ↓seqK, ↓blkK, ↓loopK, step, stepBin, res, stepIdx, mix, PV.cells, argSlots, Nat.reduceBEq, Nat.reduceBeqDiff, Nat.add_assoc nid, Nat.reduceAdd, reduceCtorEq, ↓reduceIte, Nat.reduceLeDiff, colPV, freeOf, indep, offO, neqO, disj, namesX, axSlot, opXs, rdXs, idsOf, idsOfs, lowH, lowAll, keys, Nat.reduceBneDiff, Option.toList, ← Int.ofNat_tmod, ← Int.ofNat_tdiv, optInt, fillP, repl, chunk, mkCols, mkCol, colInts, colBools, colStrs, colLits, colsApp, Col.app, tailOf, splice, colsPut, Col.put, mmFold, eqK, Nat.reduceLT, colsPaste, Col.paste, e1, e2, e3, e4, e5, e6, e7, e8, e9])) ?_
      simp -dsimp only [aqT, ROp, OX, ↓seqK, ↓blkK, ↓loopK, step, stepBin, res, stepIdx, mix, PV.cells, argSlots, Nat.reduceBEq, Nat.reduceBeqDiff, Nat.add_assoc nid, Nat.reduceAdd, reduceCtorEq, ↓reduceIte, Nat.reduceLeDiff, colPV, freeOf, indep, offO, neqO, disj, namesX, axSlot, opXs, rdXs, idsOf, idsOfs, lowH, lowAll, keys, Nat.reduceBneDiff, Option.toList, ← Int.ofNat_tmod, ← Int.ofNat_tdiv, optInt, fillP, repl, chunk, mkCols, mkCol, colInts, colBools, colStrs, colLits, colsApp, Col.app, tailOf, splice, colsPut, Col.put, mmFold, eqK, Nat.reduceLT, colsPaste, Col.paste, strmC_low, e1, e2, e3, e4, e5, e6, e7, e8, e9]
      refine CallO.pick_go (p := p + 2 * j + 1 + 1) (nl := nl) (A := A) (by simp only [aqT, ROp, OX, ↓seqK, ↓blkK, ↓loopK, step, stepBin, res, stepIdx, mix, PV.cells, argSlots, Nat.reduceBEq, Nat.reduceBeqDiff, Nat.add_assoc nid, Nat.reduceAdd, reduceCtorEq, ↓reduceIte, Nat.reduceLeDiff, colPV, freeOf, indep, offO, neqO, disj, namesX, axSlot, opXs, rdXs, idsOf, idsOfs, lowH, lowAll, keys, Nat.reduceBneDiff, Option.toList, ← Int.ofNat_tmod, ← Int.ofNat_tdiv, optInt, fillP, repl, chunk, mkCols, mkCol, colInts, colBools, colStrs, colLits, colsApp, Col.app, tailOf, splice, colsPut, Col.put, mmFold, eqK, Nat.reduceLT, colsPaste, Col.paste, e1, e2, e3, e4, e5, e6, e7, e8, e9]) (by simp only [aqT, ROp, OX, ↓seqK, ↓blkK, ↓loopK, step, stepBin, res, stepIdx, mix, PV.cells, argSlots, Nat.reduceBEq, Nat.reduceBeqDiff, Nat.add_assoc nid, Nat.reduceAdd, reduceCtorEq, ↓reduceIte, Nat.reduceLeDiff, colPV, freeOf, indep, offO, neqO, disj, namesX, axSlot, opXs, rdXs, idsOf, idsOfs, lowH, lowAll, keys, Nat.reduceBneDiff, Option.toList, ← Int.ofNat_tmod, ← Int.ofNat_tdiv, optInt, fillP, repl, chunk, mkCols, mkCol, colInts, colBools, colStrs, colLits, colsApp, Col.app, tailOf, splice, colsPut, Col.put, mmFold, eqK, Nat.reduceLT, colsPaste, Col.paste, e1, e2, e3, e4, e5, e6, e7, e8, e9]; rfl) (by simp only [e1, e2, e3, e4, e5, e6, e7, e8, e9]) (by omega) (by omega) hA (by omega) (by omega) ?_
      simp -dsimp only [aqT, ROp, OX, ↓seqK, ↓blkK, ↓loopK, step, stepBin, res, stepIdx, mix, PV.cells, argSlots, Nat.reduceBEq, Nat.reduceBeqDiff, Nat.add_assoc nid, Nat.reduceAdd, reduceCtorEq, ↓reduceIte, Nat.reduceLeDiff, colPV, freeOf, indep, offO, neqO, disj, namesX, axSlot, opXs, rdXs, idsOf, idsOfs, lowH, lowAll, keys, Nat.reduceBneDiff, Option.toList, ← Int.ofNat_tmod, ← Int.ofNat_tdiv, optInt, fillP, repl, chunk, mkCols, mkCol, colInts, colBools, colStrs, colLits, colsApp, Col.app, tailOf, splice, colsPut, Col.put, mmFold, eqK, Nat.reduceLT, colsPaste, Col.paste, kill, strmC_low, e1, e2, e3, e4, e5, e6, e7, e8, e9, hpi]
      refine ⟨hnx, ?_⟩
      have hw : words1 A p j = ((words0 A p j).set (pickI A (p + 2 * j + 1) j) (pickV A (p + 2 * j + 1 + 1) [-1, 65536]), p + 2 * j + 1 + 1 + 1) := by unfold words1; rw [if_neg hj0, h4]; rfl
      have hl : ((words0 A p j).set (pickI A (p + 2 * j + 1) j) (pickV A (p + 2 * j + 1 + 1) [-1, 65536])).length = j := by simp [hl0]
      have hc : ∀ i, i < j → (if i = pickI A (p + 2 * j + 1) j then [-1, 65536].getD (pickI A (p + 2 * j + 1 + 1) 2) 0 else word1 A (p + 2 * i)) = ((words0 A p j).set (pickI A (p + 2 * j + 1) j) (pickV A (p + 2 * j + 1 + 1) [-1, 65536]))[i]?.getD 0 := fun i hi => by
        rw [List.getElem?_set]
        by_cases hji : i = pickI A (p + 2 * j + 1) j
        · subst hji; simp [hl0, hi, pickV]
        · rw [if_neg hji, if_neg (fun e => hji e.symm)]; exact hw0 i hi
      generalize hL1 : (words0 A p j).set (pickI A (p + 2 * j + 1) j) (pickV A (p + 2 * j + 1 + 1) [-1, 65536]) = L1 at hw hl hc
      refine CallO.on (flip_c s _ nl A (p + 2 * j + 1 + 1 + 1) _ (by omega) (by omega) hA (by omega)) (subH_get (by simp only [aqT, ROp, OX, ↓seqK, ↓blkK, ↓loopK, step, stepBin, res, stepIdx, mix, PV.cells, argSlots, Nat.reduceBEq, Nat.reduceBeqDiff, Nat.add_assoc nid, Nat.reduceAdd, reduceCtorEq, ↓reduceIte, Nat.reduceLeDiff, colPV, freeOf, indep, offO, neqO, disj, namesX, axSlot, opXs, rdXs, idsOf, idsOfs, lowH, lowAll, keys, Nat.reduceBneDiff, Option.toList, ← Int.ofNat_tmod, ← Int.ofNat_tdiv, optInt, fillP, repl, chunk, mkCols, mkCol, colInts, colBools, colStrs, colLits, colsApp, Col.app, tailOf, splice, colsPut, Col.put, mmFold, eqK, Nat.reduceLT, colsPaste, Col.paste, e1, e2, e3, e4, e5, e6, e7, e8, e9])) ?_
      simp -dsimp only [aqT, ROp, OX, ↓seqK, ↓blkK, ↓loopK, step, stepBin, res, stepIdx, mix, PV.cells, argSlots, Nat.reduceBEq, Nat.reduceBeqDiff, Nat.add_assoc nid, Nat.reduceAdd, reduceCtorEq, ↓reduceIte, Nat.reduceLeDiff, colPV, freeOf, indep, offO, neqO, disj, namesX, axSlot, opXs, rdXs, idsOf, idsOfs, lowH, lowAll, keys, Nat.reduceBneDiff, Option.toList, ← Int.ofNat_tmod, ← Int.ofNat_tdiv, optInt, fillP, repl, chunk, mkCols, mkCol, colInts, colBools, colStrs, colLits, colsApp, Col.app, tailOf, splice, colsPut, Col.put, mmFold, eqK, Nat.reduceLT, colsPaste, Col.paste, strmC_low, e1, e2, e3, e4, e5, e6, e7, e8, e9]
      refine S2.intro (fun h5 => ?_) (fun h5 => ?_)
      · simp -dsimp only [aqT, ROp, OX, ↓seqK, ↓blkK, ↓loopK, step, stepBin, res, stepIdx, mix, PV.cells, argSlots, Nat.reduceBEq, Nat.reduceBeqDiff, Nat.add_assoc nid, Nat.reduceAdd, reduceCtorEq, ↓reduceIte, Nat.reduceLeDiff, colPV, freeOf, indep, offO, neqO, disj, namesX, axSlot, opXs, rdXs, idsOf, idsOfs, lowH, lowAll, keys, Nat.reduceBneDiff, Option.toList, ← Int.ofNat_tmod, ← Int.ofNat_tdiv, optInt, fillP, repl, chunk, mkCols, mkCol, colInts, colBools, colStrs, colLits, colsApp, Col.app, tailOf, splice, colsPut, Col.put, mmFold, eqK, Nat.reduceLT, colsPaste, Col.paste, strmC_low, e1, e2, e3, e4, e5, e6, e7, e8, e9]
        have hf : wordListV A p secs = (L1 ++ [0], p + 2 * j + 1 + 1 + 1 + 1) := by unfold wordListV; rw [hm, hw]; simp only; rw [h5]; rfl
        rw [hf]
        refine ⟨⟨by omega, by omega⟩, RetOK.go [(nid, nid + 144)] [] (.inl rfl) ?_⟩
        simp [a10, retPV, over, keys, List.map_nil, List.map_cons, List.contains_cons, List.contains_nil, Bool.or_false, Bool.or_true, Bool.true_or, Bool.false_or, beq_self_eq_true, cond_true, cond_false, HeapCov, orNil, nilSz, onBlk, srcOf, getH_hit, getH_miss, getH.eq_1, getS_hit, getS_miss, getS.eq_1, BlkCov, PVCovs, PVCov, ColsEq, ColEq.refl, liveIds, SlotsCov, List.all_nil, List.all_cons, List.any_nil, List.any_cons, List.nil_append, List.cons_append, inRange, apart, nilBlk, idS1, idS2, readAll, readRes, onAll, step, res, AX.val, List.drop_zero, List.drop_succ_cons, List.take_succ_cons, List.take_zero, e1, e2, e3, e4, e5, e6, e7, e8, e9, strmC, arrI]
        exact ⟨⟨hl.symm, col_snoc hl hc 0⟩, hl.symm⟩
      · simp -dsimp only [aqT, ROp, OX, ↓seqK, ↓blkK, ↓loopK, step, stepBin, res, stepIdx, mix, PV.cells, argSlots, Nat.reduceBEq, Nat.reduceBeqDiff, Nat.add_assoc nid, Nat.reduceAdd, reduceCtorEq, ↓reduceIte, Nat.reduceLeDiff, colPV, freeOf, indep, offO, neqO, disj, namesX, axSlot, opXs, rdXs, idsOf, idsOfs, lowH, lowAll, keys, Nat.reduceBneDiff, Option.toList, ← Int.ofNat_tmod, ← Int.ofNat_tdiv, optInt, fillP, repl, chunk, mkCols, mkCol, colInts, colBools, colStrs, colLits, colsApp, Col.app, tailOf, splice, colsPut, Col.put, mmFold, eqK, Nat.reduceLT, colsPaste, Col.paste, strmC_low, e1, e2, e3, e4, e5, e6, e7, e8, e9]
        have hf : wordListV A p secs = (L1, p + 2 * j + 1 + 1 + 1 + 1) := by unfold wordListV; rw [hm, hw]; simp only; rw [h5]; rfl
        rw [hf]
        refine RetOK.go [(nid, nid + 52)] [] (.inl rfl) ?_
        simp [a10, retPV, over, keys, List.map_nil, List.map_cons, List.contains_cons, List.contains_nil, Bool.or_false, Bool.or_true, Bool.true_or, Bool.false_or, beq_self_eq_true, cond_true, cond_false, HeapCov, orNil, nilSz, onBlk, srcOf, getH_hit, getH_miss, getH.eq_1, getS_hit, getS_miss, getS.eq_1, BlkCov, PVCovs, PVCov, ColsEq, ColEq.refl, liveIds, SlotsCov, List.all_nil, List.all_cons, List.any_nil, List.any_cons, List.nil_append, List.cons_append, inRange, apart, nilBlk, idS1, idS2, readAll, readRes, onAll, step, res, AX.val, List.drop_zero, List.drop_succ_cons, List.take_succ_cons, List.take_zero, e1, e2, e3, e4, e5, e6, e7, e8, e9, strmC, arrI]
        exact ⟨⟨hl.symm, ColEq.i hc⟩, hl.symm⟩
    · simp -dsimp only [aqT, ROp, OX, ↓seqK, ↓blkK, ↓loopK, step, stepBin, res, stepIdx, mix, PV.cells, argSlots, Nat.reduceBEq, Nat.reduceBeqDiff, Nat.add_assoc nid, Nat.reduceAdd, reduceCtorEq, ↓reduceIte, Nat.reduceLeDiff, colPV, freeOf, indep, offO, neqO, disj, namesX, axSlot, opXs, rdXs, idsOf, idsOfs, lowH, lowAll, keys, Nat.reduceBneDiff, Option.toList, ← Int.ofNat_tmod, ← Int.ofNat_tdiv, optInt, fillP, repl, chunk, mkCols, mkCol, colInts, colBools, colStrs, colLits, colsApp, Col.app, tailOf, splice, colsPut, Col.put, mmFold, eqK, Nat.reduceLT, colsPaste, Col.paste, strmC_low, e1, e2, e3, e4, e5, e6, e7, e8, e9]
      have hw : words1 A p j = (words0 A p j, p + 2 * j + 1) := by unfold words1; rw [if_neg hj0, h4]; rfl
      have hl := hl0
      have hc := hw0
      refine CallO.on (flip_c s _ nl A (p + 2 * j + 1) _ (by omega) (by omega) hA (by omega)) (subH_get (by simp only [aqT, ROp, OX, ↓seqK, ↓blkK, ↓loopK, step, stepBin, res, stepIdx, mix, PV.cells, argSlots, Nat.reduceBEq, Nat.reduceBeqDiff, Nat.add_assoc nid, Nat.reduceAdd, reduceCtorEq, ↓reduceIte, Nat.reduceLeDiff, colPV, freeOf, indep, offO, neqO, disj, namesX, axSlot, opXs, rdXs, idsOf, idsOfs, lowH, lowAll, keys, Nat.reduceBneDiff, Option.toList, ← Int.ofNat_tmod, ← Int.ofNat_tdiv, optInt, fillP, repl, chunk, mkCols, mkCol, colInts, colBools, colStrs, colLits, colsApp, Col.app, tailOf, splice, colsPut, Col.put, mmFold, eqK, Nat.reduceLT, colsPaste, Col.paste, e1, e2, e3, e4, e5, e6, e7, e8, e9])) ?_
      simp -dsimp only [aqT, ROp, OX, ↓seqK, ↓blkK, ↓loopK, step, stepBin, res, stepIdx, mix, PV.cells, argSlots, Nat.reduceBEq, Nat.reduceBeqDiff, Nat.add_assoc nid, Nat.reduceAdd, reduceCtorEq, ↓reduceIte, Nat.reduceLeDiff, colPV, freeOf, indep, offO, neqO, disj, namesX, axSlot, opXs, rdXs, idsOf, idsOfs, lowH, lowAll, keys, Nat.reduceBneDiff, Option.toList, ← Int.ofNat_tmod, ← Int.ofNat_tdiv, optInt, fillP, repl, chunk, mkCols, mkCol, colInts, colBools, colStrs, colLits, colsApp, Col.app, tailOf, splice, colsPut, Col.put, mmFold, eqK, Nat.reduceLT, colsPaste, Col.paste, strmC_low, e1, e2, e3, e4, e5, e6, e7, e8, e9]
      refine S2.intro (fun h5 => ?_) (fun h5 => ?_)
      · simp -dsimp only [aqT, ROp, OX, ↓seqK, ↓blkK, ↓loopK, step, stepBin, res, stepIdx, mix, PV.cells, argSlots, Nat.reduceBEq, Nat.reduceBeqDiff, Nat.add_assoc nid, Nat.reduceAdd, reduceCtorEq, ↓reduceIte, Nat.reduceLeDiff, colPV, freeOf, indep, offO, neqO, disj, namesX, axSlot, opXs, rdXs, idsOf, idsOfs, lowH, lowAll, keys, Nat.reduceBneDiff, Option.toList, ← Int.ofNat_tmod, ← Int.ofNat_tdiv, optInt, fillP, repl, chunk, mkCols, mkCol, colInts, colBools, colStrs, colLits, colsApp, Col.app, tailOf, splice, colsPut, Col.put, mmFold, eqK, Nat.reduceLT, colsPaste, Col.paste, strmC_low, e1, e2, e3, e4, e5, e6, e7, e8, e9]
        have hf : wordListV A p secs = (words0 A p j ++ [0], p + 2 * j + 1 + 1) := by unfold wordListV; rw [hm, hw]; simp only; rw [h5]; rfl
        rw [hf]
        refine ⟨⟨by omega, by omega⟩, RetOK.go [(nid, nid + 104)] [] (.inl rfl) ?_⟩
        simp [a10, retPV, over, keys, List.map_nil, List.map_cons, List.contains_cons, List.contains_nil, Bool.or_false, Bool.or_true, Bool.true_or, Bool.false_or, beq_self_eq_true, cond_true, cond_false, HeapCov, orNil, nilSz, onBlk, srcOf, getH_hit, getH_miss, getH.eq_1, getS_hit, getS_miss, getS.eq_1, BlkCov, PVCovs, PVCov, ColsEq, ColEq.refl, liveIds, SlotsCov, List.all_nil, List.all_cons, List.any_nil, List.any_cons, List.nil_append, List.cons_append, inRange, apart, nilBlk, idS1, idS2, readAll, readRes, onAll, step, res, AX.val, List.drop_zero, List.drop_succ_cons, List.take_succ_cons, List.take_zero, e1, e2, e3, e4, e5, e6, e7, e8, e9, strmC, arrI]
        exact ⟨⟨hl.symm, col_snoc hl hc 0⟩, hl.symm⟩
      · simp -dsimp only [aqT, ROp, OX, ↓seqK, ↓blkK, ↓loopK, step, stepBin, res, stepIdx, mix, PV.cells, argSlots, Nat.reduceBEq, Nat.reduceBeqDiff, Nat.add_assoc nid, Nat.reduceAdd, reduceCtorEq, ↓reduceIte, Nat.reduceLeDiff, colPV, freeOf, indep, offO, neqO, disj, namesX, axSlot, opXs, rdXs, idsOf, idsOfs, lowH, lowAll, keys, Nat.reduceBneDiff, Option.toList, ← Int.ofNat_tmod, ← Int.ofNat_tdiv, optInt, fillP, repl, chunk, mkCols, mkCol, colInts, colBools, colStrs, colLits, colsApp, Col.app, tailOf, splice, colsPut, Col.put, mmFold, eqK, Nat.reduceLT, colsPaste, Col.paste, strmC_low, e1, e2, e3, e4, e5, e6, e7, e8, e9]
        have hf : wordListV A p secs = (words0 A p j, p + 2 * j + 1 + 1) := by unfold wordListV; rw [hm, hw]; simp only; rw [h5]; rfl
        rw [hf]
        refine RetOK.go [(nid, nid + 52)] [] (.inl rfl) ?_
        simp [a10, retPV, over, keys, List.map_nil, List.map_cons, List.contains_cons, List.contains_nil, Bool.or_false, Bool.or_true, Bool.true_or, Bool.false_or, beq_self_eq_true, cond_true, cond_false, HeapCov, orNil, nilSz, onBlk, srcOf, getH_hit, getH_miss, getH.eq_1, getS_hit, getS_miss, getS.eq_1, BlkCov, PVCovs, PVCov, ColsEq, ColEq.refl, liveIds, SlotsCov, List.all_nil, List.all_cons, List.any_nil, List.any_cons, List.nil_append, List.cons_append, inRange, apart, nilBlk, idS1, idS2, readAll, readRes, onAll, step, res, AX.val, List.drop_zero, List.drop_succ_cons, List.take_succ_cons, List.take_zero, e1, e2, e3, e4, e5, e6, e7, e8, e9, strmC, arrI]
        exact ⟨⟨hl.symm, ColEq.i hc⟩, hl.symm⟩
  · simp -dsimp only [aqT, ROp, OX, ↓seqK, ↓blkK, ↓loopK, step, stepBin, res, stepIdx, mix, PV.cells, argSlots, Nat.reduceBEq, Nat.reduceBeqDiff, Nat.add_assoc nid, Nat.reduceAdd, reduceCtorEq, ↓reduceIte, Nat.reduceLeDiff, colPV, freeOf, indep, offO, neqO, disj, namesX, axSlot, opXs, rdXs, idsOf, idsOfs, lowH, lowAll, keys, Nat.reduceBneDiff, Option.toList, ← Int.ofNat_tmod, ← Int.ofNat_tdiv, optInt, fillP, repl, chunk, mkCols, mkCol, colInts, colBools, colStrs, colLits, colsApp, Col.app, tailOf, splice, colsPut, Col.put, mmFold, eqK, Nat.reduceLT, colsPaste, Col.paste, strmC_low, e1, e2, e3, e4, e5, e6, e7, e8, e9]
    have hjm : j = m := by omega
    subst hjm
    have hw0 : ∀ i, i < j → word1 A (p + 2 * i) = (words0 A p j)[i]?.getD 0 := fun i hi => by rw [words0_get A p hi]; rfl
    have hl0 := words0_len A p j
    have hj0 : j = 0 := by omega
    have hw : words1 A p j = (words0 A p j, p + 2 * j) := by unfold words1; rw [if_pos hj0]
    have hl := hl0
    have hc := hw0
    refine CallO.on (flip_c s _ nl A (p + 2 * j) _ (by omega) (by omega) hA (by omega)) (subH_get (by simp only [aqT, ROp, OX, ↓seqK, ↓blkK, ↓loopK, step, stepBin, res, stepIdx, mix, PV.cells, argSlots, Nat.reduceBEq, Nat.reduceBeqDiff, Nat.add_assoc nid, Nat.reduceAdd, reduceCtorEq, ↓reduceIte, Nat.reduceLeDiff, colPV, freeOf, indep, offO, neqO, disj, namesX, axSlot, opXs, rdXs, idsOf, idsOfs, lowH, lowAll, keys, Nat.reduceBneDiff, Option.toList, ← Int.ofNat_tmod, ← Int.ofNat_tdiv, optInt, fillP, repl, chunk, mkCols, mkCol, colInts, colBools, colStrs, colLits, colsApp, Col.app, tailOf, splice, colsPut, Col.put, mmFold, eqK, Nat.reduceLT, colsPaste, Col.paste, e1, e2, e3, e4, e5, e6, e7, e8, e9])) ?_
    simp -dsimp only [aqT, ROp, OX, ↓seqK, ↓blkK, ↓loopK, step, stepBin, res, stepIdx, mix, PV.cells, argSlots, Nat.reduceBEq, Nat.reduceBeqDiff, Nat.add_assoc nid, Nat.reduceAdd, reduceCtorEq, ↓reduceIte, Nat.reduceLeDiff, colPV, freeOf, indep, offO, neqO, disj, namesX, axSlot, opXs, rdXs, idsOf, idsOfs, lowH, lowAll, keys, Nat.reduceBneDiff, Option.toList, ← Int.ofNat_tmod, ← Int.ofNat_tdiv, optInt, fillP, repl, chunk, mkCols, mkCol, colInts, colBools, colStrs, colLits, colsApp, Col.app, tailOf, splice, colsPut, Col.put, mmFold, eqK, Nat.reduceLT, colsPaste, Col.paste, strmC_low, e1, e2, e3, e4, e5, e6, e7, e8, e9]
    refine S2.intro (fun h5 => ?_) (fun h5 => ?_)
    · simp -dsimp only [aqT, ROp, OX, ↓seqK, ↓blkK, ↓loopK, step, stepBin, res, stepIdx, mix, PV.cells, argSlots, Nat.reduceBEq, Nat.reduceBeqDiff, Nat.add_assoc nid, Nat.reduceAdd, reduceCtorEq, ↓reduceIte, Nat.reduceLeDiff, colPV, freeOf, indep, offO, neqO, disj, namesX, axSlot, opXs, rdXs, idsOf, idsOfs, lowH, lowAll, keys, Nat.reduceBneDiff, Option.toList, ← Int.ofNat_tmod, ← Int.ofNat_tdiv, optInt, fillP, repl, chunk, mkCols, mkCol, colInts, colBools, colStrs, colLits, colsApp, Col.app, tailOf, splice, colsPut, Col.put, mmFold, eqK, Nat.reduceLT, colsPaste, Col.paste, strmC_low, e1, e2, e3, e4, e5, e6, e7, e8, e9]
      have hf : wordListV A p secs = (words0 A p j ++ [0], p + 2 * j + 1) := by unfold wordListV; rw [hm, hw]; simp only; rw [h5]; rfl
      rw [hf]
      refine ⟨⟨by omega, by omega⟩, RetOK.go [(nid, nid + 104)] [] (.inl rfl) ?_⟩
      simp [a10, retPV, over, keys, List.map_nil, List.map_cons, List.contains_cons, List.contains_nil, Bool.or_false, Bool.or_true, Bool.true_or, Bool.false_or, beq_self_eq_true, cond_true, cond_false, HeapCov, orNil, nilSz, onBlk, srcOf, getH_hit, getH_miss, getH.eq_1, getS_hit, getS_miss, getS.eq_1, BlkCov, PVCovs, PVCov, ColsEq, ColEq.refl, liveIds, SlotsCov, List.all_nil, List.all_cons, List.any_nil, List.any_cons, List.nil_append, List.cons_append, inRange, apart, nilBlk, idS1, idS2, readAll, readRes, onAll, step, res, AX.val, List.drop_zero, List.drop_succ_cons, List.take_succ_cons, List.take_zero, e1, e2, e3, e4, e5, e6, e7, e8, e9, strmC, arrI]
      exact ⟨⟨hl.symm, col_snoc hl hc 0⟩, hl.symm⟩
    · simp -dsimp only [aqT, ROp, OX, ↓seqK, ↓blkK, ↓loopK, step, stepBin, res, stepIdx, mix, PV.cells, argSlots, Nat.reduceBEq, Nat.reduceBeqDiff, Nat.add_assoc nid, Nat.reduceAdd, reduceCtorEq, ↓reduceIte, Nat.reduceLeDiff, colPV, freeOf, indep, offO, neqO, disj, namesX, axSlot, opXs, rdXs, idsOf, idsOfs, lowH, lowAll, keys, Nat.reduceBneDiff, Option.toList, ← Int.ofNat_tmod, ← Int.ofNat_tdiv, optInt, fillP, repl, chunk, mkCols, mkCol, colInts, colBools, colStrs, colLits, colsApp, Col.app, tailOf, splice, colsPut, Col.put, mmFold, eqK, Nat.reduceLT, colsPaste, Col.paste, strmC_low, e1, e2, e3, e4, e5, e6, e7, e8, e9]
      have hf : wordListV A p secs = (words0 A p j, p + 2 * j + 1) := by unfold wordListV; rw [hm, hw]; simp only; rw [h5]; rfl
      rw [hf]
      refine RetOK.go [(nid, nid + 52)] [] (.inl rfl) ?_
      simp [a10, retPV, over, keys, List.map_nil, List.map_cons, List.contains_cons, List.contains_nil, Bool.or_false, Bool.or_true, Bool.true_or, Bool.false_or, beq_self_eq_true, cond_true, cond_false, HeapCov, orNil, nilSz, onBlk, srcOf, getH_hit, getH_miss, getH.eq_1, getS_hit, getS_miss, getS.eq_1, BlkCov, PVCovs, PVCov, ColsEq, ColEq.refl, liveIds, SlotsCov, List.all_nil, List.all_cons, List.any_nil, List.any_cons, List.nil_append, List.cons_append, inRange, apart, nilBlk, idS1, idS2, readAll, readRes, onAll, step, res, AX.val, List.drop_zero, List.drop_succ_cons, List.take_succ_cons, List.take_zero, e1, e2, e3, e4, e5, e6, e7, e8, e9, strmC, arrI]
      exact ⟨⟨hl.symm, ColEq.i hc⟩, hl.symm⟩
end Go.Proofs.Ytmnhlfkphibhfaa
