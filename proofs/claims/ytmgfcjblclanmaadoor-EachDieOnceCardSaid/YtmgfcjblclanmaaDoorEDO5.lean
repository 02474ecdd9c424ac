/-
  The functions' forms for the abstract machine, each checked against the program's form.
-/
import Derived.Test.YtmgfcjblclanmaaDoorEDO4
import Derived.Test.YtmgfcjblclanmaaDoorEDO1
import Derived.Test.YtmgfcjblclanmaaDoorProg
import Derived.Test.YtmgfcjblclanmaaDoorEDO3
import Derived.Lib.Bytealg
import Derived.Laws.Externs
import Derived.KernelRfl
import Derived.Test.YtmgfcjblclanmaaDoorChecked
import Derived.Handed
import Derived.HandedShaped
import Derived.Shelf.Vars
set_option linter.unusedVariables false
set_option linter.unusedSimpArgs false
set_option maxRecDepth 100000
namespace Go.Proofs.YtmgfcjblclanmaaDoor
def a5 : AFn := ⟨141, [.t 2], .seq (.ops [⟨(some 2), none, .mv (.c (.bool false))⟩])
 (.seq (.ops [⟨(some 23), none, .mv (.t 0)⟩, ⟨(some 24), none, .build [(.lit true 0 []), (.int .i64 0)] [(0, 1, (.t 23))]⟩, ⟨(some 25), none, .box 25 (.t 24)⟩, ⟨(some 3), none, .mv (.t 25)⟩])
 (.seq (.ops [⟨(some 26), none, .mv (.t 3)⟩, ⟨(some 27), none, .call 21 [(.t 26)]⟩, ⟨(some 28), none, .mv (.t 3)⟩, ⟨(some 29), none, .call 22 [(.t 28)]⟩, ⟨(some 4), none, .alloc 28 [(.lit true 0 []), (.str [])]⟩, ⟨none, none, .store 2 (.t 4) (.t 27)⟩, ⟨(some 5), none, .mv (.t 29)⟩])
 (.seq (.seq (.ops [⟨(some 30), none, .mv (.t 5)⟩, ⟨(some 31), none, .call 23 [(.t 30)]⟩, ⟨(some 32), none, .bin 0 .neq (.t 31) (.c (.int .i64 0))⟩])
 (.cond (.t 32) (.seq (.ops [⟨(some 33), none, .call 13 []⟩, ⟨(some 2), none, .mv (.t 33)⟩])
 (.ret)) (.skip)))
 (.seq (.ops [⟨(some 35), none, .load (some 2) (.t 4)⟩, ⟨(some 36), none, .mv (.t 5)⟩, ⟨(some 37), none, .call 24 [(.t 35), (.t 36)]⟩, ⟨(some 34), none, .mv (.t 37)⟩, ⟨(some 38), none, .ext (.t 34) 0⟩, ⟨(some 39), none, .ext (.t 34) 1⟩, ⟨(some 40), none, .ext (.t 34) 2⟩, ⟨(some 6), none, .mv (.t 38)⟩, ⟨(some 7), none, .mv (.t 39)⟩, ⟨(some 8), none, .mv (.t 40)⟩])
 (.seq (.ops [⟨(some 42), none, .load (some 2) (.t 4)⟩, ⟨(some 43), none, .mv (.t 5)⟩, ⟨(some 44), none, .call 25 [(.t 42), (.t 43)]⟩, ⟨(some 41), none, .mv (.t 44)⟩, ⟨(some 45), none, .ext (.t 41) 0⟩, ⟨(some 46), none, .ext (.t 41) 1⟩, ⟨(some 47), none, .ext (.t 41) 2⟩, ⟨(some 9), none, .mv (.t 45)⟩, ⟨(some 10), none, .mv (.t 46)⟩, ⟨(some 11), none, .mv (.t 47)⟩])
 (.seq (.seq (.ops [⟨(some 48), none, .mv (.t 8)⟩, ⟨(some 49), none, .bin 0 .neq (.t 48) (.c (.int .i64 0))⟩, ⟨(some 50), none, .mv (.t 49)⟩, ⟨(some 51), (some (50, false)), .mv (.t 11)⟩, ⟨(some 52), (some (50, false)), .bin 0 .neq (.t 51) (.c (.int .i64 0))⟩, ⟨(some 53), none, .pick (.t 50) (.c (.bool true)) (.t 52)⟩, ⟨(some 54), none, .mv (.t 53)⟩, ⟨(some 55), (some (54, false)), .mv (.t 10)⟩, ⟨(some 56), (some (54, false)), .bin 0 .eql (.t 55) (.c (.int .i64 0))⟩, ⟨(some 57), (some (54, false)), .mv (.t 56)⟩, ⟨(some 58), (some (57, true)), .mv (.t 7)⟩, ⟨(some 59), (some (57, true)), .un .not (.t 58)⟩, ⟨(some 60), (some (54, false)), .pick (.t 57) (.t 59) (.c (.bool false))⟩, ⟨(some 61), none, .pick (.t 54) (.c (.bool true)) (.t 60)⟩, ⟨(some 62), none, .mv (.t 61)⟩, ⟨(some 63), (some (62, false)), .mv (.t 10)⟩, ⟨(some 64), (some (62, false)), .bin 0 .eql (.t 63) (.c (.int .i64 0))⟩, ⟨(some 65), (some (62, false)), .mv (.t 64)⟩, ⟨(some 66), (some (65, true)), .mv (.t 6)⟩, ⟨(some 67), (some (65, true)), .len false (.t 66)⟩, ⟨(some 68), (some (65, true)), .mv (.t 9)⟩, ⟨(some 69), (some (65, true)), .len false (.t 68)⟩, ⟨(some 70), (some (65, true)), .bin 0 .gtr (.t 67) (.t 69)⟩, ⟨(some 71), (some (62, false)), .pick (.t 65) (.t 70) (.c (.bool false))⟩, ⟨(some 72), none, .pick (.t 62) (.c (.bool true)) (.t 71)⟩])
 (.cond (.t 72) (.seq (.ops [⟨(some 2), none, .mv (.c (.bool false))⟩])
 (.ret)) (.skip)))
 (.seq (.seq (.ops [⟨(some 73), none, .mv (.t 7)⟩, ⟨(some 74), none, .un .not (.t 73)⟩])
 (.cond (.t 74) (.seq (.ops [⟨(some 75), none, .call 13 []⟩, ⟨(some 2), none, .mv (.t 75)⟩])
 (.ret)) (.skip)))
 (.seq (.ops [⟨(some 12), none, .mv (.c (.lit true 0 []))⟩])
 (.seq (.seq (.ops [⟨(some 76), none, .mv (.t 6)⟩, ⟨(some 77), none, .len false (.t 76)⟩, ⟨(some 78), none, .mv (.c (.int .i64 0))⟩])
 (.block 0 (.loop (.seq (.ops [⟨(some 79), none, .bin 0 .lss (.t 78) (.t 77)⟩])
 (.seq (.cond (.t 79) (.skip) (.exit 0))
 (.seq (.block 1 (.seq (.ops [⟨(some 80), none, .iadr 2 (.t 76) (.t 78)⟩, ⟨(some 81), none, .load (some 2) (.t 80)⟩, ⟨(some 14), none, .alloc 60 [(.int .i64 0), (.int .i64 0)]⟩, ⟨none, none, .store 2 (.t 14) (.t 81)⟩])
 (.seq (.ops [⟨(some 83), none, .load (some 2) (.t 4)⟩, ⟨(some 84), none, .mv (.t 5)⟩, ⟨(some 85), none, .load (some 2) (.t 14)⟩, ⟨(some 86), none, .call 26 [(.t 83), (.t 84), (.t 85)]⟩, ⟨(some 82), none, .mv (.t 86)⟩, ⟨(some 87), none, .ext (.t 82) 0⟩, ⟨(some 88), none, .ext (.t 82) 1⟩, ⟨(some 89), none, .ext (.t 82) 2⟩, ⟨(some 15), none, .mv (.t 87)⟩, ⟨(some 16), none, .mv (.t 88)⟩, ⟨(some 17), none, .mv (.t 89)⟩])
 (.seq (.seq (.ops [⟨(some 90), none, .mv (.t 17)⟩, ⟨(some 91), none, .bin 0 .neq (.t 90) (.c (.int .i64 0))⟩, ⟨(some 92), none, .mv (.t 91)⟩, ⟨(some 93), (some (92, false)), .mv (.t 15)⟩, ⟨(some 94), (some (92, false)), .len false (.t 93)⟩, ⟨(some 95), (some (92, false)), .bin 0 .eql (.t 94) (.c (.int .i64 0))⟩, ⟨(some 96), none, .pick (.t 92) (.c (.bool true)) (.t 95)⟩, ⟨(some 97), none, .mv (.t 96)⟩, ⟨(some 98), (some (97, false)), .mv (.t 15)⟩, ⟨(some 99), (some (97, false)), .len false (.t 98)⟩, ⟨(some 100), (some (97, false)), .mv (.t 16)⟩, ⟨(some 101), (some (97, false)), .bin 0 .add (.t 99) (.t 100)⟩, ⟨(some 102), (some (97, false)), .mv (.t 5)⟩, ⟨(some 103), (some (97, false)), .len false (.t 102)⟩, ⟨(some 104), (some (97, false)), .bin 0 .neq (.t 101) (.t 103)⟩, ⟨(some 105), none, .pick (.t 97) (.c (.bool true)) (.t 104)⟩])
 (.cond (.t 105) (.seq (.ops [⟨(some 2), none, .mv (.c (.bool false))⟩])
 (.ret)) (.skip)))
 (.ops [⟨(some 106), none, .mv (.t 12)⟩, ⟨(some 107), none, .mv (.t 15)⟩, ⟨(some 108), none, .app 60 2 16 (.t 106) (.t 107)⟩, ⟨(some 12), none, .mv (.t 108)⟩])))))
 (.ops [⟨(some 109), none, .bin 0 .add (.t 78) (.c (.int .i64 1))⟩, ⟨(some 78), none, .mv (.t 109)⟩])))))))
 (.seq (.ops [⟨(some 111), none, .load (some 2) (.t 4)⟩, ⟨(some 112), none, .call 12 [(.t 111)]⟩, ⟨(some 110), none, .mv (.t 112)⟩, ⟨(some 113), none, .ext (.t 110) 0⟩, ⟨(some 114), none, .ext (.t 110) 1⟩, ⟨(some 115), none, .ext (.t 110) 2⟩, ⟨(some 116), none, .ext (.t 110) 3⟩, ⟨(some 18), none, .mv (.t 113)⟩, ⟨(some 19), none, .mv (.t 114)⟩, ⟨(some 20), none, .mv (.t 115)⟩, ⟨(some 8), none, .mv (.t 116)⟩])
 (.seq (.seq (.ops [⟨(some 117), none, .mv (.t 12)⟩, ⟨(some 118), none, .len false (.t 117)⟩, ⟨(some 119), none, .mv (.c (.int .i64 0))⟩])
 (.block 2 (.loop (.seq (.ops [⟨(some 120), none, .bin 0 .lss (.t 119) (.t 118)⟩])
 (.seq (.cond (.t 120) (.skip) (.exit 2))
 (.seq (.block 3 (.seq (.ops [⟨(some 121), none, .mv (.t 119)⟩, ⟨(some 122), none, .iadr 2 (.t 117) (.t 119)⟩, ⟨(some 123), none, .load (some 2) (.t 122)⟩, ⟨(some 22), none, .alloc 60 [(.int .i64 0), (.int .i64 0)]⟩, ⟨(some 21), none, .mv (.t 121)⟩, ⟨none, none, .store 2 (.t 22) (.t 123)⟩])
 (.seq (.any [(⟨(some 124), none, .mv (.t 12)⟩, []), (⟨(some 125), none, .mv (.t 21)⟩, [0]), (⟨(some 126), none, .slc 2 (.t 124) none (some (.t 125))⟩, []), (⟨(some 127), none, .load (some 2) (.t 22)⟩, [0, 1, 2]), (⟨(some 128), none, .call 27 [(.t 126), (.t 127)]⟩, [])])
 (.cond (.t 128) (.seq (.ops [⟨(some 2), none, .mv (.c (.bool false))⟩])
 (.ret)) (.skip)))))
 (.ops [⟨(some 129), none, .bin 0 .add (.t 119) (.c (.int .i64 1))⟩, ⟨(some 119), none, .mv (.t 129)⟩])))))))
 (.seq (.ops [⟨(some 130), none, .mv (.t 8)⟩, ⟨(some 131), none, .bin 0 .eql (.t 130) (.c (.int .i64 0))⟩, ⟨(some 132), none, .mv (.t 131)⟩, ⟨(some 133), (some (132, true)), .mv (.t 12)⟩, ⟨(some 134), (some (132, true)), .len false (.t 133)⟩, ⟨(some 135), (some (132, true)), .mv (.t 20)⟩, ⟨(some 136), (some (132, true)), .bin 0 .eql (.t 134) (.t 135)⟩, ⟨(some 137), none, .pick (.t 132) (.t 136) (.c (.bool false))⟩, ⟨(some 138), none, .mv (.t 137)⟩, ⟨(some 139), (some (138, true)), .call 13 []⟩, ⟨(some 140), none, .pick (.t 138) (.t 139) (.c (.bool false))⟩, ⟨(some 2), none, .mv (.t 140)⟩])
 (.ret)))))))))))))⟩
theorem c5 : compF Go.Proofs.Tryd.prog 5 = some a5 := by kernel_rfl
def a6 : AFn := ⟨15, [.c 2 (some 2)], .seq (.ops [⟨(some 2), none, .alloc 28 [(.lit true 0 []), (.str [])]⟩])
 (.seq (.seq (.ops [⟨(some 4), none, .mv (.c (.int .i64 0))⟩])
 (.block 0 (.loop (.seq (.ops [⟨(some 5), none, .bin 0 .lss (.t 4) (.c (.int .i64 6))⟩])
 (.seq (.cond (.t 5) (.skip) (.exit 0))
 (.seq (.block 1 (.seq (.ops [⟨(some 6), none, .mv (.t 0)⟩, ⟨(some 7), none, .call 28 [(.t 6)]⟩, ⟨(some 3), none, .alloc 28 [(.lit true 0 []), (.str [])]⟩, ⟨none, none, .store 2 (.t 3) (.t 7)⟩])
 (.seq (.ops [⟨(some 8), none, .load (some 2) (.t 3)⟩, ⟨(some 9), none, .call 29 [(.t 8)]⟩, ⟨(some 10), none, .bin 0 .eql (.t 9) (.c (.int .i64 0))⟩])
 (.cond (.t 10) (.seq (.ops [⟨(some 11), none, .load (some 2) (.t 3)⟩, ⟨none, none, .store 2 (.t 2) (.t 11)⟩])
 (.ret)) (.skip)))))
 (.ops [⟨(some 12), none, .bin 0 .add (.t 4) (.c (.int .i64 1))⟩, ⟨(some 4), none, .mv (.t 12)⟩])))))))
 (.seq (.ops [⟨(some 13), none, .bslice 9 1 1 [(.str [])] [(0, 1, (.c (.str [49])))]⟩, ⟨(some 14), none, .build [(.lit true 0 []), (.str [])] [(0, 1, (.t 13)), (1, 1, (.c (.str [49])))]⟩, ⟨none, none, .store 2 (.t 2) (.t 14)⟩])
 (.ret)))⟩
theorem c6 : compF Go.Proofs.Tryd.prog 6 = some a6 := by kernel_rfl
def a8 : AFn := ⟨12, [.t 2, .t 3], .seq (.ops [⟨(some 1), none, .box 28 (.t 0)⟩, ⟨(some 2), none, .mv (.c (.lit true 0 []))⟩, ⟨(some 3), none, .mv (.c (.int .i64 0))⟩])
 (.seq (.seq (.ops [⟨(some 5), none, .load (some 2) (.t 1)⟩, ⟨(some 6), none, .call 30 [(.t 5)]⟩, ⟨(some 4), none, .mv (.t 6)⟩])
 (.seq (.ops [⟨(some 7), none, .mv (.t 4)⟩, ⟨(some 8), none, .bin 0 .neq (.t 7) (.c (.int .i64 0))⟩])
 (.cond (.t 8) (.seq (.ops [⟨(some 9), none, .mv (.t 4)⟩, ⟨(some 2), none, .mv (.c (.lit true 0 []))⟩, ⟨(some 3), none, .mv (.t 9)⟩])
 (.ret)) (.skip))))
 (.seq (.ops [⟨(some 10), none, .load (some 2) (.t 1)⟩, ⟨(some 11), none, .call 31 [(.t 10)]⟩, ⟨(some 2), none, .mv (.t 11)⟩, ⟨(some 3), none, .mv (.c (.int .i64 0))⟩])
 (.ret)))⟩
def a10 : AFn := ⟨19, [.t 6], .seq (.ops [⟨(some 6), none, .mv (.c (.int .i64 0))⟩])
 (.seq (.seq (.ops [⟨(some 7), none, .mv (.t 2)⟩, ⟨(some 8), none, .mv (.t 1)⟩, ⟨(some 9), none, .bin 0 .lss (.t 7) (.t 8)⟩])
 (.cond (.t 9) (.seq (.ops [⟨(some 10), none, .mv (.t 1)⟩, ⟨(some 6), none, .mv (.t 10)⟩])
 (.ret)) (.skip)))
 (.seq (.ops [⟨(some 11), none, .mv (.t 1)⟩, ⟨(some 12), none, .mv (.t 0)⟩, ⟨(some 13), none, .mv (.t 2)⟩, ⟨(some 14), none, .mv (.t 1)⟩, ⟨(some 15), none, .bin 0 .sub (.t 13) (.t 14)⟩, ⟨(some 16), none, .bin 0 .add (.t 15) (.c (.int .i64 1))⟩, ⟨(some 17), none, .call 41 [(.t 12), (.t 16)]⟩, ⟨(some 18), none, .bin 0 .add (.t 11) (.t 17)⟩, ⟨(some 6), none, .mv (.t 18)⟩])
 (.ret)))⟩
theorem c10 : compF Go.Proofs.Tryd.prog 10 = some a10 := by kernel_rfl
def a11 : AFn := ⟨27, [.c 2 (some 2), .t 3, .t 4], .seq (.ops [⟨(some 1), none, .box 28 (.t 0)⟩, ⟨(some 2), none, .alloc 42 [(.int .i64 0), (.int .i64 0)]⟩, ⟨(some 3), none, .mv (.c (.bool false))⟩, ⟨(some 4), none, .mv (.c (.int .i64 0))⟩])
 (.seq (.seq (.ops [⟨(some 8), none, .load (some 2) (.t 1)⟩, ⟨(some 9), none, .call 30 [(.t 8)]⟩, ⟨(some 5), none, .mv (.t 9)⟩])
 (.seq (.ops [⟨(some 10), none, .mv (.t 5)⟩, ⟨(some 11), none, .bin 0 .neq (.t 10) (.c (.int .i64 0))⟩])
 (.cond (.t 11) (.seq (.ops [⟨(some 12), none, .build [(.int .i64 0), (.int .i64 0)] []⟩, ⟨(some 13), none, .mv (.t 5)⟩, ⟨none, none, .store 2 (.t 2) (.t 12)⟩, ⟨(some 3), none, .mv (.c (.bool false))⟩, ⟨(some 4), none, .mv (.t 13)⟩])
 (.ret)) (.skip))))
 (.seq (.any [(⟨(some 15), none, .load (some 2) (.t 1)⟩, []), (⟨(some 16), none, .load (some 2) (.t 1)⟩, [0]), (⟨(some 17), none, .call 42 [(.t 16)]⟩, [0]), (⟨(some 18), none, .call 32 [(.t 15), (.t 17)]⟩, []), (⟨(some 14), none, .mv (.t 18)⟩, []), (⟨(some 19), none, .ext (.t 14) 0⟩, []), (⟨(some 20), none, .ext (.t 14) 1⟩, [5]), (⟨(some 6), none, .mv (.t 19)⟩, [6]), (⟨(some 7), none, .mv (.t 20)⟩, [])])
 (.seq (.seq (.ops [⟨(some 21), none, .mv (.t 7)⟩, ⟨(some 22), none, .bin 0 .eql (.t 21) (.c (.int .i64 0))⟩])
 (.cond (.t 22) (.seq (.ops [⟨(some 23), none, .build [(.int .i64 0), (.int .i64 0)] []⟩, ⟨none, none, .store 2 (.t 2) (.t 23)⟩, ⟨(some 3), none, .mv (.c (.bool false))⟩, ⟨(some 4), none, .mv (.c (.int .i64 0))⟩])
 (.ret)) (.skip)))
 (.seq (.ops [⟨(some 24), none, .mv (.t 6)⟩, ⟨(some 25), none, .mv (.t 7)⟩, ⟨(some 26), none, .call 33 [(.t 24), (.t 25)]⟩, ⟨none, none, .store 2 (.t 2) (.t 26)⟩, ⟨(some 3), none, .mv (.c (.bool true))⟩, ⟨(some 4), none, .mv (.c (.int .i64 0))⟩])
 (.ret)))))⟩
theorem c11 : compF Go.Proofs.Tryd.prog 11 = some a11 := by kernel_rfl
def a12 : AFn := ⟨60, [.t 2, .t 3, .t 4, .t 5], .seq (.ops [⟨(some 1), none, .box 28 (.t 0)⟩, ⟨(some 2), none, .mv (.c (.lit true 0 []))⟩, ⟨(some 3), none, .mv (.c (.int .i64 0))⟩, ⟨(some 4), none, .mv (.c (.int .i64 0))⟩, ⟨(some 5), none, .mv (.c (.int .i64 0))⟩])
 (.seq (.seq (.ops [⟨(some 13), none, .load (some 2) (.t 1)⟩, ⟨(some 14), none, .call 30 [(.t 13)]⟩, ⟨(some 6), none, .mv (.t 14)⟩])
 (.seq (.ops [⟨(some 15), none, .mv (.t 6)⟩, ⟨(some 16), none, .bin 0 .neq (.t 15) (.c (.int .i64 0))⟩])
 (.cond (.t 16) (.seq (.ops [⟨(some 17), none, .mv (.t 6)⟩, ⟨(some 2), none, .mv (.c (.lit true 0 []))⟩, ⟨(some 3), none, .mv (.c (.int .i64 0))⟩, ⟨(some 4), none, .mv (.c (.int .i64 0))⟩, ⟨(some 5), none, .mv (.t 17)⟩])
 (.ret)) (.skip))))
 (.seq (.ops [⟨(some 7), none, .alloc 83 [(.int .i64 0), (.int .i64 0), (.int .i64 0), (.int .i64 0), (.int .i64 0), (.int .i64 0), (.int .i64 0), (.int .i64 0), (.int .i64 0), (.int .i64 0), (.int .i64 0), (.int .i64 0), (.int .i64 0), (.int .i64 0), (.int .i64 0), (.int .i64 0), (.int .i64 0), (.int .i64 0), (.int .i64 0), (.int .i64 0), (.int .i64 0), (.int .i64 0), (.int .i64 0), (.int .i64 0), (.int .i64 0), (.int .i64 0), (.int .i64 0), (.int .i64 0), (.int .i64 0), (.int .i64 0), (.int .i64 0), (.int .i64 0), (.int .i64 0), (.int .i64 0), (.int .i64 0), (.int .i64 0), (.int .i64 0), (.int .i64 0), (.int .i64 0), (.int .i64 0), (.int .i64 0), (.int .i64 0), (.int .i64 0), (.int .i64 0), (.int .i64 0), (.int .i64 0), (.int .i64 0), (.int .i64 0), (.int .i64 0), (.int .i64 0), (.int .i64 0), (.int .i64 0), (.int .i64 0), (.int .i64 0), (.int .i64 0), (.int .i64 0), (.int .i64 0), (.int .i64 0), (.int .i64 0), (.int .i64 0), (.int .i64 0), (.int .i64 0), (.int .i64 0), (.int .i64 0), (.int .i64 0), (.int .i64 0), (.int .i64 0), (.int .i64 0), (.int .i64 0), (.int .i64 0), (.int .i64 0), (.int .i64 0), (.int .i64 0), (.int .i64 0), (.int .i64 0), (.int .i64 0), (.int .i64 0), (.int .i64 0), (.int .i64 0), (.int .i64 0), (.int .i64 0), (.int .i64 0), (.int .i64 0), (.int .i64 0), (.int .i64 0), (.int .i64 0), (.int .i64 0), (.int .i64 0), (.int .i64 0), (.int .i64 0), (.int .i64 0), (.int .i64 0), (.int .i64 0), (.int .i64 0), (.int .i64 0), (.int .i64 0), (.int .i64 0), (.int .i64 0), (.int .i64 0), (.int .i64 0), (.int .i64 0), (.int .i64 0), (.int .i64 0), (.int .i64 0), (.int .i64 0), (.int .i64 0), (.int .i64 0), (.int .i64 0), (.int .i64 0), (.int .i64 0), (.int .i64 0), (.int .i64 0), (.int .i64 0), (.int .i64 0), (.int .i64 0), (.int .i64 0), (.int .i64 0), (.int .i64 0), (.int .i64 0), (.int .i64 0), (.int .i64 0), (.int .i64 0), (.int .i64 0), (.int .i64 0), (.int .i64 0), (.int .i64 0), (.int .i64 0), (.int .i64 0), (.int .i64 0), (.int .i64 0), (.int .i64 0), (.int .i64 0), (.int .i64 0), (.int .i64 0), (.int .i64 0), (.int .i64 0), (.int .i64 0), (.int .i64 0), (.int .i64 0), (.int .i64 0), (.int .i64 0), (.int .i64 0), (.int .i64 0), (.int .i64 0), (.int .i64 0), (.int .i64 0), (.int .i64 0), (.int .i64 0), (.int .i64 0), (.int .i64 0), (.int .i64 0), (.int .i64 0), (.int .i64 0), (.int .i64 0), (.int .i64 0), (.int .i64 0), (.int .i64 0), (.int .i64 0), (.int .i64 0), (.int .i64 0), (.int .i64 0), (.int .i64 0), (.int .i64 0), (.int .i64 0), (.int .i64 0), (.int .i64 0), (.int .i64 0), (.int .i64 0), (.int .i64 0), (.int .i64 0), (.int .i64 0), (.int .i64 0), (.int .i64 0), (.int .i64 0), (.int .i64 0), (.int .i64 0), (.int .i64 0), (.int .i64 0), (.int .i64 0), (.int .i64 0), (.int .i64 0), (.int .i64 0), (.int .i64 0), (.int .i64 0), (.int .i64 0), (.int .i64 0), (.int .i64 0), (.int .i64 0), (.int .i64 0), (.int .i64 0), (.int .i64 0), (.int .i64 0), (.int .i64 0), (.int .i64 0), (.int .i64 0), (.int .i64 0), (.int .i64 0), (.int .i64 0), (.int .i64 0), (.int .i64 0), (.int .i64 0), (.int .i64 0), (.int .i64 0), (.int .i64 0), (.int .i64 0), (.int .i64 0), (.int .i64 0), (.int .i64 0), (.int .i64 0), (.int .i64 0), (.int .i64 0), (.int .i64 0), (.int .i64 0), (.int .i64 0), (.int .i64 0), (.int .i64 0), (.int .i64 0), (.int .i64 0), (.int .i64 0), (.int .i64 0), (.int .i64 0), (.int .i64 0), (.int .i64 0), (.int .i64 0), (.int .i64 0), (.int .i64 0), (.int .i64 0), (.int .i64 0), (.int .i64 0), (.int .i64 0), (.int .i64 0), (.int .i64 0), (.int .i64 0), (.int .i64 0), (.int .i64 0), (.int .i64 0), (.int .i64 0), (.int .i64 0), (.int .i64 0), (.int .i64 0), (.int .i64 0), (.int .i64 0), (.int .i64 0), (.int .i64 0), (.int .i64 0), (.int .i64 0), (.int .i64 0), (.int .i64 0), (.int .i64 0), (.int .i64 0), (.int .i64 0), (.int .i64 0), (.int .i64 0), (.int .i64 0), (.int .i64 0), (.int .i64 0)]⟩])
 (.seq (.seq (.ops [⟨(some 18), none, .load (some 2) (.t 1)⟩, ⟨(some 19), none, .call 42 [(.t 18)]⟩, ⟨(some 20), none, .len false (.t 19)⟩, ⟨(some 21), none, .mv (.c (.int .i64 0))⟩])
 (.block 0 (.loop (.seq (.ops [⟨(some 22), none, .bin 0 .lss (.t 21) (.t 20)⟩])
 (.seq (.cond (.t 22) (.skip) (.exit 0))
 (.seq (.block 1 (.seq (.ops [⟨(some 23), none, .iadr 2 (.t 19) (.t 21)⟩, ⟨(some 24), none, .load (some 2) (.t 23)⟩, ⟨(some 9), none, .alloc 60 [(.int .i64 0), (.int .i64 0)]⟩, ⟨none, none, .store 2 (.t 9) (.t 24)⟩])
 (.ops [⟨(some 25), none, .load (some 2) (.t 1)⟩, ⟨(some 26), none, .load (some 2) (.t 9)⟩, ⟨(some 27), none, .call 35 [(.t 25), (.t 26)]⟩, ⟨(some 28), none, .aadr 256 1 (.t 7) (.t 27)⟩, ⟨(some 29), none, .load none (.t 28)⟩, ⟨(some 30), none, .bin 0 .add (.t 29) (.c (.int .i64 1))⟩, ⟨(some 31), none, .aadr 256 1 (.t 7) (.t 27)⟩, ⟨none, none, .store 1 (.t 31) (.t 30)⟩])))
 (.ops [⟨(some 32), none, .bin 0 .add (.t 21) (.c (.int .i64 1))⟩, ⟨(some 21), none, .mv (.t 32)⟩])))))))
 (.seq (.ops [⟨(some 10), none, .mv (.c (.lit true 0 []))⟩])
 (.seq (.seq (.ops [⟨(some 33), none, .load (some 256) (.t 7)⟩, ⟨(some 34), none, .mv (.c (.int .i64 0))⟩])
 (.block 2 (.loop (.seq (.ops [⟨(some 35), none, .bin 0 .lss (.t 34) (.c (.int .i64 256))⟩])
 (.seq (.cond (.t 35) (.skip) (.exit 2))
 (.seq (.block 3 (.seq (.ops [⟨(some 36), none, .mv (.t 34)⟩, ⟨(some 37), none, .aidx 256 1 none (.t 33) (.t 34)⟩, ⟨(some 11), none, .mv (.t 36)⟩, ⟨(some 12), none, .mv (.t 37)⟩])
 (.seq (.ops [⟨(some 38), none, .mv (.t 12)⟩, ⟨(some 39), none, .bin 0 .gtr (.t 38) (.c (.int .i64 0))⟩, ⟨(some 40), none, .mv (.t 39)⟩, ⟨(some 41), (some (40, true)), .mv (.t 11)⟩, ⟨(some 42), (some (40, true)), .conv .u8 (.t 41)⟩, ⟨(some 43), (some (40, true)), .call 43 [(.t 42)]⟩, ⟨(some 44), none, .pick (.t 40) (.t 43) (.c (.bool false))⟩])
 (.cond (.t 44) (.ops [⟨(some 45), none, .mv (.t 10)⟩, ⟨(some 46), none, .mv (.t 11)⟩, ⟨(some 47), none, .conv .i32 (.t 46)⟩, ⟨(some 48), none, .i2s (.t 47)⟩, ⟨(some 49), none, .mv (.t 12)⟩, ⟨(some 50), none, .call 44 [(.t 49)]⟩, ⟨(some 51), none, .build [(.str []), (.str [])] [(0, 1, (.t 48)), (1, 1, (.t 50))]⟩, ⟨(some 52), none, .bslice 87 2 1 [(.str []), (.str [])] [(0, 2, (.t 51))]⟩, ⟨(some 53), none, .app 87 2 32 (.t 45) (.t 52)⟩, ⟨(some 10), none, .mv (.t 53)⟩]) (.skip)))))
 (.ops [⟨(some 54), none, .bin 0 .add (.t 34) (.c (.int .i64 1))⟩, ⟨(some 34), none, .mv (.t 54)⟩])))))))
 (.seq (.any [(⟨(some 55), none, .mv (.t 10)⟩, []), (⟨(some 56), none, .aadr 256 1 (.t 7) (.c (.int .i64 42))⟩, [0]), (⟨(some 57), none, .load none (.t 56)⟩, [0]), (⟨(some 58), none, .aadr 256 1 (.t 7) (.c (.int .i64 63))⟩, [0, 1, 2]), (⟨(some 59), none, .load none (.t 58)⟩, [0, 1, 2]), (⟨(some 2), none, .mv (.t 55)⟩, [1, 2, 3, 4]), (⟨(some 3), none, .mv (.t 57)⟩, [3, 4]), (⟨(some 4), none, .mv (.t 59)⟩, []), (⟨(some 5), none, .mv (.c (.int .i64 0))⟩, [])])
 (.ret)))))))⟩
theorem c12 : compF Go.Proofs.Tryd.prog 12 = some a12 := by kernel_rfl
def a13 : AFn := ⟨50, [.t 0], .seq (.ops [⟨(some 0), none, .mv (.c (.bool false))⟩])
 (.seq (.ops [⟨(some 9), none, .call 45 [(.c (.int .i64 4)), (.c (.int .i64 1))]⟩, ⟨(some 8), none, .mv (.t 9)⟩, ⟨(some 10), none, .ext (.t 8) 0⟩, ⟨(some 11), none, .ext (.t 8) 1⟩, ⟨(some 1), none, .mv (.t 10)⟩, ⟨(some 2), none, .mv (.t 11)⟩])
 (.seq (.ops [⟨(some 13), none, .call 46 [(.c (.int .i64 3))]⟩, ⟨(some 12), none, .mv (.t 13)⟩, ⟨(some 14), none, .ext (.t 12) 0⟩, ⟨(some 15), none, .ext (.t 12) 1⟩, ⟨(some 3), none, .mv (.t 14)⟩, ⟨(some 4), none, .mv (.t 15)⟩])
 (.seq (.ops [⟨(some 17), none, .bslice 9 1 1 [(.str [])] [(0, 1, (.c (.str [49, 120])))]⟩, ⟨(some 18), none, .build [(.lit true 0 []), (.str [])] [(0, 1, (.t 17)), (1, 1, (.c (.str [49])))]⟩, ⟨(some 19), none, .call 11 [(.t 18)]⟩, ⟨(some 16), none, .mv (.t 19)⟩, ⟨(some 20), none, .ext (.t 16) 0⟩, ⟨(some 21), none, .ext (.t 16) 1⟩, ⟨(some 22), none, .ext (.t 16) 2⟩, ⟨(some 5), none, .alloc 42 [(.int .i64 0), (.int .i64 0)]⟩, ⟨none, none, .store 2 (.t 5) (.t 20)⟩, ⟨(some 6), none, .mv (.t 21)⟩, ⟨(some 7), none, .mv (.t 22)⟩])
 (.seq (.ops [⟨(some 23), none, .mv (.t 2)⟩, ⟨(some 24), none, .bin 0 .eql (.t 23) (.c (.int .i64 0))⟩, ⟨(some 25), none, .mv (.t 24)⟩, ⟨(some 26), (some (25, true)), .mv (.t 1)⟩, ⟨(some 27), (some (25, true)), .bin 1 .eql (.t 26) (.c (.str [49, 49, 48]))⟩, ⟨(some 28), none, .pick (.t 25) (.t 27) (.c (.bool false))⟩, ⟨(some 29), none, .mv (.t 28)⟩, ⟨(some 30), (some (29, true)), .mv (.t 4)⟩, ⟨(some 31), (some (29, true)), .bin 0 .eql (.t 30) (.c (.int .i64 0))⟩, ⟨(some 32), none, .pick (.t 29) (.t 31) (.c (.bool false))⟩, ⟨(some 33), none, .mv (.t 32)⟩, ⟨(some 34), (some (33, true)), .mv (.t 3)⟩, ⟨(some 35), (some (33, true)), .len false (.t 34)⟩, ⟨(some 36), (some (33, true)), .bin 0 .eql (.t 35) (.c (.int .i64 3))⟩, ⟨(some 37), none, .pick (.t 33) (.t 36) (.c (.bool false))⟩, ⟨(some 38), none, .mv (.t 37)⟩, ⟨(some 39), (some (38, true)), .mv (.t 7)⟩, ⟨(some 40), (some (38, true)), .bin 0 .eql (.t 39) (.c (.int .i64 0))⟩, ⟨(some 41), none, .pick (.t 38) (.t 40) (.c (.bool false))⟩, ⟨(some 42), none, .mv (.t 41)⟩, ⟨(some 43), (some (42, true)), .mv (.t 6)⟩, ⟨(some 44), none, .pick (.t 42) (.t 43) (.c (.bool false))⟩, ⟨(some 45), none, .mv (.t 44)⟩, ⟨(some 46), (some (45, true)), .load (some 2) (.t 5)⟩, ⟨(some 47), (some (45, true)), .build [(.int .i64 0), (.int .i64 0)] [(0, 1, (.c (.int .i64 1))), (1, 1, (.c (.int .i64 2)))]⟩, ⟨(some 48), (some (45, true)), .eqs false [0, 0] (.t 46) (.t 47)⟩, ⟨(some 49), none, .pick (.t 45) (.t 48) (.c (.bool false))⟩, ⟨(some 0), none, .mv (.t 49)⟩])
 (.ret)))))⟩
theorem c13 : compF Go.Proofs.Tryd.prog 13 = some a13 := by kernel_rfl
def a15 : AFn := ⟨9, [.t 4], .seq (.ops [⟨(some 4), none, .mv (.c (.bool false))⟩])
 (.seq (.ops [⟨(some 5), none, .mv (.t 0)⟩, ⟨(some 6), none, .mv (.t 1)⟩, ⟨(some 7), none, .call 41 [(.t 5), (.t 6)]⟩, ⟨(some 8), none, .bin 0 .eql (.t 7) (.c (.int .i64 0))⟩, ⟨(some 4), none, .mv (.t 8)⟩])
 (.ret))⟩
theorem c15 : compF Go.Proofs.Tryd.prog 15 = some a15 := by kernel_rfl
def a17 : AFn := ⟨12, [.t 4], .seq (.ops [⟨(some 4), none, .mv (.c (.str []))⟩])
 (.seq (.ops [⟨(some 5), none, .mv (.t 1)⟩, ⟨(some 6), none, .mv (.t 0)⟩, ⟨(some 7), none, .mv (.t 1)⟩, ⟨(some 8), none, .len false (.t 7)⟩, ⟨(some 9), none, .call 41 [(.t 6), (.t 8)]⟩, ⟨(some 10), none, .iadr 1 (.t 5) (.t 9)⟩, ⟨(some 11), none, .load none (.t 10)⟩, ⟨(some 4), none, .mv (.t 11)⟩])
 (.ret))⟩
theorem c17 : compF Go.Proofs.Tryd.prog 17 = some a17 := by kernel_rfl
def a21 : AFn := ⟨30, [.c 2 (some 2)], .seq (.ops [⟨(some 2), none, .alloc 28 [(.lit true 0 []), (.str [])]⟩])
 (.seq (.ops [⟨(some 6), none, .mv (.t 0)⟩, ⟨(some 7), none, .call 10 [(.t 6), (.c (.int .i64 1)), (.c (.int .i64 4))]⟩, ⟨(some 3), none, .mv (.t 7)⟩])
 (.seq (.ops [⟨(some 8), none, .build [(.lit true 0 []), (.str [])] [(1, 1, (.c (.str [49])))]⟩, ⟨(some 4), none, .alloc 28 [(.lit true 0 []), (.str [])]⟩, ⟨none, none, .store 2 (.t 4) (.t 8)⟩])
 (.seq (.seq (.ops [⟨(some 9), none, .mv (.t 0)⟩, ⟨(some 10), none, .call 10 [(.t 9), (.c (.int .i64 1)), (.c (.int .i64 3))]⟩, ⟨(some 11), none, .mv (.c (.int .i64 0))⟩])
 (.block 0 (.loop (.seq (.ops [⟨(some 12), none, .bin 0 .lss (.t 11) (.t 10)⟩])
 (.seq (.cond (.t 12) (.skip) (.exit 0))
 (.seq (.block 1 (.seq (.ops [⟨(some 5), none, .mv (.c (.str []))⟩])
 (.seq (.seq (.ops [⟨(some 13), none, .mv (.t 3)⟩, ⟨(some 14), none, .mv (.c (.int .i64 0))⟩])
 (.block 2 (.loop (.seq (.ops [⟨(some 15), none, .bin 0 .lss (.t 14) (.t 13)⟩])
 (.seq (.cond (.t 15) (.skip) (.exit 2))
 (.seq (.block 3 (.ops [⟨(some 16), none, .mv (.t 5)⟩, ⟨(some 17), none, .mv (.t 0)⟩, ⟨(some 18), none, .bslice 9 1 6 [(.str [])] [(0, 1, (.c (.str [63]))), (1, 1, (.c (.str [63]))), (2, 1, (.c (.str [63]))), (3, 1, (.c (.str [63]))), (4, 1, (.c (.str [49]))), (5, 1, (.c (.str [46])))]⟩, ⟨(some 19), none, .call 17 [(.t 17), (.t 18)]⟩, ⟨(some 20), none, .bin 1 .add (.t 16) (.t 19)⟩, ⟨(some 5), none, .mv (.t 20)⟩]))
 (.ops [⟨(some 21), none, .bin 0 .add (.t 14) (.c (.int .i64 1))⟩, ⟨(some 14), none, .mv (.t 21)⟩])))))))
 (.ops [⟨(some 22), none, .fadr 0 (.t 4)⟩, ⟨(some 23), none, .load none (.t 22)⟩, ⟨(some 24), none, .mv (.t 5)⟩, ⟨(some 25), none, .bslice 9 1 1 [(.str [])] [(0, 1, (.t 24))]⟩, ⟨(some 26), none, .app 9 1 16 (.t 23) (.t 25)⟩, ⟨(some 27), none, .fadr 0 (.t 4)⟩, ⟨none, none, .store 1 (.t 27) (.t 26)⟩]))))
 (.ops [⟨(some 28), none, .bin 0 .add (.t 11) (.c (.int .i64 1))⟩, ⟨(some 11), none, .mv (.t 28)⟩])))))))
 (.seq (.ops [⟨(some 29), none, .load (some 2) (.t 4)⟩, ⟨none, none, .store 2 (.t 2) (.t 29)⟩])
 (.ret)))))⟩
theorem c21 : compF Go.Proofs.Tryd.prog 21 = some a21 := by kernel_rfl
def a22 : AFn := ⟨68, [.t 2], .seq (.ops [⟨(some 2), none, .mv (.c (.lit true 0 []))⟩])
 (.seq (.ops [⟨(some 6), none, .build [(.int .i64 0), (.int .i64 0)] []⟩, ⟨(some 7), none, .bslit 2 1 [(.int .i64 0), (.int .i64 0)] [(0, 2, (.t 6))]⟩, ⟨(some 8), none, .build [(.int .i64 0), (.int .i64 0)] []⟩, ⟨(some 9), none, .build [(.int .i64 0), (.int .i64 0)] [(0, 1, (.c (.int .i64 1)))]⟩, ⟨(some 10), none, .bslit 2 2 [(.int .i64 0), (.int .i64 0)] [(0, 2, (.t 8)), (2, 2, (.t 9))]⟩, ⟨(some 11), none, .build [(.int .i64 0), (.int .i64 0)] []⟩, ⟨(some 12), none, .build [(.int .i64 0), (.int .i64 0)] [(1, 1, (.c (.int .i64 1)))]⟩, ⟨(some 13), none, .bslit 2 2 [(.int .i64 0), (.int .i64 0)] [(0, 2, (.t 11)), (2, 2, (.t 12))]⟩, ⟨(some 14), none, .build [(.int .i64 0), (.int .i64 0)] []⟩, ⟨(some 15), none, .build [(.int .i64 0), (.int .i64 0)] [(0, 1, (.c (.int .i64 1)))]⟩, ⟨(some 16), none, .build [(.int .i64 0), (.int .i64 0)] [(1, 1, (.c (.int .i64 1)))]⟩, ⟨(some 17), none, .build [(.int .i64 0), (.int .i64 0)] [(0, 1, (.c (.int .i64 1))), (1, 1, (.c (.int .i64 1)))]⟩, ⟨(some 18), none, .bslit 2 4 [(.int .i64 0), (.int .i64 0)] [(0, 2, (.t 14)), (2, 2, (.t 15)), (4, 2, (.t 16)), (6, 2, (.t 17))]⟩, ⟨(some 19), none, .build [(.int .i64 0), (.int .i64 0)] []⟩, ⟨(some 20), none, .build [(.int .i64 0), (.int .i64 0)] [(0, 1, (.c (.int .i64 2)))]⟩, ⟨(some 21), none, .bslit 2 2 [(.int .i64 0), (.int .i64 0)] [(0, 2, (.t 19)), (2, 2, (.t 20))]⟩, ⟨(some 22), none, .build [(.int .i64 0), (.int .i64 0)] [(0, 1, (.c (.int .i64 1)))]⟩, ⟨(some 23), none, .build [(.int .i64 0), (.int .i64 0)] [(1, 1, (.c (.int .i64 1)))]⟩, ⟨(some 24), none, .bslit 2 2 [(.int .i64 0), (.int .i64 0)] [(0, 2, (.t 22)), (2, 2, (.t 23))]⟩, ⟨(some 25), none, .build [(.int .i64 0), (.int .i64 0)] []⟩, ⟨(some 26), none, .build [(.int .i64 0), (.int .i64 0)] [(0, 1, (.c (.int .i64 1))), (1, 1, (.c (.int .i64 1)))]⟩, ⟨(some 27), none, .bslit 2 2 [(.int .i64 0), (.int .i64 0)] [(0, 2, (.t 25)), (2, 2, (.t 26))]⟩, ⟨(some 28), none, .bslit 1 7 [(.lit true 0 [])] [(0, 1, (.t 7)), (1, 1, (.t 10)), (2, 1, (.t 13)), (3, 1, (.t 18)), (4, 1, (.t 21)), (5, 1, (.t 24)), (6, 1, (.t 27))]⟩, ⟨(some 3), none, .mv (.t 28)⟩])
 (.seq (.ops [⟨(some 29), none, .mv (.t 3)⟩, ⟨(some 30), none, .mv (.t 0)⟩, ⟨(some 31), none, .mv (.t 3)⟩, ⟨(some 32), none, .len false (.t 31)⟩, ⟨(some 33), none, .call 41 [(.t 30), (.t 32)]⟩, ⟨(some 34), none, .iadr 1 (.t 29) (.t 33)⟩, ⟨(some 35), none, .load none (.t 34)⟩, ⟨(some 36), none, .call 53 [(.t 35)]⟩, ⟨(some 4), none, .mv (.t 36)⟩])
 (.seq (.seq (.ops [⟨(some 37), none, .mv (.t 0)⟩, ⟨(some 38), none, .call 15 [(.t 37), (.c (.int .i64 15))]⟩])
 (.cond (.t 38) (.seq (.ops [⟨(some 39), none, .mv (.t 4)⟩, ⟨(some 40), none, .mv (.t 0)⟩, ⟨(some 41), none, .mv (.t 4)⟩, ⟨(some 42), none, .len false (.t 41)⟩, ⟨(some 43), none, .call 41 [(.t 40), (.t 42)]⟩, ⟨(some 44), none, .iadr 2 (.t 39) (.t 43)⟩, ⟨(some 5), none, .mv (.t 44)⟩])
 (.any [(⟨(some 45), none, .mv (.t 5)⟩, []), (⟨(some 46), none, .mv (.t 5)⟩, [0]), (⟨(some 47), none, .mv (.t 0)⟩, [0, 1]), (⟨(some 48), none, .mv (.t 5)⟩, [0, 1, 2]), (⟨(some 49), none, .nilchk (.t 48)⟩, [0, 1, 2]), (⟨(some 50), none, .fadr 0 (.t 49)⟩, [0, 1, 2]), (⟨(some 51), none, .load none (.t 50)⟩, [0, 1, 2]), (⟨(some 52), none, .bslice 3 1 4 [(.int .i64 0)] [(0, 1, (.t 51)), (1, 1, (.c (.int .i64 (-1)))), (2, 1, (.c (.int .i64 60))), (3, 1, (.c (.int .i64 1)))]⟩, [0, 1, 2]), (⟨(some 53), none, .call 54 [(.t 47), (.t 52)]⟩, [0, 1]), (⟨(some 54), none, .mv (.t 0)⟩, [0, 1, 2, 3, 4, 5, 6, 7, 8]), (⟨(some 55), none, .mv (.t 5)⟩, [0, 1, 2, 3, 4, 5, 6, 7, 8, 9]), (⟨(some 56), none, .nilchk (.t 55)⟩, [0, 1, 2, 3, 4, 5, 6, 7, 8, 9]), (⟨(some 57), none, .fadr 1 (.t 56)⟩, [0, 1, 2, 3, 4, 5, 6, 7, 8, 9]), (⟨(some 58), none, .load none (.t 57)⟩, [0, 1, 2, 3, 4, 5, 6, 7, 8, 9]), (⟨(some 59), none, .bslice 3 1 3 [(.int .i64 0)] [(0, 1, (.t 58)), (1, 1, (.c (.int .i64 2))), (2, 1, (.c (.int .i64 60)))]⟩, [0, 1, 2, 3, 4, 5, 6, 7, 8, 9]), (⟨(some 60), none, .call 54 [(.t 54), (.t 59)]⟩, [0, 1]), (⟨(some 61), none, .nilchk (.t 45)⟩, [1]), (⟨(some 62), none, .fadr 0 (.t 61)⟩, [1]), (⟨none, none, .store 1 (.t 62) (.t 53)⟩, [1]), (⟨(some 63), none, .nilchk (.t 46)⟩, []), (⟨(some 64), none, .fadr 1 (.t 63)⟩, []), (⟨none, none, .store 1 (.t 64) (.t 60)⟩, [])])) (.skip)))
 (.seq (.seq (.ops [⟨(some 65), none, .mv (.t 0)⟩, ⟨(some 66), none, .call 15 [(.t 65), (.c (.int .i64 60))]⟩])
 (.cond (.t 66) (.ops [⟨(some 4), none, .mv (.c (.lit true 0 []))⟩]) (.skip)))
 (.seq (.ops [⟨(some 67), none, .mv (.t 4)⟩, ⟨(some 2), none, .mv (.t 67)⟩])
 (.ret))))))⟩
theorem c22 : compF Go.Proofs.Tryd.prog 22 = some a22 := by kernel_rfl
def a23 : AFn := ⟨65, [.t 2], .seq (.ops [⟨(some 2), none, .mv (.c (.int .i64 0))⟩])
 (.seq (.block 0 (.seq (.ops [⟨(some 8), none, .mv (.t 0)⟩, ⟨(some 9), none, .len false (.t 8)⟩, ⟨(some 10), none, .bin 0 .eql (.t 9) (.c (.int .i64 0))⟩, ⟨(some 7), none, .mv (.t 10)⟩])
 (.cond (.t 7) (.seq (.ops [⟨(some 2), none, .mv (.c (.int .i64 8))⟩])
 (.ret)) (.seq (.ops [⟨(some 12), none, .mv (.t 0)⟩, ⟨(some 13), none, .len false (.t 12)⟩, ⟨(some 14), none, .bin 0 .gtr (.t 13) (.c (.int .i64 8))⟩, ⟨(some 11), none, .mv (.t 14)⟩])
 (.cond (.t 11) (.seq (.ops [⟨(some 2), none, .mv (.c (.int .i64 2))⟩])
 (.ret)) (.skip))))))
 (.seq (.ops [⟨(some 3), none, .mv (.c (.bool false))⟩, ⟨(some 4), none, .mv (.c (.bool false))⟩])
 (.seq (.seq (.ops [⟨(some 15), none, .mv (.t 0)⟩, ⟨(some 16), none, .len false (.t 15)⟩, ⟨(some 17), none, .mv (.c (.int .i64 0))⟩])
 (.block 1 (.loop (.seq (.ops [⟨(some 18), none, .bin 0 .lss (.t 17) (.t 16)⟩])
 (.seq (.cond (.t 18) (.skip) (.exit 1))
 (.seq (.block 2 (.seq (.ops [⟨(some 19), none, .mv (.t 17)⟩, ⟨(some 20), none, .iadr 2 (.t 15) (.t 17)⟩, ⟨(some 21), none, .load (some 2) (.t 20)⟩, ⟨(some 6), none, .alloc 60 [(.int .i64 0), (.int .i64 0)]⟩, ⟨(some 5), none, .mv (.t 19)⟩, ⟨none, none, .store 2 (.t 6) (.t 21)⟩])
 (.seq (.block 3 (.seq (.ops [⟨(some 23), none, .fadr 0 (.t 6)⟩, ⟨(some 24), none, .load none (.t 23)⟩, ⟨(some 25), none, .call 55 [(.t 24), (.c (.int .i64 0)), (.c (.int .i64 59))]⟩, ⟨(some 26), none, .un .not (.t 25)⟩, ⟨(some 27), none, .mv (.t 26)⟩, ⟨(some 28), (some (27, false)), .fadr 1 (.t 6)⟩, ⟨(some 29), (some (27, false)), .load none (.t 28)⟩, ⟨(some 30), (some (27, false)), .call 55 [(.t 29), (.c (.int .i64 0)), (.c (.int .i64 59))]⟩, ⟨(some 31), (some (27, false)), .un .not (.t 30)⟩, ⟨(some 32), none, .pick (.t 27) (.c (.bool true)) (.t 31)⟩, ⟨(some 22), none, .mv (.t 32)⟩])
 (.cond (.t 22) (.seq (.ops [⟨(some 2), none, .mv (.c (.int .i64 1))⟩])
 (.ret)) (.seq (.any [(⟨(some 34), none, .mv (.t 5)⟩, []), (⟨(some 35), none, .bin 0 .gtr (.t 34) (.c (.int .i64 0))⟩, []), (⟨(some 36), none, .mv (.t 35)⟩, []), (⟨(some 37), (some (36, true)), .mv (.t 0)⟩, []), (⟨(some 38), (some (36, true)), .mv (.t 5)⟩, [3]), (⟨(some 39), (some (36, true)), .bin 0 .sub (.t 38) (.c (.int .i64 1))⟩, [3]), (⟨(some 40), (some (36, true)), .iadr 2 (.t 37) (.t 39)⟩, []), (⟨(some 41), (some (36, true)), .load (some 2) (.t 40)⟩, []), (⟨(some 42), (some (36, true)), .load (some 2) (.t 6)⟩, [3, 4, 5, 6, 7]), (⟨(some 43), (some (36, true)), .call 56 [(.t 41), (.t 42)]⟩, []), (⟨(some 44), (some (36, true)), .bin 0 .geq (.t 43) (.c (.int .i64 0))⟩, []), (⟨(some 45), none, .pick (.t 36) (.t 44) (.c (.bool false))⟩, []), (⟨(some 33), none, .mv (.t 45)⟩, [])])
 (.cond (.t 33) (.seq (.ops [⟨(some 2), none, .mv (.c (.int .i64 7))⟩])
 (.ret)) (.skip))))))
 (.any [(⟨(some 46), none, .mv (.t 3)⟩, []), (⟨(some 47), none, .mv (.t 46)⟩, []), (⟨(some 48), (some (47, false)), .fadr 0 (.t 6)⟩, []), (⟨(some 49), (some (47, false)), .load none (.t 48)⟩, []), (⟨(some 50), (some (47, false)), .bin 0 .eql (.t 49) (.c (.int .i64 0))⟩, []), (⟨(some 51), none, .pick (.t 47) (.c (.bool true)) (.t 50)⟩, []), (⟨(some 52), none, .mv (.t 4)⟩, [0, 1, 2, 3, 4, 5]), (⟨(some 53), none, .mv (.t 52)⟩, [2, 3, 4, 5]), (⟨(some 54), (some (53, false)), .fadr 1 (.t 6)⟩, [2, 3, 4, 5]), (⟨(some 55), (some (53, false)), .load none (.t 54)⟩, [2, 3, 4, 5]), (⟨(some 56), (some (53, false)), .bin 0 .eql (.t 55) (.c (.int .i64 0))⟩, [2, 3, 4, 5]), (⟨(some 57), none, .pick (.t 53) (.c (.bool true)) (.t 56)⟩, [2, 3, 4, 5]), (⟨(some 3), none, .mv (.t 51)⟩, [8, 9, 10, 11]), (⟨(some 4), none, .mv (.t 57)⟩, [])]))))
 (.ops [⟨(some 58), none, .bin 0 .add (.t 17) (.c (.int .i64 1))⟩, ⟨(some 17), none, .mv (.t 58)⟩])))))))
 (.seq (.seq (.ops [⟨(some 59), none, .mv (.t 3)⟩, ⟨(some 60), none, .un .not (.t 59)⟩, ⟨(some 61), none, .mv (.t 60)⟩, ⟨(some 62), (some (61, false)), .mv (.t 4)⟩, ⟨(some 63), (some (61, false)), .un .not (.t 62)⟩, ⟨(some 64), none, .pick (.t 61) (.c (.bool true)) (.t 63)⟩])
 (.cond (.t 64) (.seq (.ops [⟨(some 2), none, .mv (.c (.int .i64 3))⟩])
 (.ret)) (.skip)))
 (.seq (.ops [⟨(some 2), none, .mv (.c (.int .i64 0))⟩])
 (.ret))))))⟩
theorem c23 : compF Go.Proofs.Tryd.prog 23 = some a23 := by kernel_rfl
def a24 : AFn := ⟨62, [.t 4, .t 5, .t 6], .seq (.ops [⟨(some 2), none, .box 28 (.t 0)⟩, ⟨(some 4), none, .mv (.c (.lit true 0 []))⟩, ⟨(some 5), none, .mv (.c (.bool false))⟩, ⟨(some 6), none, .mv (.c (.int .i64 0))⟩])
 (.seq (.seq (.ops [⟨(some 14), none, .load (some 2) (.t 2)⟩, ⟨(some 15), none, .mv (.t 1)⟩, ⟨(some 16), none, .call 57 [(.t 14), (.t 15)]⟩, ⟨(some 7), none, .mv (.t 16)⟩])
 (.seq (.ops [⟨(some 17), none, .mv (.t 7)⟩, ⟨(some 18), none, .bin 0 .neq (.t 17) (.c (.int .i64 0))⟩])
 (.cond (.t 18) (.seq (.ops [⟨(some 19), none, .mv (.t 7)⟩, ⟨(some 4), none, .mv (.c (.lit true 0 []))⟩, ⟨(some 5), none, .mv (.c (.bool false))⟩, ⟨(some 6), none, .mv (.t 19)⟩])
 (.ret)) (.skip))))
 (.seq (.ops [⟨(some 20), none, .load (some 2) (.t 2)⟩, ⟨(some 21), none, .call 42 [(.t 20)]⟩, ⟨(some 22), none, .mkfn 58 [(.t 2)]⟩, ⟨(some 23), none, .call 51 [(.t 21), (.t 22)]⟩, ⟨(some 8), none, .mv (.t 23)⟩])
 (.seq (.seq (.ops [⟨(some 24), none, .mv (.t 8)⟩, ⟨(some 25), none, .len false (.t 24)⟩, ⟨(some 26), none, .bin 0 .gtr (.t 25) (.c (.int .i64 14))⟩])
 (.cond (.t 26) (.seq (.ops [⟨(some 4), none, .mv (.c (.lit true 0 []))⟩, ⟨(some 5), none, .mv (.c (.bool false))⟩, ⟨(some 6), none, .mv (.c (.int .i64 2))⟩])
 (.ret)) (.skip)))
 (.seq (.ops [⟨(some 27), none, .load (some 2) (.t 2)⟩, ⟨(some 28), none, .mv (.t 1)⟩, ⟨(some 29), none, .mv (.t 8)⟩, ⟨(some 30), none, .call 60 [(.t 27), (.t 28), (.t 29)]⟩, ⟨(some 9), none, .mv (.t 30)⟩])
 (.seq (.ops [⟨(some 31), none, .mv (.t 9)⟩, ⟨(some 32), none, .mv (.t 8)⟩, ⟨(some 33), none, .len false (.t 32)⟩, ⟨(some 34), none, .call 61 [(.t 31), (.t 33)]⟩, ⟨(some 10), none, .alloc 22 [(.lit true 0 [])]⟩, ⟨none, none, .store 1 (.t 10) (.t 34)⟩])
 (.seq (.ops [⟨(some 35), none, .mv (.t 8)⟩, ⟨(some 36), none, .len false (.t 35)⟩, ⟨(some 37), none, .bin 0 .shl (.c (.int .u64 1)) (.t 36)⟩, ⟨(some 38), none, .bin 0 .sub (.t 37) (.c (.int .u64 1))⟩, ⟨(some 11), none, .alloc 107 [(.int .u64 0)]⟩, ⟨none, none, .store 1 (.t 11) (.t 38)⟩])
 (.seq (.ops [⟨(some 12), none, .mv (.c (.lit true 0 []))⟩])
 (.seq (.block 0 (.loop (.seq (.seq (.ops [⟨(some 39), none, .load none (.t 11)⟩, ⟨(some 40), none, .bin 0 .neq (.t 39) (.c (.int .u64 0))⟩])
 (.cond (.t 40) (.skip) (.exit 0)))
 (.block 1 (.seq (.ops [⟨(some 41), none, .mv (.t 9)⟩, ⟨(some 42), none, .mkfn 63 [(.t 11), (.t 10)]⟩, ⟨(some 43), none, .call 62 [(.t 41), (.t 42)]⟩, ⟨(some 13), none, .mv (.t 43)⟩])
 (.seq (.seq (.ops [⟨(some 44), none, .mv (.t 13)⟩, ⟨(some 45), none, .bin 0 .lss (.t 44) (.c (.int .i64 0))⟩])
 (.cond (.t 45) (.seq (.ops [⟨(some 4), none, .mv (.c (.lit true 0 []))⟩, ⟨(some 5), none, .mv (.c (.bool false))⟩, ⟨(some 6), none, .mv (.c (.int .i64 0))⟩])
 (.ret)) (.skip)))
 (.seq (.ops [⟨(some 46), none, .mv (.t 12)⟩, ⟨(some 47), none, .mv (.t 9)⟩, ⟨(some 48), none, .mv (.t 13)⟩, ⟨(some 49), none, .iadr 3 (.t 47) (.t 48)⟩, ⟨(some 50), none, .fadr 0 (.t 49)⟩, ⟨(some 51), none, .load (some 2) (.t 50)⟩, ⟨(some 52), none, .bslice 60 2 1 [(.int .i64 0), (.int .i64 0)] [(0, 2, (.t 51))]⟩, ⟨(some 53), none, .app 60 2 16 (.t 46) (.t 52)⟩, ⟨(some 12), none, .mv (.t 53)⟩])
 (.any [(⟨(some 54), none, .load none (.t 11)⟩, []), (⟨(some 55), none, .mv (.t 9)⟩, [0]), (⟨(some 56), none, .mv (.t 13)⟩, [0, 1]), (⟨(some 57), none, .iadr 3 (.t 55) (.t 56)⟩, [0]), (⟨(some 58), none, .fadr 2 (.t 57)⟩, [0]), (⟨(some 59), none, .load none (.t 58)⟩, [0]), (⟨(some 60), none, .bin 0 .andNot (.t 54) (.t 59)⟩, []), (⟨none, none, .store 1 (.t 11) (.t 60)⟩, [])]))))))))
 (.seq (.ops [⟨(some 61), none, .mv (.t 12)⟩, ⟨(some 4), none, .mv (.t 61)⟩, ⟨(some 5), none, .mv (.c (.bool true))⟩, ⟨(some 6), none, .mv (.c (.int .i64 0))⟩])
 (.ret))))))))))⟩
theorem c24 : compF Go.Proofs.Tryd.prog 24 = some a24 := by kernel_rfl
def a25 : AFn := ⟨92, [.t 4, .t 5, .t 6], .seq (.ops [⟨(some 2), none, .box 28 (.t 0)⟩, ⟨(some 4), none, .mv (.c (.lit true 0 []))⟩, ⟨(some 5), none, .mv (.c (.int .i64 0))⟩, ⟨(some 6), none, .mv (.c (.int .i64 0))⟩])
 (.seq (.seq (.ops [⟨(some 17), none, .load (some 2) (.t 2)⟩, ⟨(some 18), none, .mv (.t 1)⟩, ⟨(some 19), none, .call 57 [(.t 17), (.t 18)]⟩, ⟨(some 7), none, .mv (.t 19)⟩])
 (.seq (.ops [⟨(some 20), none, .mv (.t 7)⟩, ⟨(some 21), none, .bin 0 .neq (.t 20) (.c (.int .i64 0))⟩])
 (.cond (.t 21) (.seq (.ops [⟨(some 22), none, .mv (.t 7)⟩, ⟨(some 4), none, .mv (.c (.lit true 0 []))⟩, ⟨(some 5), none, .mv (.c (.int .i64 0))⟩, ⟨(some 6), none, .mv (.t 22)⟩])
 (.ret)) (.skip))))
 (.seq (.ops [⟨(some 23), none, .mmk .p (.bool false)⟩, ⟨(some 8), none, .mv (.t 23)⟩])
 (.seq (.ops [⟨(some 9), none, .mv (.c (.lit true 0 []))⟩])
 (.seq (.ops [⟨(some 10), none, .mv (.c (.int .i64 0))⟩])
 (.seq (.seq (.ops [⟨(some 24), none, .load (some 2) (.t 2)⟩, ⟨(some 25), none, .call 42 [(.t 24)]⟩, ⟨(some 26), none, .len false (.t 25)⟩, ⟨(some 27), none, .mv (.c (.int .i64 0))⟩])
 (.block 0 (.loop (.seq (.ops [⟨(some 28), none, .bin 0 .lss (.t 27) (.t 26)⟩])
 (.seq (.cond (.t 28) (.skip) (.exit 0))
 (.seq (.block 1 (.seq (.ops [⟨(some 29), none, .iadr 2 (.t 25) (.t 27)⟩, ⟨(some 30), none, .load (some 2) (.t 29)⟩, ⟨(some 12), none, .alloc 60 [(.int .i64 0), (.int .i64 0)]⟩, ⟨none, none, .store 2 (.t 12) (.t 30)⟩])
 (.seq (.seq (.ops [⟨(some 31), none, .load (some 2) (.t 2)⟩, ⟨(some 32), none, .load (some 2) (.t 12)⟩, ⟨(some 33), none, .call 59 [(.t 31), (.t 32)]⟩, ⟨(some 34), none, .un .not (.t 33)⟩, ⟨(some 35), none, .mv (.t 34)⟩, ⟨(some 36), (some (35, false)), .mv (.t 8)⟩, ⟨(some 37), (some (35, false)), .load (some 2) (.t 12)⟩, ⟨(some 38), (some (35, false)), .mlk false .p (.bool false) (.t 36) (.t 37)⟩, ⟨(some 39), none, .pick (.t 35) (.c (.bool true)) (.t 38)⟩])
 (.cond (.t 39) (.exit 1) (.skip)))
 (.seq (.any [(⟨(some 40), none, .fadr 0 (.t 12)⟩, []), (⟨(some 41), none, .load none (.t 40)⟩, []), (⟨(some 42), none, .mv (.t 1)⟩, [0, 1]), (⟨(some 43), none, .iadr 2 (.t 42) (.c (.int .i64 0))⟩, [0, 1]), (⟨(some 44), none, .fadr 0 (.t 43)⟩, [0, 1]), (⟨(some 45), none, .load none (.t 44)⟩, [0, 1]), (⟨(some 46), none, .bin 0 .sub (.t 41) (.t 45)⟩, []), (⟨(some 47), none, .fadr 1 (.t 12)⟩, [0, 1, 2, 3, 4, 5, 6]), (⟨(some 48), none, .load none (.t 47)⟩, [0, 1, 2, 3, 4, 5, 6]), (⟨(some 49), none, .mv (.t 1)⟩, [0, 1, 2, 3, 4, 5, 6, 7, 8]), (⟨(some 50), none, .iadr 2 (.t 49) (.c (.int .i64 0))⟩, [0, 1, 2, 3, 4, 5, 6, 7, 8]), (⟨(some 51), none, .fadr 1 (.t 50)⟩, [0, 1, 2, 3, 4, 5, 6, 7, 8]), (⟨(some 52), none, .load none (.t 51)⟩, [0, 1, 2, 3, 4, 5, 6, 7, 8]), (⟨(some 53), none, .bin 0 .sub (.t 48) (.t 52)⟩, [0, 1, 2, 3, 4, 5, 6]), (⟨(some 54), none, .build [(.int .i64 0), (.int .i64 0)] [(0, 1, (.t 46)), (1, 1, (.t 53))]⟩, []), (⟨(some 13), none, .alloc 60 [(.int .i64 0), (.int .i64 0)]⟩, [0, 1, 2, 3, 4, 5, 6, 7, 8, 9, 10, 11, 12, 13, 14]), (⟨none, none, .store 2 (.t 13) (.t 54)⟩, [])])
 (.seq (.ops [⟨(some 55), none, .mv (.t 9)⟩, ⟨(some 56), none, .load (some 2) (.t 13)⟩, ⟨(some 57), none, .bslice 60 2 1 [(.int .i64 0), (.int .i64 0)] [(0, 2, (.t 56))]⟩, ⟨(some 58), none, .app 60 2 16 (.t 55) (.t 57)⟩, ⟨(some 9), none, .mv (.t 58)⟩])
 (.seq (.ops [⟨(some 59), none, .mv (.t 1)⟩, ⟨(some 60), none, .load (some 2) (.t 13)⟩, ⟨(some 61), none, .call 64 [(.t 59), (.t 60)]⟩, ⟨(some 62), none, .len false (.t 61)⟩, ⟨(some 63), none, .mv (.c (.int .i64 0))⟩])
 (.block 2 (.loop (.seq (.ops [⟨(some 64), none, .bin 0 .lss (.t 63) (.t 62)⟩])
 (.seq (.cond (.t 64) (.skip) (.exit 2))
 (.seq (.block 3 (.seq (.ops [⟨(some 65), none, .iadr 2 (.t 61) (.t 63)⟩, ⟨(some 66), none, .load (some 2) (.t 65)⟩, ⟨(some 15), none, .alloc 60 [(.int .i64 0), (.int .i64 0)]⟩, ⟨none, none, .store 2 (.t 15) (.t 66)⟩])
 (.seq (.ops [⟨(some 67), none, .load (some 2) (.t 2)⟩, ⟨(some 68), none, .load (some 2) (.t 15)⟩, ⟨(some 69), none, .call 35 [(.t 67), (.t 68)]⟩, ⟨(some 16), none, .mv (.t 69)⟩])
 (.seq (.seq (.ops [⟨(some 70), none, .mv (.t 16)⟩, ⟨(some 71), none, .call 65 [(.t 70)]⟩, ⟨(some 72), none, .mv (.t 71)⟩, ⟨(some 73), (some (72, false)), .mv (.t 8)⟩, ⟨(some 74), (some (72, false)), .load (some 2) (.t 15)⟩, ⟨(some 75), (some (72, false)), .mlk false .p (.bool false) (.t 73) (.t 74)⟩, ⟨(some 76), none, .pick (.t 72) (.c (.bool true)) (.t 75)⟩])
 (.cond (.t 76) (.ops [⟨(some 77), none, .mv (.t 10)⟩, ⟨(some 78), none, .bin 0 .add (.t 77) (.c (.int .i64 1))⟩, ⟨(some 10), none, .mv (.t 78)⟩]) (.skip)))
 (.any [(⟨(some 79), none, .mv (.t 8)⟩, []), (⟨(some 80), none, .load (some 2) (.t 15)⟩, [0]), (⟨(some 81), none, .mv (.t 8)⟩, [0, 1]), (⟨(some 82), none, .load (some 2) (.t 15)⟩, [0, 1, 2]), (⟨(some 83), none, .mlk false .p (.bool false) (.t 81) (.t 82)⟩, [0, 1]), (⟨(some 84), none, .mv (.t 83)⟩, [0, 1]), (⟨(some 85), (some (84, false)), .mv (.t 16)⟩, [0, 1]), (⟨(some 86), (some (84, false)), .bin 0 .eql (.t 85) (.c (.int .u8 63))⟩, [0, 1]), (⟨(some 87), none, .pick (.t 84) (.c (.bool true)) (.t 86)⟩, [0, 1]), (⟨none, none, .mup .p (.t 79) (.t 80) (.t 87)⟩, [])])))))
 (.ops [⟨(some 88), none, .bin 0 .add (.t 63) (.c (.int .i64 1))⟩, ⟨(some 63), none, .mv (.t 88)⟩]))))))))))))
 (.ops [⟨(some 89), none, .bin 0 .add (.t 27) (.c (.int .i64 1))⟩, ⟨(some 27), none, .mv (.t 89)⟩])))))))
 (.seq (.ops [⟨(some 90), none, .mv (.t 9)⟩, ⟨(some 91), none, .mv (.t 10)⟩, ⟨(some 4), none, .mv (.t 90)⟩, ⟨(some 5), none, .mv (.t 91)⟩, ⟨(some 6), none, .mv (.c (.int .i64 0))⟩])
 (.ret)))))))⟩
theorem c25 : compF Go.Proofs.Tryd.prog 25 = some a25 := by kernel_rfl
def a26 : AFn := ⟨36, [.t 6, .t 7, .t 8], .seq (.ops [⟨(some 3), none, .box 28 (.t 0)⟩, ⟨(some 5), none, .box 60 (.t 2)⟩, ⟨(some 6), none, .mv (.c (.lit true 0 []))⟩, ⟨(some 7), none, .mv (.c (.int .i64 0))⟩, ⟨(some 8), none, .mv (.c (.int .i64 0))⟩])
 (.seq (.seq (.ops [⟨(some 11), none, .load (some 2) (.t 3)⟩, ⟨(some 12), none, .mv (.t 1)⟩, ⟨(some 13), none, .call 57 [(.t 11), (.t 12)]⟩, ⟨(some 9), none, .mv (.t 13)⟩])
 (.seq (.ops [⟨(some 14), none, .mv (.t 9)⟩, ⟨(some 15), none, .bin 0 .neq (.t 14) (.c (.int .i64 0))⟩])
 (.cond (.t 15) (.seq (.ops [⟨(some 16), none, .mv (.t 9)⟩, ⟨(some 6), none, .mv (.c (.lit true 0 []))⟩, ⟨(some 7), none, .mv (.c (.int .i64 0))⟩, ⟨(some 8), none, .mv (.t 16)⟩])
 (.ret)) (.skip))))
 (.seq (.seq (.ops [⟨(some 17), none, .fadr 0 (.t 5)⟩, ⟨(some 18), none, .load none (.t 17)⟩, ⟨(some 19), none, .call 36 [(.t 18), (.c (.int .i64 (-59))), (.c (.int .i64 59))]⟩, ⟨(some 20), none, .mv (.t 19)⟩, ⟨(some 21), (some (20, false)), .fadr 1 (.t 5)⟩, ⟨(some 22), (some (20, false)), .load none (.t 21)⟩, ⟨(some 23), (some (20, false)), .call 36 [(.t 22), (.c (.int .i64 (-59))), (.c (.int .i64 59))]⟩, ⟨(some 24), none, .pick (.t 20) (.c (.bool true)) (.t 23)⟩])
 (.cond (.t 24) (.seq (.ops [⟨(some 6), none, .mv (.c (.lit true 0 []))⟩, ⟨(some 7), none, .mv (.c (.int .i64 0))⟩, ⟨(some 8), none, .mv (.c (.int .i64 1))⟩])
 (.ret)) (.skip)))
 (.seq (.ops [⟨(some 25), none, .mv (.t 1)⟩, ⟨(some 26), none, .load (some 2) (.t 5)⟩, ⟨(some 27), none, .call 64 [(.t 25), (.t 26)]⟩, ⟨(some 28), none, .mkfn 66 [(.t 3)]⟩, ⟨(some 29), none, .call 51 [(.t 27), (.t 28)]⟩, ⟨(some 10), none, .mv (.t 29)⟩])
 (.seq (.ops [⟨(some 30), none, .mv (.t 10)⟩, ⟨(some 31), none, .mv (.t 1)⟩, ⟨(some 32), none, .len false (.t 31)⟩, ⟨(some 33), none, .mv (.t 10)⟩, ⟨(some 34), none, .len false (.t 33)⟩, ⟨(some 35), none, .bin 0 .sub (.t 32) (.t 34)⟩, ⟨(some 6), none, .mv (.t 30)⟩, ⟨(some 7), none, .mv (.t 35)⟩, ⟨(some 8), none, .mv (.c (.int .i64 0))⟩])
 (.ret)))))⟩
theorem c26 : compF Go.Proofs.Tryd.prog 26 = some a26 := by kernel_rfl
def a27 : AFn := ⟨9, [.t 4], .seq (.ops [⟨(some 3), none, .box 60 (.t 1)⟩, ⟨(some 4), none, .mv (.c (.bool false))⟩])
 (.seq (.ops [⟨(some 5), none, .mv (.t 0)⟩, ⟨(some 6), none, .load (some 2) (.t 3)⟩, ⟨(some 7), none, .call 67 [(.t 5), (.t 6)]⟩, ⟨(some 8), none, .bin 0 .geq (.t 7) (.c (.int .i64 0))⟩, ⟨(some 4), none, .mv (.t 8)⟩])
 (.ret))⟩
theorem c27 : compF Go.Proofs.Tryd.prog 27 = some a27 := by kernel_rfl
def a30 : AFn := ⟨72, [.t 2], .seq (.ops [⟨(some 1), none, .box 28 (.t 0)⟩, ⟨(some 2), none, .mv (.c (.int .i64 0))⟩])
 (.seq (.block 0 (.seq (.ops [⟨(some 7), none, .fadr 0 (.t 1)⟩, ⟨(some 8), none, .load none (.t 7)⟩, ⟨(some 9), none, .len false (.t 8)⟩, ⟨(some 10), none, .bin 0 .eql (.t 9) (.c (.int .i64 0))⟩, ⟨(some 6), none, .mv (.t 10)⟩])
 (.cond (.t 6) (.seq (.ops [⟨(some 2), none, .mv (.c (.int .i64 8))⟩])
 (.ret)) (.seq (.ops [⟨(some 12), none, .fadr 0 (.t 1)⟩, ⟨(some 13), none, .load none (.t 12)⟩, ⟨(some 14), none, .len false (.t 13)⟩, ⟨(some 15), none, .bin 0 .gtr (.t 14) (.c (.int .i64 60))⟩, ⟨(some 11), none, .mv (.t 15)⟩])
 (.cond (.t 11) (.seq (.ops [⟨(some 2), none, .mv (.c (.int .i64 2))⟩])
 (.ret)) (.skip))))))
 (.seq (.seq (.ops [⟨(some 16), none, .fadr 0 (.t 1)⟩, ⟨(some 17), none, .load none (.t 16)⟩, ⟨(some 18), none, .len false (.t 17)⟩, ⟨(some 19), none, .mv (.c (.int .i64 0))⟩])
 (.block 1 (.loop (.seq (.ops [⟨(some 20), none, .bin 0 .lss (.t 19) (.t 18)⟩])
 (.seq (.cond (.t 20) (.skip) (.exit 1))
 (.seq (.block 2 (.seq (.ops [⟨(some 21), none, .iadr 1 (.t 17) (.t 19)⟩, ⟨(some 22), none, .load none (.t 21)⟩, ⟨(some 4), none, .mv (.t 22)⟩])
 (.block 3 (.seq (.ops [⟨(some 24), none, .mv (.t 4)⟩, ⟨(some 25), none, .bin 1 .eql (.t 24) (.c (.str []))⟩, ⟨(some 23), none, .mv (.t 25)⟩])
 (.cond (.t 23) (.seq (.ops [⟨(some 2), none, .mv (.c (.int .i64 8))⟩])
 (.ret)) (.seq (.ops [⟨(some 27), none, .mv (.t 4)⟩, ⟨(some 28), none, .len true (.t 27)⟩, ⟨(some 29), none, .bin 0 .gtr (.t 28) (.c (.int .i64 60))⟩, ⟨(some 26), none, .mv (.t 29)⟩])
 (.cond (.t 26) (.seq (.ops [⟨(some 2), none, .mv (.c (.int .i64 2))⟩])
 (.ret)) (.seq (.ops [⟨(some 31), none, .mv (.t 4)⟩, ⟨(some 32), none, .len true (.t 31)⟩, ⟨(some 33), none, .fadr 0 (.t 1)⟩, ⟨(some 34), none, .load none (.t 33)⟩, ⟨(some 35), none, .iadr 1 (.t 34) (.c (.int .i64 0))⟩, ⟨(some 36), none, .load none (.t 35)⟩, ⟨(some 37), none, .len true (.t 36)⟩, ⟨(some 38), none, .bin 0 .neq (.t 32) (.t 37)⟩, ⟨(some 30), none, .mv (.t 38)⟩])
 (.cond (.t 30) (.seq (.ops [⟨(some 2), none, .mv (.c (.int .i64 3))⟩])
 (.ret)) (.seq (.ops [⟨(some 40), none, .mv (.t 4)⟩, ⟨(some 41), none, .call 72 [(.t 40)]⟩, ⟨(some 39), none, .mv (.t 41)⟩])
 (.cond (.t 39) (.seq (.ops [⟨(some 2), none, .mv (.c (.int .i64 9))⟩])
 (.ret)) (.skip))))))))))))
 (.ops [⟨(some 42), none, .bin 0 .add (.t 19) (.c (.int .i64 1))⟩, ⟨(some 19), none, .mv (.t 42)⟩])))))))
 (.seq (.seq (.ops [⟨(some 43), none, .fadr 1 (.t 1)⟩, ⟨(some 44), none, .load none (.t 43)⟩, ⟨(some 45), none, .len true (.t 44)⟩, ⟨(some 46), none, .mv (.c (.int .i64 0))⟩])
 (.block 4 (.loop (.seq (.ops [⟨(some 47), none, .bin 0 .lss (.t 46) (.t 45)⟩])
 (.seq (.cond (.t 47) (.skip) (.exit 4))
 (.seq (.block 5 (.seq (.ops [⟨(some 48), none, .mv (.t 46)⟩, ⟨(some 5), none, .mv (.t 48)⟩])
 (.block 6 (.seq (.ops [⟨(some 50), none, .fadr 1 (.t 1)⟩, ⟨(some 51), none, .load none (.t 50)⟩, ⟨(some 52), none, .mv (.t 5)⟩, ⟨(some 53), none, .idxs (.t 51) (.t 52)⟩, ⟨(some 54), none, .call 43 [(.t 53)]⟩, ⟨(some 55), none, .un .not (.t 54)⟩, ⟨(some 49), none, .mv (.t 55)⟩])
 (.cond (.t 49) (.seq (.ops [⟨(some 2), none, .mv (.c (.int .i64 9))⟩])
 (.ret)) (.seq (.any [(⟨(some 57), none, .mv (.t 5)⟩, []), (⟨(some 58), none, .bin 0 .gtr (.t 57) (.c (.int .i64 0))⟩, []), (⟨(some 59), none, .mv (.t 58)⟩, []), (⟨(some 60), (some (59, true)), .fadr 1 (.t 1)⟩, []), (⟨(some 61), (some (59, true)), .load none (.t 60)⟩, []), (⟨(some 62), (some (59, true)), .mv (.t 5)⟩, [3, 4]), (⟨(some 63), (some (59, true)), .idxs (.t 61) (.t 62)⟩, []), (⟨(some 64), (some (59, true)), .fadr 1 (.t 1)⟩, [3, 4, 5, 6]), (⟨(some 65), (some (59, true)), .load none (.t 64)⟩, [3, 4, 5, 6]), (⟨(some 66), (some (59, true)), .mv (.t 5)⟩, [3, 4, 5, 6, 7, 8]), (⟨(some 67), (some (59, true)), .bin 0 .sub (.t 66) (.c (.int .i64 1))⟩, [3, 4, 5, 6, 7, 8]), (⟨(some 68), (some (59, true)), .idxs (.t 65) (.t 67)⟩, [3, 4, 5, 6]), (⟨(some 69), (some (59, true)), .bin 0 .leq (.t 63) (.t 68)⟩, []), (⟨(some 70), none, .pick (.t 59) (.t 69) (.c (.bool false))⟩, []), (⟨(some 56), none, .mv (.t 70)⟩, [])])
 (.cond (.t 56) (.seq (.ops [⟨(some 2), none, .mv (.c (.int .i64 7))⟩])
 (.ret)) (.skip))))))))
 (.ops [⟨(some 71), none, .bin 0 .add (.t 46) (.c (.int .i64 1))⟩, ⟨(some 46), none, .mv (.t 71)⟩])))))))
 (.seq (.ops [⟨(some 2), none, .mv (.c (.int .i64 0))⟩])
 (.ret)))))⟩
theorem c30 : compF Go.Proofs.Tryd.prog 30 = some a30 := by kernel_rfl
def a32 : AFn := ⟨30, [.t 4, .t 5], .seq (.ops [⟨(some 2), none, .box 28 (.t 0)⟩, ⟨(some 4), none, .mv (.c (.int .i64 0))⟩, ⟨(some 5), none, .mv (.c (.int .i64 0))⟩])
 (.seq (.seq (.ops [⟨(some 9), none, .mv (.t 1)⟩, ⟨(some 10), none, .len false (.t 9)⟩, ⟨(some 11), none, .mv (.c (.int .i64 0))⟩])
 (.block 0 (.loop (.seq (.ops [⟨(some 12), none, .bin 0 .lss (.t 11) (.t 10)⟩])
 (.seq (.cond (.t 12) (.skip) (.exit 0))
 (.seq (.block 1 (.seq (.ops [⟨(some 13), none, .iadr 2 (.t 9) (.t 11)⟩, ⟨(some 14), none, .load (some 2) (.t 13)⟩, ⟨(some 7), none, .alloc 60 [(.int .i64 0), (.int .i64 0)]⟩, ⟨none, none, .store 2 (.t 7) (.t 14)⟩])
 (.seq (.ops [⟨(some 15), none, .load (some 2) (.t 2)⟩, ⟨(some 16), none, .load (some 2) (.t 7)⟩, ⟨(some 17), none, .call 35 [(.t 15), (.t 16)]⟩, ⟨(some 8), none, .mv (.t 17)⟩])
 (.seq (.seq (.ops [⟨(some 18), none, .mv (.t 8)⟩, ⟨(some 19), none, .call 65 [(.t 18)]⟩])
 (.cond (.t 19) (.ops [⟨(some 20), none, .mv (.t 5)⟩, ⟨(some 21), none, .bin 0 .add (.t 20) (.c (.int .i64 1))⟩, ⟨(some 5), none, .mv (.t 21)⟩]) (.skip)))
 (.seq (.ops [⟨(some 22), none, .load (some 2) (.t 2)⟩, ⟨(some 23), none, .mv (.t 8)⟩, ⟨(some 24), none, .call 39 [(.t 22), (.t 23)]⟩])
 (.cond (.t 24) (.ops [⟨(some 25), none, .mv (.t 4)⟩, ⟨(some 26), none, .bin 0 .add (.t 25) (.c (.int .i64 1))⟩, ⟨(some 4), none, .mv (.t 26)⟩]) (.skip)))))))
 (.ops [⟨(some 27), none, .bin 0 .add (.t 11) (.c (.int .i64 1))⟩, ⟨(some 11), none, .mv (.t 27)⟩])))))))
 (.seq (.ops [⟨(some 28), none, .mv (.t 4)⟩, ⟨(some 29), none, .mv (.t 5)⟩, ⟨(some 4), none, .mv (.t 28)⟩, ⟨(some 5), none, .mv (.t 29)⟩])
 (.ret)))⟩
theorem c32 : compF Go.Proofs.Tryd.prog 32 = some a32 := by kernel_rfl
def a33 : AFn := ⟨19, [.c 4 (some 2)], .seq (.ops [⟨(some 4), none, .alloc 42 [(.int .i64 0), (.int .i64 0)]⟩])
 (.seq (.ops [⟨(some 6), none, .mv (.t 0)⟩, ⟨(some 7), none, .mv (.t 0)⟩, ⟨(some 8), none, .un .neg (.t 7)⟩, ⟨(some 9), none, .mm true (.t 6) [(.t 8)]⟩, ⟨(some 10), none, .mv (.t 1)⟩, ⟨(some 11), none, .call 76 [(.t 9), (.t 10)]⟩, ⟨(some 5), none, .mv (.t 11)⟩])
 (.seq (.any [(⟨(some 12), none, .mv (.t 0)⟩, []), (⟨(some 13), none, .mv (.t 5)⟩, [0]), (⟨(some 14), none, .bin 0 .quo (.t 12) (.t 13)⟩, []), (⟨(some 15), none, .mv (.t 1)⟩, [0, 1, 2]), (⟨(some 16), none, .mv (.t 5)⟩, [0, 1, 2, 3]), (⟨(some 17), none, .bin 0 .quo (.t 15) (.t 16)⟩, [0, 1, 2]), (⟨(some 18), none, .build [(.int .i64 0), (.int .i64 0)] [(0, 1, (.t 14)), (1, 1, (.t 17))]⟩, []), (⟨none, none, .store 2 (.t 4) (.t 18)⟩, [])])
 (.ret)))⟩
theorem c33 : compF Go.Proofs.Tryd.prog 33 = some a33 := by kernel_rfl
def a35 : AFn := ⟨32, [.t 4], .seq (.ops [⟨(some 2), none, .box 28 (.t 0)⟩, ⟨(some 3), none, .box 60 (.t 1)⟩, ⟨(some 4), none, .mv (.c (.int .u8 0))⟩])
 (.seq (.seq (.any [(⟨(some 5), none, .fadr 1 (.t 3)⟩, []), (⟨(some 6), none, .load none (.t 5)⟩, []), (⟨(some 7), none, .fadr 0 (.t 2)⟩, [0, 1]), (⟨(some 8), none, .load none (.t 7)⟩, [0, 1]), (⟨(some 9), none, .len false (.t 8)⟩, [0, 1]), (⟨(some 10), none, .bin 0 .sub (.t 9) (.c (.int .i64 1))⟩, [0, 1]), (⟨(some 11), none, .call 36 [(.t 6), (.c (.int .i64 0)), (.t 10)]⟩, []), (⟨(some 12), none, .mv (.t 11)⟩, []), (⟨(some 13), (some (12, false)), .fadr 0 (.t 3)⟩, []), (⟨(some 14), (some (12, false)), .load none (.t 13)⟩, []), (⟨(some 15), (some (12, false)), .fadr 0 (.t 2)⟩, [8, 9]), (⟨(some 16), (some (12, false)), .load none (.t 15)⟩, [8, 9]), (⟨(some 17), (some (12, false)), .iadr 1 (.t 16) (.c (.int .i64 0))⟩, [8, 9]), (⟨(some 18), (some (12, false)), .load none (.t 17)⟩, [8, 9]), (⟨(some 19), (some (12, false)), .len true (.t 18)⟩, [8, 9]), (⟨(some 20), (some (12, false)), .bin 0 .sub (.t 19) (.c (.int .i64 1))⟩, [8, 9]), (⟨(some 21), (some (12, false)), .call 36 [(.t 14), (.c (.int .i64 0)), (.t 20)]⟩, []), (⟨(some 22), none, .pick (.t 12) (.c (.bool true)) (.t 21)⟩, [])])
 (.cond (.t 22) (.seq (.ops [⟨(some 4), none, .mv (.c (.int .u8 46))⟩])
 (.ret)) (.skip)))
 (.seq (.any [(⟨(some 23), none, .fadr 0 (.t 2)⟩, []), (⟨(some 24), none, .load none (.t 23)⟩, []), (⟨(some 25), none, .fadr 1 (.t 3)⟩, [0, 1]), (⟨(some 26), none, .load none (.t 25)⟩, [0, 1]), (⟨(some 27), none, .iadr 1 (.t 24) (.t 26)⟩, []), (⟨(some 28), none, .load none (.t 27)⟩, []), (⟨(some 29), none, .fadr 0 (.t 3)⟩, [0, 1, 2, 3, 4, 5]), (⟨(some 30), none, .load none (.t 29)⟩, [0, 1, 2, 3, 4, 5]), (⟨(some 31), none, .idxs (.t 28) (.t 30)⟩, []), (⟨(some 4), none, .mv (.t 31)⟩, [])])
 (.ret)))⟩
theorem c35 : compF Go.Proofs.Tryd.prog 35 = some a35 := by kernel_rfl
def a36 : AFn := ⟨15, [.t 6], .seq (.ops [⟨(some 6), none, .mv (.c (.bool false))⟩])
 (.seq (.ops [⟨(some 7), none, .mv (.t 0)⟩, ⟨(some 8), none, .mv (.t 1)⟩, ⟨(some 9), none, .bin 0 .lss (.t 7) (.t 8)⟩, ⟨(some 10), none, .mv (.t 9)⟩, ⟨(some 11), (some (10, false)), .mv (.t 0)⟩, ⟨(some 12), (some (10, false)), .mv (.t 2)⟩, ⟨(some 13), (some (10, false)), .bin 0 .gtr (.t 11) (.t 12)⟩, ⟨(some 14), none, .pick (.t 10) (.c (.bool true)) (.t 13)⟩, ⟨(some 6), none, .mv (.t 14)⟩])
 (.ret))⟩
theorem c36 : compF Go.Proofs.Tryd.prog 36 = some a36 := by kernel_rfl
def a39 : AFn := ⟨14, [.t 4], .seq (.ops [⟨(some 2), none, .box 28 (.t 0)⟩, ⟨(some 4), none, .mv (.c (.bool false))⟩])
 (.seq (.ops [⟨(some 5), none, .mv (.t 1)⟩, ⟨(some 6), none, .call 43 [(.t 5)]⟩, ⟨(some 7), none, .mv (.t 6)⟩, ⟨(some 8), (some (7, true)), .fadr 1 (.t 2)⟩, ⟨(some 9), (some (7, true)), .load none (.t 8)⟩, ⟨(some 10), (some (7, true)), .mv (.t 1)⟩, ⟨(some 11), (some (7, true)), .call 77 [(.t 9), (.t 10)]⟩, ⟨(some 12), (some (7, true)), .bin 0 .geq (.t 11) (.c (.int .i64 0))⟩, ⟨(some 13), none, .pick (.t 7) (.t 12) (.c (.bool false))⟩, ⟨(some 4), none, .mv (.t 13)⟩])
 (.ret))⟩
theorem c39 : compF Go.Proofs.Tryd.prog 39 = some a39 := by kernel_rfl
def a41 : AFn := ⟨64, [.t 4], .seq (.ops [⟨(some 4), none, .mv (.c (.int .i64 0))⟩])
 (.seq (.ops [⟨(some 7), none, .mv (.t 0)⟩, ⟨(some 8), none, .nilchk (.t 7)⟩, ⟨(some 9), none, .fadr 1 (.t 8)⟩, ⟨(some 10), none, .load none (.t 9)⟩, ⟨(some 11), none, .bin 0 .add (.t 10) (.c (.int .i64 1))⟩, ⟨(some 12), none, .nilchk (.t 7)⟩, ⟨(some 13), none, .fadr 1 (.t 12)⟩, ⟨none, none, .store 1 (.t 13) (.t 11)⟩])
 (.seq (.seq (.ops [⟨(some 14), none, .mv (.t 0)⟩, ⟨(some 15), none, .nilchk (.t 14)⟩, ⟨(some 16), none, .fadr 0 (.t 15)⟩, ⟨(some 17), none, .load none (.t 16)⟩, ⟨(some 18), none, .len false (.t 17)⟩, ⟨(some 19), none, .bin 0 .eql (.t 18) (.c (.int .i64 0))⟩])
 (.cond (.t 19) (.seq (.ops [⟨(some 20), none, .mv (.t 0)⟩, ⟨(some 21), none, .nilchk (.t 20)⟩, ⟨(some 22), none, .fadr 1 (.t 21)⟩, ⟨(some 23), none, .load none (.t 22)⟩, ⟨(some 24), none, .bin 0 .mul (.t 23) (.c (.int .i64 7919))⟩, ⟨(some 25), none, .mv (.t 1)⟩, ⟨(some 26), none, .call 79 [(.t 24), (.t 25)]⟩, ⟨(some 4), none, .mv (.t 26)⟩])
 (.ret)) (.skip)))
 (.seq (.any [(⟨(some 27), none, .mv (.t 0)⟩, []), (⟨(some 28), none, .nilchk (.t 27)⟩, []), (⟨(some 29), none, .fadr 1 (.t 28)⟩, []), (⟨(some 30), none, .load none (.t 29)⟩, []), (⟨(some 31), none, .bin 0 .sub (.t 30) (.c (.int .i64 1))⟩, []), (⟨(some 32), none, .mv (.t 0)⟩, [0, 1, 2, 3, 4]), (⟨(some 33), none, .nilchk (.t 32)⟩, [0, 1, 2, 3, 4]), (⟨(some 34), none, .fadr 0 (.t 33)⟩, [0, 1, 2, 3, 4]), (⟨(some 35), none, .load none (.t 34)⟩, [0, 1, 2, 3, 4]), (⟨(some 36), none, .len false (.t 35)⟩, [0, 1, 2, 3, 4]), (⟨(some 37), none, .bin 0 .rem (.t 31) (.t 36)⟩, []), (⟨(some 5), none, .mv (.t 37)⟩, [])])
 (.seq (.any [(⟨(some 38), none, .mv (.t 0)⟩, []), (⟨(some 39), none, .nilchk (.t 38)⟩, []), (⟨(some 40), none, .fadr 1 (.t 39)⟩, []), (⟨(some 41), none, .load none (.t 40)⟩, []), (⟨(some 42), none, .bin 0 .sub (.t 41) (.c (.int .i64 1))⟩, []), (⟨(some 43), none, .mv (.t 0)⟩, [0, 1, 2, 3, 4]), (⟨(some 44), none, .nilchk (.t 43)⟩, [0, 1, 2, 3, 4]), (⟨(some 45), none, .fadr 0 (.t 44)⟩, [0, 1, 2, 3, 4]), (⟨(some 46), none, .load none (.t 45)⟩, [0, 1, 2, 3, 4]), (⟨(some 47), none, .len false (.t 46)⟩, [0, 1, 2, 3, 4]), (⟨(some 48), none, .bin 0 .quo (.t 42) (.t 47)⟩, []), (⟨(some 6), none, .mv (.t 48)⟩, [])])
 (.seq (.ops [⟨(some 49), none, .mv (.t 0)⟩, ⟨(some 50), none, .nilchk (.t 49)⟩, ⟨(some 51), none, .fadr 0 (.t 50)⟩, ⟨(some 52), none, .load none (.t 51)⟩, ⟨(some 53), none, .mv (.t 5)⟩, ⟨(some 54), none, .iadr 1 (.t 52) (.t 53)⟩, ⟨(some 55), none, .load none (.t 54)⟩, ⟨(some 56), none, .call 79 [(.t 55), (.c (.int .i64 1073741824))]⟩, ⟨(some 57), none, .mv (.t 6)⟩, ⟨(some 58), none, .mv (.t 5)⟩, ⟨(some 59), none, .bin 0 .add (.c (.int .i64 7919)) (.t 58)⟩, ⟨(some 60), none, .bin 0 .mul (.t 57) (.t 59)⟩, ⟨(some 61), none, .bin 0 .add (.t 56) (.t 60)⟩, ⟨(some 62), none, .mv (.t 1)⟩, ⟨(some 63), none, .call 79 [(.t 61), (.t 62)]⟩, ⟨(some 4), none, .mv (.t 63)⟩])
 (.ret))))))⟩
theorem c41 : compF Go.Proofs.Tryd.prog 41 = some a41 := by kernel_rfl
def a42 : AFn := ⟨29, [.t 2], .seq (.ops [⟨(some 1), none, .box 28 (.t 0)⟩, ⟨(some 2), none, .mv (.c (.lit true 0 []))⟩])
 (.seq (.ops [⟨(some 3), none, .mv (.c (.lit true 0 []))⟩])
 (.seq (.seq (.ops [⟨(some 7), none, .fadr 0 (.t 1)⟩, ⟨(some 8), none, .load none (.t 7)⟩, ⟨(some 9), none, .len false (.t 8)⟩, ⟨(some 10), none, .mv (.c (.int .i64 0))⟩])
 (.block 0 (.loop (.seq (.ops [⟨(some 11), none, .bin 0 .lss (.t 10) (.t 9)⟩])
 (.seq (.cond (.t 11) (.skip) (.exit 0))
 (.seq (.block 1 (.seq (.ops [⟨(some 12), none, .mv (.t 10)⟩, ⟨(some 13), none, .iadr 1 (.t 8) (.t 10)⟩, ⟨(some 14), none, .load none (.t 13)⟩, ⟨(some 4), none, .mv (.t 12)⟩, ⟨(some 5), none, .mv (.t 14)⟩])
 (.seq (.ops [⟨(some 15), none, .mv (.t 5)⟩, ⟨(some 16), none, .len true (.t 15)⟩, ⟨(some 17), none, .mv (.c (.int .i64 0))⟩])
 (.block 2 (.loop (.seq (.ops [⟨(some 18), none, .bin 0 .lss (.t 17) (.t 16)⟩])
 (.seq (.cond (.t 18) (.skip) (.exit 2))
 (.seq (.block 3 (.seq (.ops [⟨(some 19), none, .mv (.t 17)⟩, ⟨(some 6), none, .mv (.t 19)⟩])
 (.ops [⟨(some 20), none, .mv (.t 3)⟩, ⟨(some 21), none, .mv (.t 6)⟩, ⟨(some 22), none, .mv (.t 4)⟩, ⟨(some 23), none, .build [(.int .i64 0), (.int .i64 0)] [(0, 1, (.t 21)), (1, 1, (.t 22))]⟩, ⟨(some 24), none, .bslice 60 2 1 [(.int .i64 0), (.int .i64 0)] [(0, 2, (.t 23))]⟩, ⟨(some 25), none, .app 60 2 16 (.t 20) (.t 24)⟩, ⟨(some 3), none, .mv (.t 25)⟩])))
 (.ops [⟨(some 26), none, .bin 0 .add (.t 17) (.c (.int .i64 1))⟩, ⟨(some 17), none, .mv (.t 26)⟩])))))))))
 (.ops [⟨(some 27), none, .bin 0 .add (.t 10) (.c (.int .i64 1))⟩, ⟨(some 10), none, .mv (.t 27)⟩])))))))
 (.seq (.ops [⟨(some 28), none, .mv (.t 3)⟩, ⟨(some 2), none, .mv (.t 28)⟩])
 (.ret))))⟩
theorem c42 : compF Go.Proofs.Tryd.prog 42 = some a42 := by kernel_rfl
def a43 : AFn := ⟨17, [.t 2], .seq (.ops [⟨(some 2), none, .mv (.c (.bool false))⟩])
 (.seq (.ops [⟨(some 3), none, .mv (.t 0)⟩, ⟨(some 4), none, .bin 0 .geq (.t 3) (.c (.int .u8 48))⟩, ⟨(some 5), none, .mv (.t 4)⟩, ⟨(some 6), (some (5, true)), .mv (.t 0)⟩, ⟨(some 7), (some (5, true)), .bin 0 .leq (.t 6) (.c (.int .u8 57))⟩, ⟨(some 8), none, .pick (.t 5) (.t 7) (.c (.bool false))⟩, ⟨(some 9), none, .mv (.t 8)⟩, ⟨(some 10), (some (9, false)), .mv (.t 0)⟩, ⟨(some 11), (some (9, false)), .bin 0 .geq (.t 10) (.c (.int .u8 97))⟩, ⟨(some 12), (some (9, false)), .mv (.t 11)⟩, ⟨(some 13), (some (12, true)), .mv (.t 0)⟩, ⟨(some 14), (some (12, true)), .bin 0 .leq (.t 13) (.c (.int .u8 122))⟩, ⟨(some 15), (some (9, false)), .pick (.t 12) (.t 14) (.c (.bool false))⟩, ⟨(some 16), none, .pick (.t 9) (.c (.bool true)) (.t 15)⟩, ⟨(some 2), none, .mv (.t 16)⟩])
 (.ret))⟩
theorem c43 : compF Go.Proofs.Tryd.prog 43 = some a43 := by kernel_rfl
def a45 : AFn := ⟨17, [.t 4, .t 5], .seq (.ops [⟨(some 4), none, .mv (.c (.str []))⟩, ⟨(some 5), none, .mv (.c (.int .i64 0))⟩])
 (.seq (.seq (.ops [⟨(some 6), none, .mv (.t 0)⟩, ⟨(some 7), none, .call 81 [(.t 6)]⟩, ⟨(some 8), none, .un .not (.t 7)⟩, ⟨(some 9), none, .mv (.t 8)⟩, ⟨(some 10), (some (9, false)), .mv (.t 1)⟩, ⟨(some 11), (some (9, false)), .call 81 [(.t 10)]⟩, ⟨(some 12), (some (9, false)), .un .not (.t 11)⟩, ⟨(some 13), none, .pick (.t 9) (.c (.bool true)) (.t 12)⟩])
 (.cond (.t 13) (.seq (.ops [⟨(some 4), none, .mv (.c (.str []))⟩, ⟨(some 5), none, .mv (.c (.int .i64 1))⟩])
 (.ret)) (.skip)))
 (.seq (.ops [⟨(some 14), none, .mv (.t 0)⟩, ⟨(some 15), none, .mv (.t 1)⟩, ⟨(some 16), none, .call 82 [(.t 14), (.t 15)]⟩, ⟨(some 4), none, .mv (.t 16)⟩, ⟨(some 5), none, .mv (.c (.int .i64 0))⟩])
 (.ret)))⟩
theorem c45 : compF Go.Proofs.Tryd.prog 45 = some a45 := by kernel_rfl
def a46 : AFn := ⟨30, [.t 2, .t 3], .seq (.ops [⟨(some 1), none, .box 3 (.t 0)⟩, ⟨(some 2), none, .mv (.c (.lit true 0 []))⟩, ⟨(some 3), none, .mv (.c (.int .i64 0))⟩])
 (.seq (.seq (.ops [⟨(some 8), none, .load none (.t 1)⟩, ⟨(some 9), none, .call 83 [(.t 8)]⟩, ⟨(some 4), none, .mv (.t 9)⟩])
 (.seq (.ops [⟨(some 10), none, .mv (.t 4)⟩, ⟨(some 11), none, .bin 0 .neq (.t 10) (.c (.int .i64 0))⟩])
 (.cond (.t 11) (.seq (.ops [⟨(some 12), none, .mv (.t 4)⟩, ⟨(some 2), none, .mv (.c (.lit true 0 []))⟩, ⟨(some 3), none, .mv (.t 12)⟩])
 (.ret)) (.skip))))
 (.seq (.ops [⟨(some 13), none, .mkfn 85 [(.t 1)]⟩, ⟨(some 14), none, .call 84 [(.c (.int .i64 0)), (.t 13)]⟩, ⟨(some 5), none, .mv (.t 14)⟩])
 (.seq (.ops [⟨(some 6), none, .mv (.c (.lit true 0 []))⟩])
 (.seq (.seq (.ops [⟨(some 15), none, .load none (.t 1)⟩, ⟨(some 16), none, .mv (.c (.int .i64 0))⟩])
 (.block 0 (.loop (.seq (.ops [⟨(some 17), none, .bin 0 .lss (.t 16) (.t 15)⟩])
 (.seq (.cond (.t 17) (.skip) (.exit 0))
 (.seq (.block 1 (.seq (.ops [⟨(some 18), none, .mv (.t 16)⟩, ⟨(some 7), none, .mv (.t 18)⟩])
 (.ops [⟨(some 19), none, .mv (.t 6)⟩, ⟨(some 20), none, .mv (.t 7)⟩, ⟨(some 21), none, .bin 0 .add (.t 20) (.c (.int .i64 1))⟩, ⟨(some 22), none, .mv (.t 5)⟩, ⟨(some 23), none, .call 86 [(.t 21), (.t 22)]⟩, ⟨(some 24), none, .bslice 9 1 1 [(.str [])] [(0, 1, (.t 23))]⟩, ⟨(some 25), none, .app 9 1 16 (.t 19) (.t 24)⟩, ⟨(some 6), none, .mv (.t 25)⟩])))
 (.ops [⟨(some 26), none, .bin 0 .add (.t 16) (.c (.int .i64 1))⟩, ⟨(some 16), none, .mv (.t 26)⟩])))))))
 (.seq (.ops [⟨(some 27), none, .mv (.t 6)⟩, ⟨(some 28), none, .mv (.t 5)⟩, ⟨(some 29), none, .call 87 [(.t 27), (.t 28)]⟩, ⟨(some 2), none, .mv (.t 29)⟩, ⟨(some 3), none, .mv (.c (.int .i64 0))⟩])
 (.ret))))))⟩
theorem c46 : compF Go.Proofs.Tryd.prog 46 = some a46 := by kernel_rfl
def a50 : AFn := ⟨26, [.t 4], .seq (.ops [⟨(some 4), none, .mv (.c (.bool false))⟩])
 (.seq (.seq (.ops [⟨(some 6), none, .mv (.t 0)⟩, ⟨(some 7), none, .len false (.t 6)⟩, ⟨(some 8), none, .mv (.t 1)⟩, ⟨(some 9), none, .len false (.t 8)⟩, ⟨(some 10), none, .bin 0 .neq (.t 7) (.t 9)⟩])
 (.cond (.t 10) (.seq (.ops [⟨(some 4), none, .mv (.c (.bool false))⟩])
 (.ret)) (.skip)))
 (.seq (.seq (.ops [⟨(some 11), none, .mv (.t 0)⟩, ⟨(some 12), none, .len false (.t 11)⟩, ⟨(some 13), none, .mv (.c (.int .i64 0))⟩])
 (.block 0 (.loop (.seq (.ops [⟨(some 14), none, .bin 0 .lss (.t 13) (.t 12)⟩])
 (.seq (.cond (.t 14) (.skip) (.exit 0))
 (.seq (.block 1 (.seq (.ops [⟨(some 15), none, .mv (.t 13)⟩, ⟨(some 5), none, .mv (.t 15)⟩])
 (.seq (.any [(⟨(some 16), none, .mv (.t 0)⟩, []), (⟨(some 17), none, .mv (.t 5)⟩, [0]), (⟨(some 18), none, .iadr 1 (.t 16) (.t 17)⟩, []), (⟨(some 19), none, .load none (.t 18)⟩, []), (⟨(some 20), none, .mv (.t 1)⟩, [0, 1, 2, 3]), (⟨(some 21), none, .mv (.t 5)⟩, [0, 1, 2, 3, 4]), (⟨(some 22), none, .iadr 1 (.t 20) (.t 21)⟩, [0, 1, 2, 3]), (⟨(some 23), none, .load none (.t 22)⟩, [0, 1, 2, 3]), (⟨(some 24), none, .bin 1 .neq (.t 19) (.t 23)⟩, [])])
 (.cond (.t 24) (.seq (.ops [⟨(some 4), none, .mv (.c (.bool false))⟩])
 (.ret)) (.skip)))))
 (.ops [⟨(some 25), none, .bin 0 .add (.t 13) (.c (.int .i64 1))⟩, ⟨(some 13), none, .mv (.t 25)⟩])))))))
 (.seq (.ops [⟨(some 4), none, .mv (.c (.bool true))⟩])
 (.ret))))⟩
def a51 : AFn := ⟨42, [.t 4], .seq (.ops [⟨(some 4), none, .mv (.c (.lit true 0 []))⟩])
 (.seq (.ops [⟨(some 8), none, .mv (.t 0)⟩, ⟨(some 9), none, .mv (.t 1)⟩, ⟨(some 10), none, .call 95 [(.t 8), (.t 9)]⟩, ⟨(some 5), none, .mv (.t 10)⟩])
 (.seq (.seq (.ops [⟨(some 11), none, .mv (.t 5)⟩, ⟨(some 12), none, .bin 0 .eql (.t 11) (.c (.int .i64 (-1)))⟩])
 (.cond (.t 12) (.seq (.ops [⟨(some 13), none, .mv (.t 0)⟩, ⟨(some 4), none, .mv (.t 13)⟩])
 (.ret)) (.skip)))
 (.seq (.seq (.ops [⟨(some 14), none, .mv (.t 5)⟩, ⟨(some 15), none, .bin 0 .add (.t 14) (.c (.int .i64 1))⟩, ⟨(some 6), none, .mv (.t 15)⟩])
 (.block 0 (.loop (.seq (.seq (.ops [⟨(some 16), none, .mv (.t 6)⟩, ⟨(some 17), none, .mv (.t 0)⟩, ⟨(some 18), none, .len false (.t 17)⟩, ⟨(some 19), none, .bin 0 .lss (.t 16) (.t 18)⟩])
 (.cond (.t 19) (.skip) (.exit 0)))
 (.seq (.block 1 (.seq (.ops [⟨(some 22), none, .mv (.t 0)⟩, ⟨(some 23), none, .mv (.t 6)⟩, ⟨(some 24), none, .iadr 2 (.t 22) (.t 23)⟩, ⟨(some 25), none, .load (some 2) (.t 24)⟩, ⟨(some 7), none, .alloc 60 [(.int .i64 0), (.int .i64 0)]⟩, ⟨none, none, .store 2 (.t 7) (.t 25)⟩])
 (.seq (.ops [⟨(some 26), none, .mv (.t 1)⟩, ⟨(some 27), none, .load (some 2) (.t 7)⟩, ⟨(some 28), none, .callv (.t 26) [(.t 27)]⟩, ⟨(some 29), none, .un .not (.t 28)⟩])
 (.cond (.t 29) (.seq (.ops [⟨(some 30), none, .mv (.t 0)⟩, ⟨(some 31), none, .mv (.t 5)⟩, ⟨(some 32), none, .load (some 2) (.t 7)⟩, ⟨(some 33), none, .iadr 2 (.t 30) (.t 31)⟩, ⟨none, none, .store 2 (.t 33) (.t 32)⟩])
 (.ops [⟨(some 34), none, .mv (.t 5)⟩, ⟨(some 35), none, .bin 0 .add (.t 34) (.c (.int .i64 1))⟩, ⟨(some 5), none, .mv (.t 35)⟩])) (.skip)))))
 (.ops [⟨(some 20), none, .mv (.t 6)⟩, ⟨(some 21), none, .bin 0 .add (.t 20) (.c (.int .i64 1))⟩, ⟨(some 6), none, .mv (.t 21)⟩]))))))
 (.seq (.ops [⟨(some 36), none, .mv (.t 0)⟩, ⟨(some 37), none, .mv (.t 5)⟩, ⟨(some 38), none, .slc 2 (.t 36) (some (.t 37)) none⟩, ⟨none, none, .clr [(.int .i64 0), (.int .i64 0)] (.t 38)⟩])
 (.seq (.ops [⟨(some 39), none, .mv (.t 0)⟩, ⟨(some 40), none, .mv (.t 5)⟩, ⟨(some 41), none, .slc 2 (.t 39) none (some (.t 40))⟩, ⟨(some 4), none, .mv (.t 41)⟩])
 (.ret))))))⟩
theorem c51 : compF Go.Proofs.Tryd.prog 51 = some a51 := by kernel_rfl
def a53 : AFn := ⟨8, [.t 2], .seq (.ops [⟨(some 2), none, .mv (.c (.lit true 0 []))⟩])
 (.seq (.seq (.ops [⟨(some 3), none, .mv (.t 0)⟩, ⟨(some 4), none, .bin 3 .eql (.t 3) (.c (.lit true 0 []))⟩])
 (.cond (.t 4) (.seq (.ops [⟨(some 2), none, .mv (.c (.lit true 0 []))⟩])
 (.ret)) (.skip)))
 (.seq (.ops [⟨(some 5), none, .bslice 60 2 0 [(.int .i64 0), (.int .i64 0)] []⟩, ⟨(some 6), none, .mv (.t 0)⟩, ⟨(some 7), none, .app 60 2 16 (.t 5) (.t 6)⟩, ⟨(some 2), none, .mv (.t 7)⟩])
 (.ret)))⟩
theorem c53 : compF Go.Proofs.Tryd.prog 53 = some a53 := by kernel_rfl
def a54 : AFn := ⟨12, [.t 4], .seq (.ops [⟨(some 4), none, .mv (.c (.int .i64 0))⟩])
 (.seq (.ops [⟨(some 5), none, .mv (.t 1)⟩, ⟨(some 6), none, .mv (.t 0)⟩, ⟨(some 7), none, .mv (.t 1)⟩, ⟨(some 8), none, .len false (.t 7)⟩, ⟨(some 9), none, .call 41 [(.t 6), (.t 8)]⟩, ⟨(some 10), none, .iadr 1 (.t 5) (.t 9)⟩, ⟨(some 11), none, .load none (.t 10)⟩, ⟨(some 4), none, .mv (.t 11)⟩])
 (.ret))⟩
theorem c54 : compF Go.Proofs.Tryd.prog 54 = some a54 := by kernel_rfl
def a55 : AFn := ⟨15, [.t 6], .seq (.ops [⟨(some 6), none, .mv (.c (.bool false))⟩])
 (.seq (.ops [⟨(some 7), none, .mv (.t 1)⟩, ⟨(some 8), none, .mv (.t 0)⟩, ⟨(some 9), none, .bin 0 .leq (.t 7) (.t 8)⟩, ⟨(some 10), none, .mv (.t 9)⟩, ⟨(some 11), (some (10, true)), .mv (.t 0)⟩, ⟨(some 12), (some (10, true)), .mv (.t 2)⟩, ⟨(some 13), (some (10, true)), .bin 0 .leq (.t 11) (.t 12)⟩, ⟨(some 14), none, .pick (.t 10) (.t 13) (.c (.bool false))⟩, ⟨(some 6), none, .mv (.t 14)⟩])
 (.ret))⟩
theorem c55 : compF Go.Proofs.Tryd.prog 55 = some a55 := by kernel_rfl
def a56 : AFn := ⟨17, [.t 4], .seq (.ops [⟨(some 2), none, .box 60 (.t 0)⟩, ⟨(some 3), none, .box 60 (.t 1)⟩, ⟨(some 4), none, .mv (.c (.int .i64 0))⟩])
 (.seq (.any [(⟨(some 5), none, .fadr 1 (.t 2)⟩, []), (⟨(some 6), none, .load none (.t 5)⟩, []), (⟨(some 7), none, .fadr 1 (.t 3)⟩, [0, 1]), (⟨(some 8), none, .load none (.t 7)⟩, [0, 1]), (⟨(some 9), none, .call 97 [(.t 6), (.t 8)]⟩, []), (⟨(some 10), none, .fadr 0 (.t 2)⟩, [0, 1, 2, 3, 4]), (⟨(some 11), none, .load none (.t 10)⟩, [0, 1, 2, 3, 4]), (⟨(some 12), none, .fadr 0 (.t 3)⟩, [0, 1, 2, 3, 4, 5, 6]), (⟨(some 13), none, .load none (.t 12)⟩, [0, 1, 2, 3, 4, 5, 6]), (⟨(some 14), none, .call 97 [(.t 11), (.t 13)]⟩, []), (⟨(some 15), none, .bslice 3 1 2 [(.int .i64 0)] [(0, 1, (.t 9)), (1, 1, (.t 14))]⟩, []), (⟨(some 16), none, .call 96 [(.t 15)]⟩, []), (⟨(some 4), none, .mv (.t 16)⟩, [])])
 (.ret))⟩
theorem c56 : compF Go.Proofs.Tryd.prog 56 = some a56 := by kernel_rfl
def a57 : AFn := ⟨11, [.t 4], .seq (.ops [⟨(some 2), none, .box 28 (.t 0)⟩, ⟨(some 4), none, .mv (.c (.int .i64 0))⟩])
 (.seq (.ops [⟨(some 5), none, .load (some 2) (.t 2)⟩, ⟨(some 6), none, .call 30 [(.t 5)]⟩, ⟨(some 7), none, .mv (.t 1)⟩, ⟨(some 8), none, .call 98 [(.t 7)]⟩, ⟨(some 9), none, .bslice 32 1 2 [(.int .i64 0)] [(0, 1, (.t 6)), (1, 1, (.t 8))]⟩, ⟨(some 10), none, .call 94 [(.t 9)]⟩, ⟨(some 4), none, .mv (.t 10)⟩])
 (.ret))⟩
theorem c57 : compF Go.Proofs.Tryd.prog 57 = some a57 := by kernel_rfl
def a58 : AFn := ⟨8, [.t 3], .seq (.ops [⟨(some 2), none, .box 60 (.t 0)⟩, ⟨(some 3), none, .mv (.c (.bool false))⟩])
 (.seq (.ops [⟨(some 4), none, .load (some 2) (.t 1)⟩, ⟨(some 5), none, .load (some 2) (.t 2)⟩, ⟨(some 6), none, .call 59 [(.t 4), (.t 5)]⟩, ⟨(some 7), none, .un .not (.t 6)⟩, ⟨(some 3), none, .mv (.t 7)⟩])
 (.ret))⟩
theorem c58 : compF Go.Proofs.Tryd.prog 58 = some a58 := by kernel_rfl
def a59 : AFn := ⟨9, [.t 4], .seq (.ops [⟨(some 2), none, .box 28 (.t 0)⟩, ⟨(some 3), none, .box 60 (.t 1)⟩, ⟨(some 4), none, .mv (.c (.bool false))⟩])
 (.seq (.ops [⟨(some 5), none, .load (some 2) (.t 2)⟩, ⟨(some 6), none, .load (some 2) (.t 3)⟩, ⟨(some 7), none, .call 35 [(.t 5), (.t 6)]⟩, ⟨(some 8), none, .bin 0 .eql (.t 7) (.c (.int .u8 63))⟩, ⟨(some 4), none, .mv (.t 8)⟩])
 (.ret))⟩
theorem c59 : compF Go.Proofs.Tryd.prog 59 = some a59 := by kernel_rfl
def a60 : AFn := ⟨112, [.t 6], .seq (.ops [⟨(some 3), none, .box 28 (.t 0)⟩, ⟨(some 6), none, .mv (.c (.lit true 0 []))⟩])
 (.seq (.ops [⟨(some 24), none, .mmk .p (.int .i64 0)⟩, ⟨(some 7), none, .mv (.t 24)⟩])
 (.seq (.seq (.ops [⟨(some 25), none, .mv (.t 2)⟩, ⟨(some 26), none, .len false (.t 25)⟩, ⟨(some 27), none, .mv (.c (.int .i64 0))⟩])
 (.block 0 (.loop (.seq (.ops [⟨(some 28), none, .bin 0 .lss (.t 27) (.t 26)⟩])
 (.seq (.cond (.t 28) (.skip) (.exit 0))
 (.seq (.block 1 (.seq (.ops [⟨(some 29), none, .mv (.t 27)⟩, ⟨(some 30), none, .iadr 2 (.t 25) (.t 27)⟩, ⟨(some 31), none, .load (some 2) (.t 30)⟩, ⟨(some 9), none, .alloc 60 [(.int .i64 0), (.int .i64 0)]⟩, ⟨(some 8), none, .mv (.t 29)⟩, ⟨none, none, .store 2 (.t 9) (.t 31)⟩])
 (.ops [⟨(some 32), none, .mv (.t 7)⟩, ⟨(some 33), none, .load (some 2) (.t 9)⟩, ⟨(some 34), none, .mv (.t 8)⟩, ⟨none, none, .mup .p (.t 32) (.t 33) (.t 34)⟩])))
 (.ops [⟨(some 35), none, .bin 0 .add (.t 27) (.c (.int .i64 1))⟩, ⟨(some 27), none, .mv (.t 35)⟩])))))))
 (.seq (.ops [⟨(some 10), none, .mv (.c (.lit true 0 []))⟩])
 (.seq (.seq (.ops [⟨(some 36), none, .mv (.t 2)⟩, ⟨(some 37), none, .len false (.t 36)⟩, ⟨(some 38), none, .mv (.c (.int .i64 0))⟩])
 (.block 2 (.loop (.seq (.ops [⟨(some 39), none, .bin 0 .lss (.t 38) (.t 37)⟩])
 (.seq (.cond (.t 39) (.skip) (.exit 2))
 (.seq (.block 3 (.seq (.ops [⟨(some 40), none, .iadr 2 (.t 36) (.t 38)⟩, ⟨(some 41), none, .load (some 2) (.t 40)⟩, ⟨(some 12), none, .alloc 60 [(.int .i64 0), (.int .i64 0)]⟩, ⟨none, none, .store 2 (.t 12) (.t 41)⟩])
 (.seq (.ops [⟨(some 42), none, .mv (.t 1)⟩, ⟨(some 43), none, .len false (.t 42)⟩, ⟨(some 44), none, .mv (.c (.int .i64 0))⟩])
 (.block 4 (.loop (.seq (.ops [⟨(some 45), none, .bin 0 .lss (.t 44) (.t 43)⟩])
 (.seq (.cond (.t 45) (.skip) (.exit 4))
 (.seq (.block 5 (.seq (.ops [⟨(some 46), none, .iadr 2 (.t 42) (.t 44)⟩, ⟨(some 47), none, .load (some 2) (.t 46)⟩, ⟨(some 14), none, .alloc 60 [(.int .i64 0), (.int .i64 0)]⟩, ⟨none, none, .store 2 (.t 14) (.t 47)⟩])
 (.ops [⟨(some 48), none, .mv (.t 10)⟩, ⟨(some 49), none, .fadr 0 (.t 12)⟩, ⟨(some 50), none, .load none (.t 49)⟩, ⟨(some 51), none, .fadr 0 (.t 14)⟩, ⟨(some 52), none, .load none (.t 51)⟩, ⟨(some 53), none, .bin 0 .sub (.t 50) (.t 52)⟩, ⟨(some 54), none, .fadr 1 (.t 12)⟩, ⟨(some 55), none, .load none (.t 54)⟩, ⟨(some 56), none, .fadr 1 (.t 14)⟩, ⟨(some 57), none, .load none (.t 56)⟩, ⟨(some 58), none, .bin 0 .sub (.t 55) (.t 57)⟩, ⟨(some 59), none, .build [(.int .i64 0), (.int .i64 0)] [(0, 1, (.t 53)), (1, 1, (.t 58))]⟩, ⟨(some 60), none, .bslice 60 2 1 [(.int .i64 0), (.int .i64 0)] [(0, 2, (.t 59))]⟩, ⟨(some 61), none, .app 60 2 16 (.t 48) (.t 60)⟩, ⟨(some 10), none, .mv (.t 61)⟩])))
 (.ops [⟨(some 62), none, .bin 0 .add (.t 44) (.c (.int .i64 1))⟩, ⟨(some 44), none, .mv (.t 62)⟩])))))))))
 (.ops [⟨(some 63), none, .bin 0 .add (.t 38) (.c (.int .i64 1))⟩, ⟨(some 38), none, .mv (.t 63)⟩])))))))
 (.seq (.ops [⟨(some 64), none, .mv (.t 10)⟩, ⟨(some 65), none, .call 99 [(.t 64), (.c (.fn 100 []))]⟩])
 (.seq (.ops [⟨(some 15), none, .mv (.c (.lit true 0 []))⟩])
 (.seq (.seq (.ops [⟨(some 66), none, .mv (.t 10)⟩, ⟨(some 67), none, .call 101 [(.t 66)]⟩, ⟨(some 68), none, .len false (.t 67)⟩, ⟨(some 69), none, .mv (.c (.int .i64 0))⟩])
 (.block 6 (.loop (.seq (.ops [⟨(some 70), none, .bin 0 .lss (.t 69) (.t 68)⟩])
 (.seq (.cond (.t 70) (.skip) (.exit 6))
 (.seq (.block 7 (.seq (.ops [⟨(some 71), none, .iadr 2 (.t 67) (.t 69)⟩, ⟨(some 72), none, .load (some 2) (.t 71)⟩, ⟨(some 17), none, .alloc 60 [(.int .i64 0), (.int .i64 0)]⟩, ⟨none, none, .store 2 (.t 17) (.t 72)⟩])
 (.seq (.ops [⟨(some 73), none, .load (some 2) (.t 17)⟩, ⟨(some 74), none, .build [(.int .i64 0), (.int .i64 0), (.int .u64 0)] [(0, 2, (.t 73))]⟩, ⟨(some 18), none, .alloc 110 [(.int .i64 0), (.int .i64 0), (.int .u64 0)]⟩, ⟨none, none, .store 3 (.t 18) (.t 74)⟩])
 (.seq (.ops [⟨(some 19), none, .mv (.c (.bool true))⟩])
 (.seq (.seq (.ops [⟨(some 75), none, .mv (.t 1)⟩, ⟨(some 76), none, .load (some 2) (.t 17)⟩, ⟨(some 77), none, .call 64 [(.t 75), (.t 76)]⟩, ⟨(some 78), none, .len false (.t 77)⟩, ⟨(some 79), none, .mv (.c (.int .i64 0))⟩])
 (.block 8 (.loop (.seq (.ops [⟨(some 80), none, .bin 0 .lss (.t 79) (.t 78)⟩])
 (.seq (.cond (.t 80) (.skip) (.exit 8))
 (.seq (.block 9 (.seq (.ops [⟨(some 81), none, .iadr 2 (.t 77) (.t 79)⟩, ⟨(some 82), none, .load (some 2) (.t 81)⟩, ⟨(some 21), none, .alloc 60 [(.int .i64 0), (.int .i64 0)]⟩, ⟨none, none, .store 2 (.t 21) (.t 82)⟩])
 (.seq (.ops [⟨(some 83), none, .mv (.t 19)⟩, ⟨(some 84), none, .mv (.t 83)⟩, ⟨(some 85), (some (84, true)), .load (some 2) (.t 3)⟩, ⟨(some 86), (some (84, true)), .load (some 2) (.t 21)⟩, ⟨(some 87), (some (84, true)), .call 35 [(.t 85), (.t 86)]⟩, ⟨(some 88), (some (84, true)), .call 65 [(.t 87)]⟩, ⟨(some 89), (some (84, true)), .un .not (.t 88)⟩, ⟨(some 90), none, .pick (.t 84) (.t 89) (.c (.bool false))⟩, ⟨(some 19), none, .mv (.t 90)⟩])
 (.seq (.ops [⟨(some 92), none, .mv (.t 7)⟩, ⟨(some 93), none, .load (some 2) (.t 21)⟩, ⟨(some 94), none, .mlk true .p (.int .i64 0) (.t 92) (.t 93)⟩, ⟨(some 91), none, .mv (.t 94)⟩, ⟨(some 95), none, .ext (.t 91) 0⟩, ⟨(some 96), none, .ext (.t 91) 1⟩, ⟨(some 22), none, .mv (.t 95)⟩, ⟨(some 23), none, .mv (.t 96)⟩])
 (.seq (.ops [⟨(some 97), none, .mv (.t 23)⟩])
 (.cond (.t 97) (.any [(⟨(some 98), none, .fadr 2 (.t 18)⟩, []), (⟨(some 99), none, .load none (.t 98)⟩, []), (⟨(some 100), none, .mv (.t 22)⟩, [0, 1]), (⟨(some 101), none, .bin 0 .shl (.c (.int .u64 1)) (.t 100)⟩, [0, 1]), (⟨(some 102), none, .bin 0 .or (.t 99) (.t 101)⟩, []), (⟨(some 103), none, .fadr 2 (.t 18)⟩, []), (⟨none, none, .store 1 (.t 103) (.t 102)⟩, [])]) (.skip)))))))
 (.ops [⟨(some 104), none, .bin 0 .add (.t 79) (.c (.int .i64 1))⟩, ⟨(some 79), none, .mv (.t 104)⟩])))))))
 (.seq (.ops [⟨(some 105), none, .mv (.t 19)⟩])
 (.cond (.t 105) (.ops [⟨(some 106), none, .mv (.t 15)⟩, ⟨(some 107), none, .load (some 3) (.t 18)⟩, ⟨(some 108), none, .bslice 110 3 1 [(.int .i64 0), (.int .i64 0), (.int .u64 0)] [(0, 3, (.t 107))]⟩, ⟨(some 109), none, .app 110 3 24 (.t 106) (.t 108)⟩, ⟨(some 15), none, .mv (.t 109)⟩]) (.skip))))))))
 (.ops [⟨(some 110), none, .bin 0 .add (.t 69) (.c (.int .i64 1))⟩, ⟨(some 69), none, .mv (.t 110)⟩])))))))
 (.seq (.ops [⟨(some 111), none, .mv (.t 15)⟩, ⟨(some 6), none, .mv (.t 111)⟩])
 (.ret)))))))))⟩
theorem c60 : compF Go.Proofs.Tryd.prog 60 = some a60 := by kernel_rfl
def a61 : AFn := ⟨80, [.t 4], .seq (.ops [⟨(some 4), none, .mv (.c (.lit true 0 []))⟩])
 (.seq (.ops [⟨(some 11), none, .mv (.t 1)⟩, ⟨(some 12), none, .bin 0 .shl (.c (.int .i64 1)) (.t 11)⟩, ⟨(some 13), none, .mks 3 1 8 [(.int .i64 0)] (.t 12)⟩, ⟨(some 5), none, .mv (.t 13)⟩])
 (.seq (.seq (.ops [⟨(some 6), none, .mv (.c (.int .u64 1))⟩])
 (.block 0 (.loop (.seq (.seq (.ops [⟨(some 14), none, .mv (.t 6)⟩, ⟨(some 15), none, .mv (.t 1)⟩, ⟨(some 16), none, .bin 0 .shl (.c (.int .u64 1)) (.t 15)⟩, ⟨(some 17), none, .bin 0 .lss (.t 14) (.t 16)⟩])
 (.cond (.t 17) (.skip) (.exit 0)))
 (.seq (.block 1 (.seq (.ops [⟨(some 20), none, .mv (.t 0)⟩, ⟨(some 21), none, .len false (.t 20)⟩, ⟨(some 22), none, .mv (.c (.int .i64 0))⟩])
 (.block 2 (.loop (.seq (.ops [⟨(some 23), none, .bin 0 .lss (.t 22) (.t 21)⟩])
 (.seq (.cond (.t 23) (.skip) (.exit 2))
 (.seq (.block 3 (.seq (.ops [⟨(some 24), none, .iadr 3 (.t 20) (.t 22)⟩, ⟨(some 25), none, .load (some 3) (.t 24)⟩, ⟨(some 8), none, .alloc 110 [(.int .i64 0), (.int .i64 0), (.int .u64 0)]⟩, ⟨none, none, .store 3 (.t 8) (.t 25)⟩])
 (.seq (.ops [⟨(some 26), none, .mv (.t 6)⟩, ⟨(some 27), none, .fadr 2 (.t 8)⟩, ⟨(some 28), none, .load none (.t 27)⟩, ⟨(some 29), none, .bin 0 .andNot (.t 26) (.t 28)⟩, ⟨(some 9), none, .mv (.t 29)⟩])
 (.seq (.seq (.ops [⟨(some 30), none, .fadr 2 (.t 8)⟩, ⟨(some 31), none, .load none (.t 30)⟩, ⟨(some 32), none, .mv (.t 6)⟩, ⟨(some 33), none, .bin 0 .andNot (.t 31) (.t 32)⟩, ⟨(some 34), none, .bin 0 .neq (.t 33) (.c (.int .u64 0))⟩, ⟨(some 35), none, .mv (.t 34)⟩, ⟨(some 36), (some (35, false)), .fadr 2 (.t 8)⟩, ⟨(some 37), (some (35, false)), .load none (.t 36)⟩, ⟨(some 38), (some (35, false)), .mv (.t 6)⟩, ⟨(some 39), (some (35, false)), .mv (.t 6)⟩, ⟨(some 40), (some (35, false)), .un .neg (.t 39)⟩, ⟨(some 41), (some (35, false)), .bin 0 .and (.t 38) (.t 40)⟩, ⟨(some 42), (some (35, false)), .bin 0 .and (.t 37) (.t 41)⟩, ⟨(some 43), (some (35, false)), .bin 0 .eql (.t 42) (.c (.int .u64 0))⟩, ⟨(some 44), none, .pick (.t 35) (.c (.bool true)) (.t 43)⟩, ⟨(some 45), none, .mv (.t 44)⟩, ⟨(some 46), (some (45, false)), .mv (.t 9)⟩, ⟨(some 47), (some (45, false)), .bin 0 .neq (.t 46) (.c (.int .u64 0))⟩, ⟨(some 48), (some (45, false)), .mv (.t 47)⟩, ⟨(some 49), (some (48, true)), .mv (.t 5)⟩, ⟨(some 50), (some (48, true)), .mv (.t 9)⟩, ⟨(some 51), (some (48, true)), .iadr 1 (.t 49) (.t 50)⟩, ⟨(some 52), (some (48, true)), .load none (.t 51)⟩, ⟨(some 53), (some (48, true)), .bin 0 .eql (.t 52) (.c (.int .i64 0))⟩, ⟨(some 54), (some (45, false)), .pick (.t 48) (.t 53) (.c (.bool false))⟩, ⟨(some 55), none, .pick (.t 45) (.c (.bool true)) (.t 54)⟩])
 (.cond (.t 55) (.exit 3) (.skip)))
 (.seq (.ops [⟨(some 56), none, .mv (.t 5)⟩, ⟨(some 57), none, .mv (.t 9)⟩, ⟨(some 58), none, .iadr 1 (.t 56) (.t 57)⟩, ⟨(some 59), none, .load none (.t 58)⟩, ⟨(some 60), none, .bin 0 .add (.t 59) (.c (.int .i64 1))⟩, ⟨(some 10), none, .mv (.t 60)⟩])
 (.seq (.ops [⟨(some 61), none, .mv (.t 5)⟩, ⟨(some 62), none, .mv (.t 6)⟩, ⟨(some 63), none, .iadr 1 (.t 61) (.t 62)⟩, ⟨(some 64), none, .load none (.t 63)⟩, ⟨(some 65), none, .bin 0 .eql (.t 64) (.c (.int .i64 0))⟩, ⟨(some 66), none, .mv (.t 65)⟩, ⟨(some 67), (some (66, false)), .mv (.t 10)⟩, ⟨(some 68), (some (66, false)), .mv (.t 5)⟩, ⟨(some 69), (some (66, false)), .mv (.t 6)⟩, ⟨(some 70), (some (66, false)), .iadr 1 (.t 68) (.t 69)⟩, ⟨(some 71), (some (66, false)), .load none (.t 70)⟩, ⟨(some 72), (some (66, false)), .bin 0 .lss (.t 67) (.t 71)⟩, ⟨(some 73), none, .pick (.t 66) (.c (.bool true)) (.t 72)⟩])
 (.cond (.t 73) (.ops [⟨(some 74), none, .mv (.t 5)⟩, ⟨(some 75), none, .mv (.t 6)⟩, ⟨(some 76), none, .mv (.t 10)⟩, ⟨(some 77), none, .iadr 1 (.t 74) (.t 75)⟩, ⟨none, none, .store 1 (.t 77) (.t 76)⟩]) (.skip))))))))
 (.ops [⟨(some 78), none, .bin 0 .add (.t 22) (.c (.int .i64 1))⟩, ⟨(some 22), none, .mv (.t 78)⟩]))))))))
 (.ops [⟨(some 18), none, .mv (.t 6)⟩, ⟨(some 19), none, .bin 0 .add (.t 18) (.c (.int .u64 1))⟩, ⟨(some 6), none, .mv (.t 19)⟩]))))))
 (.seq (.ops [⟨(some 79), none, .mv (.t 5)⟩, ⟨(some 4), none, .mv (.t 79)⟩])
 (.ret))))⟩
theorem c61 : compF Go.Proofs.Tryd.prog 61 = some a61 := by kernel_rfl
def a62 : AFn := ⟨19, [.t 4], .seq (.ops [⟨(some 4), none, .mv (.c (.int .i64 0))⟩])
 (.seq (.seq (.ops [⟨(some 6), none, .mv (.t 0)⟩, ⟨(some 7), none, .len false (.t 6)⟩, ⟨(some 8), none, .mv (.c (.int .i64 0))⟩])
 (.block 0 (.loop (.seq (.ops [⟨(some 9), none, .bin 0 .lss (.t 8) (.t 7)⟩])
 (.seq (.cond (.t 9) (.skip) (.exit 0))
 (.seq (.block 1 (.seq (.ops [⟨(some 10), none, .mv (.t 8)⟩, ⟨(some 5), none, .mv (.t 10)⟩])
 (.seq (.ops [⟨(some 11), none, .mv (.t 1)⟩, ⟨(some 12), none, .mv (.t 0)⟩, ⟨(some 13), none, .mv (.t 5)⟩, ⟨(some 14), none, .iadr 3 (.t 12) (.t 13)⟩, ⟨(some 15), none, .load (some 3) (.t 14)⟩, ⟨(some 16), none, .callv (.t 11) [(.t 15)]⟩])
 (.cond (.t 16) (.seq (.ops [⟨(some 17), none, .mv (.t 5)⟩, ⟨(some 4), none, .mv (.t 17)⟩])
 (.ret)) (.skip)))))
 (.ops [⟨(some 18), none, .bin 0 .add (.t 8) (.c (.int .i64 1))⟩, ⟨(some 8), none, .mv (.t 18)⟩])))))))
 (.seq (.ops [⟨(some 4), none, .mv (.c (.int .i64 (-1)))⟩])
 (.ret)))⟩
theorem c62 : compF Go.Proofs.Tryd.prog 62 = some a62 := by kernel_rfl
def a63 : AFn := ⟨38, [.t 4], .seq (.ops [⟨(some 3), none, .box 110 (.t 0)⟩, ⟨(some 4), none, .mv (.c (.bool false))⟩])
 (.seq (.ops [⟨(some 6), none, .load none (.t 1)⟩, ⟨(some 7), none, .fadr 2 (.t 3)⟩, ⟨(some 8), none, .load none (.t 7)⟩, ⟨(some 9), none, .bin 0 .andNot (.t 6) (.t 8)⟩, ⟨(some 5), none, .mv (.t 9)⟩])
 (.seq (.any [(⟨(some 10), none, .fadr 2 (.t 3)⟩, []), (⟨(some 11), none, .load none (.t 10)⟩, []), (⟨(some 12), none, .load none (.t 1)⟩, [0, 1]), (⟨(some 13), none, .bin 0 .andNot (.t 11) (.t 12)⟩, []), (⟨(some 14), none, .bin 0 .eql (.t 13) (.c (.int .u64 0))⟩, []), (⟨(some 15), none, .mv (.t 14)⟩, []), (⟨(some 16), (some (15, true)), .mv (.t 5)⟩, []), (⟨(some 17), (some (15, true)), .bin 0 .eql (.t 16) (.c (.int .u64 0))⟩, []), (⟨(some 18), (some (15, true)), .mv (.t 17)⟩, []), (⟨(some 19), (some (18, false)), .load none (.t 2)⟩, []), (⟨(some 20), (some (18, false)), .mv (.t 5)⟩, [9]), (⟨(some 21), (some (18, false)), .iadr 1 (.t 19) (.t 20)⟩, []), (⟨(some 22), (some (18, false)), .load none (.t 21)⟩, []), (⟨(some 23), (some (18, false)), .bin 0 .gtr (.t 22) (.c (.int .i64 0))⟩, []), (⟨(some 24), (some (15, true)), .pick (.t 18) (.c (.bool true)) (.t 23)⟩, []), (⟨(some 25), none, .pick (.t 15) (.t 24) (.c (.bool false))⟩, []), (⟨(some 26), none, .mv (.t 25)⟩, []), (⟨(some 27), (some (26, true)), .load none (.t 2)⟩, []), (⟨(some 28), (some (26, true)), .load none (.t 1)⟩, [17]), (⟨(some 29), (some (26, true)), .iadr 1 (.t 27) (.t 28)⟩, []), (⟨(some 30), (some (26, true)), .load none (.t 29)⟩, []), (⟨(some 31), (some (26, true)), .load none (.t 2)⟩, [17, 18, 19, 20]), (⟨(some 32), (some (26, true)), .mv (.t 5)⟩, [17, 18, 19, 20, 21]), (⟨(some 33), (some (26, true)), .iadr 1 (.t 31) (.t 32)⟩, [17, 18, 19, 20]), (⟨(some 34), (some (26, true)), .load none (.t 33)⟩, [17, 18, 19, 20]), (⟨(some 35), (some (26, true)), .bin 0 .add (.t 34) (.c (.int .i64 1))⟩, [17, 18, 19, 20]), (⟨(some 36), (some (26, true)), .bin 0 .eql (.t 30) (.t 35)⟩, []), (⟨(some 37), none, .pick (.t 26) (.t 36) (.c (.bool false))⟩, []), (⟨(some 4), none, .mv (.t 37)⟩, [])])
 (.ret)))⟩
theorem c63 : compF Go.Proofs.Tryd.prog 63 = some a63 := by kernel_rfl
def a64 : AFn := ⟨30, [.t 4], .seq (.ops [⟨(some 3), none, .box 60 (.t 1)⟩, ⟨(some 4), none, .mv (.c (.lit true 0 []))⟩])
 (.seq (.ops [⟨(some 5), none, .mv (.c (.lit true 0 []))⟩])
 (.seq (.seq (.ops [⟨(some 8), none, .mv (.t 0)⟩, ⟨(some 9), none, .len false (.t 8)⟩, ⟨(some 10), none, .mv (.c (.int .i64 0))⟩])
 (.block 0 (.loop (.seq (.ops [⟨(some 11), none, .bin 0 .lss (.t 10) (.t 9)⟩])
 (.seq (.cond (.t 11) (.skip) (.exit 0))
 (.seq (.block 1 (.seq (.ops [⟨(some 12), none, .iadr 2 (.t 8) (.t 10)⟩, ⟨(some 13), none, .load (some 2) (.t 12)⟩, ⟨(some 7), none, .alloc 60 [(.int .i64 0), (.int .i64 0)]⟩, ⟨none, none, .store 2 (.t 7) (.t 13)⟩])
 (.ops [⟨(some 14), none, .mv (.t 5)⟩, ⟨(some 15), none, .fadr 0 (.t 3)⟩, ⟨(some 16), none, .load none (.t 15)⟩, ⟨(some 17), none, .fadr 0 (.t 7)⟩, ⟨(some 18), none, .load none (.t 17)⟩, ⟨(some 19), none, .bin 0 .add (.t 16) (.t 18)⟩, ⟨(some 20), none, .fadr 1 (.t 3)⟩, ⟨(some 21), none, .load none (.t 20)⟩, ⟨(some 22), none, .fadr 1 (.t 7)⟩, ⟨(some 23), none, .load none (.t 22)⟩, ⟨(some 24), none, .bin 0 .add (.t 21) (.t 23)⟩, ⟨(some 25), none, .build [(.int .i64 0), (.int .i64 0)] [(0, 1, (.t 19)), (1, 1, (.t 24))]⟩, ⟨(some 26), none, .bslice 60 2 1 [(.int .i64 0), (.int .i64 0)] [(0, 2, (.t 25))]⟩, ⟨(some 27), none, .app 60 2 16 (.t 14) (.t 26)⟩, ⟨(some 5), none, .mv (.t 27)⟩])))
 (.ops [⟨(some 28), none, .bin 0 .add (.t 10) (.c (.int .i64 1))⟩, ⟨(some 10), none, .mv (.t 28)⟩])))))))
 (.seq (.ops [⟨(some 29), none, .mv (.t 5)⟩, ⟨(some 4), none, .mv (.t 29)⟩])
 (.ret))))⟩
theorem c64 : compF Go.Proofs.Tryd.prog 64 = some a64 := by kernel_rfl
def a65 : AFn := ⟨9, [.t 2], .seq (.ops [⟨(some 2), none, .mv (.c (.bool false))⟩])
 (.seq (.ops [⟨(some 3), none, .mv (.t 0)⟩, ⟨(some 4), none, .call 43 [(.t 3)]⟩, ⟨(some 5), none, .mv (.t 4)⟩, ⟨(some 6), (some (5, false)), .mv (.t 0)⟩, ⟨(some 7), (some (5, false)), .bin 0 .eql (.t 6) (.c (.int .u8 42))⟩, ⟨(some 8), none, .pick (.t 5) (.c (.bool true)) (.t 7)⟩, ⟨(some 2), none, .mv (.t 8)⟩])
 (.ret))⟩
theorem c65 : compF Go.Proofs.Tryd.prog 65 = some a65 := by kernel_rfl
def a66 : AFn := ⟨8, [.t 3], .seq (.ops [⟨(some 2), none, .box 60 (.t 0)⟩, ⟨(some 3), none, .mv (.c (.bool false))⟩])
 (.seq (.ops [⟨(some 4), none, .load (some 2) (.t 1)⟩, ⟨(some 5), none, .load (some 2) (.t 2)⟩, ⟨(some 6), none, .call 59 [(.t 4), (.t 5)]⟩, ⟨(some 7), none, .un .not (.t 6)⟩, ⟨(some 3), none, .mv (.t 7)⟩])
 (.ret))⟩
theorem c66 : compF Go.Proofs.Tryd.prog 66 = some a66 := by kernel_rfl
def a67 : AFn := ⟨19, [.t 4], .seq (.ops [⟨(some 3), none, .box 60 (.t 1)⟩, ⟨(some 4), none, .mv (.c (.int .i64 0))⟩])
 (.seq (.seq (.ops [⟨(some 6), none, .mv (.t 0)⟩, ⟨(some 7), none, .len false (.t 6)⟩, ⟨(some 8), none, .mv (.c (.int .i64 0))⟩])
 (.block 0 (.loop (.seq (.ops [⟨(some 9), none, .bin 0 .lss (.t 8) (.t 7)⟩])
 (.seq (.cond (.t 9) (.skip) (.exit 0))
 (.seq (.block 1 (.seq (.ops [⟨(some 10), none, .mv (.t 8)⟩, ⟨(some 5), none, .mv (.t 10)⟩])
 (.seq (.any [(⟨(some 11), none, .load (some 2) (.t 3)⟩, []), (⟨(some 12), none, .mv (.t 0)⟩, [0]), (⟨(some 13), none, .mv (.t 5)⟩, [0, 1]), (⟨(some 14), none, .iadr 2 (.t 12) (.t 13)⟩, [0]), (⟨(some 15), none, .load (some 2) (.t 14)⟩, [0]), (⟨(some 16), none, .eqs false [0, 0] (.t 11) (.t 15)⟩, [])])
 (.cond (.t 16) (.seq (.ops [⟨(some 17), none, .mv (.t 5)⟩, ⟨(some 4), none, .mv (.t 17)⟩])
 (.ret)) (.skip)))))
 (.ops [⟨(some 18), none, .bin 0 .add (.t 8) (.c (.int .i64 1))⟩, ⟨(some 8), none, .mv (.t 18)⟩])))))))
 (.seq (.ops [⟨(some 4), none, .mv (.c (.int .i64 (-1)))⟩])
 (.ret)))⟩
theorem c67 : compF Go.Proofs.Tryd.prog 67 = some a67 := by kernel_rfl
def a68 : AFn := ⟨9, [.t 4], .seq (.ops [⟨(some 4), none, .mv (.c (.bool false))⟩])
 (.seq (.ops [⟨(some 5), none, .mv (.t 0)⟩, ⟨(some 6), none, .mv (.t 1)⟩, ⟨(some 7), none, .call 102 [(.t 5), (.t 6)]⟩, ⟨(some 8), none, .bin 0 .geq (.t 7) (.c (.int .i64 0))⟩, ⟨(some 4), none, .mv (.t 8)⟩])
 (.ret))⟩
theorem c68 : compF Go.Proofs.Tryd.prog 68 = some a68 := by kernel_rfl
def a70 : AFn := ⟨18, [.t 2], .seq (.ops [⟨(some 2), none, .mv (.c (.bool false))⟩])
 (.seq (.ops [⟨(some 3), none, .mv (.t 0)⟩, ⟨(some 4), none, .call 77 [(.c (.str [48, 49, 50, 51, 52, 53, 54, 55, 56, 57, 97, 98, 99, 100, 101, 102, 103, 104, 105, 106, 107, 108, 109, 110, 111, 112, 113, 114, 115, 116, 117, 118, 119, 120, 121, 122])), (.t 3)]⟩, ⟨(some 5), none, .bin 0 .geq (.t 4) (.c (.int .i64 0))⟩, ⟨(some 6), none, .mv (.t 5)⟩, ⟨(some 7), (some (6, false)), .mv (.t 0)⟩, ⟨(some 8), (some (6, false)), .bin 0 .eql (.t 7) (.c (.int .u8 46))⟩, ⟨(some 9), none, .pick (.t 6) (.c (.bool true)) (.t 8)⟩, ⟨(some 10), none, .mv (.t 9)⟩, ⟨(some 11), (some (10, false)), .mv (.t 0)⟩, ⟨(some 12), (some (10, false)), .bin 0 .eql (.t 11) (.c (.int .u8 63))⟩, ⟨(some 13), none, .pick (.t 10) (.c (.bool true)) (.t 12)⟩, ⟨(some 14), none, .mv (.t 13)⟩, ⟨(some 15), (some (14, false)), .mv (.t 0)⟩, ⟨(some 16), (some (14, false)), .bin 0 .eql (.t 15) (.c (.int .u8 42))⟩, ⟨(some 17), none, .pick (.t 14) (.c (.bool true)) (.t 16)⟩, ⟨(some 2), none, .mv (.t 17)⟩])
 (.ret))⟩
def a72 : AFn := ⟨6, [.t 2], .seq (.ops [⟨(some 2), none, .mv (.c (.bool false))⟩])
 (.seq (.ops [⟨(some 3), none, .mv (.t 0)⟩, ⟨(some 4), none, .s2b (.t 3)⟩, ⟨(some 5), none, .call 68 [(.t 4), (.c (.fn 103 []))]⟩, ⟨(some 2), none, .mv (.t 5)⟩])
 (.ret))⟩
theorem c72 : compF Go.Proofs.Tryd.prog 72 = some a72 := by kernel_rfl
def a76 : AFn := ⟨12, [.t 4], .seq (.ops [⟨(some 4), none, .mv (.c (.int .i64 0))⟩])
 (.seq (.block 0 (.loop (.seq (.seq (.ops [⟨(some 5), none, .mv (.t 1)⟩, ⟨(some 6), none, .bin 0 .neq (.t 5) (.c (.int .i64 0))⟩])
 (.cond (.t 6) (.skip) (.exit 0)))
 (.block 1 (.any [(⟨(some 7), none, .mv (.t 1)⟩, []), (⟨(some 8), none, .mv (.t 0)⟩, [0]), (⟨(some 9), none, .mv (.t 1)⟩, [0, 1]), (⟨(some 10), none, .bin 0 .rem (.t 8) (.t 9)⟩, [0]), (⟨(some 0), none, .mv (.t 7)⟩, [2, 3]), (⟨(some 1), none, .mv (.t 10)⟩, [])])))))
 (.seq (.ops [⟨(some 11), none, .mv (.t 0)⟩, ⟨(some 4), none, .mv (.t 11)⟩])
 (.ret)))⟩
theorem c76 : compF Go.Proofs.Tryd.prog 76 = some a76 := by kernel_rfl
def a77 : AFn := ⟨8, [.t 4], .seq (.ops [⟨(some 4), none, .mv (.c (.int .i64 0))⟩])
 (.seq (.ops [⟨(some 5), none, .mv (.t 0)⟩, ⟨(some 6), none, .mv (.t 1)⟩, ⟨(some 7), none, .call 105 [(.t 5), (.t 6)]⟩, ⟨(some 4), none, .mv (.t 7)⟩])
 (.ret))⟩
theorem c77 : compF Go.Proofs.Tryd.prog 77 = some a77 := by kernel_rfl
def a79 : AFn := ⟨16, [.t 4], .seq (.ops [⟨(some 4), none, .mv (.c (.int .i64 0))⟩])
 (.seq (.seq (.ops [⟨(some 5), none, .mv (.t 1)⟩, ⟨(some 6), none, .bin 0 .lss (.t 5) (.c (.int .i64 1))⟩])
 (.cond (.t 6) (.seq (.ops [⟨(some 4), none, .mv (.c (.int .i64 0))⟩])
 (.ret)) (.skip)))
 (.seq (.ops [⟨(some 7), none, .mv (.t 0)⟩, ⟨(some 8), none, .mv (.t 1)⟩, ⟨(some 9), none, .bin 0 .rem (.t 7) (.t 8)⟩, ⟨(some 0), none, .mv (.t 9)⟩])
 (.seq (.seq (.ops [⟨(some 10), none, .mv (.t 0)⟩, ⟨(some 11), none, .bin 0 .lss (.t 10) (.c (.int .i64 0))⟩])
 (.cond (.t 11) (.ops [⟨(some 12), none, .mv (.t 0)⟩, ⟨(some 13), none, .mv (.t 1)⟩, ⟨(some 14), none, .bin 0 .add (.t 12) (.t 13)⟩, ⟨(some 0), none, .mv (.t 14)⟩]) (.skip)))
 (.seq (.ops [⟨(some 15), none, .mv (.t 0)⟩, ⟨(some 4), none, .mv (.t 15)⟩])
 (.ret)))))⟩
theorem c79 : compF Go.Proofs.Tryd.prog 79 = some a79 := by kernel_rfl
def a81 : AFn := ⟨6, [.t 2], .seq (.ops [⟨(some 2), none, .mv (.c (.bool false))⟩])
 (.seq (.ops [⟨(some 3), none, .mv (.t 0)⟩, ⟨(some 4), none, .call 36 [(.t 3), (.c (.int .i64 0)), (.c (.int .i64 15))]⟩, ⟨(some 5), none, .un .not (.t 4)⟩, ⟨(some 2), none, .mv (.t 5)⟩])
 (.ret))⟩
theorem c81 : compF Go.Proofs.Tryd.prog 81 = some a81 := by kernel_rfl
def a82 : AFn := ⟨57, [.t 4], .seq (.ops [⟨(some 4), none, .mv (.c (.str []))⟩])
 (.seq (.ops [⟨(some 12), none, .mmk (.i .i64) (.str [])⟩, ⟨(some 13), none, .mv (.t 0)⟩, ⟨none, none, .mup (.i .i64) (.t 12) (.t 13) (.c (.str []))⟩, ⟨(some 14), none, .mv (.t 12)⟩, ⟨(some 5), none, .mv (.t 14)⟩])
 (.seq (.ops [⟨(some 15), none, .mv (.t 0)⟩, ⟨(some 16), none, .bslice 3 1 1 [(.int .i64 0)] [(0, 1, (.t 15))]⟩, ⟨(some 6), none, .mv (.t 16)⟩])
 (.seq (.block 0 (.loop (.seq (.seq (.ops [⟨(some 17), none, .mv (.t 6)⟩, ⟨(some 18), none, .len false (.t 17)⟩, ⟨(some 19), none, .bin 0 .gtr (.t 18) (.c (.int .i64 0))⟩])
 (.cond (.t 19) (.skip) (.exit 0)))
 (.block 1 (.seq (.ops [⟨(some 20), none, .mv (.t 6)⟩, ⟨(some 21), none, .iadr 1 (.t 20) (.c (.int .i64 0))⟩, ⟨(some 22), none, .load none (.t 21)⟩, ⟨(some 7), none, .mv (.t 22)⟩])
 (.seq (.ops [⟨(some 23), none, .mv (.t 6)⟩, ⟨(some 24), none, .slc 1 (.t 23) (some (.c (.int .i64 1))) none⟩, ⟨(some 6), none, .mv (.t 24)⟩])
 (.seq (.ops [⟨(some 25), none, .mv (.c (.int .i64 0))⟩])
 (.block 2 (.loop (.seq (.ops [⟨(some 26), none, .bin 0 .lss (.t 25) (.c (.int .i64 2))⟩])
 (.seq (.cond (.t 26) (.skip) (.exit 2))
 (.seq (.block 3 (.seq (.ops [⟨(some 27), none, .mv (.t 25)⟩, ⟨(some 8), none, .mv (.t 27)⟩])
 (.seq (.ops [⟨(some 28), none, .mv (.t 7)⟩, ⟨(some 29), none, .mv (.t 8)⟩, ⟨(some 30), none, .call 107 [(.t 28), (.t 29)]⟩, ⟨(some 9), none, .mv (.t 30)⟩])
 (.seq (.ops [⟨(some 32), none, .mv (.t 5)⟩, ⟨(some 33), none, .mv (.t 9)⟩, ⟨(some 34), none, .mlk true (.i .i64) (.str []) (.t 32) (.t 33)⟩, ⟨(some 31), none, .mv (.t 34)⟩, ⟨(some 35), none, .ext (.t 31) 0⟩, ⟨(some 36), none, .ext (.t 31) 1⟩, ⟨(some 10), none, .mv (.t 35)⟩, ⟨(some 11), none, .mv (.t 36)⟩])
 (.seq (.ops [⟨(some 37), none, .mv (.t 11)⟩, ⟨(some 38), none, .un .not (.t 37)⟩])
 (.cond (.t 38) (.seq (.ops [⟨(some 39), none, .mv (.t 5)⟩, ⟨(some 40), none, .mv (.t 9)⟩, ⟨(some 41), none, .mv (.t 5)⟩, ⟨(some 42), none, .mv (.t 7)⟩, ⟨(some 43), none, .mlk false (.i .i64) (.str []) (.t 41) (.t 42)⟩, ⟨(some 44), none, .mv (.t 8)⟩, ⟨(some 45), none, .bin 0 .add (.c (.int .i64 48)) (.t 44)⟩, ⟨(some 46), none, .conv .i32 (.t 45)⟩, ⟨(some 47), none, .i2s (.t 46)⟩, ⟨(some 48), none, .bin 1 .add (.t 43) (.t 47)⟩, ⟨none, none, .mup (.i .i64) (.t 39) (.t 40) (.t 48)⟩])
 (.ops [⟨(some 49), none, .mv (.t 6)⟩, ⟨(some 50), none, .mv (.t 9)⟩, ⟨(some 51), none, .bslice 3 1 1 [(.int .i64 0)] [(0, 1, (.t 50))]⟩, ⟨(some 52), none, .app 3 1 8 (.t 49) (.t 51)⟩, ⟨(some 6), none, .mv (.t 52)⟩])) (.skip)))))))
 (.ops [⟨(some 53), none, .bin 0 .add (.t 25) (.c (.int .i64 1))⟩, ⟨(some 25), none, .mv (.t 53)⟩])))))))))))))
 (.seq (.ops [⟨(some 54), none, .mv (.t 5)⟩, ⟨(some 55), none, .mv (.t 1)⟩, ⟨(some 56), none, .mlk false (.i .i64) (.str []) (.t 54) (.t 55)⟩, ⟨(some 4), none, .mv (.t 56)⟩])
 (.ret)))))⟩
theorem c82 : compF Go.Proofs.Tryd.prog 82 = some a82 := by kernel_rfl
def a83 : AFn := ⟨5, [.t 2], .seq (.ops [⟨(some 2), none, .mv (.c (.int .i64 0))⟩])
 (.seq (.seq (.ops [⟨(some 3), none, .mv (.t 0)⟩, ⟨(some 4), none, .call 36 [(.t 3), (.c (.int .i64 1)), (.c (.int .i64 100))]⟩])
 (.cond (.t 4) (.seq (.ops [⟨(some 2), none, .mv (.c (.int .i64 1))⟩])
 (.ret)) (.skip)))
 (.seq (.ops [⟨(some 2), none, .mv (.c (.int .i64 0))⟩])
 (.ret)))⟩
theorem c83 : compF Go.Proofs.Tryd.prog 83 = some a83 := by kernel_rfl
def a84 : AFn := ⟨12, [.t 4], .seq (.ops [⟨(some 4), none, .mv (.c (.int .i64 0))⟩])
 (.seq (.block 0 (.loop (.seq (.seq (.ops [⟨(some 5), none, .mv (.t 1)⟩, ⟨(some 6), none, .mv (.t 0)⟩, ⟨(some 7), none, .callv (.t 5) [(.t 6)]⟩, ⟨(some 8), none, .un .not (.t 7)⟩])
 (.cond (.t 8) (.skip) (.exit 0)))
 (.block 1 (.ops [⟨(some 9), none, .mv (.t 0)⟩, ⟨(some 10), none, .bin 0 .add (.t 9) (.c (.int .i64 1))⟩, ⟨(some 0), none, .mv (.t 10)⟩])))))
 (.seq (.ops [⟨(some 11), none, .mv (.t 0)⟩, ⟨(some 4), none, .mv (.t 11)⟩])
 (.ret)))⟩
theorem c84 : compF Go.Proofs.Tryd.prog 84 = some a84 := by kernel_rfl
def a85 : AFn := ⟨9, [.t 3], .seq (.ops [⟨(some 3), none, .mv (.c (.bool false))⟩])
 (.seq (.any [(⟨(some 4), none, .mv (.t 0)⟩, []), (⟨(some 5), none, .bin 0 .shl (.c (.int .i64 1)) (.t 4)⟩, []), (⟨(some 6), none, .bin 0 .sub (.t 5) (.c (.int .i64 2))⟩, []), (⟨(some 7), none, .load none (.t 1)⟩, [0, 1, 2]), (⟨(some 8), none, .bin 0 .geq (.t 6) (.t 7)⟩, []), (⟨(some 3), none, .mv (.t 8)⟩, [])])
 (.ret))⟩
theorem c85 : compF Go.Proofs.Tryd.prog 85 = some a85 := by kernel_rfl
def a86 : AFn := ⟨24, [.t 4], .seq (.ops [⟨(some 4), none, .mv (.c (.str []))⟩])
 (.seq (.ops [⟨(some 5), none, .mv (.c (.lit true 0 []))⟩])
 (.seq (.seq (.ops [⟨(some 7), none, .mv (.t 1)⟩, ⟨(some 8), none, .bin 0 .sub (.t 7) (.c (.int .i64 1))⟩, ⟨(some 6), none, .mv (.t 8)⟩])
 (.block 0 (.loop (.seq (.seq (.ops [⟨(some 9), none, .mv (.t 6)⟩, ⟨(some 10), none, .bin 0 .geq (.t 9) (.c (.int .i64 0))⟩])
 (.cond (.t 10) (.skip) (.exit 0)))
 (.seq (.block 1 (.ops [⟨(some 13), none, .mv (.t 5)⟩, ⟨(some 14), none, .mv (.t 0)⟩, ⟨(some 15), none, .mv (.t 6)⟩, ⟨(some 16), none, .bin 0 .shr (.t 14) (.t 15)⟩, ⟨(some 17), none, .bin 0 .and (.t 16) (.c (.int .i64 1))⟩, ⟨(some 18), none, .bin 0 .add (.c (.int .i64 48)) (.t 17)⟩, ⟨(some 19), none, .conv .u8 (.t 18)⟩, ⟨(some 20), none, .bslice 5 1 1 [(.int .u8 0)] [(0, 1, (.t 19))]⟩, ⟨(some 21), none, .app 5 1 1 (.t 13) (.t 20)⟩, ⟨(some 5), none, .mv (.t 21)⟩]))
 (.ops [⟨(some 11), none, .mv (.t 6)⟩, ⟨(some 12), none, .bin 0 .sub (.t 11) (.c (.int .i64 1))⟩, ⟨(some 6), none, .mv (.t 12)⟩]))))))
 (.seq (.ops [⟨(some 22), none, .mv (.t 5)⟩, ⟨(some 23), none, .b2s (.t 22)⟩, ⟨(some 4), none, .mv (.t 23)⟩])
 (.ret))))⟩
theorem c86 : compF Go.Proofs.Tryd.prog 86 = some a86 := by kernel_rfl
def a87 : AFn := ⟨38, [.t 4], .seq (.ops [⟨(some 4), none, .mv (.c (.lit true 0 []))⟩])
 (.seq (.ops [⟨(some 5), none, .mv (.c (.lit true 0 []))⟩])
 (.seq (.seq (.ops [⟨(some 10), none, .mv (.t 1)⟩, ⟨(some 11), none, .mv (.c (.int .i64 0))⟩])
 (.block 0 (.loop (.seq (.ops [⟨(some 12), none, .bin 0 .lss (.t 11) (.t 10)⟩])
 (.seq (.cond (.t 12) (.skip) (.exit 0))
 (.seq (.block 1 (.seq (.ops [⟨(some 13), none, .mv (.t 11)⟩, ⟨(some 6), none, .mv (.t 13)⟩])
 (.seq (.ops [⟨(some 14), none, .mv (.t 0)⟩, ⟨(some 15), none, .len false (.t 14)⟩, ⟨(some 16), none, .mks 5 1 1 [(.int .u8 0)] (.t 15)⟩, ⟨(some 7), none, .mv (.t 16)⟩])
 (.seq (.seq (.ops [⟨(some 17), none, .mv (.t 0)⟩, ⟨(some 18), none, .len false (.t 17)⟩, ⟨(some 19), none, .mv (.c (.int .i64 0))⟩])
 (.block 2 (.loop (.seq (.ops [⟨(some 20), none, .bin 0 .lss (.t 19) (.t 18)⟩])
 (.seq (.cond (.t 20) (.skip) (.exit 2))
 (.seq (.block 3 (.seq (.ops [⟨(some 21), none, .mv (.t 19)⟩, ⟨(some 22), none, .iadr 1 (.t 17) (.t 19)⟩, ⟨(some 23), none, .load none (.t 22)⟩, ⟨(some 8), none, .mv (.t 21)⟩, ⟨(some 9), none, .mv (.t 23)⟩])
 (.ops [⟨(some 24), none, .mv (.t 7)⟩, ⟨(some 25), none, .mv (.t 8)⟩, ⟨(some 26), none, .mv (.t 9)⟩, ⟨(some 27), none, .mv (.t 6)⟩, ⟨(some 28), none, .idxs (.t 26) (.t 27)⟩, ⟨(some 29), none, .iadr 1 (.t 24) (.t 25)⟩, ⟨none, none, .store 1 (.t 29) (.t 28)⟩])))
 (.ops [⟨(some 30), none, .bin 0 .add (.t 19) (.c (.int .i64 1))⟩, ⟨(some 19), none, .mv (.t 30)⟩])))))))
 (.ops [⟨(some 31), none, .mv (.t 5)⟩, ⟨(some 32), none, .mv (.t 7)⟩, ⟨(some 33), none, .b2s (.t 32)⟩, ⟨(some 34), none, .bslice 9 1 1 [(.str [])] [(0, 1, (.t 33))]⟩, ⟨(some 35), none, .app 9 1 16 (.t 31) (.t 34)⟩, ⟨(some 5), none, .mv (.t 35)⟩])))))
 (.ops [⟨(some 36), none, .bin 0 .add (.t 11) (.c (.int .i64 1))⟩, ⟨(some 11), none, .mv (.t 36)⟩])))))))
 (.seq (.ops [⟨(some 37), none, .mv (.t 5)⟩, ⟨(some 4), none, .mv (.t 37)⟩])
 (.ret))))⟩
theorem c87 : compF Go.Proofs.Tryd.prog 87 = some a87 := by kernel_rfl
def a94 : AFn := ⟨15, [.t 2], .seq (.ops [⟨(some 2), none, .mv (.c (.int .i64 0))⟩])
 (.seq (.seq (.ops [⟨(some 5), none, .mv (.t 0)⟩, ⟨(some 6), none, .len false (.t 5)⟩, ⟨(some 7), none, .mv (.c (.int .i64 0))⟩])
 (.block 0 (.loop (.seq (.ops [⟨(some 8), none, .bin 0 .lss (.t 7) (.t 6)⟩])
 (.seq (.cond (.t 8) (.skip) (.exit 0))
 (.seq (.block 1 (.seq (.ops [⟨(some 9), none, .iadr 1 (.t 5) (.t 7)⟩, ⟨(some 10), none, .load none (.t 9)⟩, ⟨(some 4), none, .mv (.t 10)⟩])
 (.seq (.ops [⟨(some 11), none, .mv (.t 4)⟩, ⟨(some 12), none, .bin 0 .neq (.t 11) (.c (.int .i64 0))⟩])
 (.cond (.t 12) (.seq (.ops [⟨(some 13), none, .mv (.t 4)⟩, ⟨(some 2), none, .mv (.t 13)⟩])
 (.ret)) (.skip)))))
 (.ops [⟨(some 14), none, .bin 0 .add (.t 7) (.c (.int .i64 1))⟩, ⟨(some 7), none, .mv (.t 14)⟩])))))))
 (.seq (.ops [⟨(some 2), none, .mv (.c (.int .i64 0))⟩])
 (.ret)))⟩
theorem c94 : compF Go.Proofs.Tryd.prog 94 = some a94 := by kernel_rfl
def a95 : AFn := ⟨19, [.t 4], .seq (.ops [⟨(some 4), none, .mv (.c (.int .i64 0))⟩])
 (.seq (.seq (.ops [⟨(some 6), none, .mv (.t 0)⟩, ⟨(some 7), none, .len false (.t 6)⟩, ⟨(some 8), none, .mv (.c (.int .i64 0))⟩])
 (.block 0 (.loop (.seq (.ops [⟨(some 9), none, .bin 0 .lss (.t 8) (.t 7)⟩])
 (.seq (.cond (.t 9) (.skip) (.exit 0))
 (.seq (.block 1 (.seq (.ops [⟨(some 10), none, .mv (.t 8)⟩, ⟨(some 5), none, .mv (.t 10)⟩])
 (.seq (.ops [⟨(some 11), none, .mv (.t 1)⟩, ⟨(some 12), none, .mv (.t 0)⟩, ⟨(some 13), none, .mv (.t 5)⟩, ⟨(some 14), none, .iadr 2 (.t 12) (.t 13)⟩, ⟨(some 15), none, .load (some 2) (.t 14)⟩, ⟨(some 16), none, .callv (.t 11) [(.t 15)]⟩])
 (.cond (.t 16) (.seq (.ops [⟨(some 17), none, .mv (.t 5)⟩, ⟨(some 4), none, .mv (.t 17)⟩])
 (.ret)) (.skip)))))
 (.ops [⟨(some 18), none, .bin 0 .add (.t 8) (.c (.int .i64 1))⟩, ⟨(some 8), none, .mv (.t 18)⟩])))))))
 (.seq (.ops [⟨(some 4), none, .mv (.c (.int .i64 (-1)))⟩])
 (.ret)))⟩
theorem c95 : compF Go.Proofs.Tryd.prog 95 = some a95 := by kernel_rfl
def a96 : AFn := ⟨18, [.t 2], .seq (.ops [⟨(some 2), none, .mv (.c (.int .i64 0))⟩])
 (.seq (.ops [⟨(some 3), none, .mv (.c (.int .i64 0))⟩])
 (.seq (.seq (.ops [⟨(some 6), none, .mv (.t 0)⟩, ⟨(some 7), none, .len false (.t 6)⟩, ⟨(some 8), none, .mv (.c (.int .i64 0))⟩])
 (.block 0 (.loop (.seq (.ops [⟨(some 9), none, .bin 0 .lss (.t 8) (.t 7)⟩])
 (.seq (.cond (.t 9) (.skip) (.exit 0))
 (.seq (.block 1 (.seq (.ops [⟨(some 10), none, .iadr 1 (.t 6) (.t 8)⟩, ⟨(some 11), none, .load none (.t 10)⟩, ⟨(some 5), none, .mv (.t 11)⟩])
 (.seq (.ops [⟨(some 12), none, .mv (.t 5)⟩, ⟨(some 13), none, .mv (.t 3)⟩, ⟨(some 14), none, .bin 0 .neq (.t 12) (.t 13)⟩])
 (.cond (.t 14) (.seq (.ops [⟨(some 15), none, .mv (.t 5)⟩, ⟨(some 2), none, .mv (.t 15)⟩])
 (.ret)) (.skip)))))
 (.ops [⟨(some 16), none, .bin 0 .add (.t 8) (.c (.int .i64 1))⟩, ⟨(some 8), none, .mv (.t 16)⟩])))))))
 (.seq (.ops [⟨(some 17), none, .mv (.t 3)⟩, ⟨(some 2), none, .mv (.t 17)⟩])
 (.ret))))⟩
theorem c96 : compF Go.Proofs.Tryd.prog 96 = some a96 := by kernel_rfl
def a97 : AFn := ⟨20, [.t 4], .seq (.ops [⟨(some 4), none, .mv (.c (.int .i64 0))⟩])
 (.seq (.ops [⟨(some 7), none, .mv (.t 0)⟩, ⟨(some 8), none, .call 114 [(.t 7)]⟩, ⟨(some 5), none, .mv (.t 8)⟩])
 (.seq (.ops [⟨(some 9), none, .mv (.t 1)⟩, ⟨(some 10), none, .call 114 [(.t 9)]⟩, ⟨(some 6), none, .mv (.t 10)⟩])
 (.seq (.seq (.ops [⟨(some 11), none, .mv (.t 5)⟩])
 (.cond (.t 11) (.seq (.seq (.ops [⟨(some 12), none, .mv (.t 6)⟩])
 (.cond (.t 12) (.seq (.ops [⟨(some 4), none, .mv (.c (.int .i64 0))⟩])
 (.ret)) (.skip)))
 (.seq (.ops [⟨(some 4), none, .mv (.c (.int .i64 (-1)))⟩])
 (.ret))) (.skip)))
 (.seq (.seq (.ops [⟨(some 13), none, .mv (.t 6)⟩])
 (.cond (.t 13) (.seq (.ops [⟨(some 4), none, .mv (.c (.int .i64 1))⟩])
 (.ret)) (.skip)))
 (.seq (.seq (.ops [⟨(some 14), none, .mv (.t 0)⟩, ⟨(some 15), none, .mv (.t 1)⟩, ⟨(some 16), none, .bin 0 .lss (.t 14) (.t 15)⟩])
 (.cond (.t 16) (.seq (.ops [⟨(some 4), none, .mv (.c (.int .i64 (-1)))⟩])
 (.ret)) (.skip)))
 (.seq (.seq (.ops [⟨(some 17), none, .mv (.t 0)⟩, ⟨(some 18), none, .mv (.t 1)⟩, ⟨(some 19), none, .bin 0 .gtr (.t 17) (.t 18)⟩])
 (.cond (.t 19) (.seq (.ops [⟨(some 4), none, .mv (.c (.int .i64 1))⟩])
 (.ret)) (.skip)))
 (.seq (.ops [⟨(some 4), none, .mv (.c (.int .i64 0))⟩])
 (.ret))))))))⟩
theorem c97 : compF Go.Proofs.Tryd.prog 97 = some a97 := by kernel_rfl
def a98 : AFn := ⟨61, [.t 2], .seq (.ops [⟨(some 2), none, .mv (.c (.int .i64 0))⟩])
 (.seq (.block 0 (.seq (.ops [⟨(some 7), none, .mv (.t 0)⟩, ⟨(some 8), none, .len false (.t 7)⟩, ⟨(some 9), none, .bin 0 .eql (.t 8) (.c (.int .i64 0))⟩, ⟨(some 6), none, .mv (.t 9)⟩])
 (.cond (.t 6) (.seq (.ops [⟨(some 2), none, .mv (.c (.int .i64 8))⟩])
 (.ret)) (.seq (.ops [⟨(some 11), none, .mv (.t 0)⟩, ⟨(some 12), none, .len false (.t 11)⟩, ⟨(some 13), none, .bin 0 .gtr (.t 12) (.c (.int .i64 8))⟩, ⟨(some 10), none, .mv (.t 13)⟩])
 (.cond (.t 10) (.seq (.ops [⟨(some 2), none, .mv (.c (.int .i64 2))⟩])
 (.ret)) (.skip))))))
 (.seq (.ops [⟨(some 14), none, .mv (.t 0)⟩, ⟨(some 15), none, .iadr 2 (.t 14) (.c (.int .i64 0))⟩, ⟨(some 16), none, .load (some 2) (.t 15)⟩, ⟨(some 3), none, .alloc 60 [(.int .i64 0), (.int .i64 0)]⟩, ⟨none, none, .store 2 (.t 3) (.t 16)⟩])
 (.seq (.seq (.ops [⟨(some 17), none, .mv (.t 0)⟩, ⟨(some 18), none, .len false (.t 17)⟩, ⟨(some 19), none, .mv (.c (.int .i64 0))⟩])
 (.block 1 (.loop (.seq (.ops [⟨(some 20), none, .bin 0 .lss (.t 19) (.t 18)⟩])
 (.seq (.cond (.t 20) (.skip) (.exit 1))
 (.seq (.block 2 (.seq (.ops [⟨(some 21), none, .mv (.t 19)⟩, ⟨(some 22), none, .iadr 2 (.t 17) (.t 19)⟩, ⟨(some 23), none, .load (some 2) (.t 22)⟩, ⟨(some 5), none, .alloc 60 [(.int .i64 0), (.int .i64 0)]⟩, ⟨(some 4), none, .mv (.t 21)⟩, ⟨none, none, .store 2 (.t 5) (.t 23)⟩])
 (.seq (.block 3 (.seq (.ops [⟨(some 25), none, .fadr 0 (.t 5)⟩, ⟨(some 26), none, .load none (.t 25)⟩, ⟨(some 27), none, .call 36 [(.t 26), (.c (.int .i64 0)), (.c (.int .i64 59))]⟩, ⟨(some 28), none, .mv (.t 27)⟩, ⟨(some 29), (some (28, false)), .fadr 1 (.t 5)⟩, ⟨(some 30), (some (28, false)), .load none (.t 29)⟩, ⟨(some 31), (some (28, false)), .call 36 [(.t 30), (.c (.int .i64 0)), (.c (.int .i64 59))]⟩, ⟨(some 32), none, .pick (.t 28) (.c (.bool true)) (.t 31)⟩, ⟨(some 24), none, .mv (.t 32)⟩])
 (.cond (.t 24) (.seq (.ops [⟨(some 2), none, .mv (.c (.int .i64 1))⟩])
 (.ret)) (.seq (.any [(⟨(some 34), none, .mv (.t 4)⟩, []), (⟨(some 35), none, .bin 0 .gtr (.t 34) (.c (.int .i64 0))⟩, []), (⟨(some 36), none, .mv (.t 35)⟩, []), (⟨(some 37), (some (36, true)), .load (some 2) (.t 5)⟩, []), (⟨(some 38), (some (36, true)), .mv (.t 0)⟩, [3]), (⟨(some 39), (some (36, true)), .mv (.t 4)⟩, [3, 4]), (⟨(some 40), (some (36, true)), .bin 0 .sub (.t 39) (.c (.int .i64 1))⟩, [3, 4]), (⟨(some 41), (some (36, true)), .iadr 2 (.t 38) (.t 40)⟩, [3]), (⟨(some 42), (some (36, true)), .load (some 2) (.t 41)⟩, [3]), (⟨(some 43), (some (36, true)), .call 100 [(.t 37), (.t 42)]⟩, []), (⟨(some 44), (some (36, true)), .bin 0 .leq (.t 43) (.c (.int .i64 0))⟩, []), (⟨(some 45), none, .pick (.t 36) (.t 44) (.c (.bool false))⟩, []), (⟨(some 33), none, .mv (.t 45)⟩, [])])
 (.cond (.t 33) (.seq (.ops [⟨(some 2), none, .mv (.c (.int .i64 7))⟩])
 (.ret)) (.skip))))))
 (.ops [⟨(some 46), none, .fadr 0 (.t 3)⟩, ⟨(some 47), none, .load none (.t 46)⟩, ⟨(some 48), none, .fadr 0 (.t 5)⟩, ⟨(some 49), none, .load none (.t 48)⟩, ⟨(some 50), none, .mm false (.t 47) [(.t 49)]⟩, ⟨(some 51), none, .fadr 1 (.t 3)⟩, ⟨(some 52), none, .load none (.t 51)⟩, ⟨(some 53), none, .fadr 1 (.t 5)⟩, ⟨(some 54), none, .load none (.t 53)⟩, ⟨(some 55), none, .mm false (.t 52) [(.t 54)]⟩, ⟨(some 56), none, .build [(.int .i64 0), (.int .i64 0)] [(0, 1, (.t 50)), (1, 1, (.t 55))]⟩, ⟨none, none, .store 2 (.t 3) (.t 56)⟩]))))
 (.ops [⟨(some 57), none, .bin 0 .add (.t 19) (.c (.int .i64 1))⟩, ⟨(some 19), none, .mv (.t 57)⟩])))))))
 (.seq (.seq (.ops [⟨(some 58), none, .load (some 2) (.t 3)⟩, ⟨(some 59), none, .build [(.int .i64 0), (.int .i64 0)] []⟩, ⟨(some 60), none, .eqs true [0, 0] (.t 58) (.t 59)⟩])
 (.cond (.t 60) (.seq (.ops [⟨(some 2), none, .mv (.c (.int .i64 3))⟩])
 (.ret)) (.skip)))
 (.seq (.ops [⟨(some 2), none, .mv (.c (.int .i64 0))⟩])
 (.ret))))))⟩
theorem c98 : compF Go.Proofs.Tryd.prog 98 = some a98 := by kernel_rfl
def a99 : AFn := ⟨14, [], .seq (.ops [⟨(some 5), none, .mv (.t 0)⟩, ⟨(some 6), none, .len false (.t 5)⟩, ⟨(some 4), none, .mv (.t 6)⟩])
 (.ops [⟨(some 7), none, .mv (.t 0)⟩, ⟨(some 8), none, .mv (.t 4)⟩, ⟨(some 9), none, .mv (.t 4)⟩, ⟨(some 10), none, .conv .u64 (.t 9)⟩, ⟨(some 11), none, .call 116 [(.t 10)]⟩, ⟨(some 12), none, .mv (.t 1)⟩, ⟨(some 13), none, .call 115 [(.t 7), (.c (.int .i64 0)), (.t 8), (.t 11), (.t 12)]⟩])⟩
theorem c99 : compF Go.Proofs.Tryd.prog 99 = some a99 := by kernel_rfl
def a100 : AFn := ⟨17, [.t 4], .seq (.ops [⟨(some 2), none, .box 60 (.t 0)⟩, ⟨(some 3), none, .box 60 (.t 1)⟩, ⟨(some 4), none, .mv (.c (.int .i64 0))⟩])
 (.seq (.any [(⟨(some 5), none, .fadr 1 (.t 2)⟩, []), (⟨(some 6), none, .load none (.t 5)⟩, []), (⟨(some 7), none, .fadr 1 (.t 3)⟩, [0, 1]), (⟨(some 8), none, .load none (.t 7)⟩, [0, 1]), (⟨(some 9), none, .call 97 [(.t 6), (.t 8)]⟩, []), (⟨(some 10), none, .fadr 0 (.t 2)⟩, [0, 1, 2, 3, 4]), (⟨(some 11), none, .load none (.t 10)⟩, [0, 1, 2, 3, 4]), (⟨(some 12), none, .fadr 0 (.t 3)⟩, [0, 1, 2, 3, 4, 5, 6]), (⟨(some 13), none, .load none (.t 12)⟩, [0, 1, 2, 3, 4, 5, 6]), (⟨(some 14), none, .call 97 [(.t 11), (.t 13)]⟩, []), (⟨(some 15), none, .bslice 3 1 2 [(.int .i64 0)] [(0, 1, (.t 9)), (1, 1, (.t 14))]⟩, []), (⟨(some 16), none, .call 96 [(.t 15)]⟩, []), (⟨(some 4), none, .mv (.t 16)⟩, [])])
 (.ret))⟩
theorem c100 : compF Go.Proofs.Tryd.prog 100 = some a100 := by kernel_rfl
def a101 : AFn := ⟨61, [.t 2], .seq (.ops [⟨(some 2), none, .mv (.c (.lit true 0 []))⟩])
 (.seq (.seq (.ops [⟨(some 6), none, .mv (.t 0)⟩, ⟨(some 7), none, .len false (.t 6)⟩, ⟨(some 8), none, .bin 0 .lss (.t 7) (.c (.int .i64 2))⟩])
 (.cond (.t 8) (.seq (.ops [⟨(some 9), none, .mv (.t 0)⟩, ⟨(some 2), none, .mv (.t 9)⟩])
 (.ret)) (.skip)))
 (.seq (.seq (.ops [⟨(some 3), none, .mv (.c (.int .i64 1))⟩])
 (.block 0 (.loop (.seq (.seq (.ops [⟨(some 10), none, .mv (.t 3)⟩, ⟨(some 11), none, .mv (.t 0)⟩, ⟨(some 12), none, .len false (.t 11)⟩, ⟨(some 13), none, .bin 0 .lss (.t 10) (.t 12)⟩])
 (.cond (.t 13) (.skip) (.exit 0)))
 (.seq (.block 1 (.seq (.any [(⟨(some 16), none, .mv (.t 0)⟩, []), (⟨(some 17), none, .mv (.t 3)⟩, [0]), (⟨(some 18), none, .iadr 2 (.t 16) (.t 17)⟩, []), (⟨(some 19), none, .load (some 2) (.t 18)⟩, []), (⟨(some 20), none, .mv (.t 0)⟩, [0, 1, 2, 3]), (⟨(some 21), none, .mv (.t 3)⟩, [0, 1, 2, 3, 4]), (⟨(some 22), none, .bin 0 .sub (.t 21) (.c (.int .i64 1))⟩, [0, 1, 2, 3, 4]), (⟨(some 23), none, .iadr 2 (.t 20) (.t 22)⟩, [0, 1, 2, 3]), (⟨(some 24), none, .load (some 2) (.t 23)⟩, [0, 1, 2, 3]), (⟨(some 25), none, .eqs false [0, 0] (.t 19) (.t 24)⟩, [])])
 (.cond (.t 25) (.seq (.ops [⟨(some 26), none, .mv (.t 0)⟩, ⟨(some 27), none, .mv (.t 3)⟩, ⟨(some 28), none, .slc 2 (.t 26) (some (.t 27)) none⟩, ⟨(some 4), none, .mv (.t 28)⟩])
 (.seq (.seq (.ops [⟨(some 5), none, .mv (.c (.int .i64 1))⟩])
 (.block 2 (.loop (.seq (.seq (.ops [⟨(some 29), none, .mv (.t 5)⟩, ⟨(some 30), none, .mv (.t 4)⟩, ⟨(some 31), none, .len false (.t 30)⟩, ⟨(some 32), none, .bin 0 .lss (.t 29) (.t 31)⟩])
 (.cond (.t 32) (.skip) (.exit 2)))
 (.seq (.block 3 (.seq (.any [(⟨(some 35), none, .mv (.t 4)⟩, []), (⟨(some 36), none, .mv (.t 5)⟩, [0]), (⟨(some 37), none, .iadr 2 (.t 35) (.t 36)⟩, []), (⟨(some 38), none, .load (some 2) (.t 37)⟩, []), (⟨(some 39), none, .mv (.t 4)⟩, [0, 1, 2, 3]), (⟨(some 40), none, .mv (.t 5)⟩, [0, 1, 2, 3, 4]), (⟨(some 41), none, .bin 0 .sub (.t 40) (.c (.int .i64 1))⟩, [0, 1, 2, 3, 4]), (⟨(some 42), none, .iadr 2 (.t 39) (.t 41)⟩, [0, 1, 2, 3]), (⟨(some 43), none, .load (some 2) (.t 42)⟩, [0, 1, 2, 3]), (⟨(some 44), none, .eqs true [0, 0] (.t 38) (.t 43)⟩, [])])
 (.cond (.t 44) (.seq (.ops [⟨(some 45), none, .mv (.t 0)⟩, ⟨(some 46), none, .mv (.t 3)⟩, ⟨(some 47), none, .mv (.t 4)⟩, ⟨(some 48), none, .mv (.t 5)⟩, ⟨(some 49), none, .iadr 2 (.t 47) (.t 48)⟩, ⟨(some 50), none, .load (some 2) (.t 49)⟩, ⟨(some 51), none, .iadr 2 (.t 45) (.t 46)⟩, ⟨none, none, .store 2 (.t 51) (.t 50)⟩])
 (.ops [⟨(some 52), none, .mv (.t 3)⟩, ⟨(some 53), none, .bin 0 .add (.t 52) (.c (.int .i64 1))⟩, ⟨(some 3), none, .mv (.t 53)⟩])) (.skip))))
 (.ops [⟨(some 33), none, .mv (.t 5)⟩, ⟨(some 34), none, .bin 0 .add (.t 33) (.c (.int .i64 1))⟩, ⟨(some 5), none, .mv (.t 34)⟩]))))))
 (.seq (.ops [⟨(some 54), none, .mv (.t 0)⟩, ⟨(some 55), none, .mv (.t 3)⟩, ⟨(some 56), none, .slc 2 (.t 54) (some (.t 55)) none⟩, ⟨none, none, .clr [(.int .i64 0), (.int .i64 0)] (.t 56)⟩])
 (.seq (.ops [⟨(some 57), none, .mv (.t 0)⟩, ⟨(some 58), none, .mv (.t 3)⟩, ⟨(some 59), none, .slc 2 (.t 57) none (some (.t 58))⟩, ⟨(some 2), none, .mv (.t 59)⟩])
 (.ret))))) (.skip))))
 (.ops [⟨(some 14), none, .mv (.t 3)⟩, ⟨(some 15), none, .bin 0 .add (.t 14) (.c (.int .i64 1))⟩, ⟨(some 3), none, .mv (.t 15)⟩]))))))
 (.seq (.ops [⟨(some 60), none, .mv (.t 0)⟩, ⟨(some 2), none, .mv (.t 60)⟩])
 (.ret))))⟩
theorem c101 : compF Go.Proofs.Tryd.prog 101 = some a101 := by kernel_rfl
def a102 : AFn := ⟨19, [.t 4], .seq (.ops [⟨(some 4), none, .mv (.c (.int .i64 0))⟩])
 (.seq (.seq (.ops [⟨(some 6), none, .mv (.t 0)⟩, ⟨(some 7), none, .len false (.t 6)⟩, ⟨(some 8), none, .mv (.c (.int .i64 0))⟩])
 (.block 0 (.loop (.seq (.ops [⟨(some 9), none, .bin 0 .lss (.t 8) (.t 7)⟩])
 (.seq (.cond (.t 9) (.skip) (.exit 0))
 (.seq (.block 1 (.seq (.ops [⟨(some 10), none, .mv (.t 8)⟩, ⟨(some 5), none, .mv (.t 10)⟩])
 (.seq (.ops [⟨(some 11), none, .mv (.t 1)⟩, ⟨(some 12), none, .mv (.t 0)⟩, ⟨(some 13), none, .mv (.t 5)⟩, ⟨(some 14), none, .iadr 1 (.t 12) (.t 13)⟩, ⟨(some 15), none, .load none (.t 14)⟩, ⟨(some 16), none, .callv (.t 11) [(.t 15)]⟩])
 (.cond (.t 16) (.seq (.ops [⟨(some 17), none, .mv (.t 5)⟩, ⟨(some 4), none, .mv (.t 17)⟩])
 (.ret)) (.skip)))))
 (.ops [⟨(some 18), none, .bin 0 .add (.t 8) (.c (.int .i64 1))⟩, ⟨(some 8), none, .mv (.t 18)⟩])))))))
 (.seq (.ops [⟨(some 4), none, .mv (.c (.int .i64 (-1)))⟩])
 (.ret)))⟩
theorem c102 : compF Go.Proofs.Tryd.prog 102 = some a102 := by kernel_rfl
def a103 : AFn := ⟨6, [.t 2], .seq (.ops [⟨(some 2), none, .mv (.c (.bool false))⟩])
 (.seq (.ops [⟨(some 3), none, .mv (.t 0)⟩, ⟨(some 4), none, .call 104 [(.t 3)]⟩, ⟨(some 5), none, .un .not (.t 4)⟩, ⟨(some 2), none, .mv (.t 5)⟩])
 (.ret))⟩
theorem c103 : compF Go.Proofs.Tryd.prog 103 = some a103 := by kernel_rfl
def a104 : AFn := ⟨17, [.t 2], .seq (.ops [⟨(some 2), none, .mv (.c (.bool false))⟩])
 (.seq (.ops [⟨(some 3), none, .mv (.t 0)⟩, ⟨(some 4), none, .call 43 [(.t 3)]⟩, ⟨(some 5), none, .mv (.t 4)⟩, ⟨(some 6), (some (5, false)), .mv (.t 0)⟩, ⟨(some 7), (some (5, false)), .bin 0 .eql (.t 6) (.c (.int .u8 46))⟩, ⟨(some 8), none, .pick (.t 5) (.c (.bool true)) (.t 7)⟩, ⟨(some 9), none, .mv (.t 8)⟩, ⟨(some 10), (some (9, false)), .mv (.t 0)⟩, ⟨(some 11), (some (9, false)), .bin 0 .eql (.t 10) (.c (.int .u8 63))⟩, ⟨(some 12), none, .pick (.t 9) (.c (.bool true)) (.t 11)⟩, ⟨(some 13), none, .mv (.t 12)⟩, ⟨(some 14), (some (13, false)), .mv (.t 0)⟩, ⟨(some 15), (some (13, false)), .bin 0 .eql (.t 14) (.c (.int .u8 42))⟩, ⟨(some 16), none, .pick (.t 13) (.c (.bool true)) (.t 15)⟩, ⟨(some 2), none, .mv (.t 16)⟩])
 (.ret))⟩
theorem c104 : compF Go.Proofs.Tryd.prog 104 = some a104 := by kernel_rfl
def a105 : AFn := ⟨8, [.t 4], .seq (.ops [⟨(some 4), none, .mv (.c (.int .i64 0))⟩])
 (.seq (.ops [⟨(some 5), none, .mv (.t 0)⟩, ⟨(some 6), none, .mv (.t 1)⟩, ⟨(some 7), none, .call 117 [(.t 5), (.t 6)]⟩, ⟨(some 4), none, .mv (.t 7)⟩])
 (.ret))⟩
theorem c105 : compF Go.Proofs.Tryd.prog 105 = some a105 := by kernel_rfl
def a107 : AFn := ⟨28, [.t 4], .seq (.ops [⟨(some 4), none, .mv (.c (.int .i64 0))⟩])
 (.seq (.ops [⟨(some 6), none, .build [(.int .i64 0), (.int .i64 0)] [(0, 1, (.c (.int .i64 1))), (1, 1, (.c (.int .i64 0)))]⟩, ⟨(some 7), none, .build [(.int .i64 0), (.int .i64 0)] [(0, 1, (.c (.int .i64 1))), (1, 1, (.c (.int .i64 2)))]⟩, ⟨(some 8), none, .build [(.int .i64 0), (.int .i64 0)] [(0, 1, (.c (.int .i64 3))), (1, 1, (.c (.int .i64 9)))]⟩, ⟨(some 9), none, .build [(.int .i64 0), (.int .i64 0)] [(0, 1, (.c (.int .i64 4))), (1, 1, (.c (.int .i64 5)))]⟩, ⟨(some 10), none, .build [(.int .i64 0), (.int .i64 0)] [(0, 1, (.c (.int .i64 4))), (1, 1, (.c (.int .i64 5)))]⟩, ⟨(some 11), none, .build [(.int .i64 0), (.int .i64 0)] [(0, 1, (.c (.int .i64 6))), (1, 1, (.c (.int .i64 8)))]⟩, ⟨(some 12), none, .build [(.int .i64 0), (.int .i64 0)] [(0, 1, (.c (.int .i64 6))), (1, 1, (.c (.int .i64 7)))]⟩, ⟨(some 13), none, .build [(.int .i64 0), (.int .i64 0)] [(0, 1, (.c (.int .i64 4))), (1, 1, (.c (.int .i64 8)))]⟩, ⟨(some 14), none, .build [(.int .i64 0), (.int .i64 0)] [(0, 1, (.c (.int .i64 1))), (1, 1, (.c (.int .i64 2)))]⟩, ⟨(some 15), none, .build [(.int .i64 0), (.int .i64 0)] [(0, 1, (.c (.int .i64 10))), (1, 1, (.c (.int .i64 0)))]⟩, ⟨(some 16), none, .build [(.int .i64 0), (.int .i64 0)] [(0, 1, (.c (.int .i64 11))), (1, 1, (.c (.int .i64 12)))]⟩, ⟨(some 17), none, .build [(.int .i64 0), (.int .i64 0)] [(0, 1, (.c (.int .i64 11))), (1, 1, (.c (.int .i64 12)))]⟩, ⟨(some 18), none, .build [(.int .i64 0), (.int .i64 0)] [(0, 1, (.c (.int .i64 13))), (1, 1, (.c (.int .i64 15)))]⟩, ⟨(some 19), none, .build [(.int .i64 0), (.int .i64 0)] [(0, 1, (.c (.int .i64 13))), (1, 1, (.c (.int .i64 14)))]⟩, ⟨(some 20), none, .build [(.int .i64 0), (.int .i64 0)] [(0, 1, (.c (.int .i64 11))), (1, 1, (.c (.int .i64 15)))]⟩, ⟨(some 21), none, .build [(.int .i64 0), (.int .i64 0)] [(0, 1, (.c (.int .i64 1))), (1, 1, (.c (.int .i64 2)))]⟩, ⟨(some 22), none, .build [(.int .i64 0), (.int .i64 0), (.int .i64 0), (.int .i64 0), (.int .i64 0), (.int .i64 0), (.int .i64 0), (.int .i64 0), (.int .i64 0), (.int .i64 0), (.int .i64 0), (.int .i64 0), (.int .i64 0), (.int .i64 0), (.int .i64 0), (.int .i64 0), (.int .i64 0), (.int .i64 0), (.int .i64 0), (.int .i64 0), (.int .i64 0), (.int .i64 0), (.int .i64 0), (.int .i64 0), (.int .i64 0), (.int .i64 0), (.int .i64 0), (.int .i64 0), (.int .i64 0), (.int .i64 0), (.int .i64 0), (.int .i64 0)] [(0, 2, (.t 6)), (2, 2, (.t 7)), (4, 2, (.t 8)), (6, 2, (.t 9)), (8, 2, (.t 10)), (10, 2, (.t 11)), (12, 2, (.t 12)), (14, 2, (.t 13)), (16, 2, (.t 14)), (18, 2, (.t 15)), (20, 2, (.t 16)), (22, 2, (.t 17)), (24, 2, (.t 18)), (26, 2, (.t 19)), (28, 2, (.t 20)), (30, 2, (.t 21))]⟩, ⟨(some 5), none, .alloc 157 [(.int .i64 0), (.int .i64 0), (.int .i64 0), (.int .i64 0), (.int .i64 0), (.int .i64 0), (.int .i64 0), (.int .i64 0), (.int .i64 0), (.int .i64 0), (.int .i64 0), (.int .i64 0), (.int .i64 0), (.int .i64 0), (.int .i64 0), (.int .i64 0), (.int .i64 0), (.int .i64 0), (.int .i64 0), (.int .i64 0), (.int .i64 0), (.int .i64 0), (.int .i64 0), (.int .i64 0), (.int .i64 0), (.int .i64 0), (.int .i64 0), (.int .i64 0), (.int .i64 0), (.int .i64 0), (.int .i64 0), (.int .i64 0)]⟩, ⟨none, none, .store 32 (.t 5) (.t 22)⟩])
 (.seq (.ops [⟨(some 23), none, .mv (.t 0)⟩, ⟨(some 24), none, .mv (.t 1)⟩, ⟨(some 25), none, .aadr 16 2 (.t 5) (.t 23)⟩, ⟨(some 26), none, .aadr 2 1 (.t 25) (.t 24)⟩, ⟨(some 27), none, .load none (.t 26)⟩, ⟨(some 4), none, .mv (.t 27)⟩])
 (.ret)))⟩
theorem c107 : compF Go.Proofs.Tryd.prog 107 = some a107 := by kernel_rfl
def a114 : AFn := ⟨6, [.t 2], .seq (.ops [⟨(some 2), none, .mv (.c (.bool false))⟩])
 (.seq (.ops [⟨(some 3), none, .mv (.t 0)⟩, ⟨(some 4), none, .mv (.t 0)⟩, ⟨(some 5), none, .bin 0 .neq (.t 3) (.t 4)⟩, ⟨(some 2), none, .mv (.t 5)⟩])
 (.ret))⟩
theorem c114 : compF Go.Proofs.Tryd.prog 114 = some a114 := by kernel_rfl
def a115 : AFn := ⟨148, [], .seq (.ops [⟨(some 10), none, .mv (.c (.bool true))⟩])
 (.seq (.ops [⟨(some 11), none, .mv (.c (.bool true))⟩])
 (.block 0 (.loop (.block 1 (.seq (.ops [⟨(some 21), none, .mv (.t 2)⟩, ⟨(some 22), none, .mv (.t 1)⟩, ⟨(some 23), none, .bin 0 .sub (.t 21) (.t 22)⟩, ⟨(some 12), none, .mv (.t 23)⟩])
 (.seq (.seq (.ops [⟨(some 24), none, .mv (.t 12)⟩, ⟨(some 25), none, .bin 0 .leq (.t 24) (.c (.int .i64 12))⟩])
 (.cond (.t 25) (.seq (.ops [⟨(some 26), none, .mv (.t 0)⟩, ⟨(some 27), none, .mv (.t 1)⟩, ⟨(some 28), none, .mv (.t 2)⟩, ⟨(some 29), none, .mv (.t 4)⟩, ⟨(some 30), none, .call 127 [(.t 26), (.t 27), (.t 28), (.t 29)]⟩])
 (.ret)) (.skip)))
 (.seq (.seq (.ops [⟨(some 31), none, .mv (.t 3)⟩, ⟨(some 32), none, .bin 0 .eql (.t 31) (.c (.int .i64 0))⟩])
 (.cond (.t 32) (.seq (.ops [⟨(some 33), none, .mv (.t 0)⟩, ⟨(some 34), none, .mv (.t 1)⟩, ⟨(some 35), none, .mv (.t 2)⟩, ⟨(some 36), none, .mv (.t 4)⟩, ⟨(some 37), none, .call 128 [(.t 33), (.t 34), (.t 35), (.t 36)]⟩])
 (.ret)) (.skip)))
 (.seq (.seq (.ops [⟨(some 38), none, .mv (.t 10)⟩, ⟨(some 39), none, .un .not (.t 38)⟩])
 (.cond (.t 39) (.seq (.ops [⟨(some 40), none, .mv (.t 0)⟩, ⟨(some 41), none, .mv (.t 1)⟩, ⟨(some 42), none, .mv (.t 2)⟩, ⟨(some 43), none, .mv (.t 4)⟩, ⟨(some 44), none, .call 129 [(.t 40), (.t 41), (.t 42), (.t 43)]⟩])
 (.ops [⟨(some 45), none, .mv (.t 3)⟩, ⟨(some 46), none, .bin 0 .sub (.t 45) (.c (.int .i64 1))⟩, ⟨(some 3), none, .mv (.t 46)⟩])) (.skip)))
 (.seq (.ops [⟨(some 48), none, .mv (.t 0)⟩, ⟨(some 49), none, .mv (.t 1)⟩, ⟨(some 50), none, .mv (.t 2)⟩, ⟨(some 51), none, .mv (.t 4)⟩, ⟨(some 52), none, .call 130 [(.t 48), (.t 49), (.t 50), (.t 51)]⟩, ⟨(some 47), none, .mv (.t 52)⟩, ⟨(some 53), none, .ext (.t 47) 0⟩, ⟨(some 54), none, .ext (.t 47) 1⟩, ⟨(some 13), none, .mv (.t 53)⟩, ⟨(some 14), none, .mv (.t 54)⟩])
 (.seq (.seq (.ops [⟨(some 55), none, .mv (.t 14)⟩, ⟨(some 56), none, .bin 0 .eql (.t 55) (.c (.int .i64 2))⟩])
 (.cond (.t 56) (.seq (.ops [⟨(some 57), none, .mv (.t 0)⟩, ⟨(some 58), none, .mv (.t 1)⟩, ⟨(some 59), none, .mv (.t 2)⟩, ⟨(some 60), none, .mv (.t 4)⟩, ⟨(some 61), none, .call 131 [(.t 57), (.t 58), (.t 59), (.t 60)]⟩])
 (.seq (.ops [⟨(some 62), none, .mv (.t 2)⟩, ⟨(some 63), none, .bin 0 .sub (.t 62) (.c (.int .i64 1))⟩, ⟨(some 64), none, .mv (.t 13)⟩, ⟨(some 65), none, .mv (.t 1)⟩, ⟨(some 66), none, .bin 0 .sub (.t 64) (.t 65)⟩, ⟨(some 67), none, .bin 0 .sub (.t 63) (.t 66)⟩, ⟨(some 13), none, .mv (.t 67)⟩])
 (.ops [⟨(some 14), none, .mv (.c (.int .i64 1))⟩]))) (.skip)))
 (.seq (.seq (.ops [⟨(some 68), none, .mv (.t 10)⟩, ⟨(some 69), none, .mv (.t 68)⟩, ⟨(some 70), (some (69, true)), .mv (.t 11)⟩, ⟨(some 71), none, .pick (.t 69) (.t 70) (.c (.bool false))⟩, ⟨(some 72), none, .mv (.t 71)⟩, ⟨(some 73), (some (72, true)), .mv (.t 14)⟩, ⟨(some 74), (some (72, true)), .bin 0 .eql (.t 73) (.c (.int .i64 1))⟩, ⟨(some 75), none, .pick (.t 72) (.t 74) (.c (.bool false))⟩])
 (.cond (.t 75) (.seq (.ops [⟨(some 76), none, .mv (.t 0)⟩, ⟨(some 77), none, .mv (.t 1)⟩, ⟨(some 78), none, .mv (.t 2)⟩, ⟨(some 79), none, .mv (.t 4)⟩, ⟨(some 80), none, .call 132 [(.t 76), (.t 77), (.t 78), (.t 79)]⟩])
 (.cond (.t 80) (.ret) (.skip))) (.skip)))
 (.seq (.seq (.any [(⟨(some 81), none, .mv (.t 1)⟩, []), (⟨(some 82), none, .bin 0 .gtr (.t 81) (.c (.int .i64 0))⟩, []), (⟨(some 83), none, .mv (.t 82)⟩, []), (⟨(some 84), (some (83, true)), .mv (.t 4)⟩, []), (⟨(some 85), (some (83, true)), .mv (.t 0)⟩, [3]), (⟨(some 86), (some (83, true)), .mv (.t 1)⟩, [3, 4]), (⟨(some 87), (some (83, true)), .bin 0 .sub (.t 86) (.c (.int .i64 1))⟩, [3, 4]), (⟨(some 88), (some (83, true)), .iadr 2 (.t 85) (.t 87)⟩, [3]), (⟨(some 89), (some (83, true)), .load (some 2) (.t 88)⟩, [3]), (⟨(some 90), (some (83, true)), .mv (.t 0)⟩, [3, 4, 5, 6, 7, 8]), (⟨(some 91), (some (83, true)), .mv (.t 13)⟩, [3, 4, 5, 6, 7, 8, 9]), (⟨(some 92), (some (83, true)), .iadr 2 (.t 90) (.t 91)⟩, [3, 4, 5, 6, 7, 8]), (⟨(some 93), (some (83, true)), .load (some 2) (.t 92)⟩, [3, 4, 5, 6, 7, 8]), (⟨(some 94), (some (83, true)), .callv (.t 84) [(.t 89), (.t 93)]⟩, []), (⟨(some 95), (some (83, true)), .bin 0 .lss (.t 94) (.c (.int .i64 0))⟩, []), (⟨(some 96), (some (83, true)), .un .not (.t 95)⟩, []), (⟨(some 97), none, .pick (.t 83) (.t 96) (.c (.bool false))⟩, [])])
 (.cond (.t 97) (.seq (.ops [⟨(some 98), none, .mv (.t 0)⟩, ⟨(some 99), none, .mv (.t 1)⟩, ⟨(some 100), none, .mv (.t 2)⟩, ⟨(some 101), none, .mv (.t 13)⟩, ⟨(some 102), none, .mv (.t 4)⟩, ⟨(some 103), none, .call 133 [(.t 98), (.t 99), (.t 100), (.t 101), (.t 102)]⟩, ⟨(some 15), none, .mv (.t 103)⟩])
 (.seq (.ops [⟨(some 104), none, .mv (.t 15)⟩, ⟨(some 1), none, .mv (.t 104)⟩])
 (.exit 1))) (.skip)))
 (.seq (.ops [⟨(some 106), none, .mv (.t 0)⟩, ⟨(some 107), none, .mv (.t 1)⟩, ⟨(some 108), none, .mv (.t 2)⟩, ⟨(some 109), none, .mv (.t 13)⟩, ⟨(some 110), none, .mv (.t 4)⟩, ⟨(some 111), none, .call 134 [(.t 106), (.t 107), (.t 108), (.t 109), (.t 110)]⟩, ⟨(some 105), none, .mv (.t 111)⟩, ⟨(some 112), none, .ext (.t 105) 0⟩, ⟨(some 113), none, .ext (.t 105) 1⟩, ⟨(some 16), none, .mv (.t 112)⟩, ⟨(some 17), none, .mv (.t 113)⟩])
 (.seq (.ops [⟨(some 114), none, .mv (.t 17)⟩, ⟨(some 11), none, .mv (.t 114)⟩])
 (.seq (.ops [⟨(some 115), none, .mv (.t 16)⟩, ⟨(some 116), none, .mv (.t 1)⟩, ⟨(some 117), none, .bin 0 .sub (.t 115) (.t 116)⟩, ⟨(some 118), none, .mv (.t 2)⟩, ⟨(some 119), none, .mv (.t 16)⟩, ⟨(some 120), none, .bin 0 .sub (.t 118) (.t 119)⟩, ⟨(some 18), none, .mv (.t 117)⟩, ⟨(some 19), none, .mv (.t 120)⟩])
 (.seq (.ops [⟨(some 121), none, .mv (.t 12)⟩, ⟨(some 122), none, .bin 0 .quo (.t 121) (.c (.int .i64 8))⟩, ⟨(some 20), none, .mv (.t 122)⟩])
 (.seq (.ops [⟨(some 123), none, .mv (.t 18)⟩, ⟨(some 124), none, .mv (.t 19)⟩, ⟨(some 125), none, .bin 0 .lss (.t 123) (.t 124)⟩])
 (.cond (.t 125) (.seq (.ops [⟨(some 126), none, .mv (.t 18)⟩, ⟨(some 127), none, .mv (.t 20)⟩, ⟨(some 128), none, .bin 0 .geq (.t 126) (.t 127)⟩, ⟨(some 10), none, .mv (.t 128)⟩])
 (.seq (.ops [⟨(some 129), none, .mv (.t 0)⟩, ⟨(some 130), none, .mv (.t 1)⟩, ⟨(some 131), none, .mv (.t 16)⟩, ⟨(some 132), none, .mv (.t 3)⟩, ⟨(some 133), none, .mv (.t 4)⟩, ⟨(some 134), none, .call 115 [(.t 129), (.t 130), (.t 131), (.t 132), (.t 133)]⟩])
 (.ops [⟨(some 135), none, .mv (.t 16)⟩, ⟨(some 136), none, .bin 0 .add (.t 135) (.c (.int .i64 1))⟩, ⟨(some 1), none, .mv (.t 136)⟩]))) (.seq (.ops [⟨(some 137), none, .mv (.t 19)⟩, ⟨(some 138), none, .mv (.t 20)⟩, ⟨(some 139), none, .bin 0 .geq (.t 137) (.t 138)⟩, ⟨(some 10), none, .mv (.t 139)⟩])
 (.seq (.ops [⟨(some 140), none, .mv (.t 0)⟩, ⟨(some 141), none, .mv (.t 16)⟩, ⟨(some 142), none, .bin 0 .add (.t 141) (.c (.int .i64 1))⟩, ⟨(some 143), none, .mv (.t 2)⟩, ⟨(some 144), none, .mv (.t 3)⟩, ⟨(some 145), none, .mv (.t 4)⟩, ⟨(some 146), none, .call 115 [(.t 140), (.t 142), (.t 143), (.t 144), (.t 145)]⟩])
 (.ops [⟨(some 147), none, .mv (.t 16)⟩, ⟨(some 2), none, .mv (.t 147)⟩])))))))))))))))))))))⟩
theorem c115 : compF Go.Proofs.Tryd.prog 115 = some a115 := by kernel_rfl
def a116 : AFn := ⟨8, [.t 2], .seq (.ops [⟨(some 2), none, .mv (.c (.int .i64 0))⟩])
 (.seq (.cond (.c (.bool false)) (.seq (.ops [⟨(some 3), none, .mv (.t 0)⟩, ⟨(some 4), none, .conv .u32 (.t 3)⟩, ⟨(some 5), none, .call 135 [(.t 4)]⟩, ⟨(some 2), none, .mv (.t 5)⟩])
 (.ret)) (.skip))
 (.seq (.ops [⟨(some 6), none, .mv (.t 0)⟩, ⟨(some 7), none, .call 136 [(.t 6)]⟩, ⟨(some 2), none, .mv (.t 7)⟩])
 (.ret)))⟩
theorem c116 : compF Go.Proofs.Tryd.prog 116 = some a116 := by kernel_rfl
def a127 : AFn := ⟨53, [], .seq (.ops [⟨(some 10), none, .mv (.t 1)⟩, ⟨(some 11), none, .bin 0 .add (.t 10) (.c (.int .i64 1))⟩, ⟨(some 8), none, .mv (.t 11)⟩])
 (.block 0 (.loop (.seq (.seq (.ops [⟨(some 12), none, .mv (.t 8)⟩, ⟨(some 13), none, .mv (.t 2)⟩, ⟨(some 14), none, .bin 0 .lss (.t 12) (.t 13)⟩])
 (.cond (.t 14) (.skip) (.exit 0)))
 (.seq (.block 1 (.seq (.ops [⟨(some 17), none, .mv (.t 8)⟩, ⟨(some 9), none, .mv (.t 17)⟩])
 (.block 2 (.loop (.seq (.seq (.any [(⟨(some 18), none, .mv (.t 9)⟩, []), (⟨(some 19), none, .mv (.t 1)⟩, [0]), (⟨(some 20), none, .bin 0 .gtr (.t 18) (.t 19)⟩, []), (⟨(some 21), none, .mv (.t 20)⟩, []), (⟨(some 22), (some (21, true)), .mv (.t 3)⟩, []), (⟨(some 23), (some (21, true)), .mv (.t 0)⟩, [4]), (⟨(some 24), (some (21, true)), .mv (.t 9)⟩, [4, 5]), (⟨(some 25), (some (21, true)), .iadr 2 (.t 23) (.t 24)⟩, [4]), (⟨(some 26), (some (21, true)), .load (some 2) (.t 25)⟩, [4]), (⟨(some 27), (some (21, true)), .mv (.t 0)⟩, [4, 5, 6, 7, 8]), (⟨(some 28), (some (21, true)), .mv (.t 9)⟩, [4, 5, 6, 7, 8, 9]), (⟨(some 29), (some (21, true)), .bin 0 .sub (.t 28) (.c (.int .i64 1))⟩, [4, 5, 6, 7, 8, 9]), (⟨(some 30), (some (21, true)), .iadr 2 (.t 27) (.t 29)⟩, [4, 5, 6, 7, 8]), (⟨(some 31), (some (21, true)), .load (some 2) (.t 30)⟩, [4, 5, 6, 7, 8]), (⟨(some 32), (some (21, true)), .callv (.t 22) [(.t 26), (.t 31)]⟩, []), (⟨(some 33), (some (21, true)), .bin 0 .lss (.t 32) (.c (.int .i64 0))⟩, []), (⟨(some 34), none, .pick (.t 21) (.t 33) (.c (.bool false))⟩, [])])
 (.cond (.t 34) (.skip) (.exit 2)))
 (.seq (.block 3 (.any [(⟨(some 37), none, .mv (.t 0)⟩, []), (⟨(some 38), none, .mv (.t 9)⟩, [0]), (⟨(some 39), none, .mv (.t 0)⟩, [0, 1]), (⟨(some 40), none, .mv (.t 9)⟩, [0, 1, 2]), (⟨(some 41), none, .bin 0 .sub (.t 40) (.c (.int .i64 1))⟩, [0, 1, 2]), (⟨(some 42), none, .mv (.t 0)⟩, [0, 1, 2, 3, 4]), (⟨(some 43), none, .mv (.t 9)⟩, [0, 1, 2, 3, 4, 5]), (⟨(some 44), none, .bin 0 .sub (.t 43) (.c (.int .i64 1))⟩, [0, 1, 2, 3, 4, 5]), (⟨(some 45), none, .iadr 2 (.t 42) (.t 44)⟩, [0, 1, 2, 3, 4]), (⟨(some 46), none, .load (some 2) (.t 45)⟩, [0, 1, 2, 3, 4]), (⟨(some 47), none, .mv (.t 0)⟩, [0, 1, 2, 3, 4, 5, 6, 7, 8, 9]), (⟨(some 48), none, .mv (.t 9)⟩, [0, 1, 2, 3, 4, 5, 6, 7, 8, 9, 10]), (⟨(some 49), none, .iadr 2 (.t 47) (.t 48)⟩, [0, 1, 2, 3, 4, 5, 6, 7, 8, 9]), (⟨(some 50), none, .load (some 2) (.t 49)⟩, [0, 1, 2, 3, 4, 5, 6, 7, 8, 9]), (⟨(some 51), none, .iadr 2 (.t 37) (.t 38)⟩, [2, 3, 4]), (⟨none, none, .store 2 (.t 51) (.t 46)⟩, [2, 3, 4]), (⟨(some 52), none, .iadr 2 (.t 39) (.t 41)⟩, []), (⟨none, none, .store 2 (.t 52) (.t 50)⟩, [])]))
 (.ops [⟨(some 35), none, .mv (.t 9)⟩, ⟨(some 36), none, .bin 0 .sub (.t 35) (.c (.int .i64 1))⟩, ⟨(some 9), none, .mv (.t 36)⟩])))))))
 (.ops [⟨(some 15), none, .mv (.t 8)⟩, ⟨(some 16), none, .bin 0 .add (.t 15) (.c (.int .i64 1))⟩, ⟨(some 8), none, .mv (.t 16)⟩])))))⟩
theorem c127 : compF Go.Proofs.Tryd.prog 127 = some a127 := by kernel_rfl
def a136 : AFn := ⟨25, [.t 2], .seq (.ops [⟨(some 2), none, .mv (.c (.int .i64 0))⟩])
 (.seq (.seq (.ops [⟨(some 3), none, .mv (.t 0)⟩, ⟨(some 4), none, .bin 0 .geq (.t 3) (.c (.int .u64 4294967296))⟩])
 (.cond (.t 4) (.seq (.ops [⟨(some 5), none, .mv (.t 0)⟩, ⟨(some 6), none, .bin 0 .shr (.t 5) (.c (.int .u64 32))⟩, ⟨(some 0), none, .mv (.t 6)⟩])
 (.ops [⟨(some 2), none, .mv (.c (.int .i64 32))⟩])) (.skip)))
 (.seq (.seq (.ops [⟨(some 7), none, .mv (.t 0)⟩, ⟨(some 8), none, .bin 0 .geq (.t 7) (.c (.int .u64 65536))⟩])
 (.cond (.t 8) (.seq (.ops [⟨(some 9), none, .mv (.t 0)⟩, ⟨(some 10), none, .bin 0 .shr (.t 9) (.c (.int .u64 16))⟩, ⟨(some 0), none, .mv (.t 10)⟩])
 (.ops [⟨(some 11), none, .mv (.t 2)⟩, ⟨(some 12), none, .bin 0 .add (.t 11) (.c (.int .i64 16))⟩, ⟨(some 2), none, .mv (.t 12)⟩])) (.skip)))
 (.seq (.seq (.ops [⟨(some 13), none, .mv (.t 0)⟩, ⟨(some 14), none, .bin 0 .geq (.t 13) (.c (.int .u64 256))⟩])
 (.cond (.t 14) (.seq (.ops [⟨(some 15), none, .mv (.t 0)⟩, ⟨(some 16), none, .bin 0 .shr (.t 15) (.c (.int .u64 8))⟩, ⟨(some 0), none, .mv (.t 16)⟩])
 (.ops [⟨(some 17), none, .mv (.t 2)⟩, ⟨(some 18), none, .bin 0 .add (.t 17) (.c (.int .i64 8))⟩, ⟨(some 2), none, .mv (.t 18)⟩])) (.skip)))
 (.seq (.ops [⟨(some 19), none, .mv (.t 2)⟩, ⟨(some 20), none, .mv (.t 0)⟩, ⟨(some 21), none, .conv .u8 (.t 20)⟩, ⟨(some 22), none, .idxs (.c (.str [0, 1, 2, 2, 3, 3, 3, 3, 4, 4, 4, 4, 4, 4, 4, 4, 5, 5, 5, 5, 5, 5, 5, 5, 5, 5, 5, 5, 5, 5, 5, 5, 6, 6, 6, 6, 6, 6, 6, 6, 6, 6, 6, 6, 6, 6, 6, 6, 6, 6, 6, 6, 6, 6, 6, 6, 6, 6, 6, 6, 6, 6, 6, 6, 7, 7, 7, 7, 7, 7, 7, 7, 7, 7, 7, 7, 7, 7, 7, 7, 7, 7, 7, 7, 7, 7, 7, 7, 7, 7, 7, 7, 7, 7, 7, 7, 7, 7, 7, 7, 7, 7, 7, 7, 7, 7, 7, 7, 7, 7, 7, 7, 7, 7, 7, 7, 7, 7, 7, 7, 7, 7, 7, 7, 7, 7, 7, 7, 8, 8, 8, 8, 8, 8, 8, 8, 8, 8, 8, 8, 8, 8, 8, 8, 8, 8, 8, 8, 8, 8, 8, 8, 8, 8, 8, 8, 8, 8, 8, 8, 8, 8, 8, 8, 8, 8, 8, 8, 8, 8, 8, 8, 8, 8, 8, 8, 8, 8, 8, 8, 8, 8, 8, 8, 8, 8, 8, 8, 8, 8, 8, 8, 8, 8, 8, 8, 8, 8, 8, 8, 8, 8, 8, 8, 8, 8, 8, 8, 8, 8, 8, 8, 8, 8, 8, 8, 8, 8, 8, 8, 8, 8, 8, 8, 8, 8, 8, 8, 8, 8, 8, 8, 8, 8, 8, 8, 8, 8, 8, 8, 8, 8, 8, 8, 8, 8, 8, 8, 8, 8, 8, 8, 8, 8, 8, 8])) (.t 21)⟩, ⟨(some 23), none, .conv .i64 (.t 22)⟩, ⟨(some 24), none, .bin 0 .add (.t 19) (.t 23)⟩, ⟨(some 2), none, .mv (.t 24)⟩])
 (.ret)))))⟩
theorem c136 : compF Go.Proofs.Tryd.prog 136 = some a136 := by kernel_rfl
end Go.Proofs.YtmgfcjblclanmaaDoor
namespace Go.Proofs.YtmgfcjblclanmaaDoor
open Go.RowKit
theorem below_c (x n : Int) (nid : Nat) (hn : n ≤ 9223372036854775807) : ACall Tryd.prog 79 [.int .i64 x, .int .i64 n] [] nid (.int .i64 (below x n)) [] := by
  refine acall_run c79 (by simp [a79]) ?_
  simp -dsimp only [a79, aqT, aqU, aqN, ↓seqK, ↓blkK, ↓loopK, step, stepBin, Nat.reduceBEq, Nat.reduceBeqDiff, Nat.add_assoc nid, Nat.reduceAdd, reduceCtorEq, ↓reduceIte, Nat.reduceLeDiff, Nat.reduceBneDiff, Option.toList, ← Int.ofNat_tmod, ← Int.ofNat_tdiv, Nat.reduceLT]
  refine S2.dec (fun h => ?_) (fun h => ?_)
  · simp -dsimp only [aqT, aqU, aqN, ↓seqK, ↓blkK, ↓loopK, step, stepBin, Nat.reduceBEq, Nat.reduceBeqDiff, Nat.add_assoc nid, Nat.reduceAdd, reduceCtorEq, ↓reduceIte, Nat.reduceLeDiff, Nat.reduceBneDiff, Option.toList, ← Int.ofNat_tmod, ← Int.ofNat_tdiv, Nat.reduceLT]
    refine RetOK.pure (.inl rfl) rfl ?_
    simp [retPV, PVCov, getS, below, h]
  simp -dsimp only [aqT, aqU, aqN, ↓seqK, ↓blkK, ↓loopK, step, stepBin, Nat.reduceBEq, Nat.reduceBeqDiff, Nat.add_assoc nid, Nat.reduceAdd, reduceCtorEq, ↓reduceIte, Nat.reduceLeDiff, Nat.reduceBneDiff, Option.toList, ← Int.ofNat_tmod, ← Int.ofNat_tdiv, Nat.reduceLT]
  refine ⟨by omega, S2.dec (fun h2 => ?_) (fun h2 => ?_)⟩
  · simp -dsimp only [aqT, aqU, aqN, ↓seqK, ↓blkK, ↓loopK, step, stepBin, Nat.reduceBEq, Nat.reduceBeqDiff, Nat.add_assoc nid, Nat.reduceAdd, reduceCtorEq, ↓reduceIte, Nat.reduceLeDiff, Nat.reduceBneDiff, Option.toList, ← Int.ofNat_tmod, ← Int.ofNat_tdiv, Nat.reduceLT]
    have := Int.lt_tmod_of_pos x (show 0 < n by omega)
    refine ⟨by unfold inI64; omega, RetOK.pure (.inl rfl) rfl ?_⟩
    have h3 : x.tmod n + n = x % n := by rw [Int.tmod_eq_emod]; split <;> rw [Int.tmod_eq_emod] at h2 <;> rename_i h6 <;> simp only [h6, if_true, if_false, not_false_eq_true] at h2 <;> have := Int.emod_nonneg x (show n ≠ 0 by omega) <;> omega
    simp [cvT, step, res, below, h, h3]
  · simp -dsimp only [aqT, aqU, aqN, ↓seqK, ↓blkK, ↓loopK, step, stepBin, Nat.reduceBEq, Nat.reduceBeqDiff, Nat.add_assoc nid, Nat.reduceAdd, reduceCtorEq, ↓reduceIte, Nat.reduceLeDiff, Nat.reduceBneDiff, Option.toList, ← Int.ofNat_tmod, ← Int.ofNat_tdiv, Nat.reduceLT]
    refine RetOK.pure (.inl rfl) rfl ?_
    have h3 : x.tmod n = x % n := by rw [Int.tmod_eq_emod]; split <;> rw [Int.tmod_eq_emod] at h2 <;> rename_i h6 <;> simp only [h6, if_true, if_false, not_false_eq_true] at h2 <;> have := Int.emod_lt_of_pos x (show 0 < n by omega) <;> omega
    simp [cvT, step, res, below, h, h3]
def strmC (nl : Bool) (A : List Int) (p : Nat) : Option ABlk := some (.box 25 [.lit nl A.length [.i .i64 fun i => A.getD i 0], .int .i64 p])
theorem strmC_low (n : Nat) (nl : Bool) (A : List Int) (p : Nat) : lowBlk n (strmC nl A p) = true := rfl
theorem next_c (s nid : Nat) (nl : Bool) (A : List Int) (p : Nat) (n : Int) (h : s < nid) (hp : p ≤ 1099511627775) (hA : A.length ≤ 17592186044416) (hn : n ≤ 9223372036854775807) :
    ACall Tryd.prog 41 [.ptr s 0, .int .i64 n] [(s, strmC nl A p)] nid (.int .i64 (nextV A p n)) [(s, strmC nl A (p + 1))] := by
  obtain ⟨e1, e2, e3, e4, e5, e6, e7, e8, e9⟩ := id_all h
  refine acall_run c41 (by simp [a41]) ?_
  simp -dsimp only [a41, strmC, aqT, aqU, aqN, ↓seqK, ↓blkK, ↓loopK, step, stepBin, Nat.reduceBEq, Nat.reduceBeqDiff, Nat.add_assoc nid, Nat.reduceAdd, reduceCtorEq, ↓reduceIte, Nat.reduceLeDiff, Nat.reduceBneDiff, Option.toList, ← Int.ofNat_tmod, ← Int.ofNat_tdiv, Nat.reduceLT, e1, e2, e3, e4, e5, e6, e7, e8, e9]
  refine ⟨by unfold inI64; omega, S2.intro (fun h2 => ?_) (fun h2 => ?_)⟩
  · simp -dsimp only [aqT, aqU, aqN, ↓seqK, ↓blkK, ↓loopK, step, stepBin, Nat.reduceBEq, Nat.reduceBeqDiff, Nat.add_assoc nid, Nat.reduceAdd, reduceCtorEq, ↓reduceIte, Nat.reduceLeDiff, Nat.reduceBneDiff, Option.toList, ← Int.ofNat_tmod, ← Int.ofNat_tdiv, Nat.reduceLT, e1, e2, e3, e4, e5, e6, e7, e8, e9]
    refine ⟨by unfold inI64; omega, CallO.pure (below_c _ _ _ hn) ?_⟩
    simp -dsimp only [aqT, aqU, aqN, ↓seqK, ↓blkK, ↓loopK, step, stepBin, Nat.reduceBEq, Nat.reduceBeqDiff, Nat.add_assoc nid, Nat.reduceAdd, reduceCtorEq, ↓reduceIte, Nat.reduceLeDiff, Nat.reduceBneDiff, Option.toList, ← Int.ofNat_tmod, ← Int.ofNat_tdiv, Nat.reduceLT, e1, e2, e3, e4, e5, e6, e7, e8, e9]
    have h3 : A.length = 0 := by simpa using h2
    refine RetOK.same (.inl rfl) rfl (by simp [strmC, liveIds]; omega) ?_ ?_
    · simp [cvT, step, res, strmC]
    · simp [cvT, step, res, nextV, h3]
  · simp -dsimp only [aqT, aqU, aqN, ↓seqK, ↓blkK, ↓loopK, step, stepBin, Nat.reduceBEq, Nat.reduceBeqDiff, Nat.add_assoc nid, Nat.reduceAdd, reduceCtorEq, ↓reduceIte, Nat.reduceLeDiff, Nat.reduceBneDiff, Option.toList, ← Int.ofNat_tmod, ← Int.ofNat_tdiv, Nat.reduceLT, e1, e2, e3, e4, e5, e6, e7, e8, e9]
    have h3 : 0 < A.length := by have : ¬ A.length = 0 := by simpa using h2
                                 omega
    have h4 : ∀ z : Nat, z ≤ 1099511627776 → IntKind.i64.wrap (z : Int) = z := fun z hz => IntWalk.i64_in _ (by omega)
    have h5 : p / A.length ≤ p := Nat.div_le_self _ _
    have h6 : p % A.length < A.length := Nat.mod_lt _ h3
    have h11 := h4 _ (show p / A.length ≤ 1099511627776 by omega)
    refine ⟨by unfold inI64; omega, by omega, by unfold inI64; omega, by omega, by omega, CallO.pure (below_c _ _ _ (by omega)) ?_⟩
    simp -dsimp only [aqT, aqU, aqN, ↓seqK, ↓blkK, ↓loopK, step, stepBin, Nat.reduceBEq, Nat.reduceBeqDiff, Nat.add_assoc nid, Nat.reduceAdd, reduceCtorEq, ↓reduceIte, Nat.reduceLeDiff, Nat.reduceBneDiff, Option.toList, ← Int.ofNat_tmod, ← Int.ofNat_tdiv, Nat.reduceLT, h11, e1, e2, e3, e4, e5, e6, e7, e8, e9]
    have h7 := round_bd p A.length h3 (by omega)
    have h8 := below_bd (A.getD (p % A.length) 0) (n := 1073741824) (by omega)
    rw [← Int.natCast_emod, ← Int.natCast_ediv] at h7
    generalize h9 : ((p / A.length : Nat) : Int) * (7919 + ((p % A.length : Nat) : Int)) = z at h7 ⊢
    refine ⟨by unfold inI64; omega, by unfold inI64; omega, by unfold inI64; omega, CallO.pure (below_c _ _ _ hn) ?_⟩
    simp -dsimp only [aqT, aqU, aqN, ↓seqK, ↓blkK, ↓loopK, step, stepBin, Nat.reduceBEq, Nat.reduceBeqDiff, Nat.add_assoc nid, Nat.reduceAdd, reduceCtorEq, ↓reduceIte, Nat.reduceLeDiff, Nat.reduceBneDiff, Option.toList, ← Int.ofNat_tmod, ← Int.ofNat_tdiv, Nat.reduceLT, e1, e2, e3, e4, e5, e6, e7, e8, e9]
    refine RetOK.same (.inl rfl) rfl (by simp [strmC, liveIds]; omega) ?_ ?_
    · simp [cvT, step, res, strmC]
    · have h10 : A.length ≠ 0 := by omega
      simp [cvT, step, res, nextV, h10, ← h9]
theorem range_c (s nid : Nat) (nl : Bool) (A : List Int) (p : Nat) (lo hi : Int) (h : s < nid) (hp : p ≤ 1099511627775) (hA : A.length ≤ 17592186044416) (h1 : lo ≤ hi) (hl : -1099511627776 ≤ lo) (hh : hi ≤ 1099511627776) :
    ACall Tryd.prog 10 [.ptr s 0, .int .i64 lo, .int .i64 hi] [(s, strmC nl A p)] nid (.int .i64 (rangeV A p lo hi)) [(s, strmC nl A (p + 1))] := by
  obtain ⟨e1, e2, e3, e4, e5, e6, e7, e8, e9⟩ := id_all h
  refine acall_run c10 (by simp [a10]) ?_
  simp -dsimp only [a10, aqT, aqU, aqN, ↓seqK, ↓blkK, ↓loopK, step, stepBin, Nat.reduceBEq, Nat.reduceBeqDiff, Nat.add_assoc nid, Nat.reduceAdd, reduceCtorEq, ↓reduceIte, Nat.reduceLeDiff, Nat.reduceBneDiff, Option.toList, ← Int.ofNat_tmod, ← Int.ofNat_tdiv, Nat.reduceLT, e1, e2, e3, e4, e5, e6, e7, e8, e9]
  refine S2.dec (fun h => absurd h (by omega)) (fun h => ?_)
  simp -dsimp only [aqT, aqU, aqN, ↓seqK, ↓blkK, ↓loopK, step, stepBin, Nat.reduceBEq, Nat.reduceBeqDiff, Nat.add_assoc nid, Nat.reduceAdd, reduceCtorEq, ↓reduceIte, Nat.reduceLeDiff, Nat.reduceBneDiff, Option.toList, ← Int.ofNat_tmod, ← Int.ofNat_tdiv, Nat.reduceLT, e1, e2, e3, e4, e5, e6, e7, e8, e9]
  refine ⟨by unfold inI64; omega, by unfold inI64; omega, CallO.on (next_c _ _ _ _ _ _ (by omega) hp hA (by omega)) (subH_hit _ _ _) ?_⟩
  simp -dsimp only [aqT, aqU, aqN, ↓seqK, ↓blkK, ↓loopK, step, stepBin, Nat.reduceBEq, Nat.reduceBeqDiff, Nat.add_assoc nid, Nat.reduceAdd, reduceCtorEq, ↓reduceIte, Nat.reduceLeDiff, Nat.reduceBneDiff, Option.toList, ← Int.ofNat_tmod, ← Int.ofNat_tdiv, Nat.reduceLT, e1, e2, e3, e4, e5, e6, e7, e8, e9]
  have := nextV_bd A p (n := hi - lo + 1) (by omega)
  refine ⟨by unfold inI64; omega, RetOK.same (.inl rfl) rfl (by simp [strmC, liveIds]; omega) ?_ ?_⟩
  · simp [cvT, step, res, strmC]
  · simp [cvT, step, res, rangeV]
theorem flip_c (s nid : Nat) (nl : Bool) (A : List Int) (p : Nat) (n : Int) (h : s < nid) (hp : p ≤ 1099511627775) (hA : A.length ≤ 17592186044416) (hn : n ≤ 9223372036854775807) :
    ACall Tryd.prog 15 [.ptr s 0, .int .i64 n] [(s, strmC nl A p)] nid (.bool (flipV A p n)) [(s, strmC nl A (p + 1))] := by
  obtain ⟨e1, e2, e3, e4, e5, e6, e7, e8, e9⟩ := id_all h
  refine acall_run c15 (by simp [a15]) ?_
  simp -dsimp only [a15, aqT, aqU, aqN, ↓seqK, ↓blkK, ↓loopK, step, stepBin, Nat.reduceBEq, Nat.reduceBeqDiff, Nat.add_assoc nid, Nat.reduceAdd, reduceCtorEq, ↓reduceIte, Nat.reduceLeDiff, Nat.reduceBneDiff, Option.toList, ← Int.ofNat_tmod, ← Int.ofNat_tdiv, Nat.reduceLT, e1, e2, e3, e4, e5, e6, e7, e8, e9]
  refine CallO.on (next_c _ _ _ _ _ _ (by omega) hp hA hn) (subH_hit _ _ _) ?_
  simp -dsimp only [aqT, aqU, aqN, ↓seqK, ↓blkK, ↓loopK, step, stepBin, Nat.reduceBEq, Nat.reduceBeqDiff, Nat.add_assoc nid, Nat.reduceAdd, reduceCtorEq, ↓reduceIte, Nat.reduceLeDiff, Nat.reduceBneDiff, Option.toList, ← Int.ofNat_tmod, ← Int.ofNat_tdiv, Nat.reduceLT, e1, e2, e3, e4, e5, e6, e7, e8, e9]
  refine RetOK.same (.inl rfl) rfl (by simp [strmC, liveIds]; omega) ?_ ?_
  · simp [cvT, step, res, strmC]
  · simp [cvT, step, res, flipV]
theorem pick_c (s nid : Nat) (nl nl' : Bool) (A : List Int) (p : Nat) (n : Nat) (g : Nat → Int) (h : s < nid) (hp : p ≤ 1099511627775) (hA : A.length ≤ 17592186044416) (h1 : 0 < n) (hn : n ≤ 1099511627776) :
    ACall Tryd.prog 54 [.ptr s 0, .lit nl' n [.i .i64 g]] [(s, strmC nl A p)] nid (.int .i64 (g (pickI A p n))) [(s, strmC nl A (p + 1))] := by
  obtain ⟨e1, e2, e3, e4, e5, e6, e7, e8, e9⟩ := id_all h
  refine acall_run c54 (by simp [a54]) ?_
  simp -dsimp only [a54, aqT, aqU, aqN, ↓seqK, ↓blkK, ↓loopK, step, stepBin, Nat.reduceBEq, Nat.reduceBeqDiff, Nat.add_assoc nid, Nat.reduceAdd, reduceCtorEq, ↓reduceIte, Nat.reduceLeDiff, Nat.reduceBneDiff, Option.toList, ← Int.ofNat_tmod, ← Int.ofNat_tdiv, Nat.reduceLT, e1, e2, e3, e4, e5, e6, e7, e8, e9]
  refine CallO.on (next_c _ _ _ _ _ _ (by omega) hp hA (by omega)) (subH_hit _ _ _) ?_
  simp -dsimp only [aqT, aqU, aqN, ↓seqK, ↓blkK, ↓loopK, step, stepBin, Nat.reduceBEq, Nat.reduceBeqDiff, Nat.add_assoc nid, Nat.reduceAdd, reduceCtorEq, ↓reduceIte, Nat.reduceLeDiff, Nat.reduceBneDiff, Option.toList, ← Int.ofNat_tmod, ← Int.ofNat_tdiv, Nat.reduceLT, e1, e2, e3, e4, e5, e6, e7, e8, e9]
  have := nextV_bd A p (n := (n : Int)) (by omega)
  refine ⟨this, RetOK.same (.inl rfl) rfl (by simp [strmC, liveIds]; omega) ?_ ?_⟩
  · simp [cvT, step, res, strmC]
  · simp [cvT, step, res, pickI]
theorem CallX.pick_go {s id nid : Nat} {nl : Bool} {A : List Int} {p : Nat} {n T : Nat} {g : Nat → Int} {H : Heap} {K : PV → Heap → List Nat → Prop} (hs : getH H s = strmC nl A p) (hid : getH H id = some (.arr T n [.i .i64 g])) (hne : (s == id) = false) (h : s < nid) (hp : p ≤ 1099511627775) (hA : A.length ≤ 17592186044416) (h1 : 0 < n) (hn : n ≤ 1099511627776)
    (hK : K (.int .i64 (g (pickI A p n))) [(s, strmC nl A (p + 1)), (id, none)] [s, id]) : CallX Tryd.prog 54 [.ptr s 0, .sl id 0 n] H nid K := by
  refine CallX.given [id] (u := [(s, strmC nl A (p + 1))]) (fun nl' => ?_) (subH_get hs) (by simp [getH, hne]) hK
  have e : lends H [id] nl' [.ptr s 0, .sl id 0 n] = [.ptr s 0, .lit (nl' id) n [.i .i64 g]] := by simp [lends, lend, hid, noOs]
  rw [e]
  exact pick_c s _ nl _ A p n _ h hp hA h1 hn
theorem CallO.pick_go {s id nid : Nat} {nl : Bool} {A : List Int} {p : Nat} {n T : Nat} {g : Nat → Int} {H : Heap} {K : PV → Heap → Prop} (hs : getH H s = strmC nl A p) (hid : getH H id = some (.arr T n [.i .i64 g])) (hne : (s == id) = false) (h : s < nid) (hp : p ≤ 1099511627775) (hA : A.length ≤ 17592186044416) (h1 : 0 < n) (hn : n ≤ 1099511627776)
    (hK : K (.int .i64 (g (pickI A p n))) [(s, strmC nl A (p + 1)), (id, none)]) : CallOK Tryd.prog 54 [.ptr s 0, .sl id 0 n] H nid K :=
  CallO.x (CallX.pick_go hs hid hne h hp hA h1 hn hK)
end Go.Proofs.YtmgfcjblclanmaaDoor
namespace Go.Proofs.YtmgfcjblclanmaaDoor
open Go.RowKit
def litI (nl : Bool) (l : List Int) : PV := .lit nl l.length [.i .i64 fun i => l.getD i 0]
theorem out_c (x lo hi : Int) (nid : Nat) : ACall Tryd.prog 36 [.int .i64 x, .int .i64 lo, .int .i64 hi] [] nid (.bool (outB x lo hi)) [] := by
  refine acall_run c36 (by simp [a36]) ?_
  simp -dsimp only [a36, aqT, aqU, aqN, ↓seqK, ↓blkK, ↓loopK, step, stepBin, Nat.reduceBEq, Nat.reduceBeqDiff, Nat.add_assoc nid, Nat.reduceAdd, reduceCtorEq, ↓reduceIte, Nat.reduceLeDiff, Nat.reduceBneDiff, Option.toList, ← Int.ofNat_tmod, ← Int.ofNat_tdiv, Nat.reduceLT]
  refine S2.dec (fun h => ?_) (fun h => ?_) <;> simp -dsimp only [aqT, aqU, aqN, ↓seqK, ↓blkK, ↓loopK, step, stepBin, Nat.reduceBEq, Nat.reduceBeqDiff, Nat.add_assoc nid, Nat.reduceAdd, reduceCtorEq, ↓reduceIte, Nat.reduceLeDiff, Nat.reduceBneDiff, Option.toList, ← Int.ofNat_tmod, ← Int.ofNat_tdiv, Nat.reduceLT] <;> refine RetOK.pure (.inl rfl) rfl ?_ <;> simp [cvT, step, res, outB] <;> omega
theorem in_c (x lo hi : Int) (nid : Nat) : ACall Tryd.prog 55 [.int .i64 x, .int .i64 lo, .int .i64 hi] [] nid (.bool (!outB x lo hi)) [] := by
  refine acall_run c55 (by simp [a55]) ?_
  simp -dsimp only [a55, aqT, aqU, aqN, ↓seqK, ↓blkK, ↓loopK, step, stepBin, Nat.reduceBEq, Nat.reduceBeqDiff, Nat.add_assoc nid, Nat.reduceAdd, reduceCtorEq, ↓reduceIte, Nat.reduceLeDiff, Nat.reduceBneDiff, Option.toList, ← Int.ofNat_tmod, ← Int.ofNat_tdiv, Nat.reduceLT]
  refine S2.dec (fun h => ?_) (fun h => ?_) <;> simp -dsimp only [aqT, aqU, aqN, ↓seqK, ↓blkK, ↓loopK, step, stepBin, Nat.reduceBEq, Nat.reduceBeqDiff, Nat.add_assoc nid, Nat.reduceAdd, reduceCtorEq, ↓reduceIte, Nat.reduceLeDiff, Nat.reduceBneDiff, Option.toList, ← Int.ofNat_tmod, ← Int.ofNat_tdiv, Nat.reduceLT] <;> refine RetOK.pure (.inl rfl) rfl ?_ <;> simp [cvT, step, res, outB] <;> first | omega | (rw [Bool.eq_iff_iff]; simp; omega)
end Go.Proofs.YtmgfcjblclanmaaDoor
namespace Go.Proofs.YtmgfcjblclanmaaDoor
open Go.RowKit
def isBinV (c : Int) : Bool := (decide (48 ≤ c) && decide (c ≤ 57)) || (decide (97 ≤ c) && decide (c ≤ 122))
theorem isBin_c (c : Int) (nid : Nat) : ACall Tryd.prog 43 [.int .u8 c] [] nid (.bool (isBinV c)) [] := by
  refine acall_run c43 (by simp [a43]) ?_
  unfold isBinV
  simp -dsimp only [a43, aqT, aqU, aqN, ↓seqK, ↓blkK, ↓loopK, step, stepBin, Nat.reduceBEq, Nat.reduceBeqDiff, Nat.add_assoc nid, Nat.reduceAdd, reduceCtorEq, ↓reduceIte, Nat.reduceLeDiff, Nat.reduceBneDiff, Option.toList, ← Int.ofNat_tmod, ← Int.ofNat_tdiv, Nat.reduceLT]
  cases h1 : decide (48 ≤ c) <;> simp -dsimp only [aqT, aqU, aqN, ↓seqK, ↓blkK, ↓loopK, step, stepBin, Nat.reduceBEq, Nat.reduceBeqDiff, Nat.add_assoc nid, Nat.reduceAdd, reduceCtorEq, ↓reduceIte, Nat.reduceLeDiff, Nat.reduceBneDiff, Option.toList, ← Int.ofNat_tmod, ← Int.ofNat_tdiv, Nat.reduceLT]
  · cases h3 : decide (97 ≤ c) <;> simp -dsimp only [aqT, aqU, aqN, ↓seqK, ↓blkK, ↓loopK, step, stepBin, Nat.reduceBEq, Nat.reduceBeqDiff, Nat.add_assoc nid, Nat.reduceAdd, reduceCtorEq, ↓reduceIte, Nat.reduceLeDiff, Nat.reduceBneDiff, Option.toList, ← Int.ofNat_tmod, ← Int.ofNat_tdiv, Nat.reduceLT]
    · refine RetOK.pure (.inl rfl) rfl ?_
      simp [cvT, step, res, h1, h3]
    · refine RetOK.pure (.inl rfl) rfl ?_
      simp [cvT, step, res, h1, h3]
  · cases h2 : decide (c ≤ 57) <;> simp -dsimp only [aqT, aqU, aqN, ↓seqK, ↓blkK, ↓loopK, step, stepBin, Nat.reduceBEq, Nat.reduceBeqDiff, Nat.add_assoc nid, Nat.reduceAdd, reduceCtorEq, ↓reduceIte, Nat.reduceLeDiff, Nat.reduceBneDiff, Option.toList, ← Int.ofNat_tmod, ← Int.ofNat_tdiv, Nat.reduceLT]
    · cases h3 : decide (97 ≤ c) <;> simp -dsimp only [aqT, aqU, aqN, ↓seqK, ↓blkK, ↓loopK, step, stepBin, Nat.reduceBEq, Nat.reduceBeqDiff, Nat.add_assoc nid, Nat.reduceAdd, reduceCtorEq, ↓reduceIte, Nat.reduceLeDiff, Nat.reduceBneDiff, Option.toList, ← Int.ofNat_tmod, ← Int.ofNat_tdiv, Nat.reduceLT] <;> refine RetOK.pure (.inl rfl) rfl ?_ <;> simp [cvT, step, res, h1, h2, h3]
    · refine RetOK.pure (.inl rfl) rfl ?_
      simp [cvT, step, res, h1, h2]
theorem isPlace_c (c : Int) (nid : Nat) : ACall Tryd.prog 104 [.int .u8 c] [] nid (.bool (isBinV c || c == 46 || c == 63 || c == 42)) [] := by
  refine acall_run c104 (by simp [a104]) ?_
  simp -dsimp only [a104, aqT, aqU, aqN, ↓seqK, ↓blkK, ↓loopK, step, stepBin, Nat.reduceBEq, Nat.reduceBeqDiff, Nat.add_assoc nid, Nat.reduceAdd, reduceCtorEq, ↓reduceIte, Nat.reduceLeDiff, Nat.reduceBneDiff, Option.toList, ← Int.ofNat_tmod, ← Int.ofNat_tdiv, Nat.reduceLT]
  refine CallO.pure (isBin_c _ _) ?_
  simp -dsimp only [aqT, aqU, aqN, ↓seqK, ↓blkK, ↓loopK, step, stepBin, Nat.reduceBEq, Nat.reduceBeqDiff, Nat.add_assoc nid, Nat.reduceAdd, reduceCtorEq, ↓reduceIte, Nat.reduceLeDiff, Nat.reduceBneDiff, Option.toList, ← Int.ofNat_tmod, ← Int.ofNat_tdiv, Nat.reduceLT]
  cases h0 : isBinV c <;> simp -dsimp only [aqT, aqU, aqN, ↓seqK, ↓blkK, ↓loopK, step, stepBin, Nat.reduceBEq, Nat.reduceBeqDiff, Nat.add_assoc nid, Nat.reduceAdd, reduceCtorEq, ↓reduceIte, Nat.reduceLeDiff, Nat.reduceBneDiff, Option.toList, ← Int.ofNat_tmod, ← Int.ofNat_tdiv, Nat.reduceLT]
  · cases h1 : (c == 46) <;> simp -dsimp only [aqT, aqU, aqN, ↓seqK, ↓blkK, ↓loopK, step, stepBin, Nat.reduceBEq, Nat.reduceBeqDiff, Nat.add_assoc nid, Nat.reduceAdd, reduceCtorEq, ↓reduceIte, Nat.reduceLeDiff, Nat.reduceBneDiff, Option.toList, ← Int.ofNat_tmod, ← Int.ofNat_tdiv, Nat.reduceLT, h1]
    · cases h2 : (c == 63) <;> simp -dsimp only [aqT, aqU, aqN, ↓seqK, ↓blkK, ↓loopK, step, stepBin, Nat.reduceBEq, Nat.reduceBeqDiff, Nat.add_assoc nid, Nat.reduceAdd, reduceCtorEq, ↓reduceIte, Nat.reduceLeDiff, Nat.reduceBneDiff, Option.toList, ← Int.ofNat_tmod, ← Int.ofNat_tdiv, Nat.reduceLT, h2] <;> refine RetOK.pure (.inl rfl) rfl ?_ <;> simp [cvT, step, res, h1, h2]
    · refine RetOK.pure (.inl rfl) rfl ?_
      simp [cvT, step, res]
  · refine RetOK.pure (.inl rfl) rfl ?_
    simp [cvT, step, res]
theorem oddF_c (c : Int) (nid : Nat) : ACall Tryd.prog 103 [.int .u8 c] [] nid (.bool (!(isBinV c || c == 46 || c == 63 || c == 42))) [] := by
  refine acall_run c103 (by simp [a103]) ?_
  simp -dsimp only [a103, aqT, aqU, aqN, ↓seqK, ↓blkK, ↓loopK, step, stepBin, Nat.reduceBEq, Nat.reduceBeqDiff, Nat.add_assoc nid, Nat.reduceAdd, reduceCtorEq, ↓reduceIte, Nat.reduceLeDiff, Nat.reduceBneDiff, Option.toList, ← Int.ofNat_tmod, ← Int.ofNat_tdiv, Nat.reduceLT]
  refine CallO.pure (isPlace_c _ _) ?_
  simp -dsimp only [aqT, aqU, aqN, ↓seqK, ↓blkK, ↓loopK, step, stepBin, Nat.reduceBEq, Nat.reduceBeqDiff, Nat.add_assoc nid, Nat.reduceAdd, reduceCtorEq, ↓reduceIte, Nat.reduceLeDiff, Nat.reduceBneDiff, Option.toList, ← Int.ofNat_tmod, ← Int.ofNat_tdiv, Nat.reduceLT]
  refine RetOK.pure (.inl rfl) rfl ?_
  simp [cvT, step, res]
def placeB (c : Int) : Bool := isBinV c || c == 46 || c == 63 || c == 42
theorem indexF_c (nl : Bool) (n : Nat) (g : Nat → Int) (nid : Nat) (hn : n ≤ 1000000000) (h : ∀ i, i < n → placeB (g i) = true) : ACall Tryd.prog 102 [.lit nl n [.i .u8 g], .fn 103 []] [] nid (.int .i64 (-1)) [] := by
  refine acall_run c102 (by simp [a102]) ?_
  simp -dsimp only [a102, aqT, aqU, aqN, ↓seqK, ↓blkK, ↓loopK, step, stepBin, Nat.reduceBEq, Nat.reduceBeqDiff, Nat.add_assoc nid, Nat.reduceAdd, reduceCtorEq, ↓reduceIte, Nat.reduceLeDiff, Nat.reduceBneDiff, Option.toList, ← Int.ofNat_tmod, ← Int.ofNat_tdiv, Nat.reduceLT]
  refine LP.mkP (fun k : Nat => k ≤ n) (fun k : Nat => ⟨[(8, .int .i64 k), (7, .int .i64 n), (0, .lit nl n [.i .u8 g]), (1, .fn 103 [])], [], nid + 100, nid⟩) (fun k => n + 1 - k) 0 (by omega) (Cov.go [] [] ?_) (fun k hk => ?_)
  · simp [cvT, step, res]
  simp -dsimp only [aqT, aqU, aqN, ↓seqK, ↓blkK, ↓loopK, step, stepBin, Nat.reduceBEq, Nat.reduceBeqDiff, Nat.add_assoc nid, Nat.reduceAdd, reduceCtorEq, ↓reduceIte, Nat.reduceLeDiff, Nat.reduceBneDiff, Option.toList, ← Int.ofNat_tmod, ← Int.ofNat_tdiv, Nat.reduceLT]
  refine S2.dec (fun h3 => ?_) (fun h3 => ?_) <;> simp -dsimp only [aqT, aqU, aqN, ↓seqK, ↓blkK, ↓loopK, step, stepBin, Nat.reduceBEq, Nat.reduceBeqDiff, Nat.add_assoc nid, Nat.reduceAdd, reduceCtorEq, ↓reduceIte, Nat.reduceLeDiff, Nat.reduceBneDiff, Option.toList, ← Int.ofNat_tmod, ← Int.ofNat_tdiv, Nat.reduceLT]
  · refine ⟨by omega, CallO.pure (oddF_c _ _) ?_⟩
    have hp := h k (by omega)
    unfold placeB at hp
    rw [hp]
    simp -dsimp only [aqT, aqU, aqN, ↓seqK, ↓blkK, ↓loopK, step, stepBin, Nat.reduceBEq, Nat.reduceBeqDiff, Nat.add_assoc nid, Nat.reduceAdd, reduceCtorEq, ↓reduceIte, Nat.reduceLeDiff, Nat.reduceBneDiff, Option.toList, ← Int.ofNat_tmod, ← Int.ofNat_tdiv, Nat.reduceLT]
    refine ⟨by unfold inI64; omega, k + 1, ⟨by omega, by omega⟩, Cov.go [] [] ?_⟩
    simp [cvT, step, res]
  · refine RetOK.pure (.inl rfl) rfl ?_
    simp [cvT, step, res]
theorem odd_c' (s : List UInt8) (nid : Nat) (hn : s.length ≤ 1000000000) (h : ∀ i, i < s.length → placeB ((s.getD i 0).toNat : Nat) = true) : ACall Tryd.prog 72 [.str s] [] nid (.bool false) [] := by
  have hcf : ∀ nid, ACall Tryd.prog 68 [.lit false s.length [.i .u8 fun i => ((s.getD i 0).toNat : Nat)], .fn 103 []] [] nid (.bool false) [] := fun nid => by
    refine acall_run c68 (by simp [a68]) ?_
    simp -dsimp only [a68, aqT, aqU, aqN, ↓seqK, ↓blkK, ↓loopK, step, stepBin, Nat.reduceBEq, Nat.reduceBeqDiff, Nat.add_assoc nid, Nat.reduceAdd, reduceCtorEq, ↓reduceIte, Nat.reduceLeDiff, Nat.reduceBneDiff, Option.toList, ← Int.ofNat_tmod, ← Int.ofNat_tdiv, Nat.reduceLT]
    refine CallO.pure (indexF_c _ _ _ _ hn h) ?_
    simp -dsimp only [aqT, aqU, aqN, ↓seqK, ↓blkK, ↓loopK, step, stepBin, Nat.reduceBEq, Nat.reduceBeqDiff, Nat.add_assoc nid, Nat.reduceAdd, reduceCtorEq, ↓reduceIte, Nat.reduceLeDiff, Nat.reduceBneDiff, Option.toList, ← Int.ofNat_tmod, ← Int.ofNat_tdiv, Nat.reduceLT, Int.cast_ofNat_Int, Int.reduceBEq, Int.reduceBNe, Int.reduceLT, Int.reduceLE, Int.reduceAdd, Int.reduceSub, Int.reduceMul, Int.reduceToNat, Int.reduceNeg, Int.reduceTMod, Int.reduceEq, not_false_eq_true, Int.reducePow, Int.reduceFDiv, Nat.reducePow, Nat.reduceSub, Nat.reduceMul, Nat.min_eq_left, Nat.reduceEqDiff, BEq.rfl, Int.tdiv_one, LN_succ]
    refine RetOK.pure (.inl rfl) rfl ?_
    simp [cvT, step, res]
  refine acall_run c72 (by simp [a72]) ?_
  simp -dsimp only [a72, aqT, aqU, aqN, ↓seqK, ↓blkK, ↓loopK, step, stepBin, Nat.reduceBEq, Nat.reduceBeqDiff, Nat.add_assoc nid, Nat.reduceAdd, reduceCtorEq, ↓reduceIte, Nat.reduceLeDiff, Nat.reduceBneDiff, Option.toList, ← Int.ofNat_tmod, ← Int.ofNat_tdiv, Nat.reduceLT]
  refine CallO.pure (hcf _) ?_
  simp -dsimp only [aqT, aqU, aqN, ↓seqK, ↓blkK, ↓loopK, step, stepBin, Nat.reduceBEq, Nat.reduceBeqDiff, Nat.add_assoc nid, Nat.reduceAdd, reduceCtorEq, ↓reduceIte, Nat.reduceLeDiff, Nat.reduceBneDiff, Option.toList, ← Int.ofNat_tmod, ← Int.ofNat_tdiv, Nat.reduceLT]
  refine RetOK.pure (.inl rfl) rfl ?_
  simp [cvT, step, res]
theorem tested_c (c : Int) (nid : Nat) : ACall Tryd.prog 65 [.int .u8 c] [] nid (.bool (isBinV c || c == 42)) [] := by
  refine acall_run c65 (by simp [a65]) ?_
  simp -dsimp only [a65, aqT, aqU, aqN, ↓seqK, ↓blkK, ↓loopK, step, stepBin, Nat.reduceBEq, Nat.reduceBeqDiff, Nat.add_assoc nid, Nat.reduceAdd, reduceCtorEq, ↓reduceIte, Nat.reduceLeDiff, Nat.reduceBneDiff, Option.toList, ← Int.ofNat_tmod, ← Int.ofNat_tdiv, Nat.reduceLT]
  refine CallO.pure (isBin_c _ _) ?_
  cases h0 : isBinV c <;> cases h1 : (c == 42) <;>
    simp -dsimp only [aqT, aqU, aqN, ↓seqK, ↓blkK, ↓loopK, step, stepBin, Nat.reduceBEq, Nat.reduceBeqDiff, Nat.add_assoc nid, Nat.reduceAdd, reduceCtorEq, ↓reduceIte, Nat.reduceLeDiff, Nat.reduceBneDiff, Option.toList, ← Int.ofNat_tmod, ← Int.ofNat_tdiv, Nat.reduceLT, h0, h1] <;> refine RetOK.pure (.inl rfl) rfl ?_ <;> simp [cvT, step, res]
theorem gcd12_c (nid : Nat) : ACall Tryd.prog 76 [.int .i64 1, .int .i64 2] [] nid (.int .i64 1) [] := by
  refine acall_run c76 (by simp [a76]) ?_
  simp -dsimp only [a76, aqT, aqU, aqN, ↓seqK, ↓blkK, ↓loopK, step, stepBin, Nat.reduceBEq, Nat.reduceBeqDiff, Nat.add_assoc nid, Nat.reduceAdd, reduceCtorEq, ↓reduceIte, Nat.reduceLeDiff, Nat.reduceBneDiff, Option.toList, ← Int.ofNat_tmod, ← Int.ofNat_tdiv, Nat.reduceLT]
  refine LP.rounds 5 ?_
  simp -dsimp only [aqT, aqU, aqN, ↓seqK, ↓blkK, ↓loopK, step, stepBin, Nat.reduceBEq, Nat.reduceBeqDiff, Nat.add_assoc nid, Nat.reduceAdd, reduceCtorEq, ↓reduceIte, Nat.reduceLeDiff, Nat.reduceBneDiff, Option.toList, ← Int.ofNat_tmod, ← Int.ofNat_tdiv, Nat.reduceLT, Int.cast_ofNat_Int, Int.reduceBEq, Int.reduceBNe, Int.reduceLT, Int.reduceLE, Int.reduceAdd, Int.reduceSub, Int.reduceMul, Int.reduceToNat, Int.reduceNeg, Int.reduceTMod, Int.reduceEq, not_false_eq_true, Int.reducePow, Int.reduceFDiv, Nat.reducePow, Nat.reduceSub, Nat.reduceMul, Nat.min_eq_left, Nat.reduceEqDiff, BEq.rfl, Int.tdiv_one, LN_succ]
  refine RetOK.pure (.inl rfl) rfl ?_
  simp [cvT, step, res]
theorem frac12_c (nid : Nat) : ACall Tryd.prog 33 [.int .i64 1, .int .i64 2] [] nid (.agg [.int .i64 1, .int .i64 2]) [] := by
  refine acall_run c33 (by simp [a33]) ?_
  simp -dsimp only [a33, aqT, aqU, aqN, ↓seqK, ↓blkK, ↓loopK, step, stepBin, Nat.reduceBEq, Nat.reduceBeqDiff, Nat.add_assoc nid, Nat.reduceAdd, reduceCtorEq, ↓reduceIte, Nat.reduceLeDiff, Nat.reduceBneDiff, Option.toList, ← Int.ofNat_tmod, ← Int.ofNat_tdiv, Nat.reduceLT, Int.cast_ofNat_Int, Int.reduceBEq, Int.reduceBNe, Int.reduceLT, Int.reduceLE, Int.reduceAdd, Int.reduceSub, Int.reduceMul, Int.reduceToNat, Int.reduceNeg, Int.reduceTMod, Int.reduceEq, not_false_eq_true, Int.reducePow, Int.reduceFDiv, Nat.reducePow, Nat.reduceSub, Nat.reduceMul, Nat.min_eq_left, Nat.reduceEqDiff, BEq.rfl, Int.tdiv_one, LN_succ]
  have hm : max (1 : Int) (-1) = 1 := by decide
  rw [hm]
  refine ⟨by unfold inI64; omega, CallO.pure (gcd12_c _) ?_⟩
  simp -dsimp only [aqT, aqU, aqN, ↓seqK, ↓blkK, ↓loopK, step, stepBin, Nat.reduceBEq, Nat.reduceBeqDiff, Nat.add_assoc nid, Nat.reduceAdd, reduceCtorEq, ↓reduceIte, Nat.reduceLeDiff, Nat.reduceBneDiff, Option.toList, ← Int.ofNat_tmod, ← Int.ofNat_tdiv, Nat.reduceLT, Int.cast_ofNat_Int, Int.reduceBEq, Int.reduceBNe, Int.reduceLT, Int.reduceLE, Int.reduceAdd, Int.reduceSub, Int.reduceMul, Int.reduceToNat, Int.reduceNeg, Int.reduceTMod, Int.reduceEq, not_false_eq_true, Int.reducePow, Int.reduceFDiv, Nat.reducePow, Nat.reduceSub, Nat.reduceMul, Nat.min_eq_left, Nat.reduceEqDiff, BEq.rfl, Int.tdiv_one, LN_succ]
  have h1 : IntKind.i64.wrap 1 = 1 := by decide
  have h2 : IntKind.i64.wrap 2 = 2 := by decide
  rw [h1, h2]
  refine RetOK.go [] [] (.inl rfl) ?_
  simp [a33, cvT, step, res]
theorem indexBS_c (s : List UInt8) (c : Int) (nid : Nat) : ACall Tryd.prog 117 [.str s, .int .u8 c] [] nid (.int .i64 (Lib.indexByte s c.toNat.toUInt8)) [] := by
  intro C vs hb hl hr hs
  obtain ⟨v0, v1, rfl⟩ : ∃ a b, vs = [a, b] := by
    rcases vs with _ | ⟨a, _ | ⟨b, _ | ⟨c, r⟩⟩⟩
    · simp at hl
    · simp at hl
    · exact ⟨a, b, rfl⟩
    · simp at hl
  have r0 := (hr 0 _ v0 rfl rfl).str_inv
  have r1 := (hr 1 _ v1 rfl rfl).int_inv
  subst r0; subst r1
  refine .inr ⟨.int .i64 (Lib.indexByte s c.toNat.toUInt8), C.w0, ?_, C.Y0, C.m0, .int, by simpa using hs.next (show nid ≤ nid + 4 by omega), Ev.refl _ _ _⟩
  rw [run_callFunc_extern (P := Tryd.prog) (f := 117) (fn := Tryd.f117) (e := Extern.BytealgIndexByte.indexByte) Tryd.func117 (by kernel_rfl) (by kernel_rfl) (by kernel_rfl) (by kernel_rfl)]
  have h := Lib.run_indexByteString (P := Tryd.prog) ⟨s.toArray⟩ c C.w0
  show ((Extern.BytealgIndexByte.indexByte #[.string ⟨s.toArray⟩, .int .u8 c]).run Tryd.prog C.w0).andThen _ = _
  rw [h]
  rfl
theorem indexB_c (s : List UInt8) (c : Int) (nid : Nat) : ACall Tryd.prog 77 [.str s, .int .u8 c] [] nid (.int .i64 (Lib.indexByte s c.toNat.toUInt8)) [] := by
  have h1 : ∀ nid, ACall Tryd.prog 105 [.str s, .int .u8 c] [] nid (.int .i64 (Lib.indexByte s c.toNat.toUInt8)) [] := fun nid => by
    refine acall_run c105 (by simp [a105]) ?_
    simp -dsimp only [a105, aqT, aqU, aqN, ↓seqK, ↓blkK, ↓loopK, step, stepBin, Nat.reduceBEq, Nat.reduceBeqDiff, Nat.add_assoc nid, Nat.reduceAdd, reduceCtorEq, ↓reduceIte, Nat.reduceLeDiff, Nat.reduceBneDiff, Option.toList, ← Int.ofNat_tmod, ← Int.ofNat_tdiv, Nat.reduceLT]
    refine CallO.pure (indexBS_c s c _) ?_
    simp -dsimp only [aqT, aqU, aqN, ↓seqK, ↓blkK, ↓loopK, step, stepBin, Nat.reduceBEq, Nat.reduceBeqDiff, Nat.add_assoc nid, Nat.reduceAdd, reduceCtorEq, ↓reduceIte, Nat.reduceLeDiff, Nat.reduceBneDiff, Option.toList, ← Int.ofNat_tmod, ← Int.ofNat_tdiv, Nat.reduceLT]
    refine RetOK.pure (.inl rfl) rfl ?_
    simp [cvT, step, res]
  refine acall_run c77 (by simp [a77]) ?_
  simp -dsimp only [a77, aqT, aqU, aqN, ↓seqK, ↓blkK, ↓loopK, step, stepBin, Nat.reduceBEq, Nat.reduceBeqDiff, Nat.add_assoc nid, Nat.reduceAdd, reduceCtorEq, ↓reduceIte, Nat.reduceLeDiff, Nat.reduceBneDiff, Option.toList, ← Int.ofNat_tmod, ← Int.ofNat_tdiv, Nat.reduceLT]
  refine CallO.pure (h1 _) ?_
  simp -dsimp only [aqT, aqU, aqN, ↓seqK, ↓blkK, ↓loopK, step, stepBin, Nat.reduceBEq, Nat.reduceBeqDiff, Nat.add_assoc nid, Nat.reduceAdd, reduceCtorEq, ↓reduceIte, Nat.reduceLeDiff, Nat.reduceBneDiff, Option.toList, ← Int.ofNat_tmod, ← Int.ofNat_tdiv, Nat.reduceLT]
  refine RetOK.pure (.inl rfl) rfl ?_
  simp [cvT, step, res]
def passedV (pass : List UInt8) (c : Int) : Bool := isBinV c && decide (0 ≤ Lib.indexByte pass c.toNat.toUInt8)
theorem passed_c (rows : PV) (pass : List UInt8) (c : Int) (nid : Nat) (nl : Bool) (n : Nat) (cols : List Col) (hr : rows = .lit nl n cols) : ACall Tryd.prog 39 [.agg [rows, .str pass], .int .u8 c] [] nid (.bool (passedV pass c)) [] := by
  subst hr
  refine acall_run c39 (by simp [a39]) ?_
  simp -dsimp only [a39, aqT, aqU, aqN, ↓seqK, ↓blkK, ↓loopK, step, stepBin, Nat.reduceBEq, Nat.reduceBeqDiff, Nat.add_assoc nid, Nat.reduceAdd, reduceCtorEq, ↓reduceIte, Nat.reduceLeDiff, Nat.reduceBneDiff, Option.toList, ← Int.ofNat_tmod, ← Int.ofNat_tdiv, Nat.reduceLT]
  refine CallO.pure (isBin_c _ _) ?_
  unfold passedV
  simp -dsimp only [aqT, aqU, aqN, ↓seqK, ↓blkK, ↓loopK, step, stepBin, Nat.reduceBEq, Nat.reduceBeqDiff, Nat.add_assoc nid, Nat.reduceAdd, reduceCtorEq, ↓reduceIte, Nat.reduceLeDiff, Nat.reduceBneDiff, Option.toList, ← Int.ofNat_tmod, ← Int.ofNat_tdiv, Nat.reduceLT]
  cases h0 : isBinV c <;> simp -dsimp only [aqT, aqU, aqN, ↓seqK, ↓blkK, ↓loopK, step, stepBin, Nat.reduceBEq, Nat.reduceBeqDiff, Nat.add_assoc nid, Nat.reduceAdd, reduceCtorEq, ↓reduceIte, Nat.reduceLeDiff, Nat.reduceBneDiff, Option.toList, ← Int.ofNat_tmod, ← Int.ofNat_tdiv, Nat.reduceLT]
  · refine RetOK.pure (.inl rfl) rfl ?_
    simp [cvT, step, res]
  · refine CallO.pure (indexB_c _ _ _) ?_
    simp -dsimp only [aqT, aqU, aqN, ↓seqK, ↓blkK, ↓loopK, step, stepBin, Nat.reduceBEq, Nat.reduceBeqDiff, Nat.add_assoc nid, Nat.reduceAdd, reduceCtorEq, ↓reduceIte, Nat.reduceLeDiff, Nat.reduceBneDiff, Option.toList, ← Int.ofNat_tmod, ← Int.ofNat_tdiv, Nat.reduceLT]
    refine RetOK.pure (.inl rfl) rfl ?_
    simp [cvT, step, res]
end Go.Proofs.YtmgfcjblclanmaaDoor
namespace Go.Proofs.YtmgfcjblclanmaaDoor
structure Waf where
  rows : List (List UInt8)
  pass : List UInt8
deriving DecidableEq
def byteI (b : UInt8) : Int := (b.toNat : Nat)
def wideOf (W : Waf) : Nat := (W.rows.getD 0 []).length
def dieV (W : Waf) (x y : Int) : Int := if outB y 0 ((W.rows.length : Int) - 1) = true then 46 else if outB x 0 ((wideOf W : Int) - 1) = true then 46 else byteI ((W.rows.getD y.toNat []).getD x.toNat 0)
def oddB (r : List UInt8) : Bool := r.any fun c => !placeB (byteI c)
def rowBad (wide : Nat) (r : List UInt8) : Int := if r = [] then 8 else if 60 < r.length then 2 else if r.length ≠ wide then 3 else if oddB r = true then 9 else 0
def passBad (p : List UInt8) (i : Nat) : Int := if isBinV (byteI (p.getD i 0)) = false then 9 else if 0 < i ∧ byteI (p.getD i 0) ≤ byteI (p.getD (i - 1) 0) then 7 else 0
def passV (p : List UInt8) : Int := firstBad (passBad p) (List.range p.length)
def waferV (W : Waf) : Int := if W.rows.length = 0 then 8 else if 60 < W.rows.length then 2 else if firstBad (rowBad (wideOf W)) W.rows ≠ 0 then firstBad (rowBad (wideOf W)) W.rows else passV W.pass
structure WafOk (W : Waf) : Prop where
  pos : 0 < W.rows.length
  len : W.rows.length ≤ 60
  row : ∀ r ∈ W.rows, r ≠ [] ∧ r.length ≤ 60 ∧ r.length = wideOf W ∧ oddB r = false
  bins : ∀ b ∈ W.pass, isBinV (byteI b) = true
theorem waferV_ok {W : Waf} (h : waferV W = 0) : WafOk W := by
  unfold waferV at h
  split at h; · cases h
  split at h; · cases h
  split at h; · contradiction
  rename_i h1 h2 h3
  have h3' : firstBad (rowBad (wideOf W)) W.rows = 0 := by simpa using h3
  refine ⟨by omega, by omega, fun r hr => ?_, fun b hb => ?_⟩
  · have := firstBad_all h3' r hr
    unfold rowBad at this
    split at this; · cases this
    split at this; · cases this
    split at this; · cases this
    split at this; · cases this
    rename_i a1 a2 a3 a4
    exact ⟨a1, by omega, by omega, by simpa using a4⟩
  · obtain ⟨i, hi, rfl⟩ := List.getElem_of_mem hb
    have := firstBad_all (f := passBad W.pass) h i (List.mem_range.2 hi)
    unfold passBad at this
    split at this; · cases this
    rename_i a1
    rw [List.getD_eq_getElem?_getD, List.getElem?_eq_getElem hi] at a1
    simpa using a1
theorem WafOk.wide {W : Waf} (h : WafOk W) : 0 < wideOf W ∧ wideOf W ≤ 60 := by
  have hm : W.rows.getD 0 [] ∈ W.rows := by
    rw [List.getD_eq_getElem?_getD, List.getElem?_eq_getElem h.pos]; exact List.getElem_mem _
  obtain ⟨h1, h2, h3, _⟩ := h.row _ hm
  have : 0 < (W.rows.getD 0 []).length := List.length_pos_iff.2 h1
  exact ⟨this, h2⟩
theorem WafOk.at {W : Waf} (h : WafOk W) {y : Nat} (hy : y < W.rows.length) : (W.rows.getD y []).length = wideOf W ∧ oddB (W.rows.getD y []) = false := by
  have hm : W.rows.getD y [] ∈ W.rows := by
    rw [List.getD_eq_getElem?_getD, List.getElem?_eq_getElem hy]; exact List.getElem_mem _
  exact (h.row _ hm).2.2
def rowPl (y n : Nat) : List Pt := (List.range n).map fun x => (((x : Nat) : Int), ((y : Nat) : Int))
def plTo (W : Waf) (y : Nat) : List Pt := (List.range y).flatMap fun y => rowPl y (W.rows.getD y []).length
def plV (W : Waf) : List Pt := plTo W W.rows.length
theorem rowPl_len (y n : Nat) : (rowPl y n).length = n := by simp [rowPl]
theorem rowPl_succ (y n : Nat) : rowPl y (n + 1) = rowPl y n ++ [((n : Int), (y : Int))] := by simp [rowPl, List.range_succ]
theorem plTo_succ (W : Waf) (y : Nat) : plTo W (y + 1) = plTo W y ++ rowPl y (W.rows.getD y []).length := by simp [plTo, List.range_succ]
theorem plTo_len {W : Waf} (h : ∀ r ∈ W.rows, r.length ≤ 1000) : ∀ y, y ≤ W.rows.length → (plTo W y).length ≤ 1000 * y
  | 0, _ => by simp [plTo]
  | y + 1, hy => by
    have := plTo_len h y (by omega)
    have hm : W.rows.getD y [] ∈ W.rows := by
      rw [List.getD_eq_getElem?_getD, List.getElem?_eq_getElem (by omega : y < W.rows.length)]; exact List.getElem_mem _
    have := h _ hm
    rw [plTo_succ, List.length_append, rowPl_len]
    omega
theorem plV_mem {W : Waf} {p : Pt} (h : p ∈ plV W) : ∃ x y : Nat, p = ((x : Int), (y : Int)) ∧ y < W.rows.length ∧ x < (W.rows.getD y []).length := by
  unfold plV plTo rowPl at h
  rw [List.mem_flatMap] at h
  obtain ⟨y, hy, h⟩ := h
  rw [List.mem_map] at h
  obtain ⟨x, hx, rfl⟩ := h
  exact ⟨x, y, rfl, List.mem_range.1 hy, List.mem_range.1 hx⟩
def testedV (c : Int) : Bool := isBinV c || c == 42
def failedV (pass : List UInt8) (c : Int) : Bool := isBinV c && !passedV pass c
theorem dieV_bd (W : Waf) (x y : Int) : ∃ n : Nat, n < 256 ∧ dieV W x y = (n : Int) := by
  unfold dieV
  split
  · exact ⟨46, by omega, rfl⟩
  · split
    · exact ⟨46, by omega, rfl⟩
    · exact ⟨_, UInt8.toNat_lt _, rfl⟩
end Go.Proofs.YtmgfcjblclanmaaDoor
namespace Go.Proofs.YtmgfcjblclanmaaDoor
open Go.RowKit
theorem some_c (s nid : Nat) (nl nl' : Bool) (A : List Int) (p : Nat) (n : Nat) (g : Nat → List UInt8) (h : s < nid) (hp : p ≤ 1099511627775) (hA : A.length ≤ 17592186044416) (h1 : 0 < n) (hn : n ≤ 1099511627776) :
    ACall Tryd.prog 17 [.ptr s 0, .lit nl' n [.s g]] [(s, strmC nl A p)] nid (.str (g (pickI A p n))) [(s, strmC nl A (p + 1))] := by
  obtain ⟨e1, e2, e3, e4, e5, e6, e7, e8, e9⟩ := id_all h
  refine acall_run c17 (by simp [a17]) ?_
  simp -dsimp only [aqT, aqU, aqN, ↓seqK, ↓blkK, ↓loopK, step, stepBin, Nat.reduceBEq, Nat.reduceBeqDiff, Nat.add_assoc nid, Nat.reduceAdd, reduceCtorEq, ↓reduceIte, Nat.reduceLeDiff, Nat.reduceBneDiff, Option.toList, ← Int.ofNat_tmod, ← Int.ofNat_tdiv, Nat.reduceLT, e1, e2, e3, e4, e5, e6, e7, e8, e9, a17]
  refine CallO.on (next_c _ _ _ _ _ _ (by omega) hp hA (by omega)) (subH_hit _ _ _) ?_
  simp -dsimp only [aqT, aqU, aqN, ↓seqK, ↓blkK, ↓loopK, step, stepBin, Nat.reduceBEq, Nat.reduceBeqDiff, Nat.add_assoc nid, Nat.reduceAdd, reduceCtorEq, ↓reduceIte, Nat.reduceLeDiff, Nat.reduceBneDiff, Option.toList, ← Int.ofNat_tmod, ← Int.ofNat_tdiv, Nat.reduceLT, e1, e2, e3, e4, e5, e6, e7, e8, e9]
  have := nextV_bd A p (n := (n : Int)) (by omega)
  refine ⟨this, RetOK.same (.inl rfl) rfl (by simp [strmC, liveIds]; omega) ?_ ?_⟩
  · simp [cvT, step, res, strmC]
  · simp [cvT, step, res, pickI]
theorem CallX.some_go {s id nid : Nat} {nl : Bool} {A : List Int} {p : Nat} {n T : Nat} {g : Nat → List UInt8} {H : Heap} {K : PV → Heap → List Nat → Prop} (hs : getH H s = strmC nl A p) (hid : getH H id = some (.arr T n [.s g])) (hne : (s == id) = false) (h : s < nid) (hp : p ≤ 1099511627775) (hA : A.length ≤ 17592186044416) (h1 : 0 < n) (hn : n ≤ 1099511627776)
    (hK : K (.str (g (pickI A p n))) [(s, strmC nl A (p + 1)), (id, none)] [s, id]) : CallX Tryd.prog 17 [.ptr s 0, .sl id 0 n] H nid K := by
  refine CallX.given [id] (u := [(s, strmC nl A (p + 1))]) (fun nl' => ?_) (subH_get hs) (by simp [getH, hne]) hK
  have e : lends H [id] nl' [.ptr s 0, .sl id 0 n] = [.ptr s 0, .lit (nl' id) n [.s g]] := by simp [lends, lend, hid, noOs]
  rw [e]
  exact some_c s _ nl _ A p n _ h hp hA h1 hn
theorem CallO.some_go {s id nid : Nat} {nl : Bool} {A : List Int} {p : Nat} {n T : Nat} {g : Nat → List UInt8} {H : Heap} {K : PV → Heap → Prop} (hs : getH H s = strmC nl A p) (hid : getH H id = some (.arr T n [.s g])) (hne : (s == id) = false) (h : s < nid) (hp : p ≤ 1099511627775) (hA : A.length ≤ 17592186044416) (h1 : 0 < n) (hn : n ≤ 1099511627776)
    (hK : K (.str (g (pickI A p n))) [(s, strmC nl A (p + 1)), (id, none)]) : CallOK Tryd.prog 17 [.ptr s 0, .sl id 0 n] H nid K :=
  CallO.x (CallX.some_go hs hid hne h hp hA h1 hn hK)
theorem getD_all {α : Type} {P : α → Prop} {l : List α} {d : α} (h : ∀ x ∈ l, P x) {i : Nat} (hi : i < l.length) : P (l.getD i d) := by
  rw [List.getD_eq_getElem?_getD, List.getElem?_eq_getElem hi]
  exact h _ (List.getElem_mem _)
end Go.Proofs.YtmgfcjblclanmaaDoor
namespace Go.Proofs.YtmgfcjblclanmaaDoor
open Go.RowKit
theorem any_range {s : List UInt8} {F : UInt8 → Bool} : (List.range s.length).any (fun i => F (s.getD i 0)) = s.any F := by
  rw [Bool.eq_iff_iff, List.any_eq_true, List.any_eq_true]
  constructor
  · rintro ⟨i, hi, h⟩
    have hi' := List.mem_range.1 hi
    refine ⟨s[i], List.getElem_mem _, ?_⟩
    rwa [List.getD_eq_getElem?_getD, List.getElem?_eq_getElem hi'] at h
  · rintro ⟨x, hx, h⟩
    obtain ⟨i, hi, rfl⟩ := List.getElem_of_mem hx
    refine ⟨i, List.mem_range.2 hi, ?_⟩
    rw [List.getD_eq_getElem?_getD, List.getElem?_eq_getElem hi]
    exact h
theorem indexFB (f : Nat) (F : UInt8 → Bool) (hf : ∀ (b : UInt8) nid, ACall Tryd.prog f [.int .u8 ((b.toNat : Nat))] [] nid (.bool (F b)) []) (nl : Bool) (n : Nat) (g : Nat → UInt8) (nid : Nat) (hn : n ≤ 1000000000) :
    ∃ r : Int, (-1 ≤ r ∧ (0 ≤ r ↔ (List.range n).any (fun i => F (g i)) = true)) ∧ ACall Tryd.prog 102 [.lit nl n [.i .u8 fun i => ((g i).toNat : Nat)], .fn f []] [] nid (.int .i64 r) [] := by
  refine acall_ex c102 (by simp [a102]) ?_
  simp -dsimp only [aqT0, ROp0, aqT, aqU, aqN, aqS, ↓seqK, ↓blkK, ↓loopK, step, stepBin, Nat.add_assoc nid, ↓reduceIte, Option.toList, ← Int.ofNat_tmod, ← Int.ofNat_tdiv, simprocAttr, BEq.rfl, LN_succ, a102]
  refine LP0.mkP (fun k : Nat => k ≤ n ∧ ∀ j, j < k → F (g j) = false) (fun k : Nat => ⟨[(8, .int .i64 k), (7, .int .i64 n), (0, .lit nl n [.i .u8 fun i => ((g i).toNat : Nat)]), (1, .fn f [])], [], nid + 100, nid⟩) (fun k => n + 1 - k) 0 ⟨by omega, fun j hj => by omega⟩ (Cov.go [] [] ?_) (fun k hk => ?_)
  · simp [cvT, step, res]
  obtain ⟨hk, hall⟩ := hk
  simp -dsimp only [aqT0, ROp0, aqT, aqU, aqN, aqS, ↓seqK, ↓blkK, ↓loopK, step, stepBin, Nat.add_assoc nid, ↓reduceIte, Option.toList, ← Int.ofNat_tmod, ← Int.ofNat_tdiv, simprocAttr, BEq.rfl, LN_succ]
  refine S2.dec (fun h3 => ?_) (fun h3 => ?_) <;> simp -dsimp only [aqT0, ROp0, aqT, aqU, aqN, aqS, ↓seqK, ↓blkK, ↓loopK, step, stepBin, Nat.add_assoc nid, ↓reduceIte, Option.toList, ← Int.ofNat_tmod, ← Int.ofNat_tdiv, simprocAttr, BEq.rfl, LN_succ]
  · have hkl : k < n := by omega
    refine ⟨by omega, CallX.pure (hf _ _) ?_⟩
    simp -dsimp only [aqT0, ROp0, aqT, aqU, aqN, aqS, ↓seqK, ↓blkK, ↓loopK, step, stepBin, Nat.add_assoc nid, ↓reduceIte, Option.toList, ← Int.ofNat_tmod, ← Int.ofNat_tdiv, simprocAttr, BEq.rfl, LN_succ]
    refine S2.intro (fun h4 => ?_) (fun h4 => ?_) <;> simp -dsimp only [aqT0, ROp0, aqT, aqU, aqN, aqS, ↓seqK, ↓blkK, ↓loopK, step, stepBin, Nat.add_assoc nid, ↓reduceIte, Option.toList, ← Int.ofNat_tmod, ← Int.ofNat_tdiv, simprocAttr, BEq.rfl, LN_succ]
    · refine EndOK.mk (k : Int) ⟨by omega, ⟨fun _ => List.any_eq_true.2 ⟨k, List.mem_range.2 hkl, h4⟩, fun _ => by omega⟩⟩ ?_
      refine RetOK.pure (.inl rfl) rfl ?_
      simp [cvT, step, res]
    · refine ⟨by unfold inI64; omega, k + 1, ⟨⟨by omega, fun j hj => ?_⟩, by omega⟩, Cov.go [] [] ?_⟩
      · rcases (by omega : j < k ∨ j = k) with hj | hj
        · exact hall j hj
        · rw [hj]; exact h4
      · simp [cvT, step, res]
  · have hkn : k = n := by omega
    subst hkn
    refine EndOK.mk (-1 : Int) ⟨by omega, ⟨fun h => by omega, fun h => ?_⟩⟩ ?_
    · obtain ⟨i, hi, h⟩ := List.any_eq_true.1 h
      rw [hall i (List.mem_range.1 hi)] at h
      cases h
    · refine RetOK.pure (.inl rfl) rfl ?_
      simp [cvT, step, res]
theorem containsFB (f : Nat) (F : UInt8 → Bool) (hf : ∀ (b : UInt8) nid, ACall Tryd.prog f [.int .u8 ((b.toNat : Nat))] [] nid (.bool (F b)) []) (nl : Bool) (n : Nat) (g : Nat → UInt8) (nid : Nat) (hn : n ≤ 1000000000) :
    ACall Tryd.prog 68 [.lit nl n [.i .u8 fun i => ((g i).toNat : Nat)], .fn f []] [] nid (.bool ((List.range n).any (fun i => F (g i)))) [] := by
  refine acall_run c68 (by simp [a68]) ?_
  simp -dsimp only [aqT, aqU, aqN, ↓seqK, ↓blkK, ↓loopK, step, stepBin, Nat.reduceBEq, Nat.reduceBeqDiff, Nat.add_assoc nid, Nat.reduceAdd, reduceCtorEq, ↓reduceIte, Nat.reduceLeDiff, Nat.reduceBneDiff, Option.toList, ← Int.ofNat_tmod, ← Int.ofNat_tdiv, Nat.reduceLT, a68]
  refine CallO.onE (Hs := []) (indexFB f F hf nl n g _ hn) (subH_nil _) (fun r hr => ?_)
  simp -dsimp only [aqT, aqU, aqN, aqS, ↓seqK, ↓blkK, ↓loopK, step, stepBin, Nat.add_assoc nid, ↓reduceIte, Option.toList, ← Int.ofNat_tmod, ← Int.ofNat_tdiv, simprocAttr, BEq.rfl, LN_succ]
  have e : decide (0 ≤ r) = (List.range n).any (fun i => F (g i)) := by
    rw [Bool.eq_iff_iff, decide_eq_true_eq]; exact hr.2
  rw [e]
  refine RetOK.pure (.inl rfl) rfl ?_
  simp [cvT, step, res]
def wafP (nl : Bool) (W : Waf) : PV := .agg [.lit nl W.rows.length [.s fun i => W.rows.getD i []], .str W.pass]
theorem odd_c2 (s : List UInt8) (nid : Nat) (hs : s.length ≤ 1000000000) : ACall Tryd.prog 72 [.str s] [] nid (.bool (oddB s)) [] := by
  refine acall_run c72 (by simp [a72]) ?_
  simp -dsimp only [aqT, aqU, aqN, ↓seqK, ↓blkK, ↓loopK, step, stepBin, Nat.reduceBEq, Nat.reduceBeqDiff, Nat.add_assoc nid, Nat.reduceAdd, reduceCtorEq, ↓reduceIte, Nat.reduceLeDiff, Nat.reduceBneDiff, Option.toList, ← Int.ofNat_tmod, ← Int.ofNat_tdiv, Nat.reduceLT, a72]
  refine CallO.pure (containsFB 103 (fun c => !placeB (byteI c)) (fun c nid => oddF_c _ nid) false s.length (fun i => s.getD i 0) _ hs) ?_
  have e : (List.range s.length).any (fun i => !placeB (byteI (s.getD i 0))) = oddB s := any_range (F := fun c => !placeB (byteI c))
  rw [e]
  simp -dsimp only [aqT, aqU, aqN, aqS, ↓seqK, ↓blkK, ↓loopK, step, stepBin, Nat.add_assoc nid, ↓reduceIte, Option.toList, ← Int.ofNat_tmod, ← Int.ofNat_tdiv, simprocAttr, BEq.rfl, LN_succ]
  refine RetOK.pure (.inl rfl) rfl ?_
  simp [cvT, step, res]
structure WafBd (W : Waf) : Prop where
  rows : W.rows.length ≤ 1000000
  row : ∀ r ∈ W.rows, r.length ≤ 1000000
  pass : W.pass.length ≤ 1000000
theorem WafBd.at {W : Waf} (h : WafBd W) (k : Nat) : (W.rows.getD k []).length ≤ 1000000 := by
  rw [List.getD_eq_getElem?_getD]
  cases hg : W.rows[k]? with
  | none => simp
  | some x => exact h.row x (List.mem_of_getElem? hg)
theorem waferV_row {W : Waf} (h0 : W.rows.length ≠ 0) (h1 : W.rows.length ≤ 60) {e : Int} (h : firstBad (rowBad (wideOf W)) W.rows = e) (he : e ≠ 0) : waferV W = e := by
  unfold waferV; rw [if_neg h0, if_neg (by omega), h, if_pos he]
theorem waferV_pass {W : Waf} (h0 : W.rows.length ≠ 0) (h1 : W.rows.length ≤ 60) (h : firstBad (rowBad (wideOf W)) W.rows = 0) : waferV W = passV W.pass := by
  unfold waferV; rw [if_neg h0, if_neg (by omega), h, if_neg (by simp)]
set_option maxHeartbeats 4000000 in
theorem checkWafer_all (nl : Bool) (W : Waf) (nid : Nat) (hW : WafBd W) : ACall Tryd.prog 30 [wafP nl W] [] nid (.int .i64 (waferV W)) [] := by
  have hR := hW.rows
  have hP := hW.pass
  refine acall_run c30 (by simp [a30]) ?_
  unfold wafP
  simp -dsimp only [a30, aqT, aqU, aqN, aqS, ↓seqK, ↓blkK, ↓loopK, step, stepBin, Nat.add_assoc nid, ↓reduceIte, Option.toList, ← Int.ofNat_tmod, ← Int.ofNat_tdiv, simprocAttr, BEq.rfl, LN_succ]
  refine S2.intro (fun h0 => ?_) (fun h0 => ?_) <;> simp -dsimp only [aqT, aqU, aqN, aqS, ↓seqK, ↓blkK, ↓loopK, step, stepBin, Nat.add_assoc nid, ↓reduceIte, Option.toList, ← Int.ofNat_tmod, ← Int.ofNat_tdiv, simprocAttr, BEq.rfl, LN_succ]
  · have e : waferV W = 8 := by unfold waferV; rw [if_pos (by simpa using h0)]
    rw [e]
    refine RetOK.pure (.inl rfl) rfl ?_
    simp [cvT, step, res]
  have h0' : W.rows.length ≠ 0 := by simpa using h0
  refine S2.dec (fun h1 => ?_) (fun h1 => ?_) <;> simp -dsimp only [aqT, aqU, aqN, aqS, ↓seqK, ↓blkK, ↓loopK, step, stepBin, Nat.add_assoc nid, ↓reduceIte, Option.toList, ← Int.ofNat_tmod, ← Int.ofNat_tdiv, simprocAttr, BEq.rfl, LN_succ]
  · have e : waferV W = 2 := by unfold waferV; rw [if_neg h0', if_pos (by omega)]
    rw [e]
    refine RetOK.pure (.inl rfl) rfl ?_
    simp [cvT, step, res]
  have h1' : W.rows.length ≤ 60 := by omega
  refine LP.mkP (fun k : Nat => k ≤ W.rows.length ∧ firstBad (rowBad (wideOf W)) (W.rows.take k) = 0) (fun k : Nat => ⟨[(19, .int .i64 k), (18, .int .i64 W.rows.length), (17, .lit nl W.rows.length [.s fun i => W.rows.getD i []]), (1, .ptr nid 0)], [(nid, some (.box 28 [.lit nl W.rows.length [.s fun i => W.rows.getD i []], .str W.pass]))], nid + 100, nid⟩) (fun k => W.rows.length + 1 - k) 0 ⟨by omega, rfl⟩ (Cov.go [] [] ?_) (fun k hk => ?_)
  · simp [cvT, step, res]
  obtain ⟨hk, hb⟩ := hk
  simp -dsimp only [aqT, aqU, aqN, aqS, ↓seqK, ↓blkK, ↓loopK, step, stepBin, Nat.add_assoc nid, ↓reduceIte, Option.toList, ← Int.ofNat_tmod, ← Int.ofNat_tdiv, simprocAttr, BEq.rfl, LN_succ]
  refine S2.dec (fun h2 => ?_) (fun h2 => ?_) <;> simp -dsimp only [aqT, aqU, aqN, aqS, ↓seqK, ↓blkK, ↓loopK, step, stepBin, Nat.add_assoc nid, ↓reduceIte, Option.toList, ← Int.ofNat_tmod, ← Int.ofNat_tdiv, simprocAttr, BEq.rfl, LN_succ]
  · have hkl : k < W.rows.length := by omega
    obtain ⟨bad, good⟩ := rowsFB (d := []) hkl hb
    have hrl := hW.at k
    have hw0 : wideOf W = (W.rows.getD 0 []).length := rfl
    generalize hr : W.rows.getD k [] = r at *
    rw [beq_nil]
    have bad' : ∀ e : Int, rowBad (wideOf W) r = e → e ≠ 0 → waferV W = e := fun e h3 he => waferV_row h0' h1' (by rw [bad (by rw [h3]; exact he), h3]) he
    refine ⟨by omega, S2.dec (fun h3 => ?_) (fun h3 => ?_)⟩ <;> simp -dsimp only [aqT, aqU, aqN, aqS, ↓seqK, ↓blkK, ↓loopK, step, stepBin, Nat.add_assoc nid, ↓reduceIte, Option.toList, ← Int.ofNat_tmod, ← Int.ofNat_tdiv, simprocAttr, BEq.rfl, LN_succ]
    · rw [bad' 8 (by unfold rowBad; rw [if_pos h3]) (by decide)]
      refine RetOK.pure (.inl rfl) rfl ?_
      simp [cvT, step, res]
    refine S2.dec (fun h4 => ?_) (fun h4 => ?_) <;> simp -dsimp only [aqT, aqU, aqN, aqS, ↓seqK, ↓blkK, ↓loopK, step, stepBin, Nat.add_assoc nid, ↓reduceIte, Option.toList, ← Int.ofNat_tmod, ← Int.ofNat_tdiv, simprocAttr, BEq.rfl, LN_succ]
    · rw [bad' 2 (by unfold rowBad; rw [if_neg h3, if_pos (by omega)]) (by decide)]
      refine RetOK.pure (.inl rfl) rfl ?_
      simp [cvT, step, res]
    refine ⟨by omega, S2.intro (fun h5 => ?_) (fun h5 => ?_)⟩ <;> simp -dsimp only [aqT, aqU, aqN, aqS, ↓seqK, ↓blkK, ↓loopK, step, stepBin, Nat.add_assoc nid, ↓reduceIte, Option.toList, ← Int.ofNat_tmod, ← Int.ofNat_tdiv, simprocAttr, BEq.rfl, LN_succ]
    · have h5' : r.length ≠ wideOf W := by rw [hw0]; intro e; rw [e] at h5; simp at h5
      rw [bad' 3 (by unfold rowBad; rw [if_neg h3, if_neg (by omega), if_pos h5']) (by decide)]
      refine RetOK.pure (.inl rfl) rfl ?_
      simp [cvT, step, res]
    have h5' : r.length = wideOf W := by
      have h5a : ((r.length : Nat) : Int) = ((W.rows.getD 0 []).length : Nat) := by simpa only [bne_eq_false_iff_eq] using h5
      rw [hw0]; omega
    refine CallO.pure (odd_c2 r _ (by omega)) ?_
    simp -dsimp only [aqT, aqU, aqN, aqS, ↓seqK, ↓blkK, ↓loopK, step, stepBin, Nat.add_assoc nid, ↓reduceIte, Option.toList, ← Int.ofNat_tmod, ← Int.ofNat_tdiv, simprocAttr, BEq.rfl, LN_succ]
    refine S2.intro (fun h6 => ?_) (fun h6 => ?_) <;> simp -dsimp only [aqT, aqU, aqN, aqS, ↓seqK, ↓blkK, ↓loopK, step, stepBin, Nat.add_assoc nid, ↓reduceIte, Option.toList, ← Int.ofNat_tmod, ← Int.ofNat_tdiv, simprocAttr, BEq.rfl, LN_succ]
    · rw [bad' 9 (by unfold rowBad; rw [if_neg h3, if_neg (by omega), if_neg (by omega), if_pos h6]) (by decide)]
      refine RetOK.pure (.inl rfl) rfl ?_
      simp [cvT, step, res]
    · refine ⟨by unfold inI64; omega, k + 1, ⟨⟨by omega, good (by unfold rowBad; rw [if_neg h3, if_neg (by omega), if_neg (by omega), if_neg (by simp [h6])])⟩, by omega⟩, Cov.go [] [] ?_⟩
      simp [cvT, step, res]
  have hkn : k = W.rows.length := by omega
  subst hkn
  rw [List.take_length] at hb
  rw [waferV_pass h0' h1' hb]
  refine LP.mkP (fun k : Nat => k ≤ W.pass.length ∧ firstBad (passBad W.pass) ((List.range W.pass.length).take k) = 0) (fun k : Nat => ⟨[(46, .int .i64 k), (45, .int .i64 W.pass.length), (1, .ptr nid 0)], [(nid, some (.box 28 [.lit nl W.rows.length [.s fun i => W.rows.getD i []], .str W.pass]))], nid + 300, nid⟩) (fun k => W.pass.length + 1 - k) 0 ⟨by omega, rfl⟩ (Cov.go [] [] ?_) (fun k hk => ?_)
  · simp [cvT, step, res]
  obtain ⟨hk, hb⟩ := hk
  simp -dsimp only [aqT, aqU, aqN, aqS, ↓seqK, ↓blkK, ↓loopK, step, stepBin, Nat.add_assoc nid, ↓reduceIte, Option.toList, ← Int.ofNat_tmod, ← Int.ofNat_tdiv, simprocAttr, BEq.rfl, LN_succ]
  refine S2.dec (fun h2 => ?_) (fun h2 => ?_) <;> simp -dsimp only [aqT, aqU, aqN, aqS, ↓seqK, ↓blkK, ↓loopK, step, stepBin, Nat.add_assoc nid, ↓reduceIte, Option.toList, ← Int.ofNat_tmod, ← Int.ofNat_tdiv, simprocAttr, BEq.rfl, LN_succ]
  · have hkl : k < W.pass.length := by omega
    obtain ⟨bad, good⟩ := rangeFB hkl hb
    refine ⟨by omega, CallO.pure (isBin_c _ _) ?_⟩
    simp -dsimp only [aqT, aqU, aqN, aqS, ↓seqK, ↓blkK, ↓loopK, step, stepBin, Nat.add_assoc nid, ↓reduceIte, Option.toList, ← Int.ofNat_tmod, ← Int.ofNat_tdiv, simprocAttr, BEq.rfl, LN_succ]
    have hdef : passBad W.pass k = if isBinV (byteI (W.pass.getD k 0)) = false then 9 else if 0 < k ∧ byteI (W.pass.getD k 0) ≤ byteI (W.pass.getD (k - 1) 0) then 7 else 0 := rfl
    unfold byteI at hdef
    cases h3 : isBinV (((W.pass.getD k 0).toNat : Nat) : Int) <;> simp -dsimp only [aqT, aqU, aqN, aqS, ↓seqK, ↓blkK, ↓loopK, step, stepBin, Nat.add_assoc nid, ↓reduceIte, Option.toList, ← Int.ofNat_tmod, ← Int.ofNat_tdiv, simprocAttr, BEq.rfl, LN_succ]
    · rw [h3, if_pos rfl] at hdef
      have : passV W.pass = 9 := by unfold passV; rw [bad (by rw [hdef]; decide), hdef]
      rw [this]
      refine RetOK.pure (.inl rfl) rfl ?_
      simp [cvT, step, res]
    rw [h3, if_neg (by simp)] at hdef
    refine S2.dec (fun h4 => ?_) (fun h4 => ?_) <;> simp -dsimp only [aqT, aqU, aqN, aqS, ↓seqK, ↓blkK, ↓loopK, step, stepBin, Nat.add_assoc nid, ↓reduceIte, Option.toList, ← Int.ofNat_tmod, ← Int.ofNat_tdiv, simprocAttr, BEq.rfl, LN_succ]
    · have hk1 : ((k : Int) - 1).toNat = k - 1 := by omega
      rw [hk1]
      refine ⟨by omega, by unfold inI64; omega, by omega, S2.dec (fun h5 => ?_) (fun h5 => ?_)⟩ <;> simp -dsimp only [aqT, aqU, aqN, aqS, ↓seqK, ↓blkK, ↓loopK, step, stepBin, Nat.add_assoc nid, ↓reduceIte, Option.toList, ← Int.ofNat_tmod, ← Int.ofNat_tdiv, simprocAttr, BEq.rfl, LN_succ]
      · rw [if_pos ⟨by omega, h5⟩] at hdef
        have : passV W.pass = 7 := by unfold passV; rw [bad (by rw [hdef]; decide), hdef]
        rw [this]
        refine RetOK.pure (.inl rfl) rfl ?_
        simp [cvT, step, res]
      · rw [if_neg (fun h => h5 h.2)] at hdef
        refine ⟨by unfold inI64; omega, k + 1, ⟨⟨by omega, good hdef⟩, by omega⟩, Cov.go [] [] ?_⟩
        simp [cvT, step, res]
    · rw [if_neg (fun h => h4 (by omega))] at hdef
      refine ⟨by unfold inI64; omega, k + 1, ⟨⟨by omega, good hdef⟩, by omega⟩, Cov.go [] [] ?_⟩
      simp [cvT, step, res]
  · have hkn : k = W.pass.length := by omega
    subst hkn
    have : passV W.pass = 0 := by unfold passV; rwa [List.take_of_length_le (by simp)] at hb
    rw [this]
    refine RetOK.pure (.inl rfl) rfl ?_
    simp [cvT, step, res]
end Go.Proofs.YtmgfcjblclanmaaDoor
namespace Go.Proofs.YtmgfcjblclanmaaDoor
open Go.RowKit
def arrS (l : List (List UInt8)) : Option ABlk := some (.arr 9 l.length [.s fun i => l.getD i []])
theorem getD_app1 (l : List (List UInt8)) (x : List UInt8) {n : Nat} (hn : l.length = n) : (fun i => if i < n then l.getD i [] else [x].getD (i - n) []) = fun i => (l ++ [x]).getD i [] := by
  subst hn
  funext i
  simp only [List.getD_eq_getElem?_getD, List.getElem?_append]
  split <;> rfl
def ShortRows (m : Nat) (l : List (List UInt8)) : Prop := ∀ r ∈ l, r.length ≤ m
theorem ShortRows.at {m : Nat} {l : List (List UInt8)} (h : ShortRows m l) (i : Nat) : (l.getD i []).length ≤ m := by
  rw [List.getD_eq_getElem?_getD]
  cases hg : l[i]? with
  | none => simp
  | some x => exact h x (List.mem_of_getElem? hg)
theorem ShortRows.set {m : Nat} {l : List (List UInt8)} (h : ShortRows m l) (i : Nat) {x : List UInt8} (hx : x.length ≤ m) : ShortRows m (l.set i x) := fun r hr => by
  rcases List.mem_or_eq_of_mem_set hr with h1 | h1
  · exact h r h1
  · rw [h1]; exact hx
theorem ShortRows.mono {m n : Nat} {l : List (List UInt8)} (h : ShortRows m l) (hn : m ≤ n) : ShortRows n l := fun r hr => Nat.le_trans (h r hr) hn
end Go.Proofs.YtmgfcjblclanmaaDoor
namespace Go.Proofs.YtmgfcjblclanmaaDoor
open Go.RowKit
structure WafSmall (W : Waf) : Prop where
  len : W.rows.length ≤ 6
  row : ShortRows 7 W.rows
  pass : W.pass.length ≤ 2
theorem WafSmall.bd {W : Waf} (h : WafSmall W) : WafBd W := ⟨by have := h.len; omega, fun r hr => by have := h.row r hr; omega, by have := h.pass; omega⟩
end Go.Proofs.YtmgfcjblclanmaaDoor
namespace Go.Proofs.YtmgfcjblclanmaaDoor
def untB (W : Waf) (p : Pt) : Bool := dieV W p.1 p.2 == 63
def opV (W : Waf) : List Pt := (plV W).filter (untB W)
def touchL (card : List Pt) (at' : Pt) : List Pt := card.map fun p => (at'.1 + p.1, at'.2 + p.2)
def maskT (op : List Pt) (q : List Pt) : Nat := maskB (fun i => q.contains (op.getD i p0)) op.length
def tV (W : Waf) (card : List Pt) (at' : Pt) : List Pt := (touchL card at').filter (untB W)
theorem rowPl_nodup (y n : Nat) : (rowPl y n).Nodup := by
  unfold rowPl
  refine List.Pairwise.map _ (fun a b h e => ?_) List.nodup_range
  have := congrArg Prod.fst e
  simp at this
  exact h (by omega)
theorem plTo_nodup (W : Waf) : ∀ y, (plTo W y).Nodup ∧ ∀ p ∈ plTo W y, p.2 < (y : Int)
  | 0 => ⟨List.Pairwise.nil, fun p hp => by unfold plTo at hp; simp at hp⟩
  | y + 1 => by
    obtain ⟨h1, h2⟩ := plTo_nodup W y
    have hr : ∀ p ∈ rowPl y (W.rows.getD y []).length, p.2 = (y : Int) := fun p hp => by
      unfold rowPl at hp
      obtain ⟨x, _, rfl⟩ := List.mem_map.1 hp
      rfl
    rw [plTo_succ]
    refine ⟨List.nodup_append.2 ⟨h1, rowPl_nodup _ _, fun a ha b hb e => ?_⟩, fun p hp => ?_⟩
    · have := h2 a ha
      rw [e, hr b hb] at this
      omega
    · rcases List.mem_append.1 hp with hp | hp
      · have := h2 p hp; omega
      · have := hr p hp; omega
theorem plV_nodup (W : Waf) : (plV W).Nodup := (plTo_nodup W _).1
theorem opV_nodup (W : Waf) : (opV W).Nodup := (plV_nodup W).filter _
theorem plTo_has {W : Waf} {x y : Nat} : ∀ {k : Nat}, y < k → x < (W.rows.getD y []).length → ((x : Int), (y : Int)) ∈ plTo W k
  | 0, h, _ => absurd h (by omega)
  | k + 1, h, hx => by
    rw [plTo_succ]
    rcases (by omega : y < k ∨ y = k) with h | rfl
    · exact List.mem_append_left _ (plTo_has h hx)
    · refine List.mem_append_right _ ?_
      unfold rowPl
      exact List.mem_map.2 ⟨x, List.mem_range.2 hx, rfl⟩
theorem plV_has {W : Waf} (h : WafOk W) {p : Pt} (hp : dieV W p.1 p.2 ≠ 46) : p ∈ plV W := by
  obtain ⟨x, y⟩ := p
  simp only at hp
  unfold dieV outB at hp
  split at hp
  · exact absurd rfl hp
  · split at hp
    · exact absurd rfl hp
    · rename_i h1 h2
      simp at h1 h2
      obtain ⟨a, rfl⟩ : ∃ a : Nat, x = a := ⟨x.toNat, by omega⟩
      obtain ⟨b, rfl⟩ : ∃ b : Nat, y = b := ⟨y.toNat, by omega⟩
      have hm : W.rows.getD b [] ∈ W.rows := by
        rw [List.getD_eq_getElem?_getD, List.getElem?_eq_getElem (by omega : b < W.rows.length)]; exact List.getElem_mem _
      refine plTo_has (by omega) ?_
      rw [(h.row _ hm).2.2.1]
      omega
theorem opV_mem {W : Waf} (h : WafOk W) {p : Pt} : p ∈ opV W ↔ untB W p = true := by
  unfold opV
  rw [List.mem_filter]
  refine ⟨fun h => h.2, fun hu => ⟨plV_has h ?_, hu⟩⟩
  unfold untB at hu
  rw [beq_iff_eq] at hu
  omega
theorem maskT_test (op q : List Pt) (i : Nat) : (maskT op q).testBit i = true ↔ i < op.length ∧ op.getD i p0 ∈ q := by
  unfold maskT
  rw [maskB_test, Bool.and_eq_true, decide_eq_true_eq, List.contains_iff_mem]
theorem touchL_nodup {card : List Pt} (hc : card.Nodup) (a : Pt) : (touchL card a).Nodup := by
  unfold touchL
  refine List.Pairwise.map _ (fun p q h e => h ?_) hc
  have h1 := congrArg Prod.fst e
  have h2 := congrArg Prod.snd e
  simp only at h1 h2
  exact Prod.ext (by omega) (by omega)
theorem tV_mem {W : Waf} (h : WafOk W) {card : List Pt} {a p : Pt} : p ∈ tV W card a ↔ p ∈ opV W ∧ p ∈ touchL card a := by
  unfold tV
  rw [List.mem_filter, opV_mem h]
  exact and_comm
def setT (W : Waf) (card : List Pt) (a : Pt) : Nat := maskT (opV W) (touchL card a)
theorem setT_test {W : Waf} (h : WafOk W) {card : List Pt} {a : Pt} {i : Nat} (hi : i < (opV W).length) : (setT W card a).testBit i = true ↔ (opV W).getD i p0 ∈ tV W card a := by
  unfold setT
  rw [maskT_test, tV_mem h]
  refine ⟨fun h => ⟨?_, h.2⟩, fun h => ⟨hi, h.2⟩⟩
  rw [List.getD_eq_getElem?_getD, List.getElem?_eq_getElem hi]
  exact List.getElem_mem _
theorem setT_some {W : Waf} (h : WafOk W) {card : List Pt} {a : Pt} (h0 : setT W card a ≠ 0) : tV W card a ≠ [] := by
  obtain ⟨i, hi⟩ := Nat.exists_testBit_of_ne_zero h0
  have hi' := hi
  unfold setT at hi'
  have hl := ((maskT_test _ _ _).1 hi').1
  have := (setT_test h hl).1 hi
  exact List.ne_nil_of_mem this
def allT (W : Waf) (card : List Pt) (ats : List Pt) : List Pt := ats.flatMap (tV W card)
theorem idx_of {l : List Pt} {p : Pt} (h : p ∈ l) : ∃ i, i < l.length ∧ l.getD i p0 = p := by
  obtain ⟨i, hi, rfl⟩ := List.getElem_of_mem h
  exact ⟨i, hi, by rw [List.getD_eq_getElem?_getD, List.getElem?_eq_getElem hi]; rfl⟩
theorem allT_nodup {W : Waf} (h : WafOk W) {card : List Pt} (hc : card.Nodup) : ∀ {ats : List Pt}, (ats.map (setT W card)).Pairwise (fun a b => ∀ i, a.testBit i = true → b.testBit i = false) → (allT W card ats).Nodup
  | [], _ => List.Pairwise.nil
  | a :: ats, hp => by
    rw [List.map_cons, List.pairwise_cons] at hp
    have ih := allT_nodup h hc hp.2
    unfold allT at ih ⊢
    rw [List.flatMap_cons]
    refine List.nodup_append.2 ⟨(touchL_nodup hc a).filter _, ih, fun p hp1 q hq e => ?_⟩
    subst e
    obtain ⟨b, hb, hpb⟩ := List.mem_flatMap.1 hq
    obtain ⟨i, hi, e⟩ := idx_of ((tV_mem h).1 hp1).1
    have h1 := (setT_test h (card := card) (a := a) hi).2 (by rw [e]; exact hp1)
    have h2 := (setT_test h (card := card) (a := b) hi).2 (by rw [e]; exact hpb)
    rw [hp.1 _ (List.mem_map_of_mem hb) i h1] at h2
    cases h2
theorem nodup_len_le : ∀ {a b : List Pt}, a.Nodup → (∀ p ∈ a, p ∈ b) → a.length ≤ b.length
  | [], b, _, _ => Nat.zero_le _
  | p :: a, b, hn, hs => by
    rw [List.nodup_cons] at hn
    have hp := hs p List.mem_cons_self
    have ih := nodup_len_le (a := a) (b := b.erase p) hn.2 (fun q hq => by
      have hne : q ≠ p := fun e => hn.1 (e ▸ hq)
      exact (List.mem_erase_of_ne hne).2 (hs q (List.mem_cons_of_mem _ hq)))
    have := List.length_erase_of_mem hp
    have := List.length_pos_of_mem hp
    rw [List.length_cons]
    omega
theorem allT_len {W : Waf} (h : WafOk W) {card : List Pt} (hc : card.Nodup) {ats : List Pt} {F : Nat} (hF : ∀ j, F.testBit j = decide (j < (opV W).length)) (hp : Parts F (ats.map (setT W card))) : (allT W card ats).length = (opV W).length := by
  have hn := allT_nodup h hc hp.apart
  refine Nat.le_antisymm ?_ ?_
  · refine nodup_len_le hn fun p hp1 => ?_
    obtain ⟨b, hb, hpb⟩ := List.mem_flatMap.1 hp1
    exact ((tV_mem h).1 hpb).1
  · refine nodup_len_le (opV_nodup W) fun p hp1 => ?_
    obtain ⟨i, hi, e⟩ := idx_of hp1
    obtain ⟨d, hd, hb⟩ := (hp.has i).1 (by rw [hF]; exact decide_eq_true hi)
    obtain ⟨a, ha, rfl⟩ := List.mem_map.1 hd
    have := (setT_test h hi).1 hb
    rw [e] at this
    exact List.mem_flatMap.2 ⟨a, ha, this⟩
def downP (card : List Pt) (p : Pt) : Pt := (p.1 - (card.getD 0 p0).1, p.2 - (card.getD 0 p0).2)
def badT (W : Waf) (S : List Pt) (q : Pt) : Bool := testedV (dieV W q.1 q.2) || S.contains q
def rowS (W : Waf) (card : List Pt) (st : List Pt × List Pt × Nat) (p : Pt) : List Pt × List Pt × Nat :=
  if (untB W p && !st.1.contains p) = true then (st.1 ++ tV W card (downP card p), st.2.1 ++ [downP card p], st.2.2 + ((touchL card (downP card p)).filter (badT W st.1)).length) else st
def rowTm (W : Waf) (card : List Pt) (i : Nat) : Nat := setT W card (downP card ((opV W).getD i p0))
theorem down_touch {card : List Pt} (hc : card ≠ []) (p : Pt) : p ∈ touchL card (downP card p) := by
  unfold touchL downP
  refine List.mem_map.2 ⟨card.getD 0 p0, ?_, ?_⟩
  · have : 0 < card.length := List.length_pos_iff.2 hc
    rw [List.getD_eq_getElem?_getD, List.getElem?_eq_getElem this]
    exact List.getElem_mem _
  · exact Prod.ext (by simp only; omega) (by simp only; omega)
theorem op_unt {W : Waf} {i : Nat} (h : i < (opV W).length) : untB W ((opV W).getD i p0) = true := by
  have hm : (opV W).getD i p0 ∈ opV W := by
    rw [List.getD_eq_getElem?_getD, List.getElem?_eq_getElem h]; exact List.getElem_mem _
  unfold opV at hm ⊢
  exact (List.mem_filter.1 hm).2
theorem rows_go {W : Waf} (h : WafOk W) {card : List Pt} (hc : card ≠ []) : ∀ (k i : Nat), i + k = (opV W).length → ∀ (S out : List Pt) (again M : Nat), (∀ j, j < (opV W).length → (M.testBit j = true ↔ (opV W).getD j p0 ∈ S)) →
    (((opV W).drop i).foldl (rowS W card) (S, out, again)).2.1 = out ++ (rowsN (rowTm W card) k i M).map (fun i => downP card ((opV W).getD i p0)) ∧
    ((((opV W).drop i).foldl (rowS W card) (S, out, again)).2.2 = 0 → again = 0 ∧ onceN (rowTm W card) k i M ∧ ∀ j ∈ rowsN (rowTm W card) k i M, j < (opV W).length ∧ ∀ q ∈ touchL card (downP card ((opV W).getD j p0)), testedV (dieV W q.1 q.2) = false)
  | 0, i, hi, S, out, again, M, hM => by
    rw [List.drop_eq_nil_of_le (by omega)]
    exact ⟨by simp [rowsN], fun h0 => ⟨h0, trivial, fun j hj => absurd hj List.not_mem_nil⟩⟩
  | k + 1, i, hi, S, out, again, M, hM => by
    have hil : i < (opV W).length := by omega
    have hu := op_unt hil
    have hMi := hM i hil
    rw [List.drop_eq_getElem_cons hil, List.foldl_cons]
    have e : (opV W)[i] = (opV W).getD i p0 := by rw [List.getD_eq_getElem?_getD, List.getElem?_eq_getElem hil]; rfl
    rw [e]
    by_cases hs : (opV W).getD i p0 ∈ S
    · have h1 : rowS W card (S, out, again) ((opV W).getD i p0) = (S, out, again) := by
        unfold rowS
        rw [if_neg (by rw [hu, List.contains_iff_mem.2 hs]; simp)]
      rw [h1]
      obtain ⟨g1, g2⟩ := rows_go h hc k (i + 1) (by omega) S out again M hM
      have hb := hMi.2 hs
      refine ⟨?_, fun h0 => ?_⟩
      · rw [g1]
        conv => rhs; unfold rowsN
        rw [if_pos hb]
      · obtain ⟨a1, a2, a3⟩ := g2 h0
        refine ⟨a1, .inl ⟨hb, a2⟩, ?_⟩
        unfold rowsN
        rw [if_pos hb]
        exact a3
    · have hb : M.testBit i = false := by
        cases hb : M.testBit i with
        | false => rfl
        | true => exact absurd (hMi.1 hb) hs
      have h1 : rowS W card (S, out, again) ((opV W).getD i p0) = (S ++ tV W card (downP card ((opV W).getD i p0)), out ++ [downP card ((opV W).getD i p0)], again + ((touchL card (downP card ((opV W).getD i p0))).filter (badT W S)).length) := by
        unfold rowS
        rw [if_pos (by
          have hcf : S.contains ((opV W).getD i p0) = false := by
            rw [Bool.eq_false_iff]; exact fun hcc => hs (List.contains_iff_mem.1 hcc)
          rw [hu, hcf]; rfl)]
      rw [h1]
      obtain ⟨g1, g2⟩ := rows_go h hc k (i + 1) (by omega) (S ++ tV W card (downP card ((opV W).getD i p0))) (out ++ [downP card ((opV W).getD i p0)]) (again + ((touchL card (downP card ((opV W).getD i p0))).filter (badT W S)).length) (M ||| rowTm W card i) (fun j hj => by
        rw [Nat.testBit_or, Bool.or_eq_true, List.mem_append, hM j hj]
        unfold rowTm
        rw [setT_test h hj])
      refine ⟨?_, fun h0 => ?_⟩
      · rw [g1]
        conv => rhs; unfold rowsN
        rw [if_neg (by rw [hb]; simp), List.map_cons, List.append_assoc]
        rfl
      · obtain ⟨a1, a2, a3⟩ := g2 h0
        have hz : (touchL card (downP card ((opV W).getD i p0))).filter (badT W S) = [] := List.eq_nil_of_length_eq_zero (by omega)
        have hno : ∀ q ∈ touchL card (downP card ((opV W).getD i p0)), testedV (dieV W q.1 q.2) = false ∧ q ∉ S := fun q hq => by
          have := List.filter_eq_nil_iff.1 hz q hq
          unfold badT at this
          simp at this
          exact this
        refine ⟨by omega, .inr ⟨hb, fun j hj => ?_, a2⟩, ?_⟩
        · have hjl : j < (opV W).length := by
            unfold rowTm setT at hj
            exact ((maskT_test _ _ _).1 hj).1
          have hm := (setT_test h hjl).1 hj
          have := (hno _ ((tV_mem h).1 hm).2).2
          cases hb2 : M.testBit j with
          | false => rfl
          | true => exact absurd ((hM j hjl).1 hb2) this
        · unfold rowsN
          rw [if_neg (by rw [hb]; simp)]
          intro j hj
          rcases List.mem_cons.1 hj with rfl | hj
          · exact ⟨hil, fun q hq => (hno q hq).1⟩
          · exact a3 j hj
def rowsV (W : Waf) (card : List Pt) : List Pt × List Pt × Nat := (plV W).foldl (rowS W card) ([], [], 0)
theorem rowS_skip {W : Waf} {card : List Pt} {st : List Pt × List Pt × Nat} {p : Pt} (h : untB W p = false) : rowS W card st p = st := by
  unfold rowS
  rw [h, Bool.false_and, if_neg (by simp)]
theorem rowsV_op (W : Waf) (card : List Pt) : rowsV W card = (opV W).foldl (rowS W card) ([], [], 0) := by
  unfold rowsV opV
  generalize (([], [], 0) : List Pt × List Pt × Nat) = st
  induction plV W generalizing st with
  | nil => rfl
  | cons p l ih =>
    rw [List.foldl_cons, ih, List.filter_cons]
    cases hu : untB W p
    · rw [rowS_skip hu]; simp
    · simp
theorem rows_once {W : Waf} (h : WafOk W) {card : List Pt} (hc : card ≠ []) {F : Nat} (hF : ∀ j, F.testBit j = decide (j < (opV W).length)) (hF64 : F < 2 ^ 64) (h0 : (rowsV W card).2.2 = 0) :
    LowParts F ((rowsV W card).2.1.map (setT W card)) ∧ ∀ a ∈ (rowsV W card).2.1, ∃ p ∈ opV W, a = downP card p ∧ ∀ q ∈ touchL card a, testedV (dieV W q.1 q.2) = false := by
  rw [rowsV_op] at h0 ⊢
  obtain ⟨g1, g2⟩ := rows_go h hc (opV W).length 0 (by omega) [] [] 0 0 (fun j hj => by simp)
  rw [List.drop_zero] at g1 g2
  obtain ⟨_, a2, a3⟩ := g2 h0
  have hT : ∀ i, i < (opV W).length → (rowTm W card i).testBit i = true := fun i hi => by
    unfold rowTm
    rw [setT_test h hi, tV_mem h]
    refine ⟨?_, down_touch hc _⟩
    rw [List.getD_eq_getElem?_getD, List.getElem?_eq_getElem hi]
    exact List.getElem_mem _
  have hTK : ∀ i j, i < (opV W).length → (rowTm W card i).testBit j = true → j < (opV W).length := fun i j _ hj => by
    unfold rowTm setT at hj
    exact ((maskT_test _ _ _).1 hj).1
  have hl := rows_low hF hF64 hT hTK (opV W).length 0 0 (by omega) (fun j hj => absurd hj (by omega)) a2
  have e : andN F 0 = F := by
    refine Nat.eq_of_testBit_eq fun i => ?_
    rw [andN_test, Nat.zero_testBit]; simp
  rw [e] at hl
  rw [g1, List.nil_append, List.map_map]
  refine ⟨hl, fun a ha => ?_⟩
  obtain ⟨i, hi, rfl⟩ := List.mem_map.1 ha
  obtain ⟨b1, b2⟩ := a3 i hi
  refine ⟨_, ?_, rfl, b2⟩
  rw [List.getD_eq_getElem?_getD, List.getElem?_eq_getElem b1]
  exact List.getElem_mem _
theorem full_test (K j : Nat) : (2 ^ K - 1).testBit j = decide (j < K) := Nat.testBit_two_pow_sub_one _ _
def TdOk (W : Waf) (card : List Pt) (L : List Pt) : Prop := ∀ a, a ∈ L ↔ (∃ p ∈ opV W, ∃ s ∈ card, a = (p.1 - s.1, p.2 - s.2)) ∧ ∀ q ∈ touchL card a, testedV (dieV W q.1 q.2) = false
theorem few_rows {W : Waf} (h : WafOk W) {card L : List Pt} (hc : card ≠ []) (hL : TdOk W card L) (hK : (opV W).length ≤ 14) (h0 : (rowsV W card).2.2 = 0) :
    (2 ^ (opV W).length - 1 = 0 ∨ fewN (L.map (setT W card)) (2 ^ (opV W).length - 1) ≠ 0) ∧ fewN (L.map (setT W card)) (2 ^ (opV W).length - 1) ≤ (rowsV W card).2.1.length := by
  have h64 : 2 ^ (opV W).length - 1 < 2 ^ 64 := by
    have := Nat.pow_le_pow_right (n := 2) (by omega) hK
    omega
  obtain ⟨g1, g2⟩ := rows_once h hc (full_test (opV W).length) h64 h0
  have := few_low (l := L.map (setT W card)) g1 h64 (fun d hd => by
    obtain ⟨a, ha, rfl⟩ := List.mem_map.1 hd
    obtain ⟨p, hp, e, hq⟩ := g2 a ha
    refine List.mem_map_of_mem ((hL a).2 ⟨⟨p, hp, card.getD 0 p0, ?_, e⟩, hq⟩)
    have : 0 < card.length := List.length_pos_iff.2 hc
    rw [List.getD_eq_getElem?_getD, List.getElem?_eq_getElem this]
    exact List.getElem_mem _)
  rwa [List.length_map] at this
theorem getD_map_set {W : Waf} {card L : List Pt} {i : Nat} (hi : i < L.length) : (L.map (setT W card)).getD i 0 = setT W card (L.getD i p0) := by
  rw [List.getD_eq_getElem?_getD, List.getElem?_map, List.getD_eq_getElem?_getD, List.getElem?_eq_getElem hi]
  rfl
theorem few_all {W : Waf} (h : WafOk W) {card L : List Pt} (hc : card.Nodup) (hK : (opV W).length ≤ 14) {f : Nat} (h0 : 2 ^ (opV W).length - 1 = 0 ∨ fewN (L.map (setT W card)) (2 ^ (opV W).length - 1) ≠ 0) (hf : fewN (L.map (setT W card)) (2 ^ (opV W).length - 1) ≤ f) :
    ∃ is, goN (L.map (setT W card)) f (2 ^ (opV W).length - 1) = some is ∧ is.length = fewN (L.map (setT W card)) (2 ^ (opV W).length - 1) ∧ (∀ i ∈ is, i < L.length) ∧
      (allT W card (is.map fun i => L.getD i p0)).Nodup ∧ (allT W card (is.map fun i => L.getD i p0)).length = (opV W).length ∧ ∀ i ∈ is, tV W card (L.getD i p0) ≠ [] := by
  have h64 : 2 ^ (opV W).length - 1 < 2 ^ 64 := by
    have := Nat.pow_le_pow_right (n := 2) (by omega) hK
    omega
  obtain ⟨is, g1, g2, g3, g4⟩ := goN_ok f _ h64 h0 hf
  have g4 : ∀ i ∈ is, i < L.length := fun i hi => by have := g4 i hi; rwa [List.length_map] at this
  have e : (is.map fun i => (L.map (setT W card)).getD i 0) = (is.map fun i => L.getD i p0).map (setT W card) := by
    rw [List.map_map]
    exact List.map_congr_left fun i hi => getD_map_set (g4 i hi)
  rw [e] at g2
  refine ⟨is, g1, g3, g4, allT_nodup h hc g2.apart, allT_len h hc (full_test _) g2, fun i hi => setT_some h ?_⟩
  exact g2.some _ (List.mem_map_of_mem (List.mem_map.2 ⟨i, hi, rfl⟩))
end Go.Proofs.YtmgfcjblclanmaaDoor
namespace Go.Proofs.YtmgfcjblclanmaaDoor
theorem firstBad_nil0 {α : Type} {f : α → Int} : ∀ {l : List α}, (∀ a ∈ l, f a = 0) → firstBad f l = 0
  | [], _ => rfl
  | a :: l, h => by
    have h0 := h a (by simp)
    have ih := firstBad_nil0 (f := f) (l := l) fun b hb => h b (by simp [hb])
    simp [firstBad, h0, ih]
theorem rowBad_ok {wide : Nat} {r : List UInt8} (h1 : r ≠ []) (h2 : r.length ≤ 60) (h3 : r.length = wide) (h4 : oddB r = false) : rowBad wide r = 0 := by
  unfold rowBad
  rw [if_neg h1, if_neg (by omega), if_neg (by omega), if_neg (by rw [h4]; simp)]
end Go.Proofs.YtmgfcjblclanmaaDoor
namespace Go.Proofs.YtmgfcjblclanmaaDoor
open Go.RowKit
def FewR (w : Nat) (r : List UInt8) : Prop := r.length = w ∧ ∀ b ∈ r, b = 63 ∨ b = 49 ∨ b = 46
structure FewW (W : Waf) : Prop where
  lo : 1 ≤ W.rows.length
  hi : W.rows.length ≤ 3
  row : ∃ w, 1 ≤ w ∧ w ≤ 4 ∧ ∀ r ∈ W.rows, FewR w r
  pass : W.pass = [49]
theorem FewW.small {W : Waf} (h : FewW W) : WafSmall W := by
  obtain ⟨w, h1, h2, h3⟩ := h.row
  exact ⟨by have := h.hi; omega, fun r hr => by rw [(h3 r hr).1]; omega, by rw [h.pass]; decide⟩
theorem FewW.right {W : Waf} (h : FewW W) : waferV W = 0 := by
  obtain ⟨w, h1, h2, h3⟩ := h.row
  have hlo := h.lo
  have hhi := h.hi
  have hw : wideOf W = w := by
    unfold wideOf
    rw [List.getD_eq_getElem?_getD, List.getElem?_eq_getElem (by omega)]
    exact (h3 _ (List.getElem_mem _)).1
  have hr : firstBad (rowBad (wideOf W)) W.rows = 0 := firstBad_nil0 fun r hr => by
    obtain ⟨a1, a2⟩ := h3 r hr
    refine rowBad_ok (fun hn => ?_) (by omega) (by rw [hw]; exact a1) ?_
    · rw [hn] at a1; simp at a1; omega
    · unfold oddB
      rw [List.any_eq_false]
      intro b hb
      rcases a2 b hb with rfl | rfl | rfl <;> decide
  unfold waferV
  rw [if_neg (by omega), if_neg (by omega), if_neg (by rw [hr]; simp), h.pass]
  decide
theorem FewW.places {W : Waf} (h : FewW W) : (plV W).length ≤ 12 := by
  obtain ⟨w, h1, h2, h3⟩ := h.row
  have hhi := h.hi
  have hk : ∀ k, k ≤ W.rows.length → (plTo W k).length ≤ 4 * k := by
    intro k
    induction k with
    | zero => simp [plTo]
    | succ k ih =>
      intro hk
      have hm : W.rows.getD k [] ∈ W.rows := by
        rw [List.getD_eq_getElem?_getD, List.getElem?_eq_getElem (by omega : k < W.rows.length)]; exact List.getElem_mem _
      have h4 := (h3 _ hm).1
      have h5 := ih (by omega)
      rw [plTo_succ, List.length_append, rowPl_len]
      omega
  have := hk _ (Nat.le_refl _)
  unfold plV
  omega
theorem FewW.few {W : Waf} (h : FewW W) : (opV W).length ≤ 12 := by
  have h1 := h.places
  have h2 := List.length_filter_le (untB W) (plV W)
  unfold opV
  omega
set_option maxHeartbeats 4000000 in
theorem fewX (s nid : Nat) (nl : Bool) (A : List Int) (p : Nat) (h : s < nid) (hp : p ≤ 1099510000000) (hA : A.length ≤ 17592186044416) :
    ∃ x : Waf × Nat, (FewW x.1 ∧ x.2 ≤ p + 60) ∧ ACall Tryd.prog 21 [.ptr s 0] [(s, strmC nl A p)] nid (.agg [.sl nid 0 x.1.rows.length, .str x.1.pass]) [(s, strmC nl A x.2), (nid, arrS x.1.rows)] := by
  obtain ⟨e1, e2, e3, e4, e5, e6, e7, e8, e9⟩ := id_all h
  refine acall_ex c21 (by simp [a21]) ?_
  simp -dsimp only [aqT0, ROp0, aqT, aqU, aqN, aqS, ↓seqK, ↓blkK, ↓loopK, step, stepBin, Nat.add_assoc nid, ↓reduceIte, Option.toList, ← Int.ofNat_tmod, ← Int.ofNat_tdiv, simprocAttr, BEq.rfl, LN_succ, e1, e2, e3, e4, e5, e6, e7, e8, e9, a21, strmC_low]
  refine CallX.on (range_c s _ nl A p 1 4 (by omega) (by omega) hA (by omega) (by omega) (by omega)) (subH_get (by simp only [aqT, aqU, aqN, ↓seqK, ↓blkK, ↓loopK, step, stepBin, Nat.reduceBEq, Nat.reduceBeqDiff, Nat.add_assoc nid, Nat.reduceAdd, reduceCtorEq, ↓reduceIte, Nat.reduceLeDiff, Nat.reduceBneDiff, Option.toList, ← Int.ofNat_tmod, ← Int.ofNat_tdiv, Nat.reduceLT, e1, e2, e3, e4, e5, e6, e7, e8, e9])) ?_
  simp -dsimp only [aqT0, ROp0, aqT, aqU, aqN, aqS, ↓seqK, ↓blkK, ↓loopK, step, stepBin, Nat.add_assoc nid, ↓reduceIte, Option.toList, ← Int.ofNat_tmod, ← Int.ofNat_tdiv, simprocAttr, BEq.rfl, LN_succ, e1, e2, e3, e4, e5, e6, e7, e8, e9, strmC_low]
  have hwd := rangeV_bd A p (lo := 1) (hi := 4) (by omega)
  obtain ⟨w, hw⟩ : ∃ w : Nat, rangeV A p 1 4 = w := ⟨_, (Int.toNat_of_nonneg (by omega)).symm⟩
  rw [hw] at hwd ⊢
  clear hw
  refine CallX.on (range_c s _ nl A (p + 1) 1 3 (by omega) (by omega) hA (by omega) (by omega) (by omega)) (subH_get (by simp only [aqT, aqU, aqN, ↓seqK, ↓blkK, ↓loopK, step, stepBin, Nat.reduceBEq, Nat.reduceBeqDiff, Nat.add_assoc nid, Nat.reduceAdd, reduceCtorEq, ↓reduceIte, Nat.reduceLeDiff, Nat.reduceBneDiff, Option.toList, ← Int.ofNat_tmod, ← Int.ofNat_tdiv, Nat.reduceLT, e1, e2, e3, e4, e5, e6, e7, e8, e9])) ?_
  simp -dsimp only [aqT0, ROp0, aqT, aqU, aqN, aqS, ↓seqK, ↓blkK, ↓loopK, step, stepBin, Nat.add_assoc nid, ↓reduceIte, Option.toList, ← Int.ofNat_tmod, ← Int.ofNat_tdiv, simprocAttr, BEq.rfl, LN_succ, e1, e2, e3, e4, e5, e6, e7, e8, e9, strmC_low]
  have hmd := rangeV_bd A (p + 1) (lo := 1) (hi := 3) (by omega)
  obtain ⟨m, hm⟩ : ∃ w : Nat, rangeV A (p + 1) 1 3 = w := ⟨_, (Int.toNat_of_nonneg (by omega)).symm⟩
  rw [hm] at hmd ⊢
  clear hm
  refine LP0.mkP (fun x : List (List UInt8) × Nat => x.1.length ≤ m ∧ (∀ r ∈ x.1, FewR w r) ∧ x.2 ≤ p + 2 + 4 * x.1.length) (fun x => ⟨[(11, .int .i64 x.1.length), (10, .int .i64 m), (4, .ptr (nid + 20) 0), (3, .int .i64 w), (2, .ptr nid 0), (0, .ptr s 0)],
    [(s, strmC nl A x.2), (nid, some (.box 28 [.lit true 0 [], .str []])), (nid + 20, some (.box 28 [.sl (nid + 24) 0 x.1.length, .str [49]])), (nid + 24, arrS x.1)], nid + 200, nid⟩) (fun x => m + 1 - x.1.length) ([], p + 1 + 1) ⟨by simp, fun r hr => by simp at hr, by simp⟩ (Cov.go [] [(nid + 24, 1)] ?_) (fun x hx => ?_)
  · simp [cvT, step, res, e1, e2, e3, e4, e5, e6, e7, e8, e9, strmC, arrS]
  obtain ⟨R, q⟩ := x
  obtain ⟨hR1, hR2, hq⟩ := hx
  simp only at hR1 hR2 hq
  unfold arrS
  simp -dsimp only [aqT0, ROp0, aqT, aqU, aqN, aqS, ↓seqK, ↓blkK, ↓loopK, step, stepBin, Nat.add_assoc nid, ↓reduceIte, Option.toList, ← Int.ofNat_tmod, ← Int.ofNat_tdiv, simprocAttr, BEq.rfl, LN_succ, e1, e2, e3, e4, e5, e6, e7, e8, e9, strmC_low]
  refine S2.dec (fun h2 => ?_) (fun h2 => ?_) <;> simp -dsimp only [aqT0, ROp0, aqT, aqU, aqN, aqS, ↓seqK, ↓blkK, ↓loopK, step, stepBin, Nat.add_assoc nid, ↓reduceIte, Option.toList, ← Int.ofNat_tmod, ← Int.ofNat_tdiv, simprocAttr, BEq.rfl, LN_succ, e1, e2, e3, e4, e5, e6, e7, e8, e9, strmC_low]
  · refine LP0.mkP (fun x : List UInt8 × Nat => x.1.length ≤ w ∧ (∀ b ∈ x.1, b = 63 ∨ b = 49 ∨ b = 46) ∧ x.2 ≤ q + x.1.length) (fun x => ⟨[(14, .int .i64 x.1.length), (13, .int .i64 w), (5, .str x.1), (11, .int .i64 R.length), (10, .int .i64 m), (4, .ptr (nid + 20) 0), (3, .int .i64 w), (2, .ptr nid 0), (0, .ptr s 0)],
      [(s, strmC nl A x.2), (nid, some (.box 28 [.lit true 0 [], .str []])), (nid + 20, some (.box 28 [.sl (nid + 24) 0 R.length, .str [49]])), (nid + 24, arrS R)], nid + 400, nid⟩) (fun x => w + 1 - x.1.length) ([], q) ⟨by simp, by simp, by simp⟩ (Cov.go [] [] ?_) (fun x hx => ?_)
    · simp [cvT, step, res, e1, e2, e3, e4, e5, e6, e7, e8, e9, strmC, arrS]
    obtain ⟨t, r⟩ := x
    obtain ⟨ht1, ht2, hr⟩ := hx
    simp only at ht1 ht2 hr
    unfold arrS
    simp -dsimp only [aqT0, ROp0, aqT, aqU, aqN, aqS, ↓seqK, ↓blkK, ↓loopK, step, stepBin, Nat.add_assoc nid, ↓reduceIte, Option.toList, ← Int.ofNat_tmod, ← Int.ofNat_tdiv, simprocAttr, BEq.rfl, LN_succ, e1, e2, e3, e4, e5, e6, e7, e8, e9, strmC_low]
    refine S2.dec (fun h3 => ?_) (fun h3 => ?_) <;> simp -dsimp only [aqT0, ROp0, aqT, aqU, aqN, aqS, ↓seqK, ↓blkK, ↓loopK, step, stepBin, Nat.add_assoc nid, ↓reduceIte, Option.toList, ← Int.ofNat_tmod, ← Int.ofNat_tdiv, simprocAttr, BEq.rfl, LN_succ, e1, e2, e3, e4, e5, e6, e7, e8, e9, strmC_low]
    · refine CallX.some_go (T := 9) (nl := nl) (A := A) (p := r) (g := fun i => [[63], [63], [63], [63], [49], [46]].getD i []) (by simp only [aqT, aqU, aqN, ↓seqK, ↓blkK, ↓loopK, step, stepBin, Nat.reduceBEq, Nat.reduceBeqDiff, Nat.add_assoc nid, Nat.reduceAdd, reduceCtorEq, ↓reduceIte, Nat.reduceLeDiff, Nat.reduceBneDiff, Option.toList, ← Int.ofNat_tmod, ← Int.ofNat_tdiv, Nat.reduceLT, e1, e2, e3, e4, e5, e6, e7, e8, e9]) (by simp only [aqT, aqU, aqN, ↓seqK, ↓blkK, ↓loopK, step, stepBin, Nat.reduceBEq, Nat.reduceBeqDiff, Nat.add_assoc nid, Nat.reduceAdd, reduceCtorEq, ↓reduceIte, Nat.reduceLeDiff, Nat.reduceBneDiff, Option.toList, ← Int.ofNat_tmod, ← Int.ofNat_tdiv, Nat.reduceLT, e1, e2, e3, e4, e5, e6, e7, e8, e9]) (by simp only [aqT, aqU, aqN, ↓seqK, ↓blkK, ↓loopK, step, stepBin, Nat.reduceBEq, Nat.reduceBeqDiff, Nat.add_assoc nid, Nat.reduceAdd, reduceCtorEq, ↓reduceIte, Nat.reduceLeDiff, Nat.reduceBneDiff, Option.toList, ← Int.ofNat_tmod, ← Int.ofNat_tdiv, Nat.reduceLT, e1, e2, e3, e4, e5, e6, e7, e8, e9]) (by omega) (by omega) hA (by omega) (by omega) ?_
      simp -dsimp only [aqT0, ROp0, aqT, aqU, aqN, aqS, ↓seqK, ↓blkK, ↓loopK, step, stepBin, Nat.add_assoc nid, ↓reduceIte, Option.toList, ← Int.ofNat_tmod, ← Int.ofNat_tdiv, simprocAttr, BEq.rfl, LN_succ, e1, e2, e3, e4, e5, e6, e7, e8, e9, strmC_low]
      have hb := getD_all (P := fun x : List UInt8 => x.length = 1 ∧ ∀ b ∈ x, b = 63 ∨ b = 49 ∨ b = 46) (l := [[63], [63], [63], [63], [49], [46]]) (d := []) (by simp) (pickI_lt A r (n := 6) (by omega))
      generalize ([[63], [63], [63], [63], [49], [46]].getD (pickI A r 6) [] : List UInt8) = b at hb ⊢
      have e : (t ++ b).length = t.length + 1 := by rw [List.length_append, hb.1]
      have e2 : ((t ++ b).length : Int) = (t.length : Int) + 1 := by omega
      refine ⟨by omega, by unfold inI64; omega, (t ++ b, r + 1), ⟨⟨by simp only; omega, fun c hc => ?_, by simp only; omega⟩, by simp only; omega⟩, Cov.go [] [] ?_⟩
      · rcases List.mem_append.1 hc with hc | hc
        · exact ht2 c hc
        · exact hb.2 c hc
      · simp [cvT, step, res, e1, e2, e3, e4, e5, e6, e7, e8, e9, strmC, arrS, e, e2, -List.length_append]
    · have hl : (R ++ [t]).length = R.length + 1 := by simp
      rw [getD_app1 R t rfl]
      refine ⟨by omega, by unfold inI64; omega, (R ++ [t], r), ⟨⟨by simp only; omega, fun c hc => ?_, by simp only; omega⟩, by simp only; omega⟩, Cov.go [(nid + 24, nid + 420)] [] ?_⟩
      · rcases List.mem_append.1 hc with hc | hc
        · exact hR2 c hc
        · rw [List.mem_singleton.1 hc]; exact ⟨by omega, ht2⟩
      · simp [cvT, step, res, e1, e2, e3, e4, e5, e6, e7, e8, e9, strmC, arrS, hl]
  have hRm : R.length = m := by omega
  refine EndOK.mk (⟨R, [49]⟩, q) ⟨⟨by simp only; omega, by simp only; omega, ⟨w, by omega, by omega, hR2⟩, rfl⟩, by simp only; omega⟩ ?_
  refine RetOK.go [(nid, nid + 24)] [] (.inl rfl) ?_
  simp [a21, cvT, step, res, e1, e2, e3, e4, e5, e6, e7, e8, e9, strmC, arrS]
end Go.Proofs.YtmgfcjblclanmaaDoor
namespace Go.Proofs.YtmgfcjblclanmaaDoor
open Go.RowKit
theorem first_c (nl : Bool) (l : List Int) (nid : Nat) (hl : l.length ≤ 1000000000) : ACall Tryd.prog 94 [litI nl l] [] nid (.int .i64 (firstBad (fun x : Int => x) l)) [] := by
  refine acall_run c94 (by simp [a94]) ?_
  unfold litI
  simp -dsimp only [aqT, aqU, aqN, ↓seqK, ↓blkK, ↓loopK, step, stepBin, Nat.reduceBEq, Nat.reduceBeqDiff, Nat.add_assoc nid, Nat.reduceAdd, reduceCtorEq, ↓reduceIte, Nat.reduceLeDiff, Nat.reduceBneDiff, Option.toList, ← Int.ofNat_tmod, ← Int.ofNat_tdiv, Nat.reduceLT, a94]
  refine LP.mkP (fun k : Nat => k ≤ l.length ∧ firstBad (fun x : Int => x) (l.take k) = 0) (fun k : Nat => ⟨[(7, .int .i64 k), (6, .int .i64 l.length), (5, litI nl l)], [], nid + 100, nid⟩) (fun k => l.length + 1 - k) 0 ⟨by omega, rfl⟩ (Cov.go [] [] ?_) (fun k hk => ?_)
  · simp [cvT, step, res, litI]
  unfold litI
  obtain ⟨hk, hb⟩ := hk
  simp -dsimp only [aqT, aqU, aqN, aqS, ↓seqK, ↓blkK, ↓loopK, step, stepBin, Nat.add_assoc nid, ↓reduceIte, Option.toList, ← Int.ofNat_tmod, ← Int.ofNat_tdiv, simprocAttr, BEq.rfl, LN_succ]
  refine S2.dec (fun h3 => ?_) (fun h3 => ?_) <;> simp -dsimp only [aqT, aqU, aqN, aqS, ↓seqK, ↓blkK, ↓loopK, step, stepBin, Nat.add_assoc nid, ↓reduceIte, Option.toList, ← Int.ofNat_tmod, ← Int.ofNat_tdiv, simprocAttr, BEq.rfl, LN_succ]
  · have hkl : k < l.length := by omega
    obtain ⟨bad, good⟩ := rowsFB (d := 0) (f := fun x : Int => x) hkl hb
    refine ⟨by omega, S2.intro (fun h4 => ?_) (fun h4 => ?_)⟩ <;> simp -dsimp only [aqT, aqU, aqN, aqS, ↓seqK, ↓blkK, ↓loopK, step, stepBin, Nat.add_assoc nid, ↓reduceIte, Option.toList, ← Int.ofNat_tmod, ← Int.ofNat_tdiv, simprocAttr, BEq.rfl, LN_succ]
    · rw [bad (by simpa using h4)]
      refine RetOK.pure (.inl rfl) rfl ?_
      simp [cvT, step, res]
    · refine ⟨by unfold inI64; omega, k + 1, ⟨⟨by omega, good (by simpa using h4)⟩, by omega⟩, Cov.go [] [] ?_⟩
      simp [cvT, step, res, litI]
  · have hkn : k = l.length := by omega
    subst hkn
    rw [List.take_length] at hb
    rw [hb]
    refine RetOK.pure (.inl rfl) rfl ?_
    simp [cvT, step, res]
theorem at_all (nl : Bool) (W : Waf) (x y : Int) (nid : Nat) (hW : WafOk W) (hx : inI64 x) (hy : inI64 y) : ACall Tryd.prog 35 [wafP nl W, .agg [.int .i64 x, .int .i64 y]] [] nid (.int .u8 (dieV W x y)) [] := by
  have hp := hW.pos
  have hl := hW.len
  obtain ⟨hw1, hw2⟩ := hW.wide
  have hw0 : wideOf W = (W.rows.getD 0 []).length := rfl
  refine acall_run c35 (by simp [a35]) ?_
  unfold wafP
  simp -dsimp only [a35, aqT, aqU, aqN, aqS, ↓seqK, ↓blkK, ↓loopK, step, stepBin, Nat.add_assoc nid, ↓reduceIte, Option.toList, ← Int.ofNat_tmod, ← Int.ofNat_tdiv, simprocAttr, BEq.rfl, LN_succ]
  refine ⟨by unfold inI64; omega, CallX.pure (out_c _ _ _ _) ?_⟩
  simp -dsimp only [aqT, aqU, aqN, aqS, ↓seqK, ↓blkK, ↓loopK, step, stepBin, Nat.add_assoc nid, ↓reduceIte, Option.toList, ← Int.ofNat_tmod, ← Int.ofNat_tdiv, simprocAttr, BEq.rfl, LN_succ]
  cases h1 : outB y 0 ((W.rows.length : Int) - 1) <;> simp -dsimp only [aqT, aqU, aqN, aqS, ↓seqK, ↓blkK, ↓loopK, step, stepBin, Nat.add_assoc nid, ↓reduceIte, Option.toList, ← Int.ofNat_tmod, ← Int.ofNat_tdiv, simprocAttr, BEq.rfl, LN_succ]
  · refine ⟨by omega, by unfold inI64; omega, CallX.pure (out_c _ _ _ _) ?_⟩
    simp -dsimp only [aqT, aqU, aqN, aqS, ↓seqK, ↓blkK, ↓loopK, step, stepBin, Nat.add_assoc nid, ↓reduceIte, Option.toList, ← Int.ofNat_tmod, ← Int.ofNat_tdiv, simprocAttr, BEq.rfl, LN_succ]
    rw [← hw0]
    cases h2 : outB x 0 ((wideOf W : Int) - 1) <;> simp -dsimp only [aqT, aqU, aqN, aqS, ↓seqK, ↓blkK, ↓loopK, step, stepBin, Nat.add_assoc nid, ↓reduceIte, Option.toList, ← Int.ofNat_tmod, ← Int.ofNat_tdiv, simprocAttr, BEq.rfl, LN_succ]
    · have hy1 : 0 ≤ y ∧ y < W.rows.length := by unfold outB at h1; simp at h1; omega
      have hx1 : 0 ≤ x ∧ x < wideOf W := by unfold outB at h2; simp at h2; omega
      have hr := (hW.at (y := y.toNat) (by omega)).1
      have e : dieV W x y = byteI ((W.rows.getD y.toNat []).getD x.toNat 0) := by unfold dieV; rw [h1, h2, if_neg (by simp), if_neg (by simp)]
      rw [e]
      refine ⟨by omega, by omega, ?_⟩
      refine RetOK.pure (.inl rfl) rfl ?_
      simp [cvT, step, res, byteI]
    · have e : dieV W x y = 46 := by unfold dieV; rw [h1, h2, if_neg (by simp), if_pos rfl]
      rw [e]
      refine RetOK.pure (.inl rfl) rfl ?_
      simp [cvT, step, res]
  · have e : dieV W x y = 46 := by unfold dieV; rw [h1, if_pos rfl]
    rw [e]
    refine RetOK.pure (.inl rfl) rfl ?_
    simp [cvT, step, res]
def arrPl (l : List Pt) : Option ABlk := some (.arr 60 l.length [.i .i64 fun i => (l.getD i p0).1, .i .i64 fun i => (l.getD i p0).2])
def litPl (nl : Bool) (l : List Pt) : PV := .lit nl l.length [.i .i64 fun i => (l.getD i p0).1, .i .i64 fun i => (l.getD i p0).2]
theorem getD_appP (l : List Pt) (x : Pt) {n : Nat} (hn : l.length = n) (f : Pt → Int) (h0 : f p0 = 0) {v : Int} (hv : v = f x) : (fun i => if i < n then f (l.getD i p0) else [v].getD (i - n) 0) = fun i => f ((l ++ [x]).getD i p0) := by
  subst hn
  subst hv
  funext i
  simp only [List.getD_eq_getElem?_getD, List.getElem?_append]
  split
  · rfl
  · cases h : i - l.length with
    | zero => rfl
    | succ k => simp [h0]
end Go.Proofs.YtmgfcjblclanmaaDoor
namespace Go.Proofs.YtmgfcjblclanmaaDoor
open Go.RowKit
theorem plTo_bd {W : Waf} (hW : WafOk W) {y : Nat} (hy : y ≤ W.rows.length) : (plTo W y).length ≤ 60000 := by
  have h := plTo_len (W := W) (fun r hr => by have := (hW.row r hr).2.1; omega) y hy
  have := hW.len
  omega
set_option maxHeartbeats 4000000 in
theorem places_all (nl : Bool) (W : Waf) (nid : Nat) (hW : WafOk W) : ACall Tryd.prog 42 [wafP nl W] [] nid (.sl nid 0 (plV W).length) [(nid, arrPl (plV W))] := by
  have hl := hW.len
  refine acall_run c42 (by simp [a42]) ?_
  unfold wafP
  simp -dsimp only [a42, aqT, aqU, aqN, aqS, ↓seqK, ↓blkK, ↓loopK, step, stepBin, Nat.add_assoc nid, ↓reduceIte, Option.toList, ← Int.ofNat_tmod, ← Int.ofNat_tdiv, simprocAttr, BEq.rfl, LN_succ]
  refine LP.mkP (fun y : Nat => y ≤ W.rows.length) (fun y : Nat => ⟨[(10, .int .i64 y), (9, .int .i64 W.rows.length), (8, .lit nl W.rows.length [.s fun i => W.rows.getD i []]), (3, .sl (nid + 8) 0 (plTo W y).length)], [(nid + 8, arrPl (plTo W y))], nid + 100, nid⟩) (fun y => W.rows.length + 1 - y) 0 (by omega) (Cov.go [] [(nid + 8, 2)] ?_) (fun y hy => ?_)
  · simp [cvT, step, res, arrPl, plTo]
  unfold arrPl
  simp -dsimp only [aqT, aqU, aqN, aqS, ↓seqK, ↓blkK, ↓loopK, step, stepBin, Nat.add_assoc nid, ↓reduceIte, Option.toList, ← Int.ofNat_tmod, ← Int.ofNat_tdiv, simprocAttr, BEq.rfl, LN_succ]
  refine S2.dec (fun h1 => ?_) (fun h1 => ?_) <;> simp -dsimp only [aqT, aqU, aqN, aqS, ↓seqK, ↓blkK, ↓loopK, step, stepBin, Nat.add_assoc nid, ↓reduceIte, Option.toList, ← Int.ofNat_tmod, ← Int.ofNat_tdiv, simprocAttr, BEq.rfl, LN_succ]
  · have hyl : y < W.rows.length := by omega
    have hrl := (hW.at hyl).1
    have hw2 := hW.wide.2
    have hts := plTo_succ W y
    have htb := plTo_bd hW (y := y) (by omega)
    generalize hr : W.rows.getD y [] = r at *
    generalize plTo W y = T at *
    refine ⟨by omega, LP.mkP (fun x : Nat => x ≤ r.length) (fun x : Nat => ⟨[(17, .int .i64 x), (16, .int .i64 r.length), (4, .int .i64 y), (10, .int .i64 y), (9, .int .i64 W.rows.length), (8, .lit nl W.rows.length [.s fun i => W.rows.getD i []]), (3, .sl (nid + 8) 0 (T ++ rowPl y x).length)], [(nid + 8, arrPl (T ++ rowPl y x))], nid + 300, nid⟩) (fun x => r.length + 1 - x) 0 (by omega) (Cov.go [] [] ?_) (fun x hx => ?_)⟩
    · simp [cvT, step, res, arrPl, rowPl]
    have hrs := rowPl_succ y x
    have hrx := rowPl_len y x
    have hTl : (T ++ rowPl y x).length = T.length + x := by rw [List.length_append, hrx]
    have hTs : T ++ rowPl y (x + 1) = (T ++ rowPl y x) ++ [((x : Int), (y : Int))] := by rw [hrs, List.append_assoc]
    generalize hLd : T ++ rowPl y x = L at *
    unfold arrPl
    simp -dsimp only [aqT, aqU, aqN, aqS, ↓seqK, ↓blkK, ↓loopK, step, stepBin, Nat.add_assoc nid, ↓reduceIte, Option.toList, ← Int.ofNat_tmod, ← Int.ofNat_tdiv, simprocAttr, BEq.rfl, LN_succ]
    refine S2.dec (fun h2 => ?_) (fun h2 => ?_) <;> simp -dsimp only [aqT, aqU, aqN, aqS, ↓seqK, ↓blkK, ↓loopK, step, stepBin, Nat.add_assoc nid, ↓reduceIte, Option.toList, ← Int.ofNat_tmod, ← Int.ofNat_tdiv, simprocAttr, BEq.rfl, LN_succ]
    · rw [getD_appP L ((x : Int), (y : Int)) rfl (fun q => q.1) rfl rfl, getD_appP L ((x : Int), (y : Int)) rfl (fun q => q.2) rfl rfl, ← hTs]
      have hl3 : (T ++ rowPl y (x + 1)).length = L.length + 1 := by rw [hTs]; simp
      refine ⟨⟨by omega, by omega⟩, by unfold inI64; omega, x + 1, ⟨by omega, by omega⟩, Cov.go [(nid + 8, nid + 332)] [] ?_⟩
      simp [cvT, step, res, hl3, -List.getD_eq_getElem?_getD, -List.length_append]
    · have hxr : x = r.length := by omega
      subst hxr
      have e : plTo W (y + 1) = L := by rw [hts, hLd]
      refine ⟨by unfold inI64; omega, y + 1, ⟨by omega, by omega⟩, Cov.go [] [] ?_⟩
      rw [e]
      simp [cvT, step, res, -List.getD_eq_getElem?_getD]
  · have hyn : y = W.rows.length := by omega
    subst hyn
    refine RetOK.go [(nid, nid + 8)] [] (.inl rfl) ?_
    simp [cvT, step, res, a42, arrPl, plV, -List.getD_eq_getElem?_getD]
def boxW (nl : Bool) (W : Waf) : Option ABlk := some (.box 28 [.lit nl W.rows.length [.s fun i => W.rows.getD i []], .str W.pass])
end Go.Proofs.YtmgfcjblclanmaaDoor
namespace Go.Proofs.YtmgfcjblclanmaaDoor
open Go.RowKit
theorem ptMem {l : List Pt} {k : Nat} (h : k < l.length) : l.getD k p0 ∈ l := by
  rw [List.getD_eq_getElem?_getD, List.getElem?_eq_getElem h]; exact List.getElem_mem _
def idxP (F : Pt → Bool) (l : List Pt) : Int := match l.findIdx? F with
  | some i => (i : Int)
  | none => -1
theorem idxP_hit {F : Pt → Bool} : ∀ {l : List Pt} {k : Nat}, k < l.length → (∀ j, j < k → F (l.getD j p0) = false) → F (l.getD k p0) = true → l.findIdx? F = some k
  | [], k, hk, _, _ => by simp at hk
  | a :: l, 0, _, _, h => by
    have h' : F a = true := by simpa using h
    simp [List.findIdx?_cons, h']
  | a :: l, k + 1, hk, hall, h => by
    have h0 : F a = false := by simpa using hall 0 (by omega)
    have := idxP_hit (F := F) (l := l) (k := k) (by simpa using hk) (fun j hj => by simpa using hall (j + 1) (by omega)) (by simpa using h)
    simp [List.findIdx?_cons, h0, this]
theorem idxP_none {F : Pt → Bool} : ∀ {l : List Pt}, (∀ j, j < l.length → F (l.getD j p0) = false) → l.findIdx? F = none
  | [], _ => rfl
  | a :: l, hall => by
    have h0 : F a = false := by simpa using hall 0 (by simp)
    have := idxP_none (F := F) (l := l) (fun j hj => by simpa using hall (j + 1) (by simpa using hj))
    simp [List.findIdx?_cons, h0, this]
def keepP (F : Pt → Bool) (l : List Pt) : List Pt := l.filter fun p => !F p
theorem keepP_len (F : Pt → Bool) (l : List Pt) : (keepP F l).length ≤ l.length := List.length_filter_le _ _
theorem keepP_succ {F : Pt → Bool} {l : List Pt} {k : Nat} (h : k < l.length) : keepP F (l.take (k + 1)) = keepP F (l.take k) ++ (if F (l.getD k p0) = true then [] else [l.getD k p0]) := by
  unfold keepP
  rw [List.take_add_one, List.getElem?_eq_getElem h, List.filter_append]
  congr 1
  have e : l.getD k p0 = l[k] := by rw [List.getD_eq_getElem?_getD, List.getElem?_eq_getElem h]; rfl
  rw [e]
  cases hf : F l[k] <;> simp [hf]
theorem keepP_all {F : Pt → Bool} {l : List Pt} {k : Nat} (hk : k ≤ l.length) (h : ∀ j, j < k → F (l.getD j p0) = false) : keepP F (l.take k) = l.take k := by
  unfold keepP
  rw [List.filter_eq_self]
  intro a ha
  obtain ⟨j, hj, rfl⟩ := List.getElem_of_mem ha
  have hj' : j < k := by rw [List.length_take] at hj; omega
  have := h j hj'
  rw [List.getD_eq_getElem?_getD, List.getElem?_eq_getElem (by omega)] at this
  simp only [List.getElem_take]
  simpa using this
def partP (F : Pt → Bool) (l : List Pt) (k : Nat) : List Pt := keepP F (l.take k) ++ l.drop (keepP F (l.take k)).length
theorem partP_len {F : Pt → Bool} {l : List Pt} {k : Nat} (hk : k ≤ l.length) : (partP F l k).length = l.length := by
  have := keepP_len F (l.take k)
  rw [List.length_take] at this
  unfold partP; rw [List.length_append, List.length_drop]; omega
theorem partP_at {F : Pt → Bool} {l : List Pt} {k : Nat} (hk : k < l.length) : (partP F l k).getD k p0 = l.getD k p0 := by
  have := keepP_len F (l.take k)
  rw [List.length_take] at this
  unfold partP
  rw [List.getD_eq_getElem?_getD, List.getElem?_append_right (by omega), List.getElem?_drop, List.getD_eq_getElem?_getD]
  congr 2
  omega
theorem partP_set {F : Pt → Bool} {l : List Pt} {k : Nat} (hk : k < l.length) (h : F (l.getD k p0) = false) : (partP F l k).set (keepP F (l.take k)).length (l.getD k p0) = partP F l (k + 1) ∧ (keepP F (l.take (k + 1))).length = (keepP F (l.take k)).length + 1 := by
  have := keepP_len F (l.take k)
  rw [List.length_take] at this
  have e := keepP_succ (F := F) hk
  rw [if_neg (by rw [h]; simp)] at e
  refine ⟨?_, by rw [e]; simp⟩
  unfold partP
  rw [e, List.set_append_right _ _ (Nat.le_refl _), Nat.sub_self, List.length_append, List.append_assoc]
  congr 1
  rw [List.drop_eq_getElem_cons (by omega : (keepP F (l.take k)).length < l.length)]
  rfl
theorem partP_skip {F : Pt → Bool} {l : List Pt} {k : Nat} (hk : k < l.length) (h : F (l.getD k p0) = true) : partP F l (k + 1) = partP F l k ∧ keepP F (l.take (k + 1)) = keepP F (l.take k) := by
  have e := keepP_succ (F := F) hk
  rw [if_pos h, List.append_nil] at e
  exact ⟨by unfold partP; rw [e], e⟩
def doneP (F : Pt → Bool) (l : List Pt) : List Pt := keepP F l ++ List.replicate (l.length - (keepP F l).length) p0
theorem doneP_len (F : Pt → Bool) (l : List Pt) : (doneP F l).length = l.length := by
  have := keepP_len F l
  unfold doneP; rw [List.length_append, List.length_replicate]; omega
theorem getD_setP (q : List Pt) (x : Pt) {i : Nat} (hi : i < q.length) (f : Pt → Int) {v : Int} (hv : v = f x) : (fun j => if j = i then v else f (q.getD j p0)) = fun j => f ((q.set i x).getD j p0) := by
  subst hv
  funext j
  simp only [List.getD_eq_getElem?_getD, List.getElem?_set]
  by_cases h : j = i
  · subst h; simp [hi]
  · rw [if_neg h, if_neg (fun e => h e.symm)]
theorem doneP_at {F : Pt → Bool} {l : List Pt} (g : Pt → Int) (h0 : g p0 = 0) : ∀ j, j < l.length → (if (keepP F l).length ≤ j ∧ j < (keepP F l).length + (l.length - (keepP F l).length) then (0 : Int) else g ((partP F l l.length).getD j p0)) = g ((doneP F l).getD j p0) := fun j hj => by
  have hk := keepP_len F l
  unfold partP doneP
  rw [List.take_length]
  simp only [List.getD_eq_getElem?_getD, List.getElem?_append]
  by_cases h : j < (keepP F l).length
  · rw [if_neg (by omega), if_pos h, if_pos h]
  · rw [if_pos ⟨by omega, by omega⟩, if_neg h, List.getElem?_replicate, if_pos (by omega)]
    simp [h0]
end Go.Proofs.YtmgfcjblclanmaaDoor
namespace Go.Proofs.YtmgfcjblclanmaaDoor
open Go.RowKit
theorem handed_shaped {H : Type} {enc : TypeId × Value → H} {a : Assume} {C : Checked} {os : Os} {f : FuncId} {fn : Func} {s : ChangeSpec} {conds : List PathCond} {apart fresh handsOn again : Bool} {X : World → Array Value → Prop}
    (hX : ∀ (w w' : World) (args : Array Value), w.heap = w'.heap → X w args → X w' args)
    (own : ownKnob C.prog.godebug = none) (started : os.Started) (noInit : C.prog.inits.idxOf? f = none) (hfn : C.prog.funcs[f]? = some fn)
    (witness : ∃ (w : World) (tape : Tape) (i : Input), w.os = os ∧ (w.forCall tape i).Shaped C.prog ∧ i.vars = [] ∧ Input.okWide C.prog (w.forCall tape i) .any w.heap.size f i ∧
      ((s.pre enc C.prog fn conds apart (w.forCall tape i).memory i.args ∧ X (w.forCall tape i).memory i.args) ∧ sizedMet enc C.prog fn (OpenSpec.ofChange s) apart (w.forCall tape i).memory i.args) ∧ a.holds C.prog (lone (Frame.enter C.prog f i.args .normal) [] (w.forCall tape i)))
    (contract : ∀ (W : World) (base : Nat) (args : Array Value) (ds gs : List (DataW H)) (before : List MemPlace),
      (∀ (j : Nat) t v, fn.params[j]? = some t → args[j]? = some v → Value.okWide C.prog W .any base t v) →
      DataW.Whole enc C.prog fn.params.toList s.vars apart W args.toList ds gs before →
      conds.all (PathCond.test C.prog ⟨fn.params.toList, ds, s.plain.varTypes C.prog, gs⟩) = true →
      (DataW.weightsEach C.prog (fn.params.toList ++ s.plain.varTypes C.prog) (ds ++ gs)).all (· ≤ reachBytes) = true → X W args → W.ShapedOpen C.prog →
      Calls C.prog f args W fun e W' => ∃ v, e = .returned v ∧ s.post enc C.prog fn apart fresh handsOn again W args v W') :
    ReturnsInHanded a C os f .any (fun w args => (s.pre enc C.prog fn conds apart w args ∧ X w args) ∧ sizedMet enc C.prog fn (OpenSpec.ofChange s) apart w args) (s.post enc C.prog fn apart fresh handsOn again) := by
  refine returnsInHanded_of_calls own started noInit witness ?_
  intro w tape i _ hsh _ hok hpre _
  obtain ⟨_, _, _, fn', hfn', _, _, _, _, hval⟩ := hok
  have e : fn' = fn := Option.some.inj (hfn'.symm.trans hfn)
  subst e
  obtain ⟨⟨⟨ds, gs, before, hw, hc⟩, hx⟩, hz⟩ := hpre
  have hw' := DataW.Whole.of_heap (w' := w.forCall tape i) (by rfl) hw
  refine (contract (w.forCall tape i) w.heap.size i.args ds gs before hval hw' hc (hz.weights hw) (hX _ _ _ (by rfl) hx) hsh).mono fun e W' ⟨v, he, hp⟩ => ?_
  subst he
  exact ChangeSpec.post_blind hp
theorem gok_cell {W : World} {g : Nat} {m : Int} (h : W.cell? ⟨g, 0, none⟩ = some (.int .i64 m)) : g < W.heap.size ∧ ∃ o, W.heap[g]? = some o ∧ cell0 o = some (.int .i64 m) := by
  unfold World.cell? at h
  simp only at h
  split at h
  · rename_i c t f hc
    refine ⟨?_, _, hc, ?_⟩
    · rcases Nat.lt_or_ge g W.heap.size with hl | hl
      · exact hl
      · rw [Array.getElem?_eq_none hl] at hc; cases hc
    · simpa [cell0] using h
  · cases h
set_option maxRecDepth 1000000 in
theorem gok0_of {W : World} (h : W.ShapedOpen Tryd.prog) : GOK0 (fun b => W.heap[b]?) W.heap.size := by
  obtain ⟨m, hm⟩ := cell_of_shapedOpen_int (g := 0) (t := 3) (zero := #[.int .i64 0]) (k := .i64) h (of_decide_eq_true (by kernel_rfl)) (by kernel_rfl) rfl (by kernel_rfl) (by kernel_rfl) Tryd.underlying3
  obtain ⟨h1, o, h2, h3⟩ := gok_cell hm
  exact ⟨o, m, h1, h2, h3⟩
theorem gok_of {W : World} (h : W.ShapedOpen Tryd.prog) : GOK (fun b => W.heap[b]?) W.heap.size := gok0_of h
end Go.Proofs.YtmgfcjblclanmaaDoor
