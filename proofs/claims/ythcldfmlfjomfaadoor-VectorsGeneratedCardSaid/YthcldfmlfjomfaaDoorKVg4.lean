/-
  The functions' forms for the abstract machine, each checked against the program's form.
-/
import Derived.Test.YthcldfmlfjomfaaDoorKVg1
import Derived.Test.YthcldfmlfjomfaaDoorProg
import Derived.Ground.NamesProg
import Derived.Shelf.Strings.SlTrimAscii
import Derived.Shelf.Strings.Repeat
import Derived.Shelf.Strings.Count
import Derived.Shelf.Strings.MapGrows
import Derived.Shelf.Strconv.Itoa3
import Derived.Shelf.Spec.TrailingZeros
import Derived.Test.YthcldfmlfjomfaaDoorKVg3
import Derived.WalkKit
import Derived.Lib.Agree
set_option linter.unusedVariables false
set_option linter.unusedSimpArgs false
set_option maxRecDepth 100000
namespace Go.Proofs.YthcldfmlfjomfaaDoor
def a2 : AFn := ⟨1, [], .ops [⟨(some 0), none, .call 1 []⟩]⟩
theorem c2 : compF Go.Proofs.Tryd.prog 2 = some a2 := by kernel_rfl
def a3 : AFn := ⟨111, [.t 2], .seq (.ops [⟨(some 2), none, .mv (.c (.bool false))⟩])
 (.seq (.ops [⟨(some 21), none, .mv (.t 0)⟩, ⟨(some 22), none, .build [(.lit true 0 []), (.int .i64 0)] [(0, 1, (.t 21))]⟩, ⟨(some 23), none, .box 25 (.t 22)⟩, ⟨(some 24), none, .mv (.t 0)⟩, ⟨(some 25), none, .build [(.lit true 0 []), (.int .i64 0)] [(0, 1, (.t 24))]⟩, ⟨(some 26), none, .box 25 (.t 25)⟩, ⟨(some 3), none, .mv (.t 23)⟩, ⟨(some 4), none, .mv (.t 26)⟩])
 (.seq (.ops [⟨(some 28), none, .mv (.t 3)⟩, ⟨(some 29), none, .call 12 [(.t 28), (.c (.int .i64 5))]⟩, ⟨(some 27), none, .mv (.t 29)⟩, ⟨(some 30), none, .ext (.t 27) 0⟩, ⟨(some 31), none, .ext (.t 27) 1⟩, ⟨(some 5), none, .mv (.t 30)⟩, ⟨(some 6), none, .mv (.t 31)⟩])
 (.seq (.ops [⟨(some 33), none, .mv (.t 4)⟩, ⟨(some 34), none, .call 12 [(.t 33), (.c (.int .i64 5))]⟩, ⟨(some 32), none, .mv (.t 34)⟩, ⟨(some 35), none, .ext (.t 32) 0⟩, ⟨(some 36), none, .ext (.t 32) 1⟩, ⟨(some 7), none, .mv (.t 35)⟩, ⟨(some 8), none, .mv (.t 36)⟩])
 (.seq (.ops [⟨(some 38), none, .mv (.t 5)⟩, ⟨(some 39), none, .mv (.t 6)⟩, ⟨(some 40), none, .call 13 [(.t 38), (.t 39)]⟩, ⟨(some 37), none, .mv (.t 40)⟩, ⟨(some 41), none, .ext (.t 37) 0⟩, ⟨(some 42), none, .ext (.t 37) 1⟩, ⟨(some 9), none, .mv (.t 41)⟩, ⟨(some 10), none, .mv (.t 42)⟩])
 (.seq (.ops [⟨(some 44), none, .mv (.t 5)⟩, ⟨(some 45), none, .mv (.t 6)⟩, ⟨(some 46), none, .call 14 [(.t 44), (.t 45)]⟩, ⟨(some 43), none, .mv (.t 46)⟩, ⟨(some 47), none, .ext (.t 43) 0⟩, ⟨(some 48), none, .ext (.t 43) 1⟩, ⟨(some 11), none, .mv (.t 47)⟩, ⟨(some 12), none, .mv (.t 48)⟩])
 (.seq (.ops [⟨(some 50), none, .mv (.t 5)⟩, ⟨(some 51), none, .mv (.t 6)⟩, ⟨(some 52), none, .call 15 [(.t 50), (.t 51)]⟩, ⟨(some 49), none, .mv (.t 52)⟩, ⟨(some 53), none, .ext (.t 49) 0⟩, ⟨(some 54), none, .ext (.t 49) 1⟩, ⟨(some 13), none, .mv (.t 53)⟩, ⟨(some 14), none, .mv (.t 54)⟩])
 (.seq (.ops [⟨(some 56), none, .mv (.t 5)⟩, ⟨(some 57), none, .call 16 [(.t 56)]⟩, ⟨(some 55), none, .mv (.t 57)⟩, ⟨(some 58), none, .ext (.t 55) 0⟩, ⟨(some 59), none, .ext (.t 55) 1⟩, ⟨(some 15), none, .mv (.t 58)⟩, ⟨(some 16), none, .mv (.t 59)⟩])
 (.seq (.seq (.ops [⟨(some 60), none, .mv (.t 10)⟩, ⟨(some 61), none, .bin 0 .neq (.t 60) (.c (.int .i64 0))⟩, ⟨(some 62), none, .mv (.t 61)⟩, ⟨(some 63), (some (62, false)), .mv (.t 12)⟩, ⟨(some 64), (some (62, false)), .bin 0 .neq (.t 63) (.c (.int .i64 0))⟩, ⟨(some 65), none, .pick (.t 62) (.c (.bool true)) (.t 64)⟩, ⟨(some 66), none, .mv (.t 65)⟩, ⟨(some 67), (some (66, false)), .mv (.t 14)⟩, ⟨(some 68), (some (66, false)), .bin 0 .neq (.t 67) (.c (.int .i64 0))⟩, ⟨(some 69), none, .pick (.t 66) (.c (.bool true)) (.t 68)⟩, ⟨(some 70), none, .mv (.t 69)⟩, ⟨(some 71), (some (70, false)), .mv (.t 16)⟩, ⟨(some 72), (some (70, false)), .bin 0 .neq (.t 71) (.c (.int .i64 0))⟩, ⟨(some 73), none, .pick (.t 70) (.c (.bool true)) (.t 72)⟩])
 (.cond (.t 73) (.seq (.ops [⟨(some 2), none, .mv (.c (.bool false))⟩])
 (.ret)) (.skip)))
 (.seq (.ops [⟨(some 74), none, .mv (.t 15)⟩, ⟨(some 75), none, .call 17 [(.t 74)]⟩, ⟨(some 17), none, .mv (.t 75)⟩])
 (.seq (.seq (.ops [⟨(some 76), none, .mv (.t 11)⟩, ⟨(some 77), none, .len false (.t 76)⟩, ⟨(some 78), none, .mv (.c (.int .i64 0))⟩])
 (.block 0 (.loop (.seq (.ops [⟨(some 79), none, .bin 0 .lss (.t 78) (.t 77)⟩])
 (.seq (.cond (.t 79) (.skip) (.exit 0))
 (.seq (.block 1 (.seq (.ops [⟨(some 80), none, .iadr 1 (.t 76) (.t 78)⟩, ⟨(some 81), none, .load none (.t 80)⟩, ⟨(some 19), none, .mv (.t 81)⟩])
 (.ops [⟨(some 82), none, .mv (.t 19)⟩, ⟨(some 83), none, .call 18 [(.t 82)]⟩])))
 (.ops [⟨(some 84), none, .bin 0 .add (.t 78) (.c (.int .i64 1))⟩, ⟨(some 78), none, .mv (.t 84)⟩])))))))
 (.seq (.ops [⟨(some 85), none, .mv (.t 13)⟩, ⟨(some 86), none, .call 18 [(.t 85)]⟩])
 (.seq (.ops [⟨(some 87), none, .mv (.t 9)⟩, ⟨(some 88), none, .call 19 [(.t 87)]⟩])
 (.seq (.ops [⟨(some 89), none, .mv (.t 15)⟩, ⟨(some 90), none, .call 19 [(.t 89)]⟩])
 (.seq (.ops [⟨(some 92), none, .mv (.t 5)⟩, ⟨(some 93), none, .call 16 [(.t 92)]⟩, ⟨(some 91), none, .mv (.t 93)⟩, ⟨(some 94), none, .ext (.t 91) 0⟩, ⟨(some 95), none, .ext (.t 91) 1⟩, ⟨(some 20), none, .mv (.t 94)⟩, ⟨(some 10), none, .mv (.t 95)⟩])
 (.seq (.ops [⟨(some 96), none, .mv (.t 10)⟩, ⟨(some 97), none, .bin 0 .eql (.t 96) (.c (.int .i64 0))⟩, ⟨(some 98), none, .mv (.t 97)⟩, ⟨(some 99), (some (98, true)), .mv (.t 6)⟩, ⟨(some 100), (some (98, true)), .mv (.t 8)⟩, ⟨(some 101), (some (98, true)), .call 20 [(.t 99), (.t 100)]⟩, ⟨(some 102), none, .pick (.t 98) (.t 101) (.c (.bool false))⟩, ⟨(some 103), none, .mv (.t 102)⟩, ⟨(some 104), (some (103, true)), .mv (.t 20)⟩, ⟨(some 105), (some (103, true)), .mv (.t 17)⟩, ⟨(some 106), (some (103, true)), .call 20 [(.t 104), (.t 105)]⟩, ⟨(some 107), none, .pick (.t 103) (.t 106) (.c (.bool false))⟩, ⟨(some 108), none, .mv (.t 107)⟩, ⟨(some 109), (some (108, true)), .call 21 []⟩, ⟨(some 110), none, .pick (.t 108) (.t 109) (.c (.bool false))⟩, ⟨(some 2), none, .mv (.t 110)⟩])
 (.ret))))))))))))))))⟩
theorem c3 : compF Go.Proofs.Tryd.prog 3 = some a3 := by kernel_rfl
def a4 : AFn := ⟨157, [.t 2], .seq (.ops [⟨(some 2), none, .mv (.c (.bool false))⟩])
 (.seq (.ops [⟨(some 21), none, .mv (.t 0)⟩, ⟨(some 22), none, .build [(.lit true 0 []), (.int .i64 0)] [(0, 1, (.t 21))]⟩, ⟨(some 23), none, .box 25 (.t 22)⟩, ⟨(some 3), none, .mv (.t 23)⟩])
 (.seq (.ops [⟨(some 25), none, .mv (.t 3)⟩, ⟨(some 26), none, .call 22 [(.t 25), (.c (.int .i64 6))]⟩, ⟨(some 24), none, .mv (.t 26)⟩, ⟨(some 27), none, .ext (.t 24) 0⟩, ⟨(some 28), none, .ext (.t 24) 1⟩, ⟨(some 4), none, .mv (.t 27)⟩, ⟨(some 5), none, .mv (.t 28)⟩])
 (.seq (.ops [⟨(some 29), none, .mv (.t 3)⟩, ⟨(some 30), none, .call 23 [(.t 29)]⟩, ⟨(some 6), none, .mv (.t 30)⟩])
 (.seq (.ops [⟨(some 31), none, .mv (.t 4)⟩, ⟨(some 32), none, .mv (.t 5)⟩, ⟨(some 33), none, .call 24 [(.t 31), (.t 32)]⟩, ⟨(some 34), none, .mv (.t 6)⟩, ⟨(some 35), none, .call 25 [(.t 34)]⟩, ⟨(some 7), none, .mv (.t 33)⟩, ⟨(some 8), none, .mv (.t 35)⟩])
 (.seq (.seq (.ops [⟨(some 36), none, .mv (.t 4)⟩, ⟨(some 37), none, .mv (.t 5)⟩, ⟨(some 38), none, .call 26 [(.t 36), (.t 37)]⟩, ⟨(some 39), none, .mv (.t 7)⟩, ⟨(some 40), none, .bin 0 .neq (.t 38) (.t 39)⟩])
 (.cond (.t 40) (.seq (.ops [⟨(some 2), none, .mv (.c (.bool false))⟩])
 (.ret)) (.skip)))
 (.seq (.ops [⟨(some 42), none, .mv (.t 4)⟩, ⟨(some 43), none, .mv (.t 5)⟩, ⟨(some 44), none, .call 13 [(.t 42), (.t 43)]⟩, ⟨(some 41), none, .mv (.t 44)⟩, ⟨(some 45), none, .ext (.t 41) 0⟩, ⟨(some 46), none, .ext (.t 41) 1⟩, ⟨(some 9), none, .mv (.t 45)⟩, ⟨(some 10), none, .mv (.t 46)⟩])
 (.seq (.seq (.ops [⟨(some 47), none, .mv (.t 10)⟩, ⟨(some 48), none, .mv (.t 7)⟩, ⟨(some 49), none, .bin 0 .neq (.t 47) (.t 48)⟩, ⟨(some 50), none, .mv (.t 49)⟩, ⟨(some 51), (some (50, false)), .mv (.t 7)⟩, ⟨(some 52), (some (50, false)), .bin 0 .eql (.t 51) (.c (.int .i64 0))⟩, ⟨(some 53), (some (50, false)), .mv (.t 52)⟩, ⟨(some 54), (some (53, true)), .mv (.t 9)⟩, ⟨(some 55), (some (53, true)), .mv (.t 4)⟩, ⟨(some 56), (some (53, true)), .mv (.t 5)⟩, ⟨(some 57), (some (53, true)), .call 27 [(.t 55), (.t 56)]⟩, ⟨(some 58), (some (53, true)), .call 20 [(.t 54), (.t 57)]⟩, ⟨(some 59), (some (53, true)), .un .not (.t 58)⟩, ⟨(some 60), (some (50, false)), .pick (.t 53) (.t 59) (.c (.bool false))⟩, ⟨(some 61), none, .pick (.t 50) (.c (.bool true)) (.t 60)⟩, ⟨(some 62), none, .mv (.t 61)⟩, ⟨(some 63), (some (62, false)), .mv (.t 7)⟩, ⟨(some 64), (some (62, false)), .bin 0 .neq (.t 63) (.c (.int .i64 0))⟩, ⟨(some 65), (some (62, false)), .mv (.t 64)⟩, ⟨(some 66), (some (65, true)), .mv (.t 9)⟩, ⟨(some 67), (some (65, true)), .len false (.t 66)⟩, ⟨(some 68), (some (65, true)), .bin 0 .gtr (.t 67) (.c (.int .i64 0))⟩, ⟨(some 69), (some (62, false)), .pick (.t 65) (.t 68) (.c (.bool false))⟩, ⟨(some 70), none, .pick (.t 62) (.c (.bool true)) (.t 69)⟩])
 (.cond (.t 70) (.seq (.ops [⟨(some 2), none, .mv (.c (.bool false))⟩])
 (.ret)) (.skip)))
 (.seq (.ops [⟨(some 72), none, .mv (.t 6)⟩, ⟨(some 73), none, .call 28 [(.t 72)]⟩, ⟨(some 71), none, .mv (.t 73)⟩, ⟨(some 74), none, .ext (.t 71) 0⟩, ⟨(some 75), none, .ext (.t 71) 1⟩, ⟨(some 11), none, .mv (.t 74)⟩, ⟨(some 10), none, .mv (.t 75)⟩])
 (.seq (.seq (.ops [⟨(some 76), none, .mv (.t 10)⟩, ⟨(some 77), none, .mv (.t 8)⟩, ⟨(some 78), none, .bin 0 .neq (.t 76) (.t 77)⟩, ⟨(some 79), none, .mv (.t 78)⟩, ⟨(some 80), (some (79, false)), .mv (.t 8)⟩, ⟨(some 81), (some (79, false)), .bin 0 .eql (.t 80) (.c (.int .i64 0))⟩, ⟨(some 82), (some (79, false)), .mv (.t 81)⟩, ⟨(some 83), (some (82, true)), .mv (.t 11)⟩, ⟨(some 84), (some (82, true)), .mv (.t 6)⟩, ⟨(some 85), (some (82, true)), .call 29 [(.t 84)]⟩, ⟨(some 86), (some (82, true)), .call 20 [(.t 83), (.t 85)]⟩, ⟨(some 87), (some (82, true)), .un .not (.t 86)⟩, ⟨(some 88), (some (79, false)), .pick (.t 82) (.t 87) (.c (.bool false))⟩, ⟨(some 89), none, .pick (.t 79) (.c (.bool true)) (.t 88)⟩, ⟨(some 90), none, .mv (.t 89)⟩, ⟨(some 91), (some (90, false)), .mv (.t 8)⟩, ⟨(some 92), (some (90, false)), .bin 0 .neq (.t 91) (.c (.int .i64 0))⟩, ⟨(some 93), (some (90, false)), .mv (.t 92)⟩, ⟨(some 94), (some (93, true)), .mv (.t 11)⟩, ⟨(some 95), (some (93, true)), .len false (.t 94)⟩, ⟨(some 96), (some (93, true)), .bin 0 .gtr (.t 95) (.c (.int .i64 0))⟩, ⟨(some 97), (some (90, false)), .pick (.t 93) (.t 96) (.c (.bool false))⟩, ⟨(some 98), none, .pick (.t 90) (.c (.bool true)) (.t 97)⟩])
 (.cond (.t 98) (.seq (.ops [⟨(some 2), none, .mv (.c (.bool false))⟩])
 (.ret)) (.skip)))
 (.seq (.ops [⟨(some 100), none, .mv (.t 5)⟩, ⟨(some 101), none, .call 30 [(.t 100)]⟩, ⟨(some 99), none, .mv (.t 101)⟩, ⟨(some 102), none, .ext (.t 99) 0⟩, ⟨(some 103), none, .ext (.t 99) 1⟩, ⟨(some 12), none, .mv (.t 102)⟩, ⟨(some 10), none, .mv (.t 103)⟩])
 (.seq (.seq (.ops [⟨(some 104), none, .mv (.t 5)⟩, ⟨(some 105), none, .call 31 [(.t 104)]⟩, ⟨(some 13), none, .mv (.t 105)⟩])
 (.seq (.ops [⟨(some 106), none, .mv (.t 10)⟩, ⟨(some 107), none, .mv (.t 13)⟩, ⟨(some 108), none, .bin 0 .neq (.t 106) (.t 107)⟩, ⟨(some 109), none, .mv (.t 108)⟩, ⟨(some 110), (some (109, false)), .mv (.t 13)⟩, ⟨(some 111), (some (109, false)), .bin 0 .eql (.t 110) (.c (.int .i64 0))⟩, ⟨(some 112), (some (109, false)), .mv (.t 111)⟩, ⟨(some 113), (some (112, true)), .mv (.t 12)⟩, ⟨(some 114), (some (112, true)), .mv (.t 5)⟩, ⟨(some 115), (some (112, true)), .call 32 [(.t 114)]⟩, ⟨(some 116), (some (112, true)), .bin 1 .neq (.t 113) (.t 115)⟩, ⟨(some 117), (some (109, false)), .pick (.t 112) (.t 116) (.c (.bool false))⟩, ⟨(some 118), none, .pick (.t 109) (.c (.bool true)) (.t 117)⟩, ⟨(some 119), none, .mv (.t 118)⟩, ⟨(some 120), (some (119, false)), .mv (.t 13)⟩, ⟨(some 121), (some (119, false)), .bin 0 .neq (.t 120) (.c (.int .i64 0))⟩, ⟨(some 122), (some (119, false)), .mv (.t 121)⟩, ⟨(some 123), (some (122, true)), .mv (.t 12)⟩, ⟨(some 124), (some (122, true)), .bin 1 .neq (.t 123) (.c (.str []))⟩, ⟨(some 125), (some (119, false)), .pick (.t 122) (.t 124) (.c (.bool false))⟩, ⟨(some 126), none, .pick (.t 119) (.c (.bool true)) (.t 125)⟩])
 (.cond (.t 126) (.seq (.ops [⟨(some 2), none, .mv (.c (.bool false))⟩])
 (.ret)) (.skip))))
 (.seq (.ops [⟨(some 127), none, .mv (.t 3)⟩, ⟨(some 128), none, .call 33 [(.t 127)]⟩, ⟨(some 14), none, .mv (.t 128)⟩])
 (.seq (.ops [⟨(some 130), none, .mv (.t 14)⟩, ⟨(some 131), none, .call 34 [(.t 130)]⟩, ⟨(some 129), none, .mv (.t 131)⟩, ⟨(some 132), none, .ext (.t 129) 0⟩, ⟨(some 133), none, .ext (.t 129) 1⟩, ⟨(some 134), none, .ext (.t 129) 2⟩, ⟨(some 15), none, .mv (.t 132)⟩, ⟨(some 16), none, .mv (.t 133)⟩, ⟨(some 17), none, .mv (.t 134)⟩])
 (.seq (.ops [⟨(some 136), none, .mv (.t 14)⟩, ⟨(some 137), none, .call 35 [(.t 136)]⟩, ⟨(some 135), none, .mv (.t 137)⟩, ⟨(some 138), none, .ext (.t 135) 0⟩, ⟨(some 139), none, .ext (.t 135) 1⟩, ⟨(some 140), none, .ext (.t 135) 2⟩, ⟨(some 18), none, .mv (.t 138)⟩, ⟨(some 19), none, .mv (.t 139)⟩, ⟨(some 20), none, .mv (.t 140)⟩])
 (.seq (.ops [⟨(some 141), none, .mv (.t 17)⟩, ⟨(some 142), none, .mv (.t 20)⟩, ⟨(some 143), none, .bin 0 .eql (.t 141) (.t 142)⟩, ⟨(some 144), none, .mv (.t 143)⟩, ⟨(some 145), (some (144, true)), .mv (.t 16)⟩, ⟨(some 146), (some (144, true)), .mv (.t 19)⟩, ⟨(some 147), (some (144, true)), .bin 0 .eql (.t 145) (.t 146)⟩, ⟨(some 148), none, .pick (.t 144) (.t 147) (.c (.bool false))⟩, ⟨(some 149), none, .mv (.t 148)⟩, ⟨(some 150), (some (149, true)), .mv (.t 15)⟩, ⟨(some 151), (some (149, true)), .mv (.t 18)⟩, ⟨(some 152), (some (149, true)), .call 20 [(.t 150), (.t 151)]⟩, ⟨(some 153), none, .pick (.t 149) (.t 152) (.c (.bool false))⟩, ⟨(some 154), none, .mv (.t 153)⟩, ⟨(some 155), (some (154, true)), .call 36 []⟩, ⟨(some 156), none, .pick (.t 154) (.t 155) (.c (.bool false))⟩, ⟨(some 2), none, .mv (.t 156)⟩])
 (.ret))))))))))))))))⟩
theorem c4 : compF Go.Proofs.Tryd.prog 4 = some a4 := by kernel_rfl
def a5 : AFn := ⟨71, [.t 2], .seq (.ops [⟨(some 2), none, .mv (.c (.bool false))⟩])
 (.seq (.ops [⟨(some 12), none, .mv (.t 0)⟩, ⟨(some 13), none, .build [(.lit true 0 []), (.int .i64 0)] [(0, 1, (.t 12))]⟩, ⟨(some 14), none, .box 25 (.t 13)⟩, ⟨(some 3), none, .mv (.t 14)⟩])
 (.seq (.ops [⟨(some 15), none, .mv (.t 3)⟩, ⟨(some 16), none, .call 37 [(.t 15), (.c (.int .i64 1)), (.c (.int .i64 12))]⟩, ⟨(some 4), none, .mv (.t 16)⟩])
 (.seq (.ops [⟨(some 18), none, .mv (.t 4)⟩, ⟨(some 19), none, .call 38 [(.t 18)]⟩, ⟨(some 17), none, .mv (.t 19)⟩, ⟨(some 20), none, .ext (.t 17) 0⟩, ⟨(some 21), none, .ext (.t 17) 1⟩, ⟨(some 5), none, .mv (.t 20)⟩, ⟨(some 6), none, .mv (.t 21)⟩])
 (.seq (.seq (.ops [⟨(some 22), none, .mv (.t 6)⟩, ⟨(some 23), none, .bin 0 .neq (.t 22) (.c (.int .i64 0))⟩])
 (.cond (.t 23) (.seq (.ops [⟨(some 2), none, .mv (.c (.bool false))⟩])
 (.ret)) (.skip)))
 (.seq (.ops [⟨(some 25), none, .mv (.t 4)⟩, ⟨(some 26), none, .mv (.t 5)⟩, ⟨(some 27), none, .call 13 [(.t 25), (.t 26)]⟩, ⟨(some 24), none, .mv (.t 27)⟩, ⟨(some 28), none, .ext (.t 24) 0⟩, ⟨(some 29), none, .ext (.t 24) 1⟩, ⟨(some 7), none, .mv (.t 28)⟩, ⟨(some 6), none, .mv (.t 29)⟩])
 (.seq (.seq (.ops [⟨(some 30), none, .mv (.t 6)⟩, ⟨(some 31), none, .bin 0 .neq (.t 30) (.c (.int .i64 0))⟩])
 (.cond (.t 31) (.seq (.ops [⟨(some 2), none, .mv (.c (.bool false))⟩])
 (.ret)) (.skip)))
 (.seq (.ops [⟨(some 33), none, .mv (.t 4)⟩, ⟨(some 34), none, .bslice 3 1 6 [(.int .i64 0)] [(0, 1, (.c (.int .i64 1))), (1, 1, (.c (.int .i64 2))), (2, 1, (.c (.int .i64 3))), (3, 1, (.c (.int .i64 4))), (4, 1, (.c (.int .i64 5))), (5, 1, (.c (.int .i64 6)))]⟩, ⟨(some 35), none, .call 39 [(.t 33), (.t 34)]⟩, ⟨(some 32), none, .mv (.t 35)⟩, ⟨(some 36), none, .ext (.t 32) 0⟩, ⟨(some 37), none, .ext (.t 32) 1⟩, ⟨(some 8), none, .mv (.t 36)⟩, ⟨(some 6), none, .mv (.t 37)⟩])
 (.seq (.seq (.ops [⟨(some 38), none, .mv (.t 6)⟩, ⟨(some 39), none, .bin 0 .neq (.t 38) (.c (.int .i64 0))⟩])
 (.cond (.t 39) (.seq (.ops [⟨(some 2), none, .mv (.c (.bool false))⟩])
 (.ret)) (.skip)))
 (.seq (.ops [⟨(some 41), none, .mv (.t 7)⟩, ⟨(some 42), none, .mv (.t 8)⟩, ⟨(some 43), none, .call 40 [(.t 41), (.t 42)]⟩, ⟨(some 40), none, .mv (.t 43)⟩, ⟨(some 44), none, .ext (.t 40) 0⟩, ⟨(some 45), none, .ext (.t 40) 1⟩, ⟨(some 9), none, .mv (.t 44)⟩, ⟨(some 6), none, .mv (.t 45)⟩])
 (.seq (.ops [⟨(some 47), none, .mv (.t 7)⟩, ⟨(some 48), none, .mv (.t 8)⟩, ⟨(some 49), none, .call 41 [(.t 47), (.t 48)]⟩, ⟨(some 46), none, .mv (.t 49)⟩, ⟨(some 50), none, .ext (.t 46) 0⟩, ⟨(some 51), none, .ext (.t 46) 1⟩, ⟨(some 10), none, .alloc 61 [(.int .i64 0), (.int .i64 0)]⟩, ⟨none, none, .store 2 (.t 10) (.t 50)⟩, ⟨(some 11), none, .mv (.t 51)⟩])
 (.seq (.ops [⟨(some 52), none, .mv (.t 6)⟩, ⟨(some 53), none, .bin 0 .eql (.t 52) (.c (.int .i64 0))⟩, ⟨(some 54), none, .mv (.t 53)⟩, ⟨(some 55), (some (54, true)), .mv (.t 11)⟩, ⟨(some 56), (some (54, true)), .bin 0 .eql (.t 55) (.c (.int .i64 0))⟩, ⟨(some 57), none, .pick (.t 54) (.t 56) (.c (.bool false))⟩, ⟨(some 58), none, .mv (.t 57)⟩, ⟨(some 59), (some (58, true)), .mv (.t 9)⟩, ⟨(some 60), (some (58, true)), .len false (.t 59)⟩, ⟨(some 61), (some (58, true)), .bin 0 .eql (.t 60) (.c (.int .i64 0))⟩, ⟨(some 62), none, .pick (.t 58) (.t 61) (.c (.bool false))⟩, ⟨(some 63), none, .mv (.t 62)⟩, ⟨(some 64), (some (63, true)), .load (some 2) (.t 10)⟩, ⟨(some 65), (some (63, true)), .build [(.int .i64 0), (.int .i64 0)] [(0, 1, (.c (.int .i64 1))), (1, 1, (.c (.int .i64 1)))]⟩, ⟨(some 66), (some (63, true)), .eqs false [0, 0] (.t 64) (.t 65)⟩, ⟨(some 67), none, .pick (.t 63) (.t 66) (.c (.bool false))⟩, ⟨(some 68), none, .mv (.t 67)⟩, ⟨(some 69), (some (68, true)), .call 42 []⟩, ⟨(some 70), none, .pick (.t 68) (.t 69) (.c (.bool false))⟩, ⟨(some 2), none, .mv (.t 70)⟩])
 (.ret))))))))))))⟩
theorem c5 : compF Go.Proofs.Tryd.prog 5 = some a5 := by kernel_rfl
def a6 : AFn := ⟨129, [.t 2], .seq (.ops [⟨(some 2), none, .mv (.c (.bool false))⟩])
 (.seq (.ops [⟨(some 16), none, .mv (.t 0)⟩, ⟨(some 17), none, .build [(.lit true 0 []), (.int .i64 0)] [(0, 1, (.t 16))]⟩, ⟨(some 18), none, .box 25 (.t 17)⟩, ⟨(some 3), none, .mv (.t 18)⟩])
 (.seq (.ops [⟨(some 20), none, .mv (.t 3)⟩, ⟨(some 21), none, .call 22 [(.t 20), (.c (.int .i64 5))]⟩, ⟨(some 19), none, .mv (.t 21)⟩, ⟨(some 22), none, .ext (.t 19) 0⟩, ⟨(some 23), none, .ext (.t 19) 1⟩, ⟨(some 4), none, .mv (.t 22)⟩, ⟨(some 5), none, .mv (.t 23)⟩])
 (.seq (.seq (.ops [⟨(some 24), none, .mv (.t 3)⟩, ⟨(some 25), none, .call 43 [(.t 24), (.c (.int .i64 10))]⟩])
 (.cond (.t 25) (.ops [⟨(some 26), none, .bslice 9 1 2 [(.str [])] [(0, 1, (.c (.str [48]))), (1, 1, (.c (.str [49])))]⟩, ⟨(some 27), none, .mv (.t 3)⟩, ⟨(some 28), none, .call 37 [(.t 27), (.c (.int .i64 5)), (.c (.int .i64 8))]⟩, ⟨(some 29), none, .call 44 [(.t 26), (.t 28)]⟩, ⟨(some 4), none, .mv (.c (.int .i64 1))⟩, ⟨(some 5), none, .mv (.t 29)⟩]) (.skip)))
 (.seq (.ops [⟨(some 30), none, .mv (.t 4)⟩, ⟨(some 31), none, .mv (.t 5)⟩, ⟨(some 32), none, .call 24 [(.t 30), (.t 31)]⟩, ⟨(some 6), none, .mv (.t 32)⟩])
 (.seq (.ops [⟨(some 34), none, .mv (.t 4)⟩, ⟨(some 35), none, .mv (.t 5)⟩, ⟨(some 36), none, .call 15 [(.t 34), (.t 35)]⟩, ⟨(some 33), none, .mv (.t 36)⟩, ⟨(some 37), none, .ext (.t 33) 0⟩, ⟨(some 38), none, .ext (.t 33) 1⟩, ⟨(some 7), none, .mv (.t 37)⟩, ⟨(some 8), none, .mv (.t 38)⟩])
 (.seq (.ops [⟨(some 39), none, .mv (.t 6)⟩, ⟨(some 40), none, .mv (.t 5)⟩, ⟨(some 41), none, .len false (.t 40)⟩, ⟨(some 42), none, .bin 0 .gtr (.t 41) (.c (.int .i64 14))⟩, ⟨(some 43), none, .call 46 [(.t 42), (.c (.int .i64 2))]⟩, ⟨(some 44), none, .bslice 29 1 2 [(.int .i64 0)] [(0, 1, (.t 39)), (1, 1, (.t 43))]⟩, ⟨(some 45), none, .call 45 [(.t 44)]⟩, ⟨(some 46), none, .mv (.t 6)⟩, ⟨(some 47), none, .mv (.t 5)⟩, ⟨(some 48), none, .len false (.t 47)⟩, ⟨(some 49), none, .bin 0 .gtr (.t 48) (.c (.int .i64 10))⟩, ⟨(some 50), none, .call 46 [(.t 49), (.c (.int .i64 2))]⟩, ⟨(some 51), none, .bslice 29 1 2 [(.int .i64 0)] [(0, 1, (.t 46)), (1, 1, (.t 50))]⟩, ⟨(some 52), none, .call 45 [(.t 51)]⟩, ⟨(some 9), none, .mv (.t 45)⟩, ⟨(some 10), none, .mv (.t 52)⟩])
 (.seq (.seq (.ops [⟨(some 53), none, .mv (.t 8)⟩, ⟨(some 54), none, .mv (.t 9)⟩, ⟨(some 55), none, .bin 0 .neq (.t 53) (.t 54)⟩, ⟨(some 56), none, .mv (.t 55)⟩, ⟨(some 57), (some (56, false)), .mv (.t 9)⟩, ⟨(some 58), (some (56, false)), .bin 0 .eql (.t 57) (.c (.int .i64 0))⟩, ⟨(some 59), (some (56, false)), .mv (.t 58)⟩, ⟨(some 60), (some (59, true)), .mv (.t 7)⟩, ⟨(some 61), (some (59, true)), .mv (.t 4)⟩, ⟨(some 62), (some (59, true)), .mv (.t 5)⟩, ⟨(some 63), (some (59, true)), .call 48 [(.t 61), (.t 62)]⟩, ⟨(some 64), (some (59, true)), .call 47 [(.t 60), (.t 63)]⟩, ⟨(some 65), (some (59, true)), .un .not (.t 64)⟩, ⟨(some 66), (some (56, false)), .pick (.t 59) (.t 65) (.c (.bool false))⟩, ⟨(some 67), none, .pick (.t 56) (.c (.bool true)) (.t 66)⟩, ⟨(some 68), none, .mv (.t 67)⟩, ⟨(some 69), (some (68, false)), .mv (.t 9)⟩, ⟨(some 70), (some (68, false)), .bin 0 .neq (.t 69) (.c (.int .i64 0))⟩, ⟨(some 71), (some (68, false)), .mv (.t 70)⟩, ⟨(some 72), (some (71, true)), .mv (.t 7)⟩, ⟨(some 73), (some (71, true)), .len false (.t 72)⟩, ⟨(some 74), (some (71, true)), .bin 0 .gtr (.t 73) (.c (.int .i64 0))⟩, ⟨(some 75), (some (68, false)), .pick (.t 71) (.t 74) (.c (.bool false))⟩, ⟨(some 76), none, .pick (.t 68) (.c (.bool true)) (.t 75)⟩])
 (.cond (.t 76) (.seq (.ops [⟨(some 2), none, .mv (.c (.bool false))⟩])
 (.ret)) (.skip)))
 (.seq (.seq (.ops [⟨(some 77), none, .mv (.t 10)⟩, ⟨(some 78), none, .bin 0 .eql (.t 77) (.c (.int .i64 0))⟩, ⟨(some 79), none, .mv (.t 78)⟩, ⟨(some 80), (some (79, true)), .mv (.t 5)⟩, ⟨(some 81), (some (79, true)), .len false (.t 80)⟩, ⟨(some 82), (some (79, true)), .bin 0 .gtr (.t 81) (.c (.int .i64 6))⟩, ⟨(some 83), none, .pick (.t 79) (.t 82) (.c (.bool false))⟩])
 (.cond (.t 83) (.seq (.ops [⟨(some 84), none, .call 36 []⟩, ⟨(some 2), none, .mv (.t 84)⟩])
 (.ret)) (.skip)))
 (.seq (.ops [⟨(some 86), none, .mv (.t 4)⟩, ⟨(some 87), none, .mv (.t 5)⟩, ⟨(some 88), none, .call 49 [(.t 86), (.t 87)]⟩, ⟨(some 85), none, .mv (.t 88)⟩, ⟨(some 89), none, .ext (.t 85) 0⟩, ⟨(some 90), none, .ext (.t 85) 1⟩, ⟨(some 91), none, .ext (.t 85) 2⟩, ⟨(some 11), none, .mv (.t 89)⟩, ⟨(some 12), none, .mv (.t 90)⟩, ⟨(some 13), none, .mv (.t 91)⟩])
 (.seq (.seq (.ops [⟨(some 92), none, .mv (.t 10)⟩, ⟨(some 93), none, .bin 0 .neq (.t 92) (.c (.int .i64 0))⟩])
 (.cond (.t 93) (.seq (.ops [⟨(some 94), none, .mv (.t 13)⟩, ⟨(some 95), none, .mv (.t 10)⟩, ⟨(some 96), none, .bin 0 .eql (.t 94) (.t 95)⟩, ⟨(some 97), none, .mv (.t 96)⟩, ⟨(some 98), (some (97, true)), .mv (.t 11)⟩, ⟨(some 99), (some (97, true)), .len false (.t 98)⟩, ⟨(some 100), (some (97, true)), .bin 0 .eql (.t 99) (.c (.int .i64 0))⟩, ⟨(some 101), none, .pick (.t 97) (.t 100) (.c (.bool false))⟩, ⟨(some 102), none, .mv (.t 101)⟩, ⟨(some 103), (some (102, true)), .mv (.t 12)⟩, ⟨(some 104), (some (102, true)), .bin 0 .eql (.t 103) (.c (.int .i64 0))⟩, ⟨(some 105), none, .pick (.t 102) (.t 104) (.c (.bool false))⟩, ⟨(some 106), none, .mv (.t 105)⟩, ⟨(some 107), (some (106, true)), .call 36 []⟩, ⟨(some 108), none, .pick (.t 106) (.t 107) (.c (.bool false))⟩, ⟨(some 2), none, .mv (.t 108)⟩])
 (.ret)) (.skip)))
 (.seq (.ops [⟨(some 110), none, .mv (.t 5)⟩, ⟨(some 111), none, .call 50 [(.t 110)]⟩, ⟨(some 109), none, .mv (.t 111)⟩, ⟨(some 112), none, .ext (.t 109) 0⟩, ⟨(some 113), none, .ext (.t 109) 1⟩, ⟨(some 14), none, .mv (.t 112)⟩, ⟨(some 15), none, .mv (.t 113)⟩])
 (.seq (.ops [⟨(some 114), none, .mv (.t 13)⟩, ⟨(some 115), none, .bin 0 .eql (.t 114) (.c (.int .i64 0))⟩, ⟨(some 116), none, .mv (.t 115)⟩, ⟨(some 117), (some (116, true)), .mv (.t 11)⟩, ⟨(some 118), (some (116, true)), .mv (.t 14)⟩, ⟨(some 119), (some (116, true)), .call 47 [(.t 117), (.t 118)]⟩, ⟨(some 120), none, .pick (.t 116) (.t 119) (.c (.bool false))⟩, ⟨(some 121), none, .mv (.t 120)⟩, ⟨(some 122), (some (121, true)), .mv (.t 12)⟩, ⟨(some 123), (some (121, true)), .mv (.t 15)⟩, ⟨(some 124), (some (121, true)), .bin 0 .eql (.t 122) (.t 123)⟩, ⟨(some 125), none, .pick (.t 121) (.t 124) (.c (.bool false))⟩, ⟨(some 126), none, .mv (.t 125)⟩, ⟨(some 127), (some (126, true)), .call 36 []⟩, ⟨(some 128), none, .pick (.t 126) (.t 127) (.c (.bool false))⟩, ⟨(some 2), none, .mv (.t 128)⟩])
 (.ret)))))))))))))⟩
def a7 : AFn := ⟨53, [.t 2], .seq (.ops [⟨(some 2), none, .mv (.c (.bool false))⟩])
 (.seq (.ops [⟨(some 10), none, .mv (.t 0)⟩, ⟨(some 11), none, .build [(.lit true 0 []), (.int .i64 0)] [(0, 1, (.t 10))]⟩, ⟨(some 12), none, .box 25 (.t 11)⟩, ⟨(some 3), none, .mv (.t 12)⟩])
 (.seq (.ops [⟨(some 14), none, .mv (.t 3)⟩, ⟨(some 15), none, .call 12 [(.t 14), (.c (.int .i64 6))]⟩, ⟨(some 13), none, .mv (.t 15)⟩, ⟨(some 16), none, .ext (.t 13) 0⟩, ⟨(some 17), none, .ext (.t 13) 1⟩, ⟨(some 4), none, .alloc 3 [(.int .i64 0)]⟩, ⟨(some 5), none, .alloc 26 [(.lit true 0 [])]⟩, ⟨none, none, .store 1 (.t 4) (.t 16)⟩, ⟨none, none, .store 1 (.t 5) (.t 17)⟩])
 (.seq (.ops [⟨(some 19), none, .load none (.t 4)⟩, ⟨(some 20), none, .load none (.t 5)⟩, ⟨(some 21), none, .call 15 [(.t 19), (.t 20)]⟩, ⟨(some 18), none, .mv (.t 21)⟩, ⟨(some 22), none, .ext (.t 18) 0⟩, ⟨(some 23), none, .ext (.t 18) 1⟩, ⟨(some 6), none, .mv (.t 22)⟩, ⟨(some 7), none, .mv (.t 23)⟩])
 (.seq (.seq (.ops [⟨(some 24), none, .mv (.t 7)⟩, ⟨(some 25), none, .bin 0 .neq (.t 24) (.c (.int .i64 0))⟩, ⟨(some 26), none, .mv (.t 25)⟩, ⟨(some 27), (some (26, false)), .mv (.t 6)⟩, ⟨(some 28), (some (26, false)), .len false (.t 27)⟩, ⟨(some 29), (some (26, false)), .load none (.t 5)⟩, ⟨(some 30), (some (26, false)), .len false (.t 29)⟩, ⟨(some 31), (some (26, false)), .bin 0 .gtr (.t 28) (.t 30)⟩, ⟨(some 32), none, .pick (.t 26) (.c (.bool true)) (.t 31)⟩])
 (.cond (.t 32) (.seq (.ops [⟨(some 2), none, .mv (.c (.bool false))⟩])
 (.ret)) (.skip)))
 (.seq (.ops [⟨(some 33), none, .mkfn 51 [(.t 5), (.t 4)]⟩, ⟨(some 8), none, .mv (.t 33)⟩])
 (.seq (.seq (.ops [⟨(some 34), none, .mv (.t 8)⟩, ⟨(some 35), none, .mv (.t 6)⟩, ⟨(some 36), none, .callv (.t 34) [(.t 35)]⟩, ⟨(some 37), none, .un .not (.t 36)⟩])
 (.cond (.t 37) (.seq (.ops [⟨(some 2), none, .mv (.c (.bool false))⟩])
 (.ret)) (.skip)))
 (.seq (.seq (.ops [⟨(some 38), none, .mv (.t 6)⟩, ⟨(some 39), none, .len false (.t 38)⟩, ⟨(some 40), none, .mv (.c (.int .i64 0))⟩])
 (.block 0 (.loop (.seq (.ops [⟨(some 41), none, .bin 0 .lss (.t 40) (.t 39)⟩])
 (.seq (.cond (.t 41) (.skip) (.exit 0))
 (.seq (.block 1 (.seq (.ops [⟨(some 42), none, .mv (.t 40)⟩, ⟨(some 9), none, .mv (.t 42)⟩])
 (.seq (.ops [⟨(some 43), none, .mv (.t 8)⟩, ⟨(some 44), none, .mv (.t 6)⟩, ⟨(some 45), none, .call 56 [(.t 44)]⟩, ⟨(some 46), none, .mv (.t 9)⟩, ⟨(some 47), none, .mv (.t 9)⟩, ⟨(some 48), none, .bin 0 .add (.t 47) (.c (.int .i64 1))⟩, ⟨(some 49), none, .call 55 [(.t 45), (.t 46), (.t 48)]⟩, ⟨(some 50), none, .callv (.t 43) [(.t 49)]⟩])
 (.cond (.t 50) (.seq (.ops [⟨(some 2), none, .mv (.c (.bool false))⟩])
 (.ret)) (.skip)))))
 (.ops [⟨(some 51), none, .bin 0 .add (.t 40) (.c (.int .i64 1))⟩, ⟨(some 40), none, .mv (.t 51)⟩])))))))
 (.seq (.ops [⟨(some 52), none, .call 21 []⟩, ⟨(some 2), none, .mv (.t 52)⟩])
 (.ret)))))))))⟩
def a8 : AFn := ⟨110, [.t 2], .seq (.ops [⟨(some 2), none, .mv (.c (.bool false))⟩])
 (.seq (.ops [⟨(some 18), none, .mv (.t 0)⟩, ⟨(some 19), none, .build [(.lit true 0 []), (.int .i64 0)] [(0, 1, (.t 18))]⟩, ⟨(some 20), none, .box 25 (.t 19)⟩, ⟨(some 3), none, .mv (.t 20)⟩])
 (.seq (.ops [⟨(some 22), none, .mv (.t 3)⟩, ⟨(some 23), none, .call 12 [(.t 22), (.c (.int .i64 6))]⟩, ⟨(some 21), none, .mv (.t 23)⟩, ⟨(some 24), none, .ext (.t 21) 0⟩, ⟨(some 25), none, .ext (.t 21) 1⟩, ⟨(some 4), none, .mv (.t 24)⟩, ⟨(some 5), none, .mv (.t 25)⟩])
 (.seq (.ops [⟨(some 27), none, .mv (.t 4)⟩, ⟨(some 28), none, .mv (.t 5)⟩, ⟨(some 29), none, .call 15 [(.t 27), (.t 28)]⟩, ⟨(some 26), none, .mv (.t 29)⟩, ⟨(some 30), none, .ext (.t 26) 0⟩, ⟨(some 31), none, .ext (.t 26) 1⟩, ⟨(some 6), none, .mv (.t 30)⟩, ⟨(some 7), none, .mv (.t 31)⟩])
 (.seq (.seq (.ops [⟨(some 32), none, .mv (.t 7)⟩, ⟨(some 33), none, .bin 0 .neq (.t 32) (.c (.int .i64 0))⟩])
 (.cond (.t 33) (.seq (.ops [⟨(some 2), none, .mv (.c (.bool false))⟩])
 (.ret)) (.skip)))
 (.seq (.ops [⟨(some 8), none, .mv (.c (.lit true 0 []))⟩])
 (.seq (.seq (.ops [⟨(some 34), none, .mv (.t 6)⟩, ⟨(some 35), none, .len false (.t 34)⟩, ⟨(some 36), none, .mv (.c (.int .i64 0))⟩])
 (.block 0 (.loop (.seq (.ops [⟨(some 37), none, .bin 0 .lss (.t 36) (.t 35)⟩])
 (.seq (.cond (.t 37) (.skip) (.exit 0))
 (.seq (.block 1 (.seq (.ops [⟨(some 38), none, .iadr 1 (.t 34) (.t 36)⟩, ⟨(some 39), none, .load none (.t 38)⟩, ⟨(some 10), none, .mv (.t 39)⟩])
 (.seq (.seq (.ops [⟨(some 40), none, .mv (.t 10)⟩, ⟨(some 41), none, .bin 0 .lss (.t 40) (.c (.int .i64 0))⟩, ⟨(some 42), none, .mv (.t 41)⟩, ⟨(some 43), (some (42, false)), .mv (.t 10)⟩, ⟨(some 44), (some (42, false)), .mv (.t 5)⟩, ⟨(some 45), (some (42, false)), .len false (.t 44)⟩, ⟨(some 46), (some (42, false)), .bin 0 .geq (.t 43) (.t 45)⟩, ⟨(some 47), none, .pick (.t 42) (.c (.bool true)) (.t 46)⟩])
 (.cond (.t 47) (.seq (.ops [⟨(some 2), none, .mv (.c (.bool false))⟩])
 (.ret)) (.skip)))
 (.ops [⟨(some 48), none, .mv (.t 8)⟩, ⟨(some 49), none, .mv (.t 5)⟩, ⟨(some 50), none, .mv (.t 10)⟩, ⟨(some 51), none, .iadr 1 (.t 49) (.t 50)⟩, ⟨(some 52), none, .load none (.t 51)⟩, ⟨(some 53), none, .bslice 9 1 1 [(.str [])] [(0, 1, (.t 52))]⟩, ⟨(some 54), none, .app 9 1 16 (.t 48) (.t 53)⟩, ⟨(some 8), none, .mv (.t 54)⟩]))))
 (.ops [⟨(some 55), none, .bin 0 .add (.t 36) (.c (.int .i64 1))⟩, ⟨(some 36), none, .mv (.t 55)⟩])))))))
 (.seq (.ops [⟨(some 57), none, .mv (.t 4)⟩, ⟨(some 58), none, .mv (.t 5)⟩, ⟨(some 59), none, .call 13 [(.t 57), (.t 58)]⟩, ⟨(some 56), none, .mv (.t 59)⟩, ⟨(some 60), none, .ext (.t 56) 0⟩, ⟨(some 61), none, .ext (.t 56) 1⟩, ⟨(some 11), none, .mv (.t 60)⟩, ⟨(some 7), none, .mv (.t 61)⟩])
 (.seq (.ops [⟨(some 63), none, .mv (.t 4)⟩, ⟨(some 64), none, .mv (.t 8)⟩, ⟨(some 65), none, .call 13 [(.t 63), (.t 64)]⟩, ⟨(some 62), none, .mv (.t 65)⟩, ⟨(some 66), none, .ext (.t 62) 0⟩, ⟨(some 67), none, .ext (.t 62) 1⟩, ⟨(some 12), none, .mv (.t 66)⟩, ⟨(some 13), none, .mv (.t 67)⟩])
 (.seq (.ops [⟨(some 69), none, .mv (.t 4)⟩, ⟨(some 70), none, .bslice 3 1 2 [(.int .i64 0)] [(0, 1, (.c (.int .i64 3))), (1, 1, (.c (.int .i64 4)))]⟩, ⟨(some 71), none, .call 39 [(.t 69), (.t 70)]⟩, ⟨(some 68), none, .mv (.t 71)⟩, ⟨(some 72), none, .ext (.t 68) 0⟩, ⟨(some 73), none, .ext (.t 68) 1⟩, ⟨(some 14), none, .mv (.t 72)⟩, ⟨(some 15), none, .mv (.t 73)⟩])
 (.seq (.seq (.ops [⟨(some 74), none, .mv (.t 7)⟩, ⟨(some 75), none, .bin 0 .neq (.t 74) (.c (.int .i64 0))⟩, ⟨(some 76), none, .mv (.t 75)⟩, ⟨(some 77), (some (76, false)), .mv (.t 13)⟩, ⟨(some 78), (some (76, false)), .bin 0 .neq (.t 77) (.c (.int .i64 0))⟩, ⟨(some 79), none, .pick (.t 76) (.c (.bool true)) (.t 78)⟩, ⟨(some 80), none, .mv (.t 79)⟩, ⟨(some 81), (some (80, false)), .mv (.t 15)⟩, ⟨(some 82), (some (80, false)), .bin 0 .neq (.t 81) (.c (.int .i64 0))⟩, ⟨(some 83), none, .pick (.t 80) (.c (.bool true)) (.t 82)⟩])
 (.cond (.t 83) (.seq (.ops [⟨(some 2), none, .mv (.c (.bool false))⟩])
 (.ret)) (.skip)))
 (.seq (.ops [⟨(some 85), none, .mv (.t 11)⟩, ⟨(some 86), none, .mv (.t 14)⟩, ⟨(some 87), none, .call 40 [(.t 85), (.t 86)]⟩, ⟨(some 84), none, .mv (.t 87)⟩, ⟨(some 88), none, .ext (.t 84) 0⟩, ⟨(some 89), none, .ext (.t 84) 1⟩, ⟨(some 16), none, .mv (.t 88)⟩, ⟨(some 7), none, .mv (.t 89)⟩])
 (.seq (.ops [⟨(some 91), none, .mv (.t 12)⟩, ⟨(some 92), none, .mv (.t 14)⟩, ⟨(some 93), none, .call 40 [(.t 91), (.t 92)]⟩, ⟨(some 90), none, .mv (.t 93)⟩, ⟨(some 94), none, .ext (.t 90) 0⟩, ⟨(some 95), none, .ext (.t 90) 1⟩, ⟨(some 17), none, .mv (.t 94)⟩, ⟨(some 13), none, .mv (.t 95)⟩])
 (.seq (.ops [⟨(some 96), none, .mv (.t 7)⟩, ⟨(some 97), none, .bin 0 .eql (.t 96) (.c (.int .i64 0))⟩, ⟨(some 98), none, .mv (.t 97)⟩, ⟨(some 99), (some (98, true)), .mv (.t 13)⟩, ⟨(some 100), (some (98, true)), .bin 0 .eql (.t 99) (.c (.int .i64 0))⟩, ⟨(some 101), none, .pick (.t 98) (.t 100) (.c (.bool false))⟩, ⟨(some 102), none, .mv (.t 101)⟩, ⟨(some 103), (some (102, true)), .mv (.t 16)⟩, ⟨(some 104), (some (102, true)), .mv (.t 17)⟩, ⟨(some 105), (some (102, true)), .call 47 [(.t 103), (.t 104)]⟩, ⟨(some 106), none, .pick (.t 102) (.t 105) (.c (.bool false))⟩, ⟨(some 107), none, .mv (.t 106)⟩, ⟨(some 108), (some (107, true)), .call 42 []⟩, ⟨(some 109), none, .pick (.t 107) (.t 108) (.c (.bool false))⟩, ⟨(some 2), none, .mv (.t 109)⟩])
 (.ret))))))))))))))⟩
def a9 : AFn := ⟨70, [.t 2], .seq (.ops [⟨(some 2), none, .mv (.c (.bool false))⟩])
 (.seq (.ops [⟨(some 12), none, .mv (.t 0)⟩, ⟨(some 13), none, .build [(.lit true 0 []), (.int .i64 0)] [(0, 1, (.t 12))]⟩, ⟨(some 14), none, .box 25 (.t 13)⟩, ⟨(some 3), none, .mv (.t 14)⟩])
 (.seq (.ops [⟨(some 16), none, .mv (.t 3)⟩, ⟨(some 17), none, .call 12 [(.t 16), (.c (.int .i64 6))]⟩, ⟨(some 15), none, .mv (.t 17)⟩, ⟨(some 18), none, .ext (.t 15) 0⟩, ⟨(some 19), none, .ext (.t 15) 1⟩, ⟨(some 4), none, .mv (.t 18)⟩, ⟨(some 5), none, .mv (.t 19)⟩])
 (.seq (.ops [⟨(some 21), none, .mv (.t 4)⟩, ⟨(some 22), none, .mv (.t 5)⟩, ⟨(some 23), none, .call 13 [(.t 21), (.t 22)]⟩, ⟨(some 20), none, .mv (.t 23)⟩, ⟨(some 24), none, .ext (.t 20) 0⟩, ⟨(some 25), none, .ext (.t 20) 1⟩, ⟨(some 6), none, .mv (.t 24)⟩, ⟨(some 7), none, .mv (.t 25)⟩])
 (.seq (.seq (.ops [⟨(some 26), none, .mv (.t 7)⟩, ⟨(some 27), none, .bin 0 .neq (.t 26) (.c (.int .i64 0))⟩, ⟨(some 28), none, .mv (.t 27)⟩, ⟨(some 29), (some (28, false)), .mv (.t 6)⟩, ⟨(some 30), (some (28, false)), .len false (.t 29)⟩, ⟨(some 31), (some (28, false)), .mv (.t 4)⟩, ⟨(some 32), (some (28, false)), .bin 0 .neq (.t 30) (.t 31)⟩, ⟨(some 33), none, .pick (.t 28) (.c (.bool true)) (.t 32)⟩])
 (.cond (.t 33) (.seq (.ops [⟨(some 2), none, .mv (.c (.bool false))⟩])
 (.ret)) (.skip)))
 (.seq (.ops [⟨(some 35), none, .mv (.t 6)⟩, ⟨(some 36), none, .call 28 [(.t 35)]⟩, ⟨(some 34), none, .mv (.t 36)⟩, ⟨(some 37), none, .ext (.t 34) 0⟩, ⟨(some 38), none, .ext (.t 34) 1⟩, ⟨(some 8), none, .mv (.t 37)⟩, ⟨(some 7), none, .mv (.t 38)⟩])
 (.seq (.seq (.ops [⟨(some 39), none, .mv (.t 7)⟩, ⟨(some 40), none, .bin 0 .neq (.t 39) (.c (.int .i64 0))⟩, ⟨(some 41), none, .mv (.t 40)⟩, ⟨(some 42), (some (41, false)), .mv (.t 8)⟩, ⟨(some 43), (some (41, false)), .mv (.t 5)⟩, ⟨(some 44), (some (41, false)), .call 20 [(.t 42), (.t 43)]⟩, ⟨(some 45), (some (41, false)), .un .not (.t 44)⟩, ⟨(some 46), none, .pick (.t 41) (.c (.bool true)) (.t 45)⟩])
 (.cond (.t 46) (.seq (.ops [⟨(some 2), none, .mv (.c (.bool false))⟩])
 (.ret)) (.skip)))
 (.seq (.ops [⟨(some 48), none, .mv (.t 5)⟩, ⟨(some 49), none, .call 30 [(.t 48)]⟩, ⟨(some 47), none, .mv (.t 49)⟩, ⟨(some 50), none, .ext (.t 47) 0⟩, ⟨(some 51), none, .ext (.t 47) 1⟩, ⟨(some 9), none, .mv (.t 50)⟩, ⟨(some 7), none, .mv (.t 51)⟩])
 (.seq (.seq (.ops [⟨(some 52), none, .mv (.t 7)⟩, ⟨(some 53), none, .bin 0 .neq (.t 52) (.c (.int .i64 0))⟩])
 (.cond (.t 53) (.seq (.ops [⟨(some 2), none, .mv (.c (.bool false))⟩])
 (.ret)) (.skip)))
 (.seq (.ops [⟨(some 55), none, .mv (.t 9)⟩, ⟨(some 56), none, .call 34 [(.t 55)]⟩, ⟨(some 54), none, .mv (.t 56)⟩, ⟨(some 57), none, .ext (.t 54) 0⟩, ⟨(some 58), none, .ext (.t 54) 1⟩, ⟨(some 59), none, .ext (.t 54) 2⟩, ⟨(some 10), none, .mv (.t 57)⟩, ⟨(some 11), none, .mv (.t 58)⟩, ⟨(some 7), none, .mv (.t 59)⟩])
 (.seq (.ops [⟨(some 60), none, .mv (.t 7)⟩, ⟨(some 61), none, .bin 0 .eql (.t 60) (.c (.int .i64 0))⟩, ⟨(some 62), none, .mv (.t 61)⟩, ⟨(some 63), (some (62, true)), .mv (.t 10)⟩, ⟨(some 64), (some (62, true)), .mv (.t 5)⟩, ⟨(some 65), (some (62, true)), .call 20 [(.t 63), (.t 64)]⟩, ⟨(some 66), none, .pick (.t 62) (.t 65) (.c (.bool false))⟩, ⟨(some 67), none, .mv (.t 66)⟩, ⟨(some 68), (some (67, true)), .call 21 []⟩, ⟨(some 69), none, .pick (.t 67) (.t 68) (.c (.bool false))⟩, ⟨(some 2), none, .mv (.t 69)⟩])
 (.ret)))))))))))⟩
def a10 : AFn := ⟨203, [.t 2], .seq (.ops [⟨(some 2), none, .mv (.c (.bool false))⟩])
 (.seq (.ops [⟨(some 20), none, .mv (.t 0)⟩, ⟨(some 21), none, .build [(.lit true 0 []), (.int .i64 0)] [(0, 1, (.t 20))]⟩, ⟨(some 22), none, .box 25 (.t 21)⟩, ⟨(some 3), none, .mv (.t 22)⟩])
 (.seq (.ops [⟨(some 23), none, .mv (.t 3)⟩, ⟨(some 24), none, .call 57 [(.t 23), (.c (.int .i64 1)), (.c (.int .i64 100))]⟩, ⟨(some 25), none, .mv (.t 3)⟩, ⟨(some 26), none, .bslice 3 1 3 [(.int .i64 0)] [(0, 1, (.c (.int .i64 0))), (1, 1, (.c (.int .i64 1))), (2, 1, (.c (.int .i64 2)))]⟩, ⟨(some 27), none, .call 58 [(.t 25), (.t 26)]⟩, ⟨(some 28), none, .mv (.t 3)⟩, ⟨(some 29), none, .call 57 [(.t 28), (.c (.int .i64 1)), (.c (.int .i64 3))]⟩, ⟨(some 4), none, .mv (.t 24)⟩, ⟨(some 5), none, .mv (.t 27)⟩, ⟨(some 6), none, .mv (.t 29)⟩])
 (.seq (.seq (.ops [⟨(some 30), none, .mv (.t 3)⟩, ⟨(some 31), none, .call 43 [(.t 30), (.c (.int .i64 2))]⟩])
 (.cond (.t 31) (.ops [⟨(some 32), none, .mv (.t 3)⟩, ⟨(some 33), none, .call 37 [(.t 32), (.c (.int .i64 1)), (.c (.int .i64 12))]⟩, ⟨(some 4), none, .mv (.t 33)⟩]) (.skip)))
 (.seq (.ops [⟨(some 34), none, .mv (.t 4)⟩, ⟨(some 35), none, .call 59 [(.t 34), (.c (.int .i64 1)), (.c (.int .i64 100))]⟩, ⟨(some 7), none, .mv (.t 35)⟩])
 (.seq (.ops [⟨(some 37), none, .mv (.t 4)⟩, ⟨(some 38), none, .call 16 [(.t 37)]⟩, ⟨(some 36), none, .mv (.t 38)⟩, ⟨(some 39), none, .ext (.t 36) 0⟩, ⟨(some 40), none, .ext (.t 36) 1⟩, ⟨(some 8), none, .mv (.t 39)⟩, ⟨(some 9), none, .mv (.t 40)⟩])
 (.seq (.ops [⟨(some 42), none, .mv (.t 4)⟩, ⟨(some 43), none, .call 38 [(.t 42)]⟩, ⟨(some 41), none, .mv (.t 43)⟩, ⟨(some 44), none, .ext (.t 41) 0⟩, ⟨(some 45), none, .ext (.t 41) 1⟩, ⟨(some 10), none, .mv (.t 44)⟩, ⟨(some 11), none, .mv (.t 45)⟩])
 (.seq (.ops [⟨(some 47), none, .mv (.t 4)⟩, ⟨(some 48), none, .mv (.t 5)⟩, ⟨(some 49), none, .call 60 [(.t 47), (.t 48)]⟩, ⟨(some 46), none, .mv (.t 49)⟩, ⟨(some 50), none, .ext (.t 46) 0⟩, ⟨(some 51), none, .ext (.t 46) 1⟩, ⟨(some 12), none, .mv (.t 50)⟩, ⟨(some 13), none, .mv (.t 51)⟩])
 (.seq (.ops [⟨(some 53), none, .mv (.t 4)⟩, ⟨(some 54), none, .mv (.t 6)⟩, ⟨(some 55), none, .call 61 [(.t 53), (.t 54)]⟩, ⟨(some 52), none, .mv (.t 55)⟩, ⟨(some 56), none, .ext (.t 52) 0⟩, ⟨(some 57), none, .ext (.t 52) 1⟩, ⟨(some 14), none, .mv (.t 56)⟩, ⟨(some 15), none, .mv (.t 57)⟩])
 (.seq (.ops [⟨(some 59), none, .mv (.t 4)⟩, ⟨(some 60), none, .mv (.t 6)⟩, ⟨(some 61), none, .call 62 [(.t 59), (.t 60)]⟩, ⟨(some 58), none, .mv (.t 61)⟩, ⟨(some 62), none, .ext (.t 58) 0⟩, ⟨(some 63), none, .ext (.t 58) 1⟩, ⟨(some 16), none, .mv (.t 62)⟩, ⟨(some 17), none, .mv (.t 63)⟩])
 (.seq (.seq (.ops [⟨(some 64), none, .mv (.t 7)⟩, ⟨(some 65), none, .bin 0 .neq (.t 64) (.c (.int .i64 0))⟩])
 (.cond (.t 65) (.seq (.ops [⟨(some 66), none, .mv (.t 9)⟩, ⟨(some 67), none, .mv (.t 7)⟩, ⟨(some 68), none, .bin 0 .eql (.t 66) (.t 67)⟩, ⟨(some 69), none, .mv (.t 68)⟩, ⟨(some 70), (some (69, true)), .mv (.t 11)⟩, ⟨(some 71), (some (69, true)), .mv (.t 7)⟩, ⟨(some 72), (some (69, true)), .bin 0 .eql (.t 70) (.t 71)⟩, ⟨(some 73), none, .pick (.t 69) (.t 72) (.c (.bool false))⟩, ⟨(some 74), none, .mv (.t 73)⟩, ⟨(some 75), (some (74, true)), .mv (.t 13)⟩, ⟨(some 76), (some (74, true)), .mv (.t 7)⟩, ⟨(some 77), (some (74, true)), .bin 0 .eql (.t 75) (.t 76)⟩, ⟨(some 78), none, .pick (.t 74) (.t 77) (.c (.bool false))⟩, ⟨(some 79), none, .mv (.t 78)⟩, ⟨(some 80), (some (79, true)), .mv (.t 15)⟩, ⟨(some 81), (some (79, true)), .mv (.t 7)⟩, ⟨(some 82), (some (79, true)), .bin 0 .eql (.t 80) (.t 81)⟩, ⟨(some 83), none, .pick (.t 79) (.t 82) (.c (.bool false))⟩, ⟨(some 84), none, .mv (.t 83)⟩, ⟨(some 85), (some (84, true)), .mv (.t 17)⟩, ⟨(some 86), (some (84, true)), .mv (.t 7)⟩, ⟨(some 87), (some (84, true)), .bin 0 .eql (.t 85) (.t 86)⟩, ⟨(some 88), none, .pick (.t 84) (.t 87) (.c (.bool false))⟩, ⟨(some 89), none, .mv (.t 88)⟩, ⟨(some 90), (some (89, true)), .mv (.t 8)⟩, ⟨(some 91), (some (89, true)), .len false (.t 90)⟩, ⟨(some 92), (some (89, true)), .mv (.t 10)⟩, ⟨(some 93), (some (89, true)), .len false (.t 92)⟩, ⟨(some 94), (some (89, true)), .bin 0 .add (.t 91) (.t 93)⟩, ⟨(some 95), (some (89, true)), .mv (.t 12)⟩, ⟨(some 96), (some (89, true)), .len false (.t 95)⟩, ⟨(some 97), (some (89, true)), .bin 0 .add (.t 94) (.t 96)⟩, ⟨(some 98), (some (89, true)), .mv (.t 16)⟩, ⟨(some 99), (some (89, true)), .len false (.t 98)⟩, ⟨(some 100), (some (89, true)), .bin 0 .add (.t 97) (.t 99)⟩, ⟨(some 101), (some (89, true)), .bin 0 .eql (.t 100) (.c (.int .i64 0))⟩, ⟨(some 102), none, .pick (.t 89) (.t 101) (.c (.bool false))⟩, ⟨(some 103), none, .mv (.t 102)⟩, ⟨(some 104), (some (103, true)), .mv (.t 14)⟩, ⟨(some 105), (some (103, true)), .bin 0 .eql (.t 104) (.c (.int .i64 0))⟩, ⟨(some 106), none, .pick (.t 103) (.t 105) (.c (.bool false))⟩, ⟨(some 107), none, .mv (.t 106)⟩, ⟨(some 108), (some (107, true)), .call 36 []⟩, ⟨(some 109), none, .pick (.t 107) (.t 108) (.c (.bool false))⟩, ⟨(some 2), none, .mv (.t 109)⟩])
 (.ret)) (.skip)))
 (.seq (.seq (.ops [⟨(some 110), none, .mv (.t 9)⟩, ⟨(some 111), none, .bin 0 .neq (.t 110) (.c (.int .i64 0))⟩, ⟨(some 112), none, .mv (.t 111)⟩, ⟨(some 113), (some (112, false)), .mv (.t 8)⟩, ⟨(some 114), (some (112, false)), .mv (.t 4)⟩, ⟨(some 115), (some (112, false)), .call 63 [(.t 114)]⟩, ⟨(some 116), (some (112, false)), .call 20 [(.t 113), (.t 115)]⟩, ⟨(some 117), (some (112, false)), .un .not (.t 116)⟩, ⟨(some 118), none, .pick (.t 112) (.c (.bool true)) (.t 117)⟩, ⟨(some 119), none, .mv (.t 118)⟩, ⟨(some 120), (some (119, false)), .mv (.t 11)⟩, ⟨(some 121), (some (119, false)), .bin 0 .neq (.t 120) (.c (.int .i64 0))⟩, ⟨(some 122), none, .pick (.t 119) (.c (.bool true)) (.t 121)⟩, ⟨(some 123), none, .mv (.t 122)⟩, ⟨(some 124), (some (123, false)), .mv (.t 10)⟩, ⟨(some 125), (some (123, false)), .mv (.t 4)⟩, ⟨(some 126), (some (123, false)), .call 64 [(.t 125)]⟩, ⟨(some 127), (some (123, false)), .call 20 [(.t 124), (.t 126)]⟩, ⟨(some 128), (some (123, false)), .un .not (.t 127)⟩, ⟨(some 129), none, .pick (.t 123) (.c (.bool true)) (.t 128)⟩])
 (.cond (.t 129) (.seq (.ops [⟨(some 2), none, .mv (.c (.bool false))⟩])
 (.ret)) (.skip)))
 (.seq (.seq (.ops [⟨(some 130), none, .mv (.t 5)⟩, ⟨(some 131), none, .call 59 [(.t 130), (.c (.int .i64 0)), (.c (.int .i64 1))]⟩, ⟨(some 18), none, .mv (.t 131)⟩])
 (.seq (.ops [⟨(some 132), none, .mv (.t 13)⟩, ⟨(some 133), none, .mv (.t 18)⟩, ⟨(some 134), none, .bin 0 .neq (.t 132) (.t 133)⟩, ⟨(some 135), none, .mv (.t 134)⟩, ⟨(some 136), (some (135, false)), .mv (.t 18)⟩, ⟨(some 137), (some (135, false)), .bin 0 .eql (.t 136) (.c (.int .i64 0))⟩, ⟨(some 138), (some (135, false)), .mv (.t 137)⟩, ⟨(some 139), (some (138, true)), .mv (.t 12)⟩, ⟨(some 140), (some (138, true)), .mv (.t 4)⟩, ⟨(some 141), (some (138, true)), .mv (.t 5)⟩, ⟨(some 142), (some (138, true)), .call 65 [(.t 140), (.t 141)]⟩, ⟨(some 143), (some (138, true)), .call 20 [(.t 139), (.t 142)]⟩, ⟨(some 144), (some (138, true)), .un .not (.t 143)⟩, ⟨(some 145), (some (135, false)), .pick (.t 138) (.t 144) (.c (.bool false))⟩, ⟨(some 146), none, .pick (.t 135) (.c (.bool true)) (.t 145)⟩, ⟨(some 147), none, .mv (.t 146)⟩, ⟨(some 148), (some (147, false)), .mv (.t 18)⟩, ⟨(some 149), (some (147, false)), .bin 0 .neq (.t 148) (.c (.int .i64 0))⟩, ⟨(some 150), (some (147, false)), .mv (.t 149)⟩, ⟨(some 151), (some (150, true)), .mv (.t 12)⟩, ⟨(some 152), (some (150, true)), .len false (.t 151)⟩, ⟨(some 153), (some (150, true)), .bin 0 .gtr (.t 152) (.c (.int .i64 0))⟩, ⟨(some 154), (some (147, false)), .pick (.t 150) (.t 153) (.c (.bool false))⟩, ⟨(some 155), none, .pick (.t 147) (.c (.bool true)) (.t 154)⟩])
 (.cond (.t 155) (.seq (.ops [⟨(some 2), none, .mv (.c (.bool false))⟩])
 (.ret)) (.skip))))
 (.seq (.seq (.ops [⟨(some 156), none, .mv (.t 6)⟩, ⟨(some 157), none, .call 66 [(.t 156)]⟩, ⟨(some 19), none, .mv (.t 157)⟩])
 (.seq (.ops [⟨(some 158), none, .mv (.t 19)⟩, ⟨(some 159), none, .bin 0 .neq (.t 158) (.c (.int .i64 0))⟩])
 (.cond (.t 159) (.seq (.ops [⟨(some 160), none, .mv (.t 15)⟩, ⟨(some 161), none, .mv (.t 19)⟩, ⟨(some 162), none, .bin 0 .eql (.t 160) (.t 161)⟩, ⟨(some 163), none, .mv (.t 162)⟩, ⟨(some 164), (some (163, true)), .mv (.t 17)⟩, ⟨(some 165), (some (163, true)), .mv (.t 19)⟩, ⟨(some 166), (some (163, true)), .bin 0 .eql (.t 164) (.t 165)⟩, ⟨(some 167), none, .pick (.t 163) (.t 166) (.c (.bool false))⟩, ⟨(some 168), none, .mv (.t 167)⟩, ⟨(some 169), (some (168, true)), .mv (.t 14)⟩, ⟨(some 170), (some (168, true)), .bin 0 .eql (.t 169) (.c (.int .i64 0))⟩, ⟨(some 171), none, .pick (.t 168) (.t 170) (.c (.bool false))⟩, ⟨(some 172), none, .mv (.t 171)⟩, ⟨(some 173), (some (172, true)), .mv (.t 16)⟩, ⟨(some 174), (some (172, true)), .len false (.t 173)⟩, ⟨(some 175), (some (172, true)), .bin 0 .eql (.t 174) (.c (.int .i64 0))⟩, ⟨(some 176), none, .pick (.t 172) (.t 175) (.c (.bool false))⟩, ⟨(some 177), none, .mv (.t 176)⟩, ⟨(some 178), (some (177, true)), .call 36 []⟩, ⟨(some 179), none, .pick (.t 177) (.t 178) (.c (.bool false))⟩, ⟨(some 2), none, .mv (.t 179)⟩])
 (.ret)) (.skip))))
 (.seq (.ops [⟨(some 180), none, .mv (.t 15)⟩, ⟨(some 181), none, .bin 0 .eql (.t 180) (.c (.int .i64 0))⟩, ⟨(some 182), none, .mv (.t 181)⟩, ⟨(some 183), (some (182, true)), .mv (.t 14)⟩, ⟨(some 184), (some (182, true)), .mv (.t 4)⟩, ⟨(some 185), (some (182, true)), .mv (.t 6)⟩, ⟨(some 186), (some (182, true)), .call 67 [(.t 184), (.t 185)]⟩, ⟨(some 187), (some (182, true)), .bin 0 .eql (.t 183) (.t 186)⟩, ⟨(some 188), none, .pick (.t 182) (.t 187) (.c (.bool false))⟩, ⟨(some 189), none, .mv (.t 188)⟩, ⟨(some 190), (some (189, true)), .mv (.t 17)⟩, ⟨(some 191), (some (189, true)), .bin 0 .eql (.t 190) (.c (.int .i64 0))⟩, ⟨(some 192), none, .pick (.t 189) (.t 191) (.c (.bool false))⟩, ⟨(some 193), none, .mv (.t 192)⟩, ⟨(some 194), (some (193, true)), .mv (.t 16)⟩, ⟨(some 195), (some (193, true)), .mv (.t 4)⟩, ⟨(some 196), (some (193, true)), .mv (.t 6)⟩, ⟨(some 197), (some (193, true)), .call 68 [(.t 195), (.t 196)]⟩, ⟨(some 198), (some (193, true)), .call 20 [(.t 194), (.t 197)]⟩, ⟨(some 199), none, .pick (.t 193) (.t 198) (.c (.bool false))⟩, ⟨(some 200), none, .mv (.t 199)⟩, ⟨(some 201), (some (200, true)), .call 36 []⟩, ⟨(some 202), none, .pick (.t 200) (.t 201) (.c (.bool false))⟩, ⟨(some 2), none, .mv (.t 202)⟩])
 (.ret)))))))))))))))⟩
theorem c10 : compF Go.Proofs.Tryd.prog 10 = some a10 := by kernel_rfl
def a16 : AFn := ⟨30, [.t 2, .t 3], .seq (.ops [⟨(some 1), none, .box 3 (.t 0)⟩, ⟨(some 2), none, .mv (.c (.lit true 0 []))⟩, ⟨(some 3), none, .mv (.c (.int .i64 0))⟩])
 (.seq (.seq (.ops [⟨(some 8), none, .load none (.t 1)⟩, ⟨(some 9), none, .call 78 [(.t 8)]⟩, ⟨(some 4), none, .mv (.t 9)⟩])
 (.seq (.ops [⟨(some 10), none, .mv (.t 4)⟩, ⟨(some 11), none, .bin 0 .neq (.t 10) (.c (.int .i64 0))⟩])
 (.cond (.t 11) (.seq (.ops [⟨(some 12), none, .mv (.t 4)⟩, ⟨(some 2), none, .mv (.c (.lit true 0 []))⟩, ⟨(some 3), none, .mv (.t 12)⟩])
 (.ret)) (.skip))))
 (.seq (.ops [⟨(some 13), none, .mkfn 80 [(.t 1)]⟩, ⟨(some 14), none, .call 79 [(.c (.int .i64 0)), (.t 13)]⟩, ⟨(some 5), none, .mv (.t 14)⟩])
 (.seq (.ops [⟨(some 6), none, .mv (.c (.lit true 0 []))⟩])
 (.seq (.seq (.ops [⟨(some 15), none, .load none (.t 1)⟩, ⟨(some 16), none, .mv (.c (.int .i64 0))⟩])
 (.block 0 (.loop (.seq (.ops [⟨(some 17), none, .bin 0 .lss (.t 16) (.t 15)⟩])
 (.seq (.cond (.t 17) (.skip) (.exit 0))
 (.seq (.block 1 (.seq (.ops [⟨(some 18), none, .mv (.t 16)⟩, ⟨(some 7), none, .mv (.t 18)⟩])
 (.ops [⟨(some 19), none, .mv (.t 6)⟩, ⟨(some 20), none, .mv (.t 7)⟩, ⟨(some 21), none, .bin 0 .add (.t 20) (.c (.int .i64 1))⟩, ⟨(some 22), none, .mv (.t 5)⟩, ⟨(some 23), none, .call 81 [(.t 21), (.t 22)]⟩, ⟨(some 24), none, .bslice 9 1 1 [(.str [])] [(0, 1, (.t 23))]⟩, ⟨(some 25), none, .app 9 1 16 (.t 19) (.t 24)⟩, ⟨(some 6), none, .mv (.t 25)⟩])))
 (.ops [⟨(some 26), none, .bin 0 .add (.t 16) (.c (.int .i64 1))⟩, ⟨(some 16), none, .mv (.t 26)⟩])))))))
 (.seq (.ops [⟨(some 27), none, .mv (.t 6)⟩, ⟨(some 28), none, .mv (.t 5)⟩, ⟨(some 29), none, .call 73 [(.t 27), (.t 28)]⟩, ⟨(some 2), none, .mv (.t 29)⟩, ⟨(some 3), none, .mv (.c (.int .i64 0))⟩])
 (.ret))))))⟩
theorem c16 : compF Go.Proofs.Tryd.prog 16 = some a16 := by kernel_rfl
def a20 : AFn := ⟨26, [.t 4], .seq (.ops [⟨(some 4), none, .mv (.c (.bool false))⟩])
 (.seq (.seq (.ops [⟨(some 6), none, .mv (.t 0)⟩, ⟨(some 7), none, .len false (.t 6)⟩, ⟨(some 8), none, .mv (.t 1)⟩, ⟨(some 9), none, .len false (.t 8)⟩, ⟨(some 10), none, .bin 0 .neq (.t 7) (.t 9)⟩])
 (.cond (.t 10) (.seq (.ops [⟨(some 4), none, .mv (.c (.bool false))⟩])
 (.ret)) (.skip)))
 (.seq (.seq (.ops [⟨(some 11), none, .mv (.t 0)⟩, ⟨(some 12), none, .len false (.t 11)⟩, ⟨(some 13), none, .mv (.c (.int .i64 0))⟩])
 (.block 0 (.loop (.seq (.ops [⟨(some 14), none, .bin 0 .lss (.t 13) (.t 12)⟩])
 (.seq (.cond (.t 14) (.skip) (.exit 0))
 (.seq (.block 1 (.seq (.ops [⟨(some 15), none, .mv (.t 13)⟩, ⟨(some 5), none, .mv (.t 15)⟩])
 (.seq (.any [(⟨(some 16), none, .mv (.t 0)⟩, []), (⟨(some 17), none, .mv (.t 5)⟩, [0]), (⟨(some 18), none, .iadr 1 (.t 16) (.t 17)⟩, []), (⟨(some 19), none, .load none (.t 18)⟩, []), (⟨(some 20), none, .mv (.t 1)⟩, [0, 1, 2, 3]), (⟨(some 21), none, .mv (.t 5)⟩, [0, 1, 2, 3, 4]), (⟨(some 22), none, .iadr 1 (.t 20) (.t 21)⟩, [0, 1, 2, 3]), (⟨(some 23), none, .load none (.t 22)⟩, [0, 1, 2, 3]), (⟨(some 24), none, .bin 1 .neq (.t 19) (.t 23)⟩, [])])
 (.cond (.t 24) (.seq (.ops [⟨(some 4), none, .mv (.c (.bool false))⟩])
 (.ret)) (.skip)))))
 (.ops [⟨(some 25), none, .bin 0 .add (.t 13) (.c (.int .i64 1))⟩, ⟨(some 13), none, .mv (.t 25)⟩])))))))
 (.seq (.ops [⟨(some 4), none, .mv (.c (.bool true))⟩])
 (.ret))))⟩
theorem c20 : compF Go.Proofs.Tryd.prog 20 = some a20 := by kernel_rfl
def a21 : AFn := ⟨50, [.t 0], .seq (.ops [⟨(some 0), none, .mv (.c (.bool false))⟩])
 (.seq (.ops [⟨(some 9), none, .call 82 [(.c (.int .i64 4)), (.c (.int .i64 1))]⟩, ⟨(some 8), none, .mv (.t 9)⟩, ⟨(some 10), none, .ext (.t 8) 0⟩, ⟨(some 11), none, .ext (.t 8) 1⟩, ⟨(some 1), none, .mv (.t 10)⟩, ⟨(some 2), none, .mv (.t 11)⟩])
 (.seq (.ops [⟨(some 13), none, .call 16 [(.c (.int .i64 3))]⟩, ⟨(some 12), none, .mv (.t 13)⟩, ⟨(some 14), none, .ext (.t 12) 0⟩, ⟨(some 15), none, .ext (.t 12) 1⟩, ⟨(some 3), none, .mv (.t 14)⟩, ⟨(some 4), none, .mv (.t 15)⟩])
 (.seq (.ops [⟨(some 17), none, .bslice 9 1 1 [(.str [])] [(0, 1, (.c (.str [49, 120])))]⟩, ⟨(some 18), none, .build [(.lit true 0 []), (.str [])] [(0, 1, (.t 17)), (1, 1, (.c (.str [49])))]⟩, ⟨(some 19), none, .call 83 [(.t 18)]⟩, ⟨(some 16), none, .mv (.t 19)⟩, ⟨(some 20), none, .ext (.t 16) 0⟩, ⟨(some 21), none, .ext (.t 16) 1⟩, ⟨(some 22), none, .ext (.t 16) 2⟩, ⟨(some 5), none, .alloc 61 [(.int .i64 0), (.int .i64 0)]⟩, ⟨none, none, .store 2 (.t 5) (.t 20)⟩, ⟨(some 6), none, .mv (.t 21)⟩, ⟨(some 7), none, .mv (.t 22)⟩])
 (.seq (.ops [⟨(some 23), none, .mv (.t 2)⟩, ⟨(some 24), none, .bin 0 .eql (.t 23) (.c (.int .i64 0))⟩, ⟨(some 25), none, .mv (.t 24)⟩, ⟨(some 26), (some (25, true)), .mv (.t 1)⟩, ⟨(some 27), (some (25, true)), .bin 1 .eql (.t 26) (.c (.str [49, 49, 48]))⟩, ⟨(some 28), none, .pick (.t 25) (.t 27) (.c (.bool false))⟩, ⟨(some 29), none, .mv (.t 28)⟩, ⟨(some 30), (some (29, true)), .mv (.t 4)⟩, ⟨(some 31), (some (29, true)), .bin 0 .eql (.t 30) (.c (.int .i64 0))⟩, ⟨(some 32), none, .pick (.t 29) (.t 31) (.c (.bool false))⟩, ⟨(some 33), none, .mv (.t 32)⟩, ⟨(some 34), (some (33, true)), .mv (.t 3)⟩, ⟨(some 35), (some (33, true)), .len false (.t 34)⟩, ⟨(some 36), (some (33, true)), .bin 0 .eql (.t 35) (.c (.int .i64 3))⟩, ⟨(some 37), none, .pick (.t 33) (.t 36) (.c (.bool false))⟩, ⟨(some 38), none, .mv (.t 37)⟩, ⟨(some 39), (some (38, true)), .mv (.t 7)⟩, ⟨(some 40), (some (38, true)), .bin 0 .eql (.t 39) (.c (.int .i64 0))⟩, ⟨(some 41), none, .pick (.t 38) (.t 40) (.c (.bool false))⟩, ⟨(some 42), none, .mv (.t 41)⟩, ⟨(some 43), (some (42, true)), .mv (.t 6)⟩, ⟨(some 44), none, .pick (.t 42) (.t 43) (.c (.bool false))⟩, ⟨(some 45), none, .mv (.t 44)⟩, ⟨(some 46), (some (45, true)), .load (some 2) (.t 5)⟩, ⟨(some 47), (some (45, true)), .build [(.int .i64 0), (.int .i64 0)] [(0, 1, (.c (.int .i64 1))), (1, 1, (.c (.int .i64 2)))]⟩, ⟨(some 48), (some (45, true)), .eqs false [0, 0] (.t 46) (.t 47)⟩, ⟨(some 49), none, .pick (.t 45) (.t 48) (.c (.bool false))⟩, ⟨(some 0), none, .mv (.t 49)⟩])
 (.ret)))))⟩
def a22 : AFn := ⟨73, [.t 4, .t 5], .seq (.ops [⟨(some 4), none, .mv (.c (.int .i64 0))⟩, ⟨(some 5), none, .mv (.c (.lit true 0 []))⟩])
 (.seq (.ops [⟨(some 9), none, .mv (.t 0)⟩, ⟨(some 10), none, .call 37 [(.t 9), (.c (.int .i64 1)), (.c (.int .i64 6))]⟩, ⟨(some 6), none, .mv (.t 10)⟩])
 (.seq (.ops [⟨(some 7), none, .mv (.c (.lit true 0 []))⟩])
 (.seq (.seq (.ops [⟨(some 11), none, .mv (.t 0)⟩, ⟨(some 12), none, .mv (.t 1)⟩, ⟨(some 13), none, .call 37 [(.t 11), (.c (.int .i64 0)), (.t 12)]⟩, ⟨(some 14), none, .mv (.c (.int .i64 0))⟩])
 (.block 0 (.loop (.seq (.ops [⟨(some 15), none, .bin 0 .lss (.t 14) (.t 13)⟩])
 (.seq (.cond (.t 15) (.skip) (.exit 0))
 (.seq (.block 1 (.ops [⟨(some 16), none, .mv (.t 7)⟩, ⟨(some 17), none, .mv (.t 0)⟩, ⟨(some 18), none, .mv (.t 6)⟩, ⟨(some 19), none, .call 84 [(.t 17), (.t 18)]⟩, ⟨(some 20), none, .bslice 9 1 1 [(.str [])] [(0, 1, (.t 19))]⟩, ⟨(some 21), none, .app 9 1 16 (.t 16) (.t 20)⟩, ⟨(some 7), none, .mv (.t 21)⟩]))
 (.ops [⟨(some 22), none, .bin 0 .add (.t 14) (.c (.int .i64 1))⟩, ⟨(some 14), none, .mv (.t 22)⟩])))))))
 (.seq (.seq (.ops [⟨(some 23), none, .mv (.t 7)⟩, ⟨(some 24), none, .len false (.t 23)⟩, ⟨(some 25), none, .bin 0 .gtr (.t 24) (.c (.int .i64 0))⟩, ⟨(some 26), none, .mv (.t 25)⟩, ⟨(some 27), (some (26, true)), .mv (.t 0)⟩, ⟨(some 28), (some (26, true)), .call 43 [(.t 27), (.c (.int .i64 4))]⟩, ⟨(some 29), none, .pick (.t 26) (.t 28) (.c (.bool false))⟩])
 (.cond (.t 29) (.ops [⟨(some 30), none, .mv (.t 7)⟩, ⟨(some 31), none, .mv (.t 7)⟩, ⟨(some 32), none, .iadr 1 (.t 31) (.c (.int .i64 0))⟩, ⟨(some 33), none, .load none (.t 32)⟩, ⟨(some 34), none, .bslice 9 1 1 [(.str [])] [(0, 1, (.t 33))]⟩, ⟨(some 35), none, .app 9 1 16 (.t 30) (.t 34)⟩, ⟨(some 7), none, .mv (.t 35)⟩]) (.skip)))
 (.seq (.seq (.ops [⟨(some 36), none, .mv (.t 7)⟩, ⟨(some 37), none, .len false (.t 36)⟩, ⟨(some 38), none, .bin 0 .gtr (.t 37) (.c (.int .i64 0))⟩, ⟨(some 39), none, .mv (.t 38)⟩, ⟨(some 40), (some (39, true)), .mv (.t 0)⟩, ⟨(some 41), (some (39, true)), .call 43 [(.t 40), (.c (.int .i64 12))]⟩, ⟨(some 42), none, .pick (.t 39) (.t 41) (.c (.bool false))⟩])
 (.cond (.t 42) (.seq (.ops [⟨(some 43), none, .mv (.t 0)⟩, ⟨(some 44), none, .mv (.t 7)⟩, ⟨(some 45), none, .len false (.t 44)⟩, ⟨(some 46), none, .call 85 [(.t 43), (.t 45)]⟩, ⟨(some 8), none, .mv (.t 46)⟩])
 (.any [(⟨(some 47), none, .mv (.t 7)⟩, []), (⟨(some 48), none, .mv (.t 8)⟩, [0]), (⟨(some 49), none, .mv (.t 0)⟩, [0, 1]), (⟨(some 50), none, .mv (.t 7)⟩, [0, 1, 2]), (⟨(some 51), none, .mv (.t 8)⟩, [0, 1, 2, 3]), (⟨(some 52), none, .iadr 1 (.t 50) (.t 51)⟩, [0, 1, 2]), (⟨(some 53), none, .load none (.t 52)⟩, [0, 1, 2]), (⟨(some 54), none, .mv (.t 0)⟩, [0, 1, 2, 3, 4, 5, 6]), (⟨(some 55), none, .mv (.t 6)⟩, [0, 1, 2, 3, 4, 5, 6, 7]), (⟨(some 56), none, .bin 0 .add (.t 55) (.c (.int .i64 1))⟩, [0, 1, 2, 3, 4, 5, 6, 7]), (⟨(some 57), none, .call 84 [(.t 54), (.t 56)]⟩, [0, 1, 2, 3, 4, 5, 6]), (⟨(some 58), none, .mv (.t 0)⟩, [0, 1, 2, 3, 4, 5, 6, 7, 8, 9, 10]), (⟨(some 59), none, .mv (.t 7)⟩, [0, 1, 2, 3, 4, 5, 6, 7, 8, 9, 10, 11]), (⟨(some 60), none, .mv (.t 8)⟩, [0, 1, 2, 3, 4, 5, 6, 7, 8, 9, 10, 11, 12]), (⟨(some 61), none, .iadr 1 (.t 59) (.t 60)⟩, [0, 1, 2, 3, 4, 5, 6, 7, 8, 9, 10, 11]), (⟨(some 62), none, .load none (.t 61)⟩, [0, 1, 2, 3, 4, 5, 6, 7, 8, 9, 10, 11]), (⟨(some 63), none, .call 87 [(.t 58), (.t 62), (.c (.str [50]))]⟩, [0, 1, 2, 3, 4, 5, 6]), (⟨(some 64), none, .bslice 9 1 4 [(.str [])] [(0, 1, (.t 53)), (1, 1, (.c (.str []))), (2, 1, (.t 57)), (3, 1, (.t 63))]⟩, [0, 1, 2]), (⟨(some 65), none, .call 86 [(.t 49), (.t 64)]⟩, [0, 1]), (⟨(some 66), none, .iadr 1 (.t 47) (.t 48)⟩, []), (⟨none, none, .store 1 (.t 66) (.t 65)⟩, [])])) (.skip)))
 (.seq (.seq (.ops [⟨(some 67), none, .mv (.t 0)⟩, ⟨(some 68), none, .call 43 [(.t 67), (.c (.int .i64 20))]⟩])
 (.cond (.t 68) (.ops [⟨(some 69), none, .mv (.t 0)⟩, ⟨(some 70), none, .call 57 [(.t 69), (.c (.int .i64 1)), (.c (.int .i64 100))]⟩, ⟨(some 6), none, .mv (.t 70)⟩]) (.skip)))
 (.seq (.ops [⟨(some 71), none, .mv (.t 6)⟩, ⟨(some 72), none, .mv (.t 7)⟩, ⟨(some 4), none, .mv (.t 71)⟩, ⟨(some 5), none, .mv (.t 72)⟩])
 (.ret))))))))⟩
def a25 : AFn := ⟨40, [.t 2], .seq (.ops [⟨(some 2), none, .mv (.c (.int .i64 0))⟩])
 (.seq (.block 0 (.seq (.ops [⟨(some 7), none, .mv (.t 0)⟩, ⟨(some 8), none, .len false (.t 7)⟩, ⟨(some 9), none, .bin 0 .eql (.t 8) (.c (.int .i64 0))⟩, ⟨(some 6), none, .mv (.t 9)⟩])
 (.cond (.t 6) (.seq (.ops [⟨(some 2), none, .mv (.c (.int .i64 8))⟩])
 (.ret)) (.seq (.ops [⟨(some 11), none, .mv (.t 0)⟩, ⟨(some 12), none, .len false (.t 11)⟩, ⟨(some 13), none, .bin 0 .gtr (.t 12) (.c (.int .i64 100))⟩, ⟨(some 14), none, .mv (.t 13)⟩, ⟨(some 15), (some (14, false)), .mv (.t 0)⟩, ⟨(some 16), (some (14, false)), .iadr 1 (.t 15) (.c (.int .i64 0))⟩, ⟨(some 17), (some (14, false)), .load none (.t 16)⟩, ⟨(some 18), (some (14, false)), .len true (.t 17)⟩, ⟨(some 19), (some (14, false)), .bin 0 .gtr (.t 18) (.c (.int .i64 200))⟩, ⟨(some 20), none, .pick (.t 14) (.c (.bool true)) (.t 19)⟩, ⟨(some 10), none, .mv (.t 20)⟩])
 (.cond (.t 10) (.seq (.ops [⟨(some 2), none, .mv (.c (.int .i64 2))⟩])
 (.ret)) (.skip))))))
 (.seq (.seq (.ops [⟨(some 21), none, .mv (.t 0)⟩, ⟨(some 22), none, .len false (.t 21)⟩, ⟨(some 23), none, .mv (.c (.int .i64 0))⟩])
 (.block 1 (.loop (.seq (.ops [⟨(some 24), none, .bin 0 .lss (.t 23) (.t 22)⟩])
 (.seq (.cond (.t 24) (.skip) (.exit 1))
 (.seq (.block 2 (.seq (.ops [⟨(some 25), none, .iadr 1 (.t 21) (.t 23)⟩, ⟨(some 26), none, .load none (.t 25)⟩, ⟨(some 4), none, .mv (.t 26)⟩])
 (.seq (.seq (.ops [⟨(some 27), none, .mv (.t 4)⟩, ⟨(some 28), none, .len true (.t 27)⟩, ⟨(some 29), none, .mv (.t 0)⟩, ⟨(some 30), none, .iadr 1 (.t 29) (.c (.int .i64 0))⟩, ⟨(some 31), none, .load none (.t 30)⟩, ⟨(some 32), none, .len true (.t 31)⟩, ⟨(some 33), none, .bin 0 .neq (.t 28) (.t 32)⟩])
 (.cond (.t 33) (.seq (.ops [⟨(some 2), none, .mv (.c (.int .i64 3))⟩])
 (.ret)) (.skip)))
 (.seq (.ops [⟨(some 34), none, .mv (.t 4)⟩, ⟨(some 35), none, .call 90 [(.t 34)]⟩, ⟨(some 5), none, .mv (.t 35)⟩])
 (.seq (.ops [⟨(some 36), none, .mv (.t 5)⟩, ⟨(some 37), none, .bin 0 .neq (.t 36) (.c (.int .i64 0))⟩])
 (.cond (.t 37) (.seq (.ops [⟨(some 38), none, .mv (.t 5)⟩, ⟨(some 2), none, .mv (.t 38)⟩])
 (.ret)) (.skip)))))))
 (.ops [⟨(some 39), none, .bin 0 .add (.t 23) (.c (.int .i64 1))⟩, ⟨(some 23), none, .mv (.t 39)⟩])))))))
 (.seq (.ops [⟨(some 2), none, .mv (.c (.int .i64 0))⟩])
 (.ret))))⟩
def a29 : AFn := ⟨37, [.t 2], .seq (.ops [⟨(some 2), none, .mv (.c (.lit true 0 []))⟩])
 (.seq (.ops [⟨(some 7), none, .mv (.t 0)⟩, ⟨(some 8), none, .iadr 1 (.t 7) (.c (.int .i64 0))⟩, ⟨(some 9), none, .load none (.t 8)⟩, ⟨(some 10), none, .len true (.t 9)⟩, ⟨(some 11), none, .mks 9 1 16 [(.str [])] (.t 10)⟩, ⟨(some 3), none, .mv (.t 11)⟩])
 (.seq (.seq (.ops [⟨(some 12), none, .mv (.t 0)⟩, ⟨(some 13), none, .len false (.t 12)⟩, ⟨(some 14), none, .mv (.c (.int .i64 0))⟩])
 (.block 0 (.loop (.seq (.ops [⟨(some 15), none, .bin 0 .lss (.t 14) (.t 13)⟩])
 (.seq (.cond (.t 15) (.skip) (.exit 0))
 (.seq (.block 1 (.seq (.ops [⟨(some 16), none, .iadr 1 (.t 12) (.t 14)⟩, ⟨(some 17), none, .load none (.t 16)⟩, ⟨(some 5), none, .mv (.t 17)⟩])
 (.seq (.ops [⟨(some 18), none, .mv (.t 3)⟩, ⟨(some 19), none, .len false (.t 18)⟩, ⟨(some 20), none, .mv (.c (.int .i64 0))⟩])
 (.block 2 (.loop (.seq (.ops [⟨(some 21), none, .bin 0 .lss (.t 20) (.t 19)⟩])
 (.seq (.cond (.t 21) (.skip) (.exit 2))
 (.seq (.block 3 (.seq (.ops [⟨(some 22), none, .mv (.t 20)⟩, ⟨(some 6), none, .mv (.t 22)⟩])
 (.any [(⟨(some 23), none, .mv (.t 3)⟩, []), (⟨(some 24), none, .mv (.t 6)⟩, [0]), (⟨(some 25), none, .iadr 1 (.t 23) (.t 24)⟩, []), (⟨(some 26), none, .load none (.t 25)⟩, []), (⟨(some 27), none, .mv (.t 5)⟩, [0, 1, 2, 3]), (⟨(some 28), none, .mv (.t 6)⟩, [0, 1, 2, 3, 4]), (⟨(some 29), none, .mv (.t 6)⟩, [0, 1, 2, 3, 4, 5]), (⟨(some 30), none, .bin 0 .add (.t 29) (.c (.int .i64 1))⟩, [0, 1, 2, 3, 4, 5]), (⟨(some 31), none, .sls (.t 27) (some (.t 28)) (some (.t 30))⟩, [0, 1, 2, 3]), (⟨(some 32), none, .bin 1 .add (.t 26) (.t 31)⟩, []), (⟨(some 33), none, .iadr 1 (.t 23) (.t 24)⟩, []), (⟨none, none, .store 1 (.t 33) (.t 32)⟩, [])])))
 (.ops [⟨(some 34), none, .bin 0 .add (.t 20) (.c (.int .i64 1))⟩, ⟨(some 20), none, .mv (.t 34)⟩])))))))))
 (.ops [⟨(some 35), none, .bin 0 .add (.t 14) (.c (.int .i64 1))⟩, ⟨(some 14), none, .mv (.t 35)⟩])))))))
 (.seq (.ops [⟨(some 36), none, .mv (.t 3)⟩, ⟨(some 2), none, .mv (.t 36)⟩])
 (.ret))))⟩
theorem c29 : compF Go.Proofs.Tryd.prog 29 = some a29 := by kernel_rfl
def a36 : AFn := ⟨14, [.t 0], .seq (.ops [⟨(some 0), none, .mv (.c (.bool false))⟩])
 (.seq (.ops [⟨(some 4), none, .call 16 [(.c (.int .i64 3))]⟩, ⟨(some 3), none, .mv (.t 4)⟩, ⟨(some 5), none, .ext (.t 3) 0⟩, ⟨(some 6), none, .ext (.t 3) 1⟩, ⟨(some 1), none, .mv (.t 5)⟩, ⟨(some 2), none, .mv (.t 6)⟩])
 (.seq (.ops [⟨(some 7), none, .mv (.t 2)⟩, ⟨(some 8), none, .bin 0 .eql (.t 7) (.c (.int .i64 0))⟩, ⟨(some 9), none, .mv (.t 8)⟩, ⟨(some 10), (some (9, true)), .mv (.t 1)⟩, ⟨(some 11), (some (9, true)), .bslice 9 1 3 [(.str [])] [(0, 1, (.c (.str [48, 48, 48]))), (1, 1, (.c (.str [48, 49, 49]))), (2, 1, (.c (.str [49, 48, 49])))]⟩, ⟨(some 12), (some (9, true)), .call 20 [(.t 10), (.t 11)]⟩, ⟨(some 13), none, .pick (.t 9) (.t 12) (.c (.bool false))⟩, ⟨(some 0), none, .mv (.t 13)⟩])
 (.ret)))⟩
theorem c36 : compF Go.Proofs.Tryd.prog 36 = some a36 := by kernel_rfl
def a37 : AFn := ⟨19, [.t 6], .seq (.ops [⟨(some 6), none, .mv (.c (.int .i64 0))⟩])
 (.seq (.seq (.ops [⟨(some 7), none, .mv (.t 2)⟩, ⟨(some 8), none, .mv (.t 1)⟩, ⟨(some 9), none, .bin 0 .lss (.t 7) (.t 8)⟩])
 (.cond (.t 9) (.seq (.ops [⟨(some 10), none, .mv (.t 1)⟩, ⟨(some 6), none, .mv (.t 10)⟩])
 (.ret)) (.skip)))
 (.seq (.ops [⟨(some 11), none, .mv (.t 1)⟩, ⟨(some 12), none, .mv (.t 0)⟩, ⟨(some 13), none, .mv (.t 2)⟩, ⟨(some 14), none, .mv (.t 1)⟩, ⟨(some 15), none, .bin 0 .sub (.t 13) (.t 14)⟩, ⟨(some 16), none, .bin 0 .add (.t 15) (.c (.int .i64 1))⟩, ⟨(some 17), none, .call 85 [(.t 12), (.t 16)]⟩, ⟨(some 18), none, .bin 0 .add (.t 11) (.t 17)⟩, ⟨(some 6), none, .mv (.t 18)⟩])
 (.ret)))⟩
theorem c37 : compF Go.Proofs.Tryd.prog 37 = some a37 := by kernel_rfl
def a38 : AFn := ⟨35, [.t 2, .t 3], .seq (.ops [⟨(some 1), none, .box 3 (.t 0)⟩, ⟨(some 2), none, .mv (.c (.lit true 0 []))⟩, ⟨(some 3), none, .mv (.c (.int .i64 0))⟩])
 (.seq (.seq (.ops [⟨(some 9), none, .load none (.t 1)⟩, ⟨(some 10), none, .call 78 [(.t 9)]⟩, ⟨(some 4), none, .mv (.t 10)⟩])
 (.seq (.ops [⟨(some 11), none, .mv (.t 4)⟩, ⟨(some 12), none, .bin 0 .neq (.t 11) (.c (.int .i64 0))⟩])
 (.cond (.t 12) (.seq (.ops [⟨(some 13), none, .mv (.t 4)⟩, ⟨(some 2), none, .mv (.c (.lit true 0 []))⟩, ⟨(some 3), none, .mv (.t 13)⟩])
 (.ret)) (.skip))))
 (.seq (.ops [⟨(some 14), none, .mkfn 100 [(.t 1)]⟩, ⟨(some 15), none, .call 79 [(.c (.int .i64 1)), (.t 14)]⟩, ⟨(some 5), none, .mv (.t 15)⟩])
 (.seq (.ops [⟨(some 6), none, .mv (.c (.lit true 0 []))⟩])
 (.seq (.seq (.ops [⟨(some 16), none, .load none (.t 1)⟩, ⟨(some 17), none, .mv (.c (.int .i64 0))⟩])
 (.block 0 (.loop (.seq (.ops [⟨(some 18), none, .bin 0 .lss (.t 17) (.t 16)⟩])
 (.seq (.cond (.t 18) (.skip) (.exit 0))
 (.seq (.block 1 (.seq (.ops [⟨(some 19), none, .mv (.t 17)⟩, ⟨(some 7), none, .mv (.t 19)⟩])
 (.seq (.ops [⟨(some 20), none, .mv (.t 7)⟩, ⟨(some 21), none, .mv (.t 5)⟩, ⟨(some 22), none, .call 81 [(.t 20), (.t 21)]⟩, ⟨(some 8), none, .mv (.t 22)⟩])
 (.ops [⟨(some 23), none, .mv (.t 6)⟩, ⟨(some 24), none, .mv (.t 8)⟩, ⟨(some 25), none, .mv (.t 8)⟩, ⟨(some 26), none, .call 101 [(.t 25)]⟩, ⟨(some 27), none, .bin 1 .add (.t 24) (.t 26)⟩, ⟨(some 28), none, .bslice 9 1 1 [(.str [])] [(0, 1, (.t 27))]⟩, ⟨(some 29), none, .app 9 1 16 (.t 23) (.t 28)⟩, ⟨(some 6), none, .mv (.t 29)⟩]))))
 (.ops [⟨(some 30), none, .bin 0 .add (.t 17) (.c (.int .i64 1))⟩, ⟨(some 17), none, .mv (.t 30)⟩])))))))
 (.seq (.ops [⟨(some 31), none, .mv (.t 6)⟩, ⟨(some 32), none, .mv (.t 5)⟩, ⟨(some 33), none, .bin 0 .mul (.c (.int .i64 2)) (.t 32)⟩, ⟨(some 34), none, .call 73 [(.t 31), (.t 33)]⟩, ⟨(some 2), none, .mv (.t 34)⟩, ⟨(some 3), none, .mv (.c (.int .i64 0))⟩])
 (.ret))))))⟩
theorem c38 : compF Go.Proofs.Tryd.prog 38 = some a38 := by kernel_rfl
def a43 : AFn := ⟨9, [.t 4], .seq (.ops [⟨(some 4), none, .mv (.c (.bool false))⟩])
 (.seq (.ops [⟨(some 5), none, .mv (.t 0)⟩, ⟨(some 6), none, .mv (.t 1)⟩, ⟨(some 7), none, .call 85 [(.t 5), (.t 6)]⟩, ⟨(some 8), none, .bin 0 .eql (.t 7) (.c (.int .i64 0))⟩, ⟨(some 4), none, .mv (.t 8)⟩])
 (.ret))⟩
theorem c43 : compF Go.Proofs.Tryd.prog 43 = some a43 := by kernel_rfl
def a46 : AFn := ⟨7, [.t 4], .seq (.ops [⟨(some 4), none, .mv (.c (.int .i64 0))⟩])
 (.seq (.seq (.ops [⟨(some 5), none, .mv (.t 0)⟩])
 (.cond (.t 5) (.seq (.ops [⟨(some 6), none, .mv (.t 1)⟩, ⟨(some 4), none, .mv (.t 6)⟩])
 (.ret)) (.skip)))
 (.seq (.ops [⟨(some 4), none, .mv (.c (.int .i64 0))⟩])
 (.ret)))⟩
def a51 : AFn := ⟨71, [.t 4], .seq (.ops [⟨(some 4), none, .mv (.c (.bool false))⟩])
 (.seq (.ops [⟨(some 16), none, .load none (.t 1)⟩, ⟨(some 17), none, .mv (.t 0)⟩, ⟨(some 18), none, .call 52 [(.t 16), (.t 17)]⟩, ⟨(some 15), none, .mv (.t 18)⟩, ⟨(some 19), none, .ext (.t 15) 0⟩, ⟨(some 20), none, .ext (.t 15) 1⟩, ⟨(some 5), none, .mv (.t 19)⟩, ⟨(some 6), none, .mv (.t 20)⟩])
 (.seq (.seq (.ops [⟨(some 21), none, .mv (.t 6)⟩, ⟨(some 22), none, .un .not (.t 21)⟩])
 (.cond (.t 22) (.seq (.ops [⟨(some 4), none, .mv (.c (.bool false))⟩])
 (.ret)) (.skip)))
 (.seq (.ops [⟨(some 24), none, .load none (.t 2)⟩, ⟨(some 25), none, .load none (.t 1)⟩, ⟨(some 26), none, .call 14 [(.t 24), (.t 25)]⟩, ⟨(some 23), none, .mv (.t 26)⟩, ⟨(some 27), none, .ext (.t 23) 0⟩, ⟨(some 28), none, .ext (.t 23) 1⟩, ⟨(some 7), none, .mv (.t 27)⟩, ⟨(some 8), none, .mv (.t 28)⟩])
 (.seq (.ops [⟨(some 30), none, .load none (.t 2)⟩, ⟨(some 31), none, .mv (.t 5)⟩, ⟨(some 32), none, .call 14 [(.t 30), (.t 31)]⟩, ⟨(some 29), none, .mv (.t 32)⟩, ⟨(some 33), none, .ext (.t 29) 0⟩, ⟨(some 34), none, .ext (.t 29) 1⟩, ⟨(some 9), none, .mv (.t 33)⟩, ⟨(some 10), none, .mv (.t 34)⟩])
 (.seq (.ops [⟨(some 36), none, .load none (.t 2)⟩, ⟨(some 37), none, .load none (.t 1)⟩, ⟨(some 38), none, .call 53 [(.t 36), (.t 37)]⟩, ⟨(some 35), none, .mv (.t 38)⟩, ⟨(some 39), none, .ext (.t 35) 0⟩, ⟨(some 40), none, .ext (.t 35) 1⟩, ⟨(some 11), none, .mv (.t 39)⟩, ⟨(some 12), none, .mv (.t 40)⟩])
 (.seq (.ops [⟨(some 42), none, .load none (.t 2)⟩, ⟨(some 43), none, .mv (.t 5)⟩, ⟨(some 44), none, .call 53 [(.t 42), (.t 43)]⟩, ⟨(some 41), none, .mv (.t 44)⟩, ⟨(some 45), none, .ext (.t 41) 0⟩, ⟨(some 46), none, .ext (.t 41) 1⟩, ⟨(some 13), none, .mv (.t 45)⟩, ⟨(some 14), none, .mv (.t 46)⟩])
 (.seq (.ops [⟨(some 47), none, .mv (.t 8)⟩, ⟨(some 48), none, .bin 0 .eql (.t 47) (.c (.int .i64 0))⟩, ⟨(some 49), none, .mv (.t 48)⟩, ⟨(some 50), (some (49, true)), .mv (.t 10)⟩, ⟨(some 51), (some (49, true)), .bin 0 .eql (.t 50) (.c (.int .i64 0))⟩, ⟨(some 52), none, .pick (.t 49) (.t 51) (.c (.bool false))⟩, ⟨(some 53), none, .mv (.t 52)⟩, ⟨(some 54), (some (53, true)), .mv (.t 12)⟩, ⟨(some 55), (some (53, true)), .bin 0 .eql (.t 54) (.c (.int .i64 0))⟩, ⟨(some 56), none, .pick (.t 53) (.t 55) (.c (.bool false))⟩, ⟨(some 57), none, .mv (.t 56)⟩, ⟨(some 58), (some (57, true)), .mv (.t 14)⟩, ⟨(some 59), (some (57, true)), .bin 0 .eql (.t 58) (.c (.int .i64 0))⟩, ⟨(some 60), none, .pick (.t 57) (.t 59) (.c (.bool false))⟩, ⟨(some 61), none, .mv (.t 60)⟩, ⟨(some 62), (some (61, true)), .mv (.t 7)⟩, ⟨(some 63), (some (61, true)), .mv (.t 9)⟩, ⟨(some 64), (some (61, true)), .call 54 [(.t 62), (.t 63), (.c (.fn 47 []))]⟩, ⟨(some 65), none, .pick (.t 61) (.t 64) (.c (.bool false))⟩, ⟨(some 66), none, .mv (.t 65)⟩, ⟨(some 67), (some (66, true)), .mv (.t 11)⟩, ⟨(some 68), (some (66, true)), .mv (.t 13)⟩, ⟨(some 69), (some (66, true)), .call 47 [(.t 67), (.t 68)]⟩, ⟨(some 70), none, .pick (.t 66) (.t 69) (.c (.bool false))⟩, ⟨(some 4), none, .mv (.t 70)⟩])
 (.ret))))))))⟩
def a53 : AFn := ⟨34, [.t 4, .t 5], .seq (.ops [⟨(some 4), none, .mv (.c (.lit true 0 []))⟩, ⟨(some 5), none, .mv (.c (.int .i64 0))⟩])
 (.seq (.seq (.ops [⟨(some 10), none, .mv (.t 0)⟩, ⟨(some 11), none, .mv (.t 1)⟩, ⟨(some 12), none, .call 26 [(.t 10), (.t 11)]⟩, ⟨(some 6), none, .mv (.t 12)⟩])
 (.seq (.ops [⟨(some 13), none, .mv (.t 6)⟩, ⟨(some 14), none, .bin 0 .neq (.t 13) (.c (.int .i64 0))⟩])
 (.cond (.t 14) (.seq (.ops [⟨(some 15), none, .mv (.t 6)⟩, ⟨(some 4), none, .mv (.c (.lit true 0 []))⟩, ⟨(some 5), none, .mv (.t 15)⟩])
 (.ret)) (.skip))))
 (.seq (.ops [⟨(some 7), none, .mv (.c (.lit true 0 []))⟩])
 (.seq (.seq (.ops [⟨(some 16), none, .mv (.t 1)⟩, ⟨(some 17), none, .mv (.t 0)⟩, ⟨(some 18), none, .call 73 [(.t 16), (.t 17)]⟩, ⟨(some 19), none, .len false (.t 18)⟩, ⟨(some 20), none, .mv (.c (.int .i64 0))⟩])
 (.block 0 (.loop (.seq (.ops [⟨(some 21), none, .bin 0 .lss (.t 20) (.t 19)⟩])
 (.seq (.cond (.t 21) (.skip) (.exit 0))
 (.seq (.block 1 (.seq (.ops [⟨(some 22), none, .mv (.t 20)⟩, ⟨(some 23), none, .iadr 1 (.t 18) (.t 20)⟩, ⟨(some 24), none, .load none (.t 23)⟩, ⟨(some 8), none, .mv (.t 22)⟩, ⟨(some 9), none, .mv (.t 24)⟩])
 (.seq (.ops [⟨(some 25), none, .mv (.t 9)⟩, ⟨(some 26), none, .call 118 [(.t 25)]⟩, ⟨(some 27), none, .un .not (.t 26)⟩])
 (.cond (.t 27) (.ops [⟨(some 28), none, .mv (.t 7)⟩, ⟨(some 29), none, .mv (.t 8)⟩, ⟨(some 30), none, .bslice 3 1 1 [(.int .i64 0)] [(0, 1, (.t 29))]⟩, ⟨(some 31), none, .app 3 1 8 (.t 28) (.t 30)⟩, ⟨(some 7), none, .mv (.t 31)⟩]) (.skip)))))
 (.ops [⟨(some 32), none, .bin 0 .add (.t 20) (.c (.int .i64 1))⟩, ⟨(some 20), none, .mv (.t 32)⟩])))))))
 (.seq (.ops [⟨(some 33), none, .mv (.t 7)⟩, ⟨(some 4), none, .mv (.t 33)⟩, ⟨(some 5), none, .mv (.c (.int .i64 0))⟩])
 (.ret)))))⟩
def a54 : AFn := ⟨32, [.t 6], .seq (.ops [⟨(some 6), none, .mv (.c (.bool false))⟩])
 (.seq (.seq (.ops [⟨(some 10), none, .mv (.t 0)⟩, ⟨(some 11), none, .len false (.t 10)⟩, ⟨(some 12), none, .mv (.t 1)⟩, ⟨(some 13), none, .len false (.t 12)⟩, ⟨(some 14), none, .bin 0 .neq (.t 11) (.t 13)⟩])
 (.cond (.t 14) (.seq (.ops [⟨(some 6), none, .mv (.c (.bool false))⟩])
 (.ret)) (.skip)))
 (.seq (.seq (.ops [⟨(some 15), none, .mv (.t 0)⟩, ⟨(some 16), none, .len false (.t 15)⟩, ⟨(some 17), none, .mv (.c (.int .i64 0))⟩])
 (.block 0 (.loop (.seq (.ops [⟨(some 18), none, .bin 0 .lss (.t 17) (.t 16)⟩])
 (.seq (.cond (.t 18) (.skip) (.exit 0))
 (.seq (.block 1 (.seq (.ops [⟨(some 19), none, .mv (.t 17)⟩, ⟨(some 20), none, .iadr 1 (.t 15) (.t 17)⟩, ⟨(some 21), none, .load none (.t 20)⟩, ⟨(some 7), none, .mv (.t 19)⟩, ⟨(some 8), none, .mv (.t 21)⟩])
 (.seq (.ops [⟨(some 22), none, .mv (.t 1)⟩, ⟨(some 23), none, .mv (.t 7)⟩, ⟨(some 24), none, .iadr 1 (.t 22) (.t 23)⟩, ⟨(some 25), none, .load none (.t 24)⟩, ⟨(some 9), none, .mv (.t 25)⟩])
 (.seq (.ops [⟨(some 26), none, .mv (.t 2)⟩, ⟨(some 27), none, .mv (.t 8)⟩, ⟨(some 28), none, .mv (.t 9)⟩, ⟨(some 29), none, .callv (.t 26) [(.t 27), (.t 28)]⟩, ⟨(some 30), none, .un .not (.t 29)⟩])
 (.cond (.t 30) (.seq (.ops [⟨(some 6), none, .mv (.c (.bool false))⟩])
 (.ret)) (.skip))))))
 (.ops [⟨(some 31), none, .bin 0 .add (.t 17) (.c (.int .i64 1))⟩, ⟨(some 17), none, .mv (.t 31)⟩])))))))
 (.seq (.ops [⟨(some 6), none, .mv (.c (.bool true))⟩])
 (.ret))))⟩
def a57 : AFn := ⟨22, [.t 6], .seq (.ops [⟨(some 6), none, .mv (.c (.int .i64 0))⟩])
 (.seq (.seq (.ops [⟨(some 7), none, .mv (.t 0)⟩, ⟨(some 8), none, .call 43 [(.t 7), (.c (.int .i64 12))]⟩])
 (.cond (.t 8) (.seq (.ops [⟨(some 9), none, .mv (.t 0)⟩, ⟨(some 10), none, .mv (.t 1)⟩, ⟨(some 11), none, .bin 0 .sub (.t 10) (.c (.int .i64 1))⟩, ⟨(some 12), none, .mv (.t 2)⟩, ⟨(some 13), none, .bin 0 .add (.t 12) (.c (.int .i64 1))⟩, ⟨(some 14), none, .mv (.t 1)⟩, ⟨(some 15), none, .mv (.t 2)⟩, ⟨(some 16), none, .bslice 3 1 6 [(.int .i64 0)] [(0, 1, (.t 11)), (1, 1, (.t 13)), (2, 1, (.t 14)), (3, 1, (.t 15)), (4, 1, (.c (.int .i64 (-1099511627776)))), (5, 1, (.c (.int .i64 1099511627776)))]⟩, ⟨(some 17), none, .call 58 [(.t 9), (.t 16)]⟩, ⟨(some 6), none, .mv (.t 17)⟩])
 (.ret)) (.skip)))
 (.seq (.ops [⟨(some 18), none, .mv (.t 0)⟩, ⟨(some 19), none, .mv (.t 1)⟩, ⟨(some 20), none, .mv (.t 2)⟩, ⟨(some 21), none, .call 37 [(.t 18), (.t 19), (.t 20)]⟩, ⟨(some 6), none, .mv (.t 21)⟩])
 (.ret)))⟩
theorem c57 : compF Go.Proofs.Tryd.prog 57 = some a57 := by kernel_rfl
def a58 : AFn := ⟨12, [.t 4], .seq (.ops [⟨(some 4), none, .mv (.c (.int .i64 0))⟩])
 (.seq (.ops [⟨(some 5), none, .mv (.t 1)⟩, ⟨(some 6), none, .mv (.t 0)⟩, ⟨(some 7), none, .mv (.t 1)⟩, ⟨(some 8), none, .len false (.t 7)⟩, ⟨(some 9), none, .call 85 [(.t 6), (.t 8)]⟩, ⟨(some 10), none, .iadr 1 (.t 5) (.t 9)⟩, ⟨(some 11), none, .load none (.t 10)⟩, ⟨(some 4), none, .mv (.t 11)⟩])
 (.ret))⟩
theorem c58 : compF Go.Proofs.Tryd.prog 58 = some a58 := by kernel_rfl
def a59 : AFn := ⟨12, [.t 6], .seq (.ops [⟨(some 6), none, .mv (.c (.int .i64 0))⟩])
 (.seq (.seq (.ops [⟨(some 7), none, .mv (.t 0)⟩, ⟨(some 8), none, .mv (.t 1)⟩, ⟨(some 9), none, .mv (.t 2)⟩, ⟨(some 10), none, .call 89 [(.t 7), (.t 8), (.t 9)]⟩, ⟨(some 11), none, .un .not (.t 10)⟩])
 (.cond (.t 11) (.seq (.ops [⟨(some 6), none, .mv (.c (.int .i64 1))⟩])
 (.ret)) (.skip)))
 (.seq (.ops [⟨(some 6), none, .mv (.c (.int .i64 0))⟩])
 (.ret)))⟩
theorem c59 : compF Go.Proofs.Tryd.prog 59 = some a59 := by kernel_rfl
def a60 : AFn := ⟨43, [.t 4, .t 5], .seq (.ops [⟨(some 4), none, .mv (.c (.lit true 0 []))⟩, ⟨(some 5), none, .mv (.c (.int .i64 0))⟩])
 (.seq (.seq (.ops [⟨(some 11), none, .mv (.t 0)⟩, ⟨(some 12), none, .call 78 [(.t 11)]⟩, ⟨(some 6), none, .mv (.t 12)⟩])
 (.seq (.ops [⟨(some 13), none, .mv (.t 6)⟩, ⟨(some 14), none, .bin 0 .neq (.t 13) (.c (.int .i64 0))⟩])
 (.cond (.t 14) (.seq (.ops [⟨(some 15), none, .mv (.t 6)⟩, ⟨(some 4), none, .mv (.c (.lit true 0 []))⟩, ⟨(some 5), none, .mv (.t 15)⟩])
 (.ret)) (.skip))))
 (.seq (.seq (.ops [⟨(some 16), none, .mv (.t 1)⟩, ⟨(some 17), none, .call 91 [(.t 16), (.c (.int .i64 0)), (.c (.int .i64 1))]⟩])
 (.cond (.t 17) (.seq (.ops [⟨(some 4), none, .mv (.c (.lit true 0 []))⟩, ⟨(some 5), none, .mv (.c (.int .i64 1))⟩])
 (.ret)) (.skip)))
 (.seq (.ops [⟨(some 7), none, .mv (.c (.str [49]))⟩, ⟨(some 8), none, .mv (.c (.str [48]))⟩])
 (.seq (.seq (.ops [⟨(some 18), none, .mv (.t 1)⟩, ⟨(some 19), none, .bin 0 .eql (.t 18) (.c (.int .i64 0))⟩])
 (.cond (.t 19) (.ops [⟨(some 20), none, .mv (.t 8)⟩, ⟨(some 21), none, .mv (.t 7)⟩, ⟨(some 7), none, .mv (.t 20)⟩, ⟨(some 8), none, .mv (.t 21)⟩]) (.skip)))
 (.seq (.ops [⟨(some 9), none, .mv (.c (.lit true 0 []))⟩])
 (.seq (.seq (.ops [⟨(some 22), none, .mv (.t 0)⟩, ⟨(some 23), none, .mv (.c (.int .i64 0))⟩])
 (.block 0 (.loop (.seq (.ops [⟨(some 24), none, .bin 0 .lss (.t 23) (.t 22)⟩])
 (.seq (.cond (.t 24) (.skip) (.exit 0))
 (.seq (.block 1 (.seq (.ops [⟨(some 25), none, .mv (.t 23)⟩, ⟨(some 10), none, .mv (.t 25)⟩])
 (.ops [⟨(some 26), none, .mv (.t 9)⟩, ⟨(some 27), none, .mv (.t 8)⟩, ⟨(some 28), none, .mv (.t 10)⟩, ⟨(some 29), none, .call 119 [(.t 27), (.t 28)]⟩, ⟨(some 30), none, .mv (.t 7)⟩, ⟨(some 31), none, .bin 1 .add (.t 29) (.t 30)⟩, ⟨(some 32), none, .mv (.t 8)⟩, ⟨(some 33), none, .mv (.t 0)⟩, ⟨(some 34), none, .bin 0 .sub (.t 33) (.c (.int .i64 1))⟩, ⟨(some 35), none, .mv (.t 10)⟩, ⟨(some 36), none, .bin 0 .sub (.t 34) (.t 35)⟩, ⟨(some 37), none, .call 119 [(.t 32), (.t 36)]⟩, ⟨(some 38), none, .bin 1 .add (.t 31) (.t 37)⟩, ⟨(some 39), none, .bslice 9 1 1 [(.str [])] [(0, 1, (.t 38))]⟩, ⟨(some 40), none, .app 9 1 16 (.t 26) (.t 39)⟩, ⟨(some 9), none, .mv (.t 40)⟩])))
 (.ops [⟨(some 41), none, .bin 0 .add (.t 23) (.c (.int .i64 1))⟩, ⟨(some 23), none, .mv (.t 41)⟩])))))))
 (.seq (.ops [⟨(some 42), none, .mv (.t 9)⟩, ⟨(some 4), none, .mv (.t 42)⟩, ⟨(some 5), none, .mv (.c (.int .i64 0))⟩])
 (.ret))))))))⟩
theorem c60 : compF Go.Proofs.Tryd.prog 60 = some a60 := by kernel_rfl
def a61 : AFn := ⟨19, [.t 4, .t 5], .seq (.ops [⟨(some 4), none, .mv (.c (.int .i64 0))⟩, ⟨(some 5), none, .mv (.c (.int .i64 0))⟩])
 (.seq (.seq (.ops [⟨(some 7), none, .mv (.t 0)⟩, ⟨(some 8), none, .call 78 [(.t 7)]⟩, ⟨(some 9), none, .mv (.t 1)⟩, ⟨(some 10), none, .call 121 [(.t 9)]⟩, ⟨(some 11), none, .bslice 29 1 2 [(.int .i64 0)] [(0, 1, (.t 8)), (1, 1, (.t 10))]⟩, ⟨(some 12), none, .call 120 [(.t 11)]⟩, ⟨(some 6), none, .mv (.t 12)⟩])
 (.seq (.ops [⟨(some 13), none, .mv (.t 6)⟩, ⟨(some 14), none, .bin 0 .neq (.t 13) (.c (.int .i64 0))⟩])
 (.cond (.t 14) (.seq (.ops [⟨(some 15), none, .mv (.t 6)⟩, ⟨(some 4), none, .mv (.c (.int .i64 0))⟩, ⟨(some 5), none, .mv (.t 15)⟩])
 (.ret)) (.skip))))
 (.seq (.ops [⟨(some 16), none, .mv (.t 0)⟩, ⟨(some 17), none, .mv (.t 1)⟩, ⟨(some 18), none, .call 122 [(.t 16), (.t 17)]⟩, ⟨(some 4), none, .mv (.t 18)⟩, ⟨(some 5), none, .mv (.c (.int .i64 0))⟩])
 (.ret)))⟩
theorem c61 : compF Go.Proofs.Tryd.prog 61 = some a61 := by kernel_rfl
def a62 : AFn := ⟨49, [.t 4, .t 5], .seq (.ops [⟨(some 4), none, .mv (.c (.lit true 0 []))⟩, ⟨(some 5), none, .mv (.c (.int .i64 0))⟩])
 (.seq (.seq (.ops [⟨(some 10), none, .mv (.t 0)⟩, ⟨(some 11), none, .call 78 [(.t 10)]⟩, ⟨(some 12), none, .mv (.t 1)⟩, ⟨(some 13), none, .call 121 [(.t 12)]⟩, ⟨(some 14), none, .bslice 29 1 2 [(.int .i64 0)] [(0, 1, (.t 11)), (1, 1, (.t 13))]⟩, ⟨(some 15), none, .call 120 [(.t 14)]⟩, ⟨(some 6), none, .mv (.t 15)⟩])
 (.seq (.ops [⟨(some 16), none, .mv (.t 6)⟩, ⟨(some 17), none, .bin 0 .neq (.t 16) (.c (.int .i64 0))⟩])
 (.cond (.t 17) (.seq (.ops [⟨(some 18), none, .mv (.t 6)⟩, ⟨(some 4), none, .mv (.c (.lit true 0 []))⟩, ⟨(some 5), none, .mv (.t 18)⟩])
 (.ret)) (.skip))))
 (.seq (.ops [⟨(some 19), none, .mv (.t 0)⟩, ⟨(some 20), none, .mv (.t 1)⟩, ⟨(some 21), none, .call 122 [(.t 19), (.t 20)]⟩, ⟨(some 7), none, .mv (.t 21)⟩])
 (.seq (.ops [⟨(some 8), none, .mv (.c (.int .i64 0))⟩])
 (.seq (.seq (.ops [⟨(some 22), none, .mv (.t 1)⟩, ⟨(some 23), none, .bin 0 .eql (.t 22) (.c (.int .i64 2))⟩])
 (.cond (.t 23) (.ops [⟨(some 8), none, .mv (.c (.int .i64 1))⟩]) (.skip)))
 (.seq (.ops [⟨(some 9), none, .mv (.c (.lit true 0 []))⟩])
 (.seq (.block 0 (.loop (.seq (.seq (.ops [⟨(some 24), none, .mv (.t 9)⟩, ⟨(some 25), none, .len false (.t 24)⟩, ⟨(some 26), none, .mv (.t 0)⟩, ⟨(some 27), none, .bin 0 .lss (.t 25) (.t 26)⟩])
 (.cond (.t 27) (.skip) (.exit 0)))
 (.seq (.block 1 (.seq (.ops [⟨(some 30), none, .mv (.t 1)⟩, ⟨(some 31), none, .bin 0 .neq (.t 30) (.c (.int .i64 3))⟩, ⟨(some 32), none, .mv (.t 31)⟩, ⟨(some 33), (some (32, false)), .mv (.t 8)⟩, ⟨(some 34), (some (32, false)), .conv .u64 (.t 33)⟩, ⟨(some 35), (some (32, false)), .call 76 [(.t 34)]⟩, ⟨(some 36), (some (32, false)), .mv (.t 7)⟩, ⟨(some 37), (some (32, false)), .bin 0 .quo (.t 36) (.c (.int .i64 2))⟩, ⟨(some 38), (some (32, false)), .bin 0 .eql (.t 35) (.t 37)⟩, ⟨(some 39), none, .pick (.t 32) (.c (.bool true)) (.t 38)⟩])
 (.cond (.t 39) (.ops [⟨(some 40), none, .mv (.t 9)⟩, ⟨(some 41), none, .mv (.t 8)⟩, ⟨(some 42), none, .mv (.t 7)⟩, ⟨(some 43), none, .call 81 [(.t 41), (.t 42)]⟩, ⟨(some 44), none, .bslice 9 1 1 [(.str [])] [(0, 1, (.t 43))]⟩, ⟨(some 45), none, .app 9 1 16 (.t 40) (.t 44)⟩, ⟨(some 9), none, .mv (.t 45)⟩]) (.skip))))
 (.ops [⟨(some 28), none, .mv (.t 8)⟩, ⟨(some 29), none, .bin 0 .add (.t 28) (.c (.int .i64 1))⟩, ⟨(some 8), none, .mv (.t 29)⟩])))))
 (.seq (.ops [⟨(some 46), none, .mv (.t 9)⟩, ⟨(some 47), none, .mv (.t 7)⟩, ⟨(some 48), none, .call 73 [(.t 46), (.t 47)]⟩, ⟨(some 4), none, .mv (.t 48)⟩, ⟨(some 5), none, .mv (.c (.int .i64 0))⟩])
 (.ret))))))))⟩
theorem c62 : compF Go.Proofs.Tryd.prog 62 = some a62 := by kernel_rfl
def a63 : AFn := ⟨5, [.t 2], .seq (.ops [⟨(some 2), none, .mv (.c (.lit true 0 []))⟩])
 (.seq (.ops [⟨(some 3), none, .mv (.t 0)⟩, ⟨(some 4), none, .call 68 [(.t 3), (.c (.int .i64 2))]⟩, ⟨(some 2), none, .mv (.t 4)⟩])
 (.ret))⟩
theorem c63 : compF Go.Proofs.Tryd.prog 63 = some a63 := by kernel_rfl
def a64 : AFn := ⟨30, [.t 2], .seq (.ops [⟨(some 2), none, .mv (.c (.lit true 0 []))⟩])
 (.seq (.ops [⟨(some 3), none, .mv (.c (.int .i64 1))⟩])
 (.seq (.block 0 (.loop (.seq (.seq (.ops [⟨(some 6), none, .mv (.t 3)⟩, ⟨(some 7), none, .bin 0 .shl (.c (.int .i64 1)) (.t 6)⟩, ⟨(some 8), none, .mv (.t 0)⟩, ⟨(some 9), none, .bin 0 .lss (.t 7) (.t 8)⟩])
 (.cond (.t 9) (.skip) (.exit 0)))
 (.block 1 (.ops [⟨(some 10), none, .mv (.t 3)⟩, ⟨(some 11), none, .bin 0 .add (.t 10) (.c (.int .i64 1))⟩, ⟨(some 3), none, .mv (.t 11)⟩])))))
 (.seq (.ops [⟨(some 4), none, .mv (.c (.lit true 0 []))⟩])
 (.seq (.seq (.ops [⟨(some 12), none, .mv (.t 0)⟩, ⟨(some 13), none, .mv (.c (.int .i64 0))⟩])
 (.block 2 (.loop (.seq (.ops [⟨(some 14), none, .bin 0 .lss (.t 13) (.t 12)⟩])
 (.seq (.cond (.t 14) (.skip) (.exit 2))
 (.seq (.block 3 (.seq (.ops [⟨(some 15), none, .mv (.t 13)⟩, ⟨(some 5), none, .mv (.t 15)⟩])
 (.ops [⟨(some 16), none, .mv (.t 4)⟩, ⟨(some 17), none, .mv (.t 5)⟩, ⟨(some 18), none, .mv (.t 3)⟩, ⟨(some 19), none, .call 123 [(.t 17), (.t 18)]⟩, ⟨(some 20), none, .mv (.t 5)⟩, ⟨(some 21), none, .mv (.t 3)⟩, ⟨(some 22), none, .call 123 [(.t 20), (.t 21)]⟩, ⟨(some 23), none, .call 124 [(.t 22)]⟩, ⟨(some 24), none, .bin 1 .add (.t 19) (.t 23)⟩, ⟨(some 25), none, .bslice 9 1 1 [(.str [])] [(0, 1, (.t 24))]⟩, ⟨(some 26), none, .app 9 1 16 (.t 16) (.t 25)⟩, ⟨(some 4), none, .mv (.t 26)⟩])))
 (.ops [⟨(some 27), none, .bin 0 .add (.t 13) (.c (.int .i64 1))⟩, ⟨(some 13), none, .mv (.t 27)⟩])))))))
 (.seq (.ops [⟨(some 28), none, .mv (.t 4)⟩, ⟨(some 29), none, .call 29 [(.t 28)]⟩, ⟨(some 2), none, .mv (.t 29)⟩])
 (.ret))))))⟩
theorem c64 : compF Go.Proofs.Tryd.prog 64 = some a64 := by kernel_rfl
def a65 : AFn := ⟨35, [.t 4], .seq (.ops [⟨(some 4), none, .mv (.c (.lit true 0 []))⟩])
 (.seq (.ops [⟨(some 9), none, .mv (.t 1)⟩, ⟨(some 10), none, .call 125 [(.t 9)]⟩, ⟨(some 11), none, .mv (.t 1)⟩, ⟨(some 12), none, .bin 0 .sub (.c (.int .i64 1)) (.t 11)⟩, ⟨(some 13), none, .call 125 [(.t 12)]⟩, ⟨(some 5), none, .mv (.t 10)⟩, ⟨(some 6), none, .mv (.t 13)⟩])
 (.seq (.ops [⟨(some 7), none, .mv (.c (.lit true 0 []))⟩])
 (.seq (.seq (.ops [⟨(some 14), none, .mv (.t 0)⟩, ⟨(some 15), none, .mv (.c (.int .i64 0))⟩])
 (.block 0 (.loop (.seq (.ops [⟨(some 16), none, .bin 0 .lss (.t 15) (.t 14)⟩])
 (.seq (.cond (.t 16) (.skip) (.exit 0))
 (.seq (.block 1 (.seq (.ops [⟨(some 17), none, .mv (.t 15)⟩, ⟨(some 8), none, .mv (.t 17)⟩])
 (.ops [⟨(some 18), none, .mv (.t 7)⟩, ⟨(some 19), none, .mv (.t 6)⟩, ⟨(some 20), none, .mv (.t 8)⟩, ⟨(some 21), none, .call 119 [(.t 19), (.t 20)]⟩, ⟨(some 22), none, .mv (.t 5)⟩, ⟨(some 23), none, .bin 1 .add (.t 21) (.t 22)⟩, ⟨(some 24), none, .mv (.t 6)⟩, ⟨(some 25), none, .mv (.t 0)⟩, ⟨(some 26), none, .bin 0 .sub (.t 25) (.c (.int .i64 1))⟩, ⟨(some 27), none, .mv (.t 8)⟩, ⟨(some 28), none, .bin 0 .sub (.t 26) (.t 27)⟩, ⟨(some 29), none, .call 119 [(.t 24), (.t 28)]⟩, ⟨(some 30), none, .bin 1 .add (.t 23) (.t 29)⟩, ⟨(some 31), none, .bslice 9 1 1 [(.str [])] [(0, 1, (.t 30))]⟩, ⟨(some 32), none, .app 9 1 16 (.t 18) (.t 31)⟩, ⟨(some 7), none, .mv (.t 32)⟩])))
 (.ops [⟨(some 33), none, .bin 0 .add (.t 15) (.c (.int .i64 1))⟩, ⟨(some 15), none, .mv (.t 33)⟩])))))))
 (.seq (.ops [⟨(some 34), none, .mv (.t 7)⟩, ⟨(some 4), none, .mv (.t 34)⟩])
 (.ret)))))⟩
theorem c65 : compF Go.Proofs.Tryd.prog 65 = some a65 := by kernel_rfl
def a66 : AFn := ⟨6, [.t 2], .seq (.ops [⟨(some 2), none, .mv (.c (.int .i64 0))⟩])
 (.seq (.seq (.ops [⟨(some 3), none, .mv (.t 0)⟩, ⟨(some 4), none, .call 89 [(.t 3), (.c (.int .i64 1)), (.c (.int .i64 3))]⟩, ⟨(some 5), none, .un .not (.t 4)⟩])
 (.cond (.t 5) (.seq (.ops [⟨(some 2), none, .mv (.c (.int .i64 4))⟩])
 (.ret)) (.skip)))
 (.seq (.ops [⟨(some 2), none, .mv (.c (.int .i64 0))⟩])
 (.ret)))⟩
theorem c66 : compF Go.Proofs.Tryd.prog 66 = some a66 := by kernel_rfl
def a67 : AFn := ⟨16, [.t 4], .seq (.ops [⟨(some 4), none, .mv (.c (.int .i64 0))⟩])
 (.seq (.ops [⟨(some 5), none, .mv (.c (.int .i64 0))⟩])
 (.seq (.block 0 (.loop (.seq (.seq (.ops [⟨(some 6), none, .mv (.t 5)⟩, ⟨(some 7), none, .mv (.t 1)⟩, ⟨(some 8), none, .mv (.t 0)⟩, ⟨(some 9), none, .call 126 [(.t 6), (.t 7), (.t 8)]⟩, ⟨(some 10), none, .len false (.t 9)⟩, ⟨(some 11), none, .mv (.t 0)⟩, ⟨(some 12), none, .bin 0 .lss (.t 10) (.t 11)⟩])
 (.cond (.t 12) (.skip) (.exit 0)))
 (.block 1 (.ops [⟨(some 13), none, .mv (.t 5)⟩, ⟨(some 14), none, .bin 0 .add (.t 13) (.c (.int .i64 1))⟩, ⟨(some 5), none, .mv (.t 14)⟩])))))
 (.seq (.ops [⟨(some 15), none, .mv (.t 5)⟩, ⟨(some 4), none, .mv (.t 15)⟩])
 (.ret))))⟩
theorem c67 : compF Go.Proofs.Tryd.prog 67 = some a67 := by kernel_rfl
def a68 : AFn := ⟨30, [.t 4], .seq (.ops [⟨(some 4), none, .mv (.c (.lit true 0 []))⟩])
 (.seq (.ops [⟨(some 9), none, .mv (.t 0)⟩, ⟨(some 10), none, .mv (.t 1)⟩, ⟨(some 11), none, .call 67 [(.t 9), (.t 10)]⟩, ⟨(some 5), none, .mv (.t 11)⟩])
 (.seq (.ops [⟨(some 6), none, .mv (.c (.lit true 0 []))⟩])
 (.seq (.seq (.ops [⟨(some 12), none, .mv (.t 5)⟩, ⟨(some 13), none, .mv (.t 1)⟩, ⟨(some 14), none, .mv (.t 0)⟩, ⟨(some 15), none, .call 126 [(.t 12), (.t 13), (.t 14)]⟩, ⟨(some 16), none, .len false (.t 15)⟩, ⟨(some 17), none, .mv (.c (.int .i64 0))⟩])
 (.block 0 (.loop (.seq (.ops [⟨(some 18), none, .bin 0 .lss (.t 17) (.t 16)⟩])
 (.seq (.cond (.t 18) (.skip) (.exit 0))
 (.seq (.block 1 (.seq (.ops [⟨(some 19), none, .iadr 1 (.t 15) (.t 17)⟩, ⟨(some 20), none, .load none (.t 19)⟩, ⟨(some 8), none, .mv (.t 20)⟩])
 (.ops [⟨(some 21), none, .mv (.t 6)⟩, ⟨(some 22), none, .mv (.t 8)⟩, ⟨(some 23), none, .mv (.t 5)⟩, ⟨(some 24), none, .call 123 [(.t 22), (.t 23)]⟩, ⟨(some 25), none, .bslice 9 1 1 [(.str [])] [(0, 1, (.t 24))]⟩, ⟨(some 26), none, .app 9 1 16 (.t 21) (.t 25)⟩, ⟨(some 6), none, .mv (.t 26)⟩])))
 (.ops [⟨(some 27), none, .bin 0 .add (.t 17) (.c (.int .i64 1))⟩, ⟨(some 17), none, .mv (.t 27)⟩])))))))
 (.seq (.ops [⟨(some 28), none, .mv (.t 6)⟩, ⟨(some 29), none, .call 29 [(.t 28)]⟩, ⟨(some 4), none, .mv (.t 29)⟩])
 (.ret)))))⟩
theorem c68 : compF Go.Proofs.Tryd.prog 68 = some a68 := by kernel_rfl
def a70 : AFn := ⟨61, [.t 2], .seq (.ops [⟨(some 2), none, .mv (.c (.lit true 0 []))⟩])
 (.seq (.seq (.ops [⟨(some 6), none, .mv (.t 0)⟩, ⟨(some 7), none, .len false (.t 6)⟩, ⟨(some 8), none, .bin 0 .lss (.t 7) (.c (.int .i64 2))⟩])
 (.cond (.t 8) (.seq (.ops [⟨(some 9), none, .mv (.t 0)⟩, ⟨(some 2), none, .mv (.t 9)⟩])
 (.ret)) (.skip)))
 (.seq (.seq (.ops [⟨(some 3), none, .mv (.c (.int .i64 1))⟩])
 (.block 0 (.loop (.seq (.seq (.ops [⟨(some 10), none, .mv (.t 3)⟩, ⟨(some 11), none, .mv (.t 0)⟩, ⟨(some 12), none, .len false (.t 11)⟩, ⟨(some 13), none, .bin 0 .lss (.t 10) (.t 12)⟩])
 (.cond (.t 13) (.skip) (.exit 0)))
 (.seq (.block 1 (.seq (.any [(⟨(some 16), none, .mv (.t 0)⟩, []), (⟨(some 17), none, .mv (.t 3)⟩, [0]), (⟨(some 18), none, .iadr 1 (.t 16) (.t 17)⟩, []), (⟨(some 19), none, .load none (.t 18)⟩, []), (⟨(some 20), none, .mv (.t 0)⟩, [0, 1, 2, 3]), (⟨(some 21), none, .mv (.t 3)⟩, [0, 1, 2, 3, 4]), (⟨(some 22), none, .bin 0 .sub (.t 21) (.c (.int .i64 1))⟩, [0, 1, 2, 3, 4]), (⟨(some 23), none, .iadr 1 (.t 20) (.t 22)⟩, [0, 1, 2, 3]), (⟨(some 24), none, .load none (.t 23)⟩, [0, 1, 2, 3]), (⟨(some 25), none, .bin 0 .eql (.t 19) (.t 24)⟩, [])])
 (.cond (.t 25) (.seq (.ops [⟨(some 26), none, .mv (.t 0)⟩, ⟨(some 27), none, .mv (.t 3)⟩, ⟨(some 28), none, .slc 1 (.t 26) (some (.t 27)) none⟩, ⟨(some 4), none, .mv (.t 28)⟩])
 (.seq (.seq (.ops [⟨(some 5), none, .mv (.c (.int .i64 1))⟩])
 (.block 2 (.loop (.seq (.seq (.ops [⟨(some 29), none, .mv (.t 5)⟩, ⟨(some 30), none, .mv (.t 4)⟩, ⟨(some 31), none, .len false (.t 30)⟩, ⟨(some 32), none, .bin 0 .lss (.t 29) (.t 31)⟩])
 (.cond (.t 32) (.skip) (.exit 2)))
 (.seq (.block 3 (.seq (.any [(⟨(some 35), none, .mv (.t 4)⟩, []), (⟨(some 36), none, .mv (.t 5)⟩, [0]), (⟨(some 37), none, .iadr 1 (.t 35) (.t 36)⟩, []), (⟨(some 38), none, .load none (.t 37)⟩, []), (⟨(some 39), none, .mv (.t 4)⟩, [0, 1, 2, 3]), (⟨(some 40), none, .mv (.t 5)⟩, [0, 1, 2, 3, 4]), (⟨(some 41), none, .bin 0 .sub (.t 40) (.c (.int .i64 1))⟩, [0, 1, 2, 3, 4]), (⟨(some 42), none, .iadr 1 (.t 39) (.t 41)⟩, [0, 1, 2, 3]), (⟨(some 43), none, .load none (.t 42)⟩, [0, 1, 2, 3]), (⟨(some 44), none, .bin 0 .neq (.t 38) (.t 43)⟩, [])])
 (.cond (.t 44) (.seq (.ops [⟨(some 45), none, .mv (.t 0)⟩, ⟨(some 46), none, .mv (.t 3)⟩, ⟨(some 47), none, .mv (.t 4)⟩, ⟨(some 48), none, .mv (.t 5)⟩, ⟨(some 49), none, .iadr 1 (.t 47) (.t 48)⟩, ⟨(some 50), none, .load none (.t 49)⟩, ⟨(some 51), none, .iadr 1 (.t 45) (.t 46)⟩, ⟨none, none, .store 1 (.t 51) (.t 50)⟩])
 (.ops [⟨(some 52), none, .mv (.t 3)⟩, ⟨(some 53), none, .bin 0 .add (.t 52) (.c (.int .i64 1))⟩, ⟨(some 3), none, .mv (.t 53)⟩])) (.skip))))
 (.ops [⟨(some 33), none, .mv (.t 5)⟩, ⟨(some 34), none, .bin 0 .add (.t 33) (.c (.int .i64 1))⟩, ⟨(some 5), none, .mv (.t 34)⟩]))))))
 (.seq (.ops [⟨(some 54), none, .mv (.t 0)⟩, ⟨(some 55), none, .mv (.t 3)⟩, ⟨(some 56), none, .slc 1 (.t 54) (some (.t 55)) none⟩, ⟨none, none, .clr [(.int .i64 0)] (.t 56)⟩])
 (.seq (.ops [⟨(some 57), none, .mv (.t 0)⟩, ⟨(some 58), none, .mv (.t 3)⟩, ⟨(some 59), none, .slc 1 (.t 57) none (some (.t 58))⟩, ⟨(some 2), none, .mv (.t 59)⟩])
 (.ret))))) (.skip))))
 (.ops [⟨(some 14), none, .mv (.t 3)⟩, ⟨(some 15), none, .bin 0 .add (.t 14) (.c (.int .i64 1))⟩, ⟨(some 3), none, .mv (.t 15)⟩]))))))
 (.seq (.ops [⟨(some 60), none, .mv (.t 0)⟩, ⟨(some 2), none, .mv (.t 60)⟩])
 (.ret))))⟩
def a73 : AFn := ⟨38, [.t 4], .seq (.ops [⟨(some 4), none, .mv (.c (.lit true 0 []))⟩])
 (.seq (.ops [⟨(some 5), none, .mv (.c (.lit true 0 []))⟩])
 (.seq (.seq (.ops [⟨(some 10), none, .mv (.t 1)⟩, ⟨(some 11), none, .mv (.c (.int .i64 0))⟩])
 (.block 0 (.loop (.seq (.ops [⟨(some 12), none, .bin 0 .lss (.t 11) (.t 10)⟩])
 (.seq (.cond (.t 12) (.skip) (.exit 0))
 (.seq (.block 1 (.seq (.ops [⟨(some 13), none, .mv (.t 11)⟩, ⟨(some 6), none, .mv (.t 13)⟩])
 (.seq (.ops [⟨(some 14), none, .mv (.t 0)⟩, ⟨(some 15), none, .len false (.t 14)⟩, ⟨(some 16), none, .mks 5 1 1 [(.int .u8 0)] (.t 15)⟩, ⟨(some 7), none, .mv (.t 16)⟩])
 (.seq (.seq (.ops [⟨(some 17), none, .mv (.t 0)⟩, ⟨(some 18), none, .len false (.t 17)⟩, ⟨(some 19), none, .mv (.c (.int .i64 0))⟩])
 (.block 2 (.loop (.seq (.ops [⟨(some 20), none, .bin 0 .lss (.t 19) (.t 18)⟩])
 (.seq (.cond (.t 20) (.skip) (.exit 2))
 (.seq (.block 3 (.seq (.ops [⟨(some 21), none, .mv (.t 19)⟩, ⟨(some 22), none, .iadr 1 (.t 17) (.t 19)⟩, ⟨(some 23), none, .load none (.t 22)⟩, ⟨(some 8), none, .mv (.t 21)⟩, ⟨(some 9), none, .mv (.t 23)⟩])
 (.ops [⟨(some 24), none, .mv (.t 7)⟩, ⟨(some 25), none, .mv (.t 8)⟩, ⟨(some 26), none, .mv (.t 9)⟩, ⟨(some 27), none, .mv (.t 6)⟩, ⟨(some 28), none, .idxs (.t 26) (.t 27)⟩, ⟨(some 29), none, .iadr 1 (.t 24) (.t 25)⟩, ⟨none, none, .store 1 (.t 29) (.t 28)⟩])))
 (.ops [⟨(some 30), none, .bin 0 .add (.t 19) (.c (.int .i64 1))⟩, ⟨(some 19), none, .mv (.t 30)⟩])))))))
 (.ops [⟨(some 31), none, .mv (.t 5)⟩, ⟨(some 32), none, .mv (.t 7)⟩, ⟨(some 33), none, .b2s (.t 32)⟩, ⟨(some 34), none, .bslice 9 1 1 [(.str [])] [(0, 1, (.t 33))]⟩, ⟨(some 35), none, .app 9 1 16 (.t 31) (.t 34)⟩, ⟨(some 5), none, .mv (.t 35)⟩])))))
 (.ops [⟨(some 36), none, .bin 0 .add (.t 11) (.c (.int .i64 1))⟩, ⟨(some 11), none, .mv (.t 36)⟩])))))))
 (.seq (.ops [⟨(some 37), none, .mv (.t 5)⟩, ⟨(some 4), none, .mv (.t 37)⟩])
 (.ret))))⟩
theorem c73 : compF Go.Proofs.Tryd.prog 73 = some a73 := by kernel_rfl
def a75 : AFn := ⟨38, [.t 4, .t 5], .seq (.ops [⟨(some 4), none, .mv (.c (.int .i64 0))⟩, ⟨(some 5), none, .mv (.c (.lit true 0 []))⟩])
 (.seq (.ops [⟨(some 9), none, .mmk (.i .u64) (.bool false)⟩, ⟨(some 6), none, .mv (.t 9)⟩])
 (.seq (.seq (.ops [⟨(some 10), none, .mv (.t 0)⟩, ⟨(some 11), none, .len false (.t 10)⟩, ⟨(some 12), none, .mv (.c (.int .i64 0))⟩])
 (.block 0 (.loop (.seq (.ops [⟨(some 13), none, .bin 0 .lss (.t 12) (.t 11)⟩])
 (.seq (.cond (.t 13) (.skip) (.exit 0))
 (.seq (.block 1 (.seq (.ops [⟨(some 14), none, .iadr 1 (.t 10) (.t 12)⟩, ⟨(some 15), none, .load none (.t 14)⟩, ⟨(some 8), none, .mv (.t 15)⟩])
 (.seq (.ops [⟨(some 16), none, .mv (.t 6)⟩, ⟨(some 17), none, .mv (.t 8)⟩, ⟨(some 18), none, .mv (.t 1)⟩, ⟨(some 19), none, .bin 0 .and (.t 17) (.t 18)⟩, ⟨none, none, .mup (.i .u64) (.t 16) (.t 19) (.c (.bool true))⟩])
 (.ops [⟨(some 20), none, .mv (.t 5)⟩, ⟨(some 21), none, .mv (.t 8)⟩, ⟨(some 22), none, .mv (.t 1)⟩, ⟨(some 23), none, .bin 0 .and (.t 21) (.t 22)⟩, ⟨(some 24), none, .bin 0 .neq (.t 23) (.c (.int .u64 0))⟩, ⟨(some 25), none, .mv (.t 24)⟩, ⟨(some 26), (some (25, true)), .mv (.t 8)⟩, ⟨(some 27), (some (25, true)), .mv (.t 1)⟩, ⟨(some 28), (some (25, true)), .bin 0 .and (.t 26) (.t 27)⟩, ⟨(some 29), (some (25, true)), .mv (.t 1)⟩, ⟨(some 30), (some (25, true)), .bin 0 .neq (.t 28) (.t 29)⟩, ⟨(some 31), none, .pick (.t 25) (.t 30) (.c (.bool false))⟩, ⟨(some 32), none, .bslice 4 1 1 [(.bool false)] [(0, 1, (.t 31))]⟩, ⟨(some 33), none, .app 4 1 1 (.t 20) (.t 32)⟩, ⟨(some 5), none, .mv (.t 33)⟩]))))
 (.ops [⟨(some 34), none, .bin 0 .add (.t 12) (.c (.int .i64 1))⟩, ⟨(some 12), none, .mv (.t 34)⟩])))))))
 (.seq (.ops [⟨(some 35), none, .mv (.t 6)⟩, ⟨(some 36), none, .mlen (.t 35)⟩, ⟨(some 37), none, .mv (.t 5)⟩, ⟨(some 4), none, .mv (.t 36)⟩, ⟨(some 5), none, .mv (.t 37)⟩])
 (.ret))))⟩
def a76 : AFn := ⟨8, [.t 2], .seq (.ops [⟨(some 2), none, .mv (.c (.int .i64 0))⟩])
 (.seq (.cond (.c (.bool false)) (.seq (.ops [⟨(some 3), none, .mv (.t 0)⟩, ⟨(some 4), none, .conv .u32 (.t 3)⟩, ⟨(some 5), none, .call 130 [(.t 4)]⟩, ⟨(some 2), none, .mv (.t 5)⟩])
 (.ret)) (.skip))
 (.seq (.ops [⟨(some 6), none, .mv (.t 0)⟩, ⟨(some 7), none, .call 131 [(.t 6)]⟩, ⟨(some 2), none, .mv (.t 7)⟩])
 (.ret)))⟩
theorem c76 : compF Go.Proofs.Tryd.prog 76 = some a76 := by kernel_rfl
def a78 : AFn := ⟨5, [.t 2], .seq (.ops [⟨(some 2), none, .mv (.c (.int .i64 0))⟩])
 (.seq (.seq (.ops [⟨(some 3), none, .mv (.t 0)⟩, ⟨(some 4), none, .call 91 [(.t 3), (.c (.int .i64 1)), (.c (.int .i64 100))]⟩])
 (.cond (.t 4) (.seq (.ops [⟨(some 2), none, .mv (.c (.int .i64 1))⟩])
 (.ret)) (.skip)))
 (.seq (.ops [⟨(some 2), none, .mv (.c (.int .i64 0))⟩])
 (.ret)))⟩
theorem c78 : compF Go.Proofs.Tryd.prog 78 = some a78 := by kernel_rfl
def a79 : AFn := ⟨12, [.t 4], .seq (.ops [⟨(some 4), none, .mv (.c (.int .i64 0))⟩])
 (.seq (.block 0 (.loop (.seq (.seq (.ops [⟨(some 5), none, .mv (.t 1)⟩, ⟨(some 6), none, .mv (.t 0)⟩, ⟨(some 7), none, .callv (.t 5) [(.t 6)]⟩, ⟨(some 8), none, .un .not (.t 7)⟩])
 (.cond (.t 8) (.skip) (.exit 0)))
 (.block 1 (.ops [⟨(some 9), none, .mv (.t 0)⟩, ⟨(some 10), none, .bin 0 .add (.t 9) (.c (.int .i64 1))⟩, ⟨(some 0), none, .mv (.t 10)⟩])))))
 (.seq (.ops [⟨(some 11), none, .mv (.t 0)⟩, ⟨(some 4), none, .mv (.t 11)⟩])
 (.ret)))⟩
theorem c79 : compF Go.Proofs.Tryd.prog 79 = some a79 := by kernel_rfl
def a80 : AFn := ⟨9, [.t 3], .seq (.ops [⟨(some 3), none, .mv (.c (.bool false))⟩])
 (.seq (.any [(⟨(some 4), none, .mv (.t 0)⟩, []), (⟨(some 5), none, .bin 0 .shl (.c (.int .i64 1)) (.t 4)⟩, []), (⟨(some 6), none, .bin 0 .sub (.t 5) (.c (.int .i64 2))⟩, []), (⟨(some 7), none, .load none (.t 1)⟩, [0, 1, 2]), (⟨(some 8), none, .bin 0 .geq (.t 6) (.t 7)⟩, []), (⟨(some 3), none, .mv (.t 8)⟩, [])])
 (.ret))⟩
theorem c80 : compF Go.Proofs.Tryd.prog 80 = some a80 := by kernel_rfl
def a81 : AFn := ⟨24, [.t 4], .seq (.ops [⟨(some 4), none, .mv (.c (.str []))⟩])
 (.seq (.ops [⟨(some 5), none, .mv (.c (.lit true 0 []))⟩])
 (.seq (.seq (.ops [⟨(some 7), none, .mv (.t 1)⟩, ⟨(some 8), none, .bin 0 .sub (.t 7) (.c (.int .i64 1))⟩, ⟨(some 6), none, .mv (.t 8)⟩])
 (.block 0 (.loop (.seq (.seq (.ops [⟨(some 9), none, .mv (.t 6)⟩, ⟨(some 10), none, .bin 0 .geq (.t 9) (.c (.int .i64 0))⟩])
 (.cond (.t 10) (.skip) (.exit 0)))
 (.seq (.block 1 (.ops [⟨(some 13), none, .mv (.t 5)⟩, ⟨(some 14), none, .mv (.t 0)⟩, ⟨(some 15), none, .mv (.t 6)⟩, ⟨(some 16), none, .bin 0 .shr (.t 14) (.t 15)⟩, ⟨(some 17), none, .bin 0 .and (.t 16) (.c (.int .i64 1))⟩, ⟨(some 18), none, .bin 0 .add (.c (.int .i64 48)) (.t 17)⟩, ⟨(some 19), none, .conv .u8 (.t 18)⟩, ⟨(some 20), none, .bslice 5 1 1 [(.int .u8 0)] [(0, 1, (.t 19))]⟩, ⟨(some 21), none, .app 5 1 1 (.t 13) (.t 20)⟩, ⟨(some 5), none, .mv (.t 21)⟩]))
 (.ops [⟨(some 11), none, .mv (.t 6)⟩, ⟨(some 12), none, .bin 0 .sub (.t 11) (.c (.int .i64 1))⟩, ⟨(some 6), none, .mv (.t 12)⟩]))))))
 (.seq (.ops [⟨(some 22), none, .mv (.t 5)⟩, ⟨(some 23), none, .b2s (.t 22)⟩, ⟨(some 4), none, .mv (.t 23)⟩])
 (.ret))))⟩
theorem c81 : compF Go.Proofs.Tryd.prog 81 = some a81 := by kernel_rfl
def a85 : AFn := ⟨64, [.t 4], .seq (.ops [⟨(some 4), none, .mv (.c (.int .i64 0))⟩])
 (.seq (.ops [⟨(some 7), none, .mv (.t 0)⟩, ⟨(some 8), none, .nilchk (.t 7)⟩, ⟨(some 9), none, .fadr 1 (.t 8)⟩, ⟨(some 10), none, .load none (.t 9)⟩, ⟨(some 11), none, .bin 0 .add (.t 10) (.c (.int .i64 1))⟩, ⟨(some 12), none, .nilchk (.t 7)⟩, ⟨(some 13), none, .fadr 1 (.t 12)⟩, ⟨none, none, .store 1 (.t 13) (.t 11)⟩])
 (.seq (.seq (.ops [⟨(some 14), none, .mv (.t 0)⟩, ⟨(some 15), none, .nilchk (.t 14)⟩, ⟨(some 16), none, .fadr 0 (.t 15)⟩, ⟨(some 17), none, .load none (.t 16)⟩, ⟨(some 18), none, .len false (.t 17)⟩, ⟨(some 19), none, .bin 0 .eql (.t 18) (.c (.int .i64 0))⟩])
 (.cond (.t 19) (.seq (.ops [⟨(some 20), none, .mv (.t 0)⟩, ⟨(some 21), none, .nilchk (.t 20)⟩, ⟨(some 22), none, .fadr 1 (.t 21)⟩, ⟨(some 23), none, .load none (.t 22)⟩, ⟨(some 24), none, .bin 0 .mul (.t 23) (.c (.int .i64 7919))⟩, ⟨(some 25), none, .mv (.t 1)⟩, ⟨(some 26), none, .call 137 [(.t 24), (.t 25)]⟩, ⟨(some 4), none, .mv (.t 26)⟩])
 (.ret)) (.skip)))
 (.seq (.any [(⟨(some 27), none, .mv (.t 0)⟩, []), (⟨(some 28), none, .nilchk (.t 27)⟩, []), (⟨(some 29), none, .fadr 1 (.t 28)⟩, []), (⟨(some 30), none, .load none (.t 29)⟩, []), (⟨(some 31), none, .bin 0 .sub (.t 30) (.c (.int .i64 1))⟩, []), (⟨(some 32), none, .mv (.t 0)⟩, [0, 1, 2, 3, 4]), (⟨(some 33), none, .nilchk (.t 32)⟩, [0, 1, 2, 3, 4]), (⟨(some 34), none, .fadr 0 (.t 33)⟩, [0, 1, 2, 3, 4]), (⟨(some 35), none, .load none (.t 34)⟩, [0, 1, 2, 3, 4]), (⟨(some 36), none, .len false (.t 35)⟩, [0, 1, 2, 3, 4]), (⟨(some 37), none, .bin 0 .rem (.t 31) (.t 36)⟩, []), (⟨(some 5), none, .mv (.t 37)⟩, [])])
 (.seq (.any [(⟨(some 38), none, .mv (.t 0)⟩, []), (⟨(some 39), none, .nilchk (.t 38)⟩, []), (⟨(some 40), none, .fadr 1 (.t 39)⟩, []), (⟨(some 41), none, .load none (.t 40)⟩, []), (⟨(some 42), none, .bin 0 .sub (.t 41) (.c (.int .i64 1))⟩, []), (⟨(some 43), none, .mv (.t 0)⟩, [0, 1, 2, 3, 4]), (⟨(some 44), none, .nilchk (.t 43)⟩, [0, 1, 2, 3, 4]), (⟨(some 45), none, .fadr 0 (.t 44)⟩, [0, 1, 2, 3, 4]), (⟨(some 46), none, .load none (.t 45)⟩, [0, 1, 2, 3, 4]), (⟨(some 47), none, .len false (.t 46)⟩, [0, 1, 2, 3, 4]), (⟨(some 48), none, .bin 0 .quo (.t 42) (.t 47)⟩, []), (⟨(some 6), none, .mv (.t 48)⟩, [])])
 (.seq (.ops [⟨(some 49), none, .mv (.t 0)⟩, ⟨(some 50), none, .nilchk (.t 49)⟩, ⟨(some 51), none, .fadr 0 (.t 50)⟩, ⟨(some 52), none, .load none (.t 51)⟩, ⟨(some 53), none, .mv (.t 5)⟩, ⟨(some 54), none, .iadr 1 (.t 52) (.t 53)⟩, ⟨(some 55), none, .load none (.t 54)⟩, ⟨(some 56), none, .call 137 [(.t 55), (.c (.int .i64 1073741824))]⟩, ⟨(some 57), none, .mv (.t 6)⟩, ⟨(some 58), none, .mv (.t 5)⟩, ⟨(some 59), none, .bin 0 .add (.c (.int .i64 7919)) (.t 58)⟩, ⟨(some 60), none, .bin 0 .mul (.t 57) (.t 59)⟩, ⟨(some 61), none, .bin 0 .add (.t 56) (.t 60)⟩, ⟨(some 62), none, .mv (.t 1)⟩, ⟨(some 63), none, .call 137 [(.t 61), (.t 62)]⟩, ⟨(some 4), none, .mv (.t 63)⟩])
 (.ret))))))⟩
theorem c85 : compF Go.Proofs.Tryd.prog 85 = some a85 := by kernel_rfl
def a89 : AFn := ⟨15, [.t 6], .seq (.ops [⟨(some 6), none, .mv (.c (.bool false))⟩])
 (.seq (.ops [⟨(some 7), none, .mv (.t 1)⟩, ⟨(some 8), none, .mv (.t 0)⟩, ⟨(some 9), none, .bin 0 .leq (.t 7) (.t 8)⟩, ⟨(some 10), none, .mv (.t 9)⟩, ⟨(some 11), (some (10, true)), .mv (.t 0)⟩, ⟨(some 12), (some (10, true)), .mv (.t 2)⟩, ⟨(some 13), (some (10, true)), .bin 0 .leq (.t 11) (.t 12)⟩, ⟨(some 14), none, .pick (.t 10) (.t 13) (.c (.bool false))⟩, ⟨(some 6), none, .mv (.t 14)⟩])
 (.ret))⟩
theorem c89 : compF Go.Proofs.Tryd.prog 89 = some a89 := by kernel_rfl
def a91 : AFn := ⟨15, [.t 6], .seq (.ops [⟨(some 6), none, .mv (.c (.bool false))⟩])
 (.seq (.ops [⟨(some 7), none, .mv (.t 0)⟩, ⟨(some 8), none, .mv (.t 1)⟩, ⟨(some 9), none, .bin 0 .lss (.t 7) (.t 8)⟩, ⟨(some 10), none, .mv (.t 9)⟩, ⟨(some 11), (some (10, false)), .mv (.t 0)⟩, ⟨(some 12), (some (10, false)), .mv (.t 2)⟩, ⟨(some 13), (some (10, false)), .bin 0 .gtr (.t 11) (.t 12)⟩, ⟨(some 14), none, .pick (.t 10) (.c (.bool true)) (.t 13)⟩, ⟨(some 6), none, .mv (.t 14)⟩])
 (.ret))⟩
theorem c91 : compF Go.Proofs.Tryd.prog 91 = some a91 := by kernel_rfl
def a100 : AFn := ⟨8, [.t 3], .seq (.ops [⟨(some 3), none, .mv (.c (.bool false))⟩])
 (.seq (.any [(⟨(some 4), none, .mv (.t 0)⟩, []), (⟨(some 5), none, .bin 0 .shl (.c (.int .i64 1)) (.t 4)⟩, []), (⟨(some 6), none, .load none (.t 1)⟩, [0, 1]), (⟨(some 7), none, .bin 0 .geq (.t 5) (.t 6)⟩, []), (⟨(some 3), none, .mv (.t 7)⟩, [])])
 (.ret))⟩
theorem c100 : compF Go.Proofs.Tryd.prog 100 = some a100 := by kernel_rfl
def a101 : AFn := ⟨21, [.t 2], .seq (.ops [⟨(some 2), none, .mv (.c (.str []))⟩])
 (.seq (.ops [⟨(some 5), none, .mv (.t 0)⟩, ⟨(some 6), none, .s2bo (.t 5)⟩, ⟨(some 3), none, .mv (.t 6)⟩])
 (.seq (.seq (.ops [⟨(some 7), none, .mv (.t 3)⟩, ⟨(some 8), none, .len false (.t 7)⟩, ⟨(some 9), none, .mv (.c (.int .i64 0))⟩])
 (.block 0 (.loop (.seq (.ops [⟨(some 10), none, .bin 0 .lss (.t 9) (.t 8)⟩])
 (.seq (.cond (.t 10) (.skip) (.exit 0))
 (.seq (.block 1 (.seq (.ops [⟨(some 11), none, .mv (.t 9)⟩, ⟨(some 4), none, .mv (.t 11)⟩])
 (.ops [⟨(some 12), none, .mv (.t 3)⟩, ⟨(some 13), none, .mv (.t 4)⟩, ⟨(some 14), none, .iadr 1 (.t 12) (.t 13)⟩, ⟨(some 15), none, .load none (.t 14)⟩, ⟨(some 16), none, .bin 0 .xor (.t 15) (.c (.int .u8 1))⟩, ⟨(some 17), none, .iadr 1 (.t 12) (.t 13)⟩, ⟨none, none, .store 1 (.t 17) (.t 16)⟩])))
 (.ops [⟨(some 18), none, .bin 0 .add (.t 9) (.c (.int .i64 1))⟩, ⟨(some 9), none, .mv (.t 18)⟩])))))))
 (.seq (.ops [⟨(some 19), none, .mv (.t 3)⟩, ⟨(some 20), none, .b2s (.t 19)⟩, ⟨(some 2), none, .mv (.t 20)⟩])
 (.ret))))⟩
theorem c101 : compF Go.Proofs.Tryd.prog 101 = some a101 := by kernel_rfl
def a105 : AFn := ⟨29, [.t 4], .seq (.ops [⟨(some 4), none, .mv (.c (.lit true 0 []))⟩])
 (.seq (.ops [⟨(some 9), none, .mv (.t 0)⟩, ⟨(some 10), none, .call 144 [(.t 9)]⟩, ⟨(some 5), none, .mv (.t 10)⟩])
 (.seq (.ops [⟨(some 6), none, .mv (.c (.lit true 0 []))⟩])
 (.seq (.seq (.ops [⟨(some 11), none, .mv (.t 1)⟩, ⟨(some 12), none, .len false (.t 11)⟩, ⟨(some 13), none, .mv (.c (.int .i64 0))⟩])
 (.block 0 (.loop (.seq (.ops [⟨(some 14), none, .bin 0 .lss (.t 13) (.t 12)⟩])
 (.seq (.cond (.t 14) (.skip) (.exit 0))
 (.seq (.block 1 (.seq (.ops [⟨(some 15), none, .iadr 2 (.t 11) (.t 13)⟩, ⟨(some 16), none, .load (some 2) (.t 15)⟩, ⟨(some 8), none, .alloc 128 [(.int .i64 0), (.lit true 0 [])]⟩, ⟨none, none, .store 2 (.t 8) (.t 16)⟩])
 (.any [(⟨(some 17), none, .mv (.t 6)⟩, []), (⟨(some 18), none, .mv (.t 5)⟩, [0]), (⟨(some 19), none, .load (some 2) (.t 8)⟩, [0, 1]), (⟨(some 20), none, .mv (.t 0)⟩, [0, 1, 2]), (⟨(some 21), none, .iadr 1 (.t 20) (.c (.int .i64 0))⟩, [0, 1, 2]), (⟨(some 22), none, .load none (.t 21)⟩, [0, 1, 2]), (⟨(some 23), none, .len true (.t 22)⟩, [0, 1, 2]), (⟨(some 24), none, .call 145 [(.t 18), (.t 19), (.t 23)]⟩, [0]), (⟨(some 25), none, .bslice 132 1 1 [(.int .u64 0)] [(0, 1, (.t 24))]⟩, [0]), (⟨(some 26), none, .app 132 1 8 (.t 17) (.t 25)⟩, []), (⟨(some 6), none, .mv (.t 26)⟩, [])])))
 (.ops [⟨(some 27), none, .bin 0 .add (.t 13) (.c (.int .i64 1))⟩, ⟨(some 13), none, .mv (.t 27)⟩])))))))
 (.seq (.ops [⟨(some 28), none, .mv (.t 6)⟩, ⟨(some 4), none, .mv (.t 28)⟩])
 (.ret)))))⟩
def a107 : AFn := ⟨30, [.t 4, .t 5], .seq (.ops [⟨(some 4), none, .mv (.c (.int .u64 0))⟩, ⟨(some 5), none, .mv (.c (.int .u64 0))⟩])
 (.seq (.cond (.c (.bool false)) (.seq (.ops [⟨(some 11), none, .mv (.t 0)⟩, ⟨(some 12), none, .conv .u32 (.t 11)⟩, ⟨(some 13), none, .mv (.t 1)⟩, ⟨(some 14), none, .conv .u32 (.t 13)⟩, ⟨(some 15), none, .call 147 [(.t 12), (.t 14)]⟩, ⟨(some 10), none, .mv (.t 15)⟩, ⟨(some 16), none, .ext (.t 10) 0⟩, ⟨(some 17), none, .ext (.t 10) 1⟩, ⟨(some 6), none, .mv (.t 16)⟩, ⟨(some 7), none, .mv (.t 17)⟩])
 (.seq (.ops [⟨(some 18), none, .mv (.t 6)⟩, ⟨(some 19), none, .conv .u64 (.t 18)⟩, ⟨(some 20), none, .mv (.t 7)⟩, ⟨(some 21), none, .conv .u64 (.t 20)⟩, ⟨(some 4), none, .mv (.t 19)⟩, ⟨(some 5), none, .mv (.t 21)⟩])
 (.ret))) (.skip))
 (.seq (.ops [⟨(some 23), none, .mv (.t 0)⟩, ⟨(some 24), none, .mv (.t 1)⟩, ⟨(some 25), none, .call 148 [(.t 23), (.t 24)]⟩, ⟨(some 22), none, .mv (.t 25)⟩, ⟨(some 26), none, .ext (.t 22) 0⟩, ⟨(some 27), none, .ext (.t 22) 1⟩, ⟨(some 8), none, .mv (.t 26)⟩, ⟨(some 9), none, .mv (.t 27)⟩])
 (.seq (.ops [⟨(some 28), none, .mv (.t 8)⟩, ⟨(some 29), none, .mv (.t 9)⟩, ⟨(some 4), none, .mv (.t 28)⟩, ⟨(some 5), none, .mv (.t 29)⟩])
 (.ret))))⟩
def a109 : AFn := ⟨25, [.t 4], .seq (.ops [⟨(some 4), none, .mv (.c (.bool false))⟩])
 (.seq (.ops [⟨(some 6), none, .load none (.t 1)⟩, ⟨(some 7), none, .mv (.t 0)⟩, ⟨(some 8), none, .call 110 [(.t 6), (.t 7)]⟩, ⟨(some 5), none, .mv (.t 8)⟩])
 (.seq (.any [(⟨(some 9), none, .load none (.t 2)⟩, []), (⟨(some 10), none, .mv (.t 5)⟩, [0]), (⟨(some 11), none, .call 111 [(.t 9), (.t 10)]⟩, []), (⟨(some 12), none, .load none (.t 2)⟩, [0, 1, 2]), (⟨(some 13), none, .load none (.t 1)⟩, [0, 1, 2, 3]), (⟨(some 14), none, .call 111 [(.t 12), (.t 13)]⟩, []), (⟨(some 15), none, .call 54 [(.t 11), (.t 14), (.c (.fn 47 []))]⟩, []), (⟨(some 16), none, .mv (.t 15)⟩, []), (⟨(some 17), (some (16, true)), .load none (.t 2)⟩, []), (⟨(some 18), (some (16, true)), .mv (.t 5)⟩, [8]), (⟨(some 19), (some (16, true)), .call 112 [(.t 17), (.t 18)]⟩, []), (⟨(some 20), (some (16, true)), .load none (.t 2)⟩, [8, 9, 10]), (⟨(some 21), (some (16, true)), .load none (.t 1)⟩, [8, 9, 10, 11]), (⟨(some 22), (some (16, true)), .call 112 [(.t 20), (.t 21)]⟩, []), (⟨(some 23), (some (16, true)), .call 47 [(.t 19), (.t 22)]⟩, []), (⟨(some 24), none, .pick (.t 16) (.t 23) (.c (.bool false))⟩, []), (⟨(some 4), none, .mv (.t 24)⟩, [])])
 (.ret)))⟩
def a119 : AFn := ⟨125, [.t 4], .seq (.ops [⟨(some 4), none, .mv (.c (.str []))⟩])
 (.seq (.seq (.ops [⟨(some 11), none, .mv (.t 1)⟩])
 (.block 0 (.seq (.ops [⟨(some 13), none, .bin 0 .eql (.t 11) (.c (.int .i64 0))⟩, ⟨(some 12), none, .mv (.t 13)⟩])
 (.cond (.t 12) (.seq (.ops [⟨(some 4), none, .mv (.c (.str []))⟩])
 (.ret)) (.seq (.ops [⟨(some 15), none, .bin 0 .eql (.t 11) (.c (.int .i64 1))⟩, ⟨(some 14), none, .mv (.t 15)⟩])
 (.cond (.t 14) (.seq (.ops [⟨(some 16), none, .mv (.t 0)⟩, ⟨(some 4), none, .mv (.t 16)⟩])
 (.ret)) (.skip)))))))
 (.seq (.seq (.ops [⟨(some 17), none, .mv (.t 1)⟩, ⟨(some 18), none, .bin 0 .lss (.t 17) (.c (.int .i64 0))⟩])
 (.cond (.t 18) (.ops [⟨(some 19), none, .bad⟩, ⟨none, none, .bad⟩]) (.skip)))
 (.seq (.ops [⟨(some 21), none, .mv (.t 0)⟩, ⟨(some 22), none, .len true (.t 21)⟩, ⟨(some 23), none, .conv .u64 (.t 22)⟩, ⟨(some 24), none, .mv (.t 1)⟩, ⟨(some 25), none, .conv .u64 (.t 24)⟩, ⟨(some 26), none, .call 107 [(.t 23), (.t 25)]⟩, ⟨(some 20), none, .mv (.t 26)⟩, ⟨(some 27), none, .ext (.t 20) 0⟩, ⟨(some 28), none, .ext (.t 20) 1⟩, ⟨(some 5), none, .mv (.t 27)⟩, ⟨(some 6), none, .mv (.t 28)⟩])
 (.seq (.seq (.ops [⟨(some 29), none, .mv (.t 5)⟩, ⟨(some 30), none, .bin 0 .gtr (.t 29) (.c (.int .u64 0))⟩, ⟨(some 31), none, .mv (.t 30)⟩, ⟨(some 32), (some (31, false)), .mv (.t 6)⟩, ⟨(some 33), (some (31, false)), .bin 0 .gtr (.t 32) (.c (.int .u64 9223372036854775807))⟩, ⟨(some 34), none, .pick (.t 31) (.c (.bool true)) (.t 33)⟩])
 (.cond (.t 34) (.ops [⟨(some 35), none, .bad⟩, ⟨none, none, .bad⟩]) (.skip)))
 (.seq (.ops [⟨(some 36), none, .mv (.t 6)⟩, ⟨(some 37), none, .conv .i64 (.t 36)⟩, ⟨(some 7), none, .mv (.t 37)⟩])
 (.seq (.seq (.ops [⟨(some 38), none, .mv (.t 0)⟩, ⟨(some 39), none, .len true (.t 38)⟩, ⟨(some 40), none, .bin 0 .eql (.t 39) (.c (.int .i64 0))⟩])
 (.cond (.t 40) (.seq (.ops [⟨(some 4), none, .mv (.c (.str []))⟩])
 (.ret)) (.skip)))
 (.seq (.seq (.ops [⟨(some 41), none, .mv (.t 0)⟩, ⟨(some 42), none, .idxs (.t 41) (.c (.int .i64 0))⟩])
 (.block 1 (.seq (.seq (.ops [⟨(some 44), none, .bin 0 .eql (.t 42) (.c (.int .u8 32))⟩, ⟨(some 43), none, .mv (.t 44)⟩])
 (.cond (.t 43) (.skip) (.seq (.ops [⟨(some 45), none, .bin 0 .eql (.t 42) (.c (.int .u8 45))⟩, ⟨(some 43), none, .mv (.t 45)⟩])
 (.cond (.t 43) (.skip) (.seq (.ops [⟨(some 46), none, .bin 0 .eql (.t 42) (.c (.int .u8 48))⟩, ⟨(some 43), none, .mv (.t 46)⟩])
 (.cond (.t 43) (.skip) (.seq (.ops [⟨(some 47), none, .bin 0 .eql (.t 42) (.c (.int .u8 61))⟩, ⟨(some 43), none, .mv (.t 47)⟩])
 (.cond (.t 43) (.skip) (.ops [⟨(some 48), none, .bin 0 .eql (.t 42) (.c (.int .u8 9))⟩, ⟨(some 43), none, .mv (.t 48)⟩])))))))))
 (.cond (.t 43) (.block 2 (.seq (.ops [⟨(some 50), none, .mv (.t 7)⟩, ⟨(some 51), none, .bin 0 .leq (.t 50) (.c (.int .i64 128))⟩, ⟨(some 52), none, .mv (.t 51)⟩, ⟨(some 53), (some (52, true)), .mv (.t 0)⟩, ⟨(some 54), (some (52, true)), .call 157 [(.c (.str [32, 32, 32, 32, 32, 32, 32, 32, 32, 32, 32, 32, 32, 32, 32, 32, 32, 32, 32, 32, 32, 32, 32, 32, 32, 32, 32, 32, 32, 32, 32, 32, 32, 32, 32, 32, 32, 32, 32, 32, 32, 32, 32, 32, 32, 32, 32, 32, 32, 32, 32, 32, 32, 32, 32, 32, 32, 32, 32, 32, 32, 32, 32, 32, 32, 32, 32, 32, 32, 32, 32, 32, 32, 32, 32, 32, 32, 32, 32, 32, 32, 32, 32, 32, 32, 32, 32, 32, 32, 32, 32, 32, 32, 32, 32, 32, 32, 32, 32, 32, 32, 32, 32, 32, 32, 32, 32, 32, 32, 32, 32, 32, 32, 32, 32, 32, 32, 32, 32, 32, 32, 32, 32, 32, 32, 32, 32, 32])), (.t 53)]⟩, ⟨(some 55), none, .pick (.t 52) (.t 54) (.c (.bool false))⟩, ⟨(some 49), none, .mv (.t 55)⟩])
 (.cond (.t 49) (.seq (.ops [⟨(some 56), none, .mv (.t 7)⟩, ⟨(some 57), none, .sls (.c (.str [32, 32, 32, 32, 32, 32, 32, 32, 32, 32, 32, 32, 32, 32, 32, 32, 32, 32, 32, 32, 32, 32, 32, 32, 32, 32, 32, 32, 32, 32, 32, 32, 32, 32, 32, 32, 32, 32, 32, 32, 32, 32, 32, 32, 32, 32, 32, 32, 32, 32, 32, 32, 32, 32, 32, 32, 32, 32, 32, 32, 32, 32, 32, 32, 32, 32, 32, 32, 32, 32, 32, 32, 32, 32, 32, 32, 32, 32, 32, 32, 32, 32, 32, 32, 32, 32, 32, 32, 32, 32, 32, 32, 32, 32, 32, 32, 32, 32, 32, 32, 32, 32, 32, 32, 32, 32, 32, 32, 32, 32, 32, 32, 32, 32, 32, 32, 32, 32, 32, 32, 32, 32, 32, 32, 32, 32, 32, 32])) none (some (.t 56))⟩, ⟨(some 4), none, .mv (.t 57)⟩])
 (.ret)) (.seq (.ops [⟨(some 59), none, .mv (.t 7)⟩, ⟨(some 60), none, .bin 0 .leq (.t 59) (.c (.int .i64 128))⟩, ⟨(some 61), none, .mv (.t 60)⟩, ⟨(some 62), (some (61, true)), .mv (.t 0)⟩, ⟨(some 63), (some (61, true)), .call 157 [(.c (.str [45, 45, 45, 45, 45, 45, 45, 45, 45, 45, 45, 45, 45, 45, 45, 45, 45, 45, 45, 45, 45, 45, 45, 45, 45, 45, 45, 45, 45, 45, 45, 45, 45, 45, 45, 45, 45, 45, 45, 45, 45, 45, 45, 45, 45, 45, 45, 45, 45, 45, 45, 45, 45, 45, 45, 45, 45, 45, 45, 45, 45, 45, 45, 45, 45, 45, 45, 45, 45, 45, 45, 45, 45, 45, 45, 45, 45, 45, 45, 45, 45, 45, 45, 45, 45, 45, 45, 45, 45, 45, 45, 45, 45, 45, 45, 45, 45, 45, 45, 45, 45, 45, 45, 45, 45, 45, 45, 45, 45, 45, 45, 45, 45, 45, 45, 45, 45, 45, 45, 45, 45, 45, 45, 45, 45, 45, 45, 45])), (.t 62)]⟩, ⟨(some 64), none, .pick (.t 61) (.t 63) (.c (.bool false))⟩, ⟨(some 58), none, .mv (.t 64)⟩])
 (.cond (.t 58) (.seq (.ops [⟨(some 65), none, .mv (.t 7)⟩, ⟨(some 66), none, .sls (.c (.str [45, 45, 45, 45, 45, 45, 45, 45, 45, 45, 45, 45, 45, 45, 45, 45, 45, 45, 45, 45, 45, 45, 45, 45, 45, 45, 45, 45, 45, 45, 45, 45, 45, 45, 45, 45, 45, 45, 45, 45, 45, 45, 45, 45, 45, 45, 45, 45, 45, 45, 45, 45, 45, 45, 45, 45, 45, 45, 45, 45, 45, 45, 45, 45, 45, 45, 45, 45, 45, 45, 45, 45, 45, 45, 45, 45, 45, 45, 45, 45, 45, 45, 45, 45, 45, 45, 45, 45, 45, 45, 45, 45, 45, 45, 45, 45, 45, 45, 45, 45, 45, 45, 45, 45, 45, 45, 45, 45, 45, 45, 45, 45, 45, 45, 45, 45, 45, 45, 45, 45, 45, 45, 45, 45, 45, 45, 45, 45])) none (some (.t 65))⟩, ⟨(some 4), none, .mv (.t 66)⟩])
 (.ret)) (.seq (.ops [⟨(some 68), none, .mv (.t 7)⟩, ⟨(some 69), none, .bin 0 .leq (.t 68) (.c (.int .i64 64))⟩, ⟨(some 70), none, .mv (.t 69)⟩, ⟨(some 71), (some (70, true)), .mv (.t 0)⟩, ⟨(some 72), (some (70, true)), .call 157 [(.c (.str [48, 48, 48, 48, 48, 48, 48, 48, 48, 48, 48, 48, 48, 48, 48, 48, 48, 48, 48, 48, 48, 48, 48, 48, 48, 48, 48, 48, 48, 48, 48, 48, 48, 48, 48, 48, 48, 48, 48, 48, 48, 48, 48, 48, 48, 48, 48, 48, 48, 48, 48, 48, 48, 48, 48, 48, 48, 48, 48, 48, 48, 48, 48, 48])), (.t 71)]⟩, ⟨(some 73), none, .pick (.t 70) (.t 72) (.c (.bool false))⟩, ⟨(some 67), none, .mv (.t 73)⟩])
 (.cond (.t 67) (.seq (.ops [⟨(some 74), none, .mv (.t 7)⟩, ⟨(some 75), none, .sls (.c (.str [48, 48, 48, 48, 48, 48, 48, 48, 48, 48, 48, 48, 48, 48, 48, 48, 48, 48, 48, 48, 48, 48, 48, 48, 48, 48, 48, 48, 48, 48, 48, 48, 48, 48, 48, 48, 48, 48, 48, 48, 48, 48, 48, 48, 48, 48, 48, 48, 48, 48, 48, 48, 48, 48, 48, 48, 48, 48, 48, 48, 48, 48, 48, 48])) none (some (.t 74))⟩, ⟨(some 4), none, .mv (.t 75)⟩])
 (.ret)) (.seq (.ops [⟨(some 77), none, .mv (.t 7)⟩, ⟨(some 78), none, .bin 0 .leq (.t 77) (.c (.int .i64 128))⟩, ⟨(some 79), none, .mv (.t 78)⟩, ⟨(some 80), (some (79, true)), .mv (.t 0)⟩, ⟨(some 81), (some (79, true)), .call 157 [(.c (.str [61, 61, 61, 61, 61, 61, 61, 61, 61, 61, 61, 61, 61, 61, 61, 61, 61, 61, 61, 61, 61, 61, 61, 61, 61, 61, 61, 61, 61, 61, 61, 61, 61, 61, 61, 61, 61, 61, 61, 61, 61, 61, 61, 61, 61, 61, 61, 61, 61, 61, 61, 61, 61, 61, 61, 61, 61, 61, 61, 61, 61, 61, 61, 61, 61, 61, 61, 61, 61, 61, 61, 61, 61, 61, 61, 61, 61, 61, 61, 61, 61, 61, 61, 61, 61, 61, 61, 61, 61, 61, 61, 61, 61, 61, 61, 61, 61, 61, 61, 61, 61, 61, 61, 61, 61, 61, 61, 61, 61, 61, 61, 61, 61, 61, 61, 61, 61, 61, 61, 61, 61, 61, 61, 61, 61, 61, 61, 61])), (.t 80)]⟩, ⟨(some 82), none, .pick (.t 79) (.t 81) (.c (.bool false))⟩, ⟨(some 76), none, .mv (.t 82)⟩])
 (.cond (.t 76) (.seq (.ops [⟨(some 83), none, .mv (.t 7)⟩, ⟨(some 84), none, .sls (.c (.str [61, 61, 61, 61, 61, 61, 61, 61, 61, 61, 61, 61, 61, 61, 61, 61, 61, 61, 61, 61, 61, 61, 61, 61, 61, 61, 61, 61, 61, 61, 61, 61, 61, 61, 61, 61, 61, 61, 61, 61, 61, 61, 61, 61, 61, 61, 61, 61, 61, 61, 61, 61, 61, 61, 61, 61, 61, 61, 61, 61, 61, 61, 61, 61, 61, 61, 61, 61, 61, 61, 61, 61, 61, 61, 61, 61, 61, 61, 61, 61, 61, 61, 61, 61, 61, 61, 61, 61, 61, 61, 61, 61, 61, 61, 61, 61, 61, 61, 61, 61, 61, 61, 61, 61, 61, 61, 61, 61, 61, 61, 61, 61, 61, 61, 61, 61, 61, 61, 61, 61, 61, 61, 61, 61, 61, 61, 61, 61])) none (some (.t 83))⟩, ⟨(some 4), none, .mv (.t 84)⟩])
 (.ret)) (.seq (.ops [⟨(some 86), none, .mv (.t 7)⟩, ⟨(some 87), none, .bin 0 .leq (.t 86) (.c (.int .i64 64))⟩, ⟨(some 88), none, .mv (.t 87)⟩, ⟨(some 89), (some (88, true)), .mv (.t 0)⟩, ⟨(some 90), (some (88, true)), .call 157 [(.c (.str [9, 9, 9, 9, 9, 9, 9, 9, 9, 9, 9, 9, 9, 9, 9, 9, 9, 9, 9, 9, 9, 9, 9, 9, 9, 9, 9, 9, 9, 9, 9, 9, 9, 9, 9, 9, 9, 9, 9, 9, 9, 9, 9, 9, 9, 9, 9, 9, 9, 9, 9, 9, 9, 9, 9, 9, 9, 9, 9, 9, 9, 9, 9, 9])), (.t 89)]⟩, ⟨(some 91), none, .pick (.t 88) (.t 90) (.c (.bool false))⟩, ⟨(some 85), none, .mv (.t 91)⟩])
 (.cond (.t 85) (.seq (.ops [⟨(some 92), none, .mv (.t 7)⟩, ⟨(some 93), none, .sls (.c (.str [9, 9, 9, 9, 9, 9, 9, 9, 9, 9, 9, 9, 9, 9, 9, 9, 9, 9, 9, 9, 9, 9, 9, 9, 9, 9, 9, 9, 9, 9, 9, 9, 9, 9, 9, 9, 9, 9, 9, 9, 9, 9, 9, 9, 9, 9, 9, 9, 9, 9, 9, 9, 9, 9, 9, 9, 9, 9, 9, 9, 9, 9, 9, 9])) none (some (.t 92))⟩, ⟨(some 4), none, .mv (.t 93)⟩])
 (.ret)) (.skip)))))))))))) (.skip)))))
 (.seq (.ops [⟨(some 94), none, .mv (.t 7)⟩, ⟨(some 8), none, .mv (.t 94)⟩])
 (.seq (.seq (.ops [⟨(some 95), none, .mv (.t 7)⟩, ⟨(some 96), none, .bin 0 .gtr (.t 95) (.c (.int .i64 8192))⟩])
 (.cond (.t 96) (.seq (.ops [⟨(some 97), none, .mv (.t 0)⟩, ⟨(some 98), none, .len true (.t 97)⟩, ⟨(some 99), none, .bin 0 .quo (.c (.int .i64 8192)) (.t 98)⟩, ⟨(some 100), none, .mv (.t 0)⟩, ⟨(some 101), none, .len true (.t 100)⟩, ⟨(some 102), none, .bin 0 .mul (.t 99) (.t 101)⟩, ⟨(some 8), none, .mv (.t 102)⟩])
 (.seq (.ops [⟨(some 103), none, .mv (.t 8)⟩, ⟨(some 104), none, .bin 0 .eql (.t 103) (.c (.int .i64 0))⟩])
 (.cond (.t 104) (.ops [⟨(some 105), none, .mv (.t 0)⟩, ⟨(some 106), none, .len true (.t 105)⟩, ⟨(some 8), none, .mv (.t 106)⟩]) (.skip)))) (.skip)))
 (.seq (.ops [⟨(some 9), none, .alloc 118 [.nilp, (.lit true 0 [])]⟩])
 (.seq (.ops [⟨(some 107), none, .mv (.t 7)⟩, ⟨(some 108), none, .call 158 [(.t 9), (.t 107)]⟩])
 (.seq (.ops [⟨(some 109), none, .mv (.t 0)⟩, ⟨(some 110), none, .call 94 [(.t 9), (.t 109)]⟩])
 (.seq (.block 3 (.loop (.seq (.seq (.ops [⟨(some 111), none, .call 159 [(.t 9)]⟩, ⟨(some 112), none, .mv (.t 7)⟩, ⟨(some 113), none, .bin 0 .lss (.t 111) (.t 112)⟩])
 (.cond (.t 113) (.skip) (.exit 3)))
 (.block 4 (.seq (.ops [⟨(some 114), none, .mv (.t 7)⟩, ⟨(some 115), none, .call 159 [(.t 9)]⟩, ⟨(some 116), none, .bin 0 .sub (.t 114) (.t 115)⟩, ⟨(some 117), none, .call 159 [(.t 9)]⟩, ⟨(some 118), none, .mv (.t 8)⟩, ⟨(some 119), none, .mm false (.t 116) [(.t 117), (.t 118)]⟩, ⟨(some 10), none, .mv (.t 119)⟩])
 (.ops [⟨(some 120), none, .call 95 [(.t 9)]⟩, ⟨(some 121), none, .mv (.t 10)⟩, ⟨(some 122), none, .sls (.t 120) none (some (.t 121))⟩, ⟨(some 123), none, .call 94 [(.t 9), (.t 122)]⟩]))))))
 (.seq (.ops [⟨(some 124), none, .call 95 [(.t 9)]⟩, ⟨(some 4), none, .mv (.t 124)⟩])
 (.ret)))))))))))))))⟩
theorem c119 : compF Go.Proofs.Tryd.prog 119 = some a119 := by kernel_rfl
def a120 : AFn := ⟨15, [.t 2], .seq (.ops [⟨(some 2), none, .mv (.c (.int .i64 0))⟩])
 (.seq (.seq (.ops [⟨(some 5), none, .mv (.t 0)⟩, ⟨(some 6), none, .len false (.t 5)⟩, ⟨(some 7), none, .mv (.c (.int .i64 0))⟩])
 (.block 0 (.loop (.seq (.ops [⟨(some 8), none, .bin 0 .lss (.t 7) (.t 6)⟩])
 (.seq (.cond (.t 8) (.skip) (.exit 0))
 (.seq (.block 1 (.seq (.ops [⟨(some 9), none, .iadr 1 (.t 5) (.t 7)⟩, ⟨(some 10), none, .load none (.t 9)⟩, ⟨(some 4), none, .mv (.t 10)⟩])
 (.seq (.ops [⟨(some 11), none, .mv (.t 4)⟩, ⟨(some 12), none, .bin 0 .neq (.t 11) (.c (.int .i64 0))⟩])
 (.cond (.t 12) (.seq (.ops [⟨(some 13), none, .mv (.t 4)⟩, ⟨(some 2), none, .mv (.t 13)⟩])
 (.ret)) (.skip)))))
 (.ops [⟨(some 14), none, .bin 0 .add (.t 7) (.c (.int .i64 1))⟩, ⟨(some 7), none, .mv (.t 14)⟩])))))))
 (.seq (.ops [⟨(some 2), none, .mv (.c (.int .i64 0))⟩])
 (.ret)))⟩
theorem c120 : compF Go.Proofs.Tryd.prog 120 = some a120 := by kernel_rfl
def a121 : AFn := ⟨5, [.t 2], .seq (.ops [⟨(some 2), none, .mv (.c (.int .i64 0))⟩])
 (.seq (.seq (.ops [⟨(some 3), none, .mv (.t 0)⟩, ⟨(some 4), none, .call 91 [(.t 3), (.c (.int .i64 1)), (.c (.int .i64 3))]⟩])
 (.cond (.t 4) (.seq (.ops [⟨(some 2), none, .mv (.c (.int .i64 4))⟩])
 (.ret)) (.skip)))
 (.seq (.ops [⟨(some 2), none, .mv (.c (.int .i64 0))⟩])
 (.ret)))⟩
theorem c121 : compF Go.Proofs.Tryd.prog 121 = some a121 := by kernel_rfl
def a122 : AFn := ⟨7, [.t 4], .seq (.ops [⟨(some 2), none, .box 3 (.t 0)⟩, ⟨(some 3), none, .box 3 (.t 1)⟩, ⟨(some 4), none, .mv (.c (.int .i64 0))⟩])
 (.seq (.ops [⟨(some 5), none, .mkfn 160 [(.t 3), (.t 2)]⟩, ⟨(some 6), none, .call 79 [(.c (.int .i64 0)), (.t 5)]⟩, ⟨(some 4), none, .mv (.t 6)⟩])
 (.ret))⟩
theorem c122 : compF Go.Proofs.Tryd.prog 122 = some a122 := by kernel_rfl
def a123 : AFn := ⟨17, [.t 4], .seq (.ops [⟨(some 4), none, .mv (.c (.str []))⟩])
 (.seq (.seq (.ops [⟨(some 6), none, .mv (.t 1)⟩, ⟨(some 7), none, .bin 0 .eql (.t 6) (.c (.int .i64 0))⟩])
 (.cond (.t 7) (.seq (.ops [⟨(some 4), none, .mv (.c (.str []))⟩])
 (.ret)) (.skip)))
 (.seq (.ops [⟨(some 8), none, .mv (.t 0)⟩, ⟨(some 9), none, .call 162 [(.t 8), (.c (.int .i64 2))]⟩, ⟨(some 5), none, .mv (.t 9)⟩])
 (.seq (.ops [⟨(some 10), none, .mv (.t 1)⟩, ⟨(some 11), none, .mv (.t 5)⟩, ⟨(some 12), none, .len true (.t 11)⟩, ⟨(some 13), none, .bin 0 .sub (.t 10) (.t 12)⟩, ⟨(some 14), none, .call 119 [(.c (.str [48])), (.t 13)]⟩, ⟨(some 15), none, .mv (.t 5)⟩, ⟨(some 16), none, .bin 1 .add (.t 14) (.t 15)⟩, ⟨(some 4), none, .mv (.t 16)⟩])
 (.ret))))⟩
theorem c123 : compF Go.Proofs.Tryd.prog 123 = some a123 := by kernel_rfl
def a124 : AFn := ⟨5, [.t 2], .seq (.ops [⟨(some 2), none, .mv (.c (.str []))⟩])
 (.seq (.ops [⟨(some 3), none, .mv (.t 0)⟩, ⟨(some 4), none, .call 163 [(.c (.fn 164 [])), (.t 3)]⟩, ⟨(some 2), none, .mv (.t 4)⟩])
 (.ret))⟩
theorem c124 : compF Go.Proofs.Tryd.prog 124 = some a124 := by kernel_rfl
def a126 : AFn := ⟨50, [.t 6], .seq (.ops [⟨(some 6), none, .mv (.c (.lit true 0 []))⟩])
 (.seq (.ops [⟨(some 7), none, .mv (.c (.lit true 0 []))⟩])
 (.seq (.seq (.ops [⟨(some 10), none, .mv (.t 0)⟩, ⟨(some 11), none, .bin 0 .shl (.c (.int .i64 1)) (.t 10)⟩, ⟨(some 12), none, .mv (.c (.int .i64 0))⟩])
 (.block 0 (.loop (.seq (.ops [⟨(some 13), none, .bin 0 .lss (.t 12) (.t 11)⟩])
 (.seq (.cond (.t 13) (.skip) (.exit 0))
 (.seq (.block 1 (.seq (.ops [⟨(some 14), none, .mv (.t 12)⟩, ⟨(some 8), none, .mv (.t 14)⟩])
 (.seq (.ops [⟨(some 15), none, .mv (.t 8)⟩, ⟨(some 16), none, .mv (.t 0)⟩, ⟨(some 17), none, .call 123 [(.t 15), (.t 16)]⟩, ⟨(some 18), none, .call 166 [(.t 17), (.c (.str [49]))]⟩, ⟨(some 9), none, .mv (.t 18)⟩])
 (.seq (.block 2 (.seq (.ops [⟨(some 24), none, .mv (.t 1)⟩, ⟨(some 25), none, .bin 0 .eql (.t 24) (.c (.int .i64 2))⟩, ⟨(some 26), none, .mv (.t 25)⟩, ⟨(some 27), (some (26, true)), .mv (.t 9)⟩, ⟨(some 28), (some (26, true)), .bin 0 .eql (.t 27) (.c (.int .i64 0))⟩, ⟨(some 29), (some (26, true)), .mv (.t 28)⟩, ⟨(some 30), (some (29, false)), .mv (.t 9)⟩, ⟨(some 31), (some (29, false)), .mv (.t 0)⟩, ⟨(some 32), (some (29, false)), .bin 0 .eql (.t 30) (.t 31)⟩, ⟨(some 33), (some (26, true)), .pick (.t 29) (.c (.bool true)) (.t 32)⟩, ⟨(some 34), none, .pick (.t 26) (.t 33) (.c (.bool false))⟩, ⟨(some 23), none, .mv (.t 34)⟩])
 (.cond (.t 23) (.skip) (.seq (.ops [⟨(some 36), none, .mv (.t 1)⟩, ⟨(some 37), none, .bin 0 .eql (.t 36) (.c (.int .i64 3))⟩, ⟨(some 38), none, .mv (.t 37)⟩, ⟨(some 39), (some (38, true)), .mv (.t 9)⟩, ⟨(some 40), (some (38, true)), .mv (.t 0)⟩, ⟨(some 41), (some (38, true)), .bin 0 .quo (.t 40) (.c (.int .i64 2))⟩, ⟨(some 42), (some (38, true)), .bin 0 .neq (.t 39) (.t 41)⟩, ⟨(some 43), none, .pick (.t 38) (.t 42) (.c (.bool false))⟩, ⟨(some 35), none, .mv (.t 43)⟩])
 (.cond (.t 35) (.skip) (.ops [⟨(some 19), none, .mv (.t 7)⟩, ⟨(some 20), none, .mv (.t 8)⟩, ⟨(some 21), none, .bslice 3 1 1 [(.int .i64 0)] [(0, 1, (.t 20))]⟩, ⟨(some 22), none, .app 3 1 8 (.t 19) (.t 21)⟩, ⟨(some 7), none, .mv (.t 22)⟩]))))))
 (.seq (.ops [⟨(some 44), none, .mv (.t 7)⟩, ⟨(some 45), none, .len false (.t 44)⟩, ⟨(some 46), none, .mv (.t 2)⟩, ⟨(some 47), none, .bin 0 .eql (.t 45) (.t 46)⟩])
 (.cond (.t 47) (.exit 0) (.skip)))))))
 (.ops [⟨(some 48), none, .bin 0 .add (.t 12) (.c (.int .i64 1))⟩, ⟨(some 12), none, .mv (.t 48)⟩])))))))
 (.seq (.ops [⟨(some 49), none, .mv (.t 7)⟩, ⟨(some 6), none, .mv (.t 49)⟩])
 (.ret))))⟩
theorem c126 : compF Go.Proofs.Tryd.prog 126 = some a126 := by kernel_rfl
def a127 : AFn := ⟨5, [.t 2], .seq (.ops [⟨(some 2), none, .mv (.c (.lit true 0 []))⟩])
 (.seq (.ops [⟨(some 3), none, .mv (.t 0)⟩, ⟨(some 4), none, .call 167 [(.c (.lit true 0 [])), (.t 3)]⟩, ⟨(some 2), none, .mv (.t 4)⟩])
 (.ret))⟩
def a131 : AFn := ⟨35, [.t 2], .seq (.ops [⟨(some 2), none, .mv (.c (.int .i64 0))⟩])
 (.seq (.ops [⟨(some 3), none, .mv (.t 0)⟩, ⟨(some 4), none, .bin 0 .shr (.t 3) (.c (.int .u64 1))⟩, ⟨(some 5), none, .bin 0 .and (.t 4) (.c (.int .u64 6148914691236517205))⟩, ⟨(some 6), none, .mv (.t 0)⟩, ⟨(some 7), none, .bin 0 .and (.t 6) (.c (.int .u64 6148914691236517205))⟩, ⟨(some 8), none, .bin 0 .add (.t 5) (.t 7)⟩, ⟨(some 0), none, .mv (.t 8)⟩])
 (.seq (.ops [⟨(some 9), none, .mv (.t 0)⟩, ⟨(some 10), none, .bin 0 .shr (.t 9) (.c (.int .u64 2))⟩, ⟨(some 11), none, .bin 0 .and (.t 10) (.c (.int .u64 3689348814741910323))⟩, ⟨(some 12), none, .mv (.t 0)⟩, ⟨(some 13), none, .bin 0 .and (.t 12) (.c (.int .u64 3689348814741910323))⟩, ⟨(some 14), none, .bin 0 .add (.t 11) (.t 13)⟩, ⟨(some 0), none, .mv (.t 14)⟩])
 (.seq (.ops [⟨(some 15), none, .mv (.t 0)⟩, ⟨(some 16), none, .bin 0 .shr (.t 15) (.c (.int .u64 4))⟩, ⟨(some 17), none, .mv (.t 0)⟩, ⟨(some 18), none, .bin 0 .add (.t 16) (.t 17)⟩, ⟨(some 19), none, .bin 0 .and (.t 18) (.c (.int .u64 1085102592571150095))⟩, ⟨(some 0), none, .mv (.t 19)⟩])
 (.seq (.ops [⟨(some 20), none, .mv (.t 0)⟩, ⟨(some 21), none, .mv (.t 0)⟩, ⟨(some 22), none, .bin 0 .shr (.t 21) (.c (.int .u64 8))⟩, ⟨(some 23), none, .bin 0 .add (.t 20) (.t 22)⟩, ⟨(some 0), none, .mv (.t 23)⟩])
 (.seq (.ops [⟨(some 24), none, .mv (.t 0)⟩, ⟨(some 25), none, .mv (.t 0)⟩, ⟨(some 26), none, .bin 0 .shr (.t 25) (.c (.int .u64 16))⟩, ⟨(some 27), none, .bin 0 .add (.t 24) (.t 26)⟩, ⟨(some 0), none, .mv (.t 27)⟩])
 (.seq (.ops [⟨(some 28), none, .mv (.t 0)⟩, ⟨(some 29), none, .mv (.t 0)⟩, ⟨(some 30), none, .bin 0 .shr (.t 29) (.c (.int .u64 32))⟩, ⟨(some 31), none, .bin 0 .add (.t 28) (.t 30)⟩, ⟨(some 0), none, .mv (.t 31)⟩])
 (.seq (.ops [⟨(some 32), none, .mv (.t 0)⟩, ⟨(some 33), none, .conv .i64 (.t 32)⟩, ⟨(some 34), none, .bin 0 .and (.t 33) (.c (.int .i64 127))⟩, ⟨(some 2), none, .mv (.t 34)⟩])
 (.ret))))))))⟩
theorem c131 : compF Go.Proofs.Tryd.prog 131 = some a131 := by kernel_rfl
def a137 : AFn := ⟨16, [.t 4], .seq (.ops [⟨(some 4), none, .mv (.c (.int .i64 0))⟩])
 (.seq (.seq (.ops [⟨(some 5), none, .mv (.t 1)⟩, ⟨(some 6), none, .bin 0 .lss (.t 5) (.c (.int .i64 1))⟩])
 (.cond (.t 6) (.seq (.ops [⟨(some 4), none, .mv (.c (.int .i64 0))⟩])
 (.ret)) (.skip)))
 (.seq (.ops [⟨(some 7), none, .mv (.t 0)⟩, ⟨(some 8), none, .mv (.t 1)⟩, ⟨(some 9), none, .bin 0 .rem (.t 7) (.t 8)⟩, ⟨(some 0), none, .mv (.t 9)⟩])
 (.seq (.seq (.ops [⟨(some 10), none, .mv (.t 0)⟩, ⟨(some 11), none, .bin 0 .lss (.t 10) (.c (.int .i64 0))⟩])
 (.cond (.t 11) (.ops [⟨(some 12), none, .mv (.t 0)⟩, ⟨(some 13), none, .mv (.t 1)⟩, ⟨(some 14), none, .bin 0 .add (.t 12) (.t 13)⟩, ⟨(some 0), none, .mv (.t 14)⟩]) (.skip)))
 (.seq (.ops [⟨(some 15), none, .mv (.t 0)⟩, ⟨(some 4), none, .mv (.t 15)⟩])
 (.ret)))))⟩
theorem c137 : compF Go.Proofs.Tryd.prog 137 = some a137 := by kernel_rfl
def a138 : AFn := ⟨43, [.t 4], .seq (.ops [⟨(some 4), none, .mv (.c (.str []))⟩])
 (.seq (.seq (.ops [⟨(some 7), none, .mv (.t 0)⟩, ⟨(some 8), none, .bin 1 .eql (.t 7) (.c (.str []))⟩, ⟨(some 9), none, .mv (.t 8)⟩, ⟨(some 10), (some (9, false)), .mv (.t 1)⟩, ⟨(some 11), (some (9, false)), .bin 1 .eql (.t 10) (.c (.str []))⟩, ⟨(some 12), none, .pick (.t 9) (.c (.bool true)) (.t 11)⟩])
 (.cond (.t 12) (.seq (.ops [⟨(some 13), none, .mv (.t 0)⟩, ⟨(some 4), none, .mv (.t 13)⟩])
 (.ret)) (.skip)))
 (.seq (.seq (.ops [⟨(some 14), none, .mv (.t 1)⟩, ⟨(some 15), none, .len true (.t 14)⟩, ⟨(some 16), none, .bin 0 .eql (.t 15) (.c (.int .i64 1))⟩, ⟨(some 17), none, .mv (.t 16)⟩, ⟨(some 18), (some (17, true)), .mv (.t 1)⟩, ⟨(some 19), (some (17, true)), .idxs (.t 18) (.c (.int .i64 0))⟩, ⟨(some 20), (some (17, true)), .bin 0 .lss (.t 19) (.c (.int .u8 128))⟩, ⟨(some 21), none, .pick (.t 17) (.t 20) (.c (.bool false))⟩])
 (.cond (.t 21) (.seq (.any [(⟨(some 22), none, .mv (.t 0)⟩, []), (⟨(some 23), none, .mv (.t 1)⟩, [0]), (⟨(some 24), none, .idxs (.t 23) (.c (.int .i64 0))⟩, [0]), (⟨(some 25), none, .call 177 [(.t 22), (.t 24)]⟩, []), (⟨(some 26), none, .mv (.t 1)⟩, [0, 1, 2, 3]), (⟨(some 27), none, .idxs (.t 26) (.c (.int .i64 0))⟩, [0, 1, 2, 3]), (⟨(some 28), none, .call 176 [(.t 25), (.t 27)]⟩, []), (⟨(some 4), none, .mv (.t 28)⟩, [])])
 (.ret)) (.skip)))
 (.seq (.seq (.ops [⟨(some 30), none, .mv (.t 1)⟩, ⟨(some 31), none, .call 178 [(.t 30)]⟩, ⟨(some 29), none, .mv (.t 31)⟩, ⟨(some 32), none, .ext (.t 29) 0⟩, ⟨(some 33), none, .ext (.t 29) 1⟩, ⟨(some 5), none, .alloc 188 [(.bool false), (.bool false), (.bool false), (.bool false), (.bool false), (.bool false), (.bool false), (.bool false), (.bool false), (.bool false), (.bool false), (.bool false), (.bool false), (.bool false), (.bool false), (.bool false), (.bool false), (.bool false), (.bool false), (.bool false), (.bool false), (.bool false), (.bool false), (.bool false), (.bool false), (.bool false), (.bool false), (.bool false), (.bool false), (.bool false), (.bool false), (.bool false), (.bool false), (.bool false), (.bool false), (.bool false), (.bool false), (.bool false), (.bool false), (.bool false), (.bool false), (.bool false), (.bool false), (.bool false), (.bool false), (.bool false), (.bool false), (.bool false), (.bool false), (.bool false), (.bool false), (.bool false), (.bool false), (.bool false), (.bool false), (.bool false), (.bool false), (.bool false), (.bool false), (.bool false), (.bool false), (.bool false), (.bool false), (.bool false), (.bool false), (.bool false), (.bool false), (.bool false), (.bool false), (.bool false), (.bool false), (.bool false), (.bool false), (.bool false), (.bool false), (.bool false), (.bool false), (.bool false), (.bool false), (.bool false), (.bool false), (.bool false), (.bool false), (.bool false), (.bool false), (.bool false), (.bool false), (.bool false), (.bool false), (.bool false), (.bool false), (.bool false), (.bool false), (.bool false), (.bool false), (.bool false), (.bool false), (.bool false), (.bool false), (.bool false), (.bool false), (.bool false), (.bool false), (.bool false), (.bool false), (.bool false), (.bool false), (.bool false), (.bool false), (.bool false), (.bool false), (.bool false), (.bool false), (.bool false), (.bool false), (.bool false), (.bool false), (.bool false), (.bool false), (.bool false), (.bool false), (.bool false), (.bool false), (.bool false), (.bool false), (.bool false), (.bool false), (.bool false), (.bool false), (.bool false), (.bool false), (.bool false), (.bool false), (.bool false), (.bool false), (.bool false), (.bool false), (.bool false), (.bool false), (.bool false), (.bool false), (.bool false), (.bool false), (.bool false), (.bool false), (.bool false), (.bool false), (.bool false), (.bool false), (.bool false), (.bool false), (.bool false), (.bool false), (.bool false), (.bool false), (.bool false), (.bool false), (.bool false), (.bool false), (.bool false), (.bool false), (.bool false), (.bool false), (.bool false), (.bool false), (.bool false), (.bool false), (.bool false), (.bool false), (.bool false), (.bool false), (.bool false), (.bool false), (.bool false), (.bool false), (.bool false), (.bool false), (.bool false), (.bool false), (.bool false), (.bool false), (.bool false), (.bool false), (.bool false), (.bool false), (.bool false), (.bool false), (.bool false), (.bool false), (.bool false), (.bool false), (.bool false), (.bool false), (.bool false), (.bool false), (.bool false), (.bool false), (.bool false), (.bool false), (.bool false), (.bool false), (.bool false), (.bool false), (.bool false), (.bool false), (.bool false), (.bool false), (.bool false), (.bool false), (.bool false), (.bool false), (.bool false), (.bool false), (.bool false), (.bool false), (.bool false), (.bool false), (.bool false), (.bool false), (.bool false), (.bool false), (.bool false), (.bool false), (.bool false), (.bool false), (.bool false), (.bool false), (.bool false), (.bool false), (.bool false), (.bool false), (.bool false), (.bool false), (.bool false), (.bool false), (.bool false), (.bool false), (.bool false), (.bool false), (.bool false), (.bool false), (.bool false), (.bool false), (.bool false), (.bool false), (.bool false), (.bool false), (.bool false), (.bool false), (.bool false), (.bool false), (.bool false), (.bool false), (.bool false), (.bool false), (.bool false)]⟩, ⟨none, none, .store 256 (.t 5) (.t 32)⟩, ⟨(some 6), none, .mv (.t 33)⟩])
 (.seq (.ops [⟨(some 34), none, .mv (.t 6)⟩])
 (.cond (.t 34) (.seq (.ops [⟨(some 35), none, .mv (.t 0)⟩, ⟨(some 36), none, .call 180 [(.t 35), (.t 5)]⟩, ⟨(some 37), none, .call 179 [(.t 36), (.t 5)]⟩, ⟨(some 4), none, .mv (.t 37)⟩])
 (.ret)) (.skip))))
 (.seq (.ops [⟨(some 38), none, .mv (.t 0)⟩, ⟨(some 39), none, .mv (.t 1)⟩, ⟨(some 40), none, .call 182 [(.t 38), (.t 39)]⟩, ⟨(some 41), none, .mv (.t 1)⟩, ⟨(some 42), none, .call 181 [(.t 40), (.t 41)]⟩, ⟨(some 4), none, .mv (.t 42)⟩])
 (.ret)))))⟩
theorem c138 : compF Go.Proofs.Tryd.prog 138 = some a138 := by kernel_rfl
def a146 : AFn := ⟨12, [.t 4], .seq (.ops [⟨(some 4), none, .mv (.c (.int .i64 0))⟩])
 (.seq (.block 0 (.loop (.seq (.seq (.ops [⟨(some 5), none, .mv (.t 1)⟩, ⟨(some 6), none, .bin 0 .neq (.t 5) (.c (.int .i64 0))⟩])
 (.cond (.t 6) (.skip) (.exit 0)))
 (.block 1 (.any [(⟨(some 7), none, .mv (.t 1)⟩, []), (⟨(some 8), none, .mv (.t 0)⟩, [0]), (⟨(some 9), none, .mv (.t 1)⟩, [0, 1]), (⟨(some 10), none, .bin 0 .rem (.t 8) (.t 9)⟩, [0]), (⟨(some 0), none, .mv (.t 7)⟩, [2, 3]), (⟨(some 1), none, .mv (.t 10)⟩, [])])))))
 (.seq (.ops [⟨(some 11), none, .mv (.t 0)⟩, ⟨(some 4), none, .mv (.t 11)⟩])
 (.ret)))⟩
def a148 : AFn := ⟨51, [.t 4, .t 5], .seq (.ops [⟨(some 4), none, .mv (.c (.int .u64 0))⟩, ⟨(some 5), none, .mv (.c (.int .u64 0))⟩])
 (.seq (.ops [⟨(some 14), none, .mv (.t 0)⟩, ⟨(some 15), none, .bin 0 .and (.t 14) (.c (.int .u64 4294967295))⟩, ⟨(some 6), none, .mv (.t 15)⟩])
 (.seq (.ops [⟨(some 16), none, .mv (.t 0)⟩, ⟨(some 17), none, .bin 0 .shr (.t 16) (.c (.int .u64 32))⟩, ⟨(some 7), none, .mv (.t 17)⟩])
 (.seq (.ops [⟨(some 18), none, .mv (.t 1)⟩, ⟨(some 19), none, .bin 0 .and (.t 18) (.c (.int .u64 4294967295))⟩, ⟨(some 8), none, .mv (.t 19)⟩])
 (.seq (.ops [⟨(some 20), none, .mv (.t 1)⟩, ⟨(some 21), none, .bin 0 .shr (.t 20) (.c (.int .u64 32))⟩, ⟨(some 9), none, .mv (.t 21)⟩])
 (.seq (.ops [⟨(some 22), none, .mv (.t 6)⟩, ⟨(some 23), none, .mv (.t 8)⟩, ⟨(some 24), none, .bin 0 .mul (.t 22) (.t 23)⟩, ⟨(some 10), none, .mv (.t 24)⟩])
 (.seq (.ops [⟨(some 25), none, .mv (.t 7)⟩, ⟨(some 26), none, .mv (.t 8)⟩, ⟨(some 27), none, .bin 0 .mul (.t 25) (.t 26)⟩, ⟨(some 28), none, .mv (.t 10)⟩, ⟨(some 29), none, .bin 0 .shr (.t 28) (.c (.int .u64 32))⟩, ⟨(some 30), none, .bin 0 .add (.t 27) (.t 29)⟩, ⟨(some 11), none, .mv (.t 30)⟩])
 (.seq (.ops [⟨(some 31), none, .mv (.t 11)⟩, ⟨(some 32), none, .bin 0 .and (.t 31) (.c (.int .u64 4294967295))⟩, ⟨(some 12), none, .mv (.t 32)⟩])
 (.seq (.ops [⟨(some 33), none, .mv (.t 11)⟩, ⟨(some 34), none, .bin 0 .shr (.t 33) (.c (.int .u64 32))⟩, ⟨(some 13), none, .mv (.t 34)⟩])
 (.seq (.ops [⟨(some 35), none, .mv (.t 12)⟩, ⟨(some 36), none, .mv (.t 6)⟩, ⟨(some 37), none, .mv (.t 9)⟩, ⟨(some 38), none, .bin 0 .mul (.t 36) (.t 37)⟩, ⟨(some 39), none, .bin 0 .add (.t 35) (.t 38)⟩, ⟨(some 12), none, .mv (.t 39)⟩])
 (.seq (.ops [⟨(some 40), none, .mv (.t 7)⟩, ⟨(some 41), none, .mv (.t 9)⟩, ⟨(some 42), none, .bin 0 .mul (.t 40) (.t 41)⟩, ⟨(some 43), none, .mv (.t 13)⟩, ⟨(some 44), none, .bin 0 .add (.t 42) (.t 43)⟩, ⟨(some 45), none, .mv (.t 12)⟩, ⟨(some 46), none, .bin 0 .shr (.t 45) (.c (.int .u64 32))⟩, ⟨(some 47), none, .bin 0 .add (.t 44) (.t 46)⟩, ⟨(some 4), none, .mv (.t 47)⟩])
 (.seq (.ops [⟨(some 48), none, .mv (.t 0)⟩, ⟨(some 49), none, .mv (.t 1)⟩, ⟨(some 50), none, .bin 0 .mul (.t 48) (.t 49)⟩, ⟨(some 5), none, .mv (.t 50)⟩])
 (.ret))))))))))))⟩
def a160 : AFn := ⟨29, [.t 4], .seq (.ops [⟨(some 4), none, .mv (.c (.bool false))⟩])
 (.seq (.seq (.ops [⟨(some 5), none, .load none (.t 1)⟩])
 (.block 0 (.seq (.ops [⟨(some 7), none, .bin 0 .eql (.t 5) (.c (.int .i64 1))⟩, ⟨(some 6), none, .mv (.t 7)⟩])
 (.cond (.t 6) (.seq (.any [(⟨(some 8), none, .mv (.t 0)⟩, []), (⟨(some 9), none, .bin 0 .shl (.c (.int .i64 1)) (.t 8)⟩, []), (⟨(some 10), none, .load none (.t 2)⟩, [0, 1]), (⟨(some 11), none, .bin 0 .geq (.t 9) (.t 10)⟩, []), (⟨(some 4), none, .mv (.t 11)⟩, [])])
 (.ret)) (.seq (.ops [⟨(some 13), none, .bin 0 .eql (.t 5) (.c (.int .i64 2))⟩, ⟨(some 12), none, .mv (.t 13)⟩])
 (.cond (.t 12) (.seq (.any [(⟨(some 14), none, .mv (.t 0)⟩, []), (⟨(some 15), none, .bin 0 .shl (.c (.int .i64 1)) (.t 14)⟩, []), (⟨(some 16), none, .bin 0 .sub (.t 15) (.c (.int .i64 2))⟩, []), (⟨(some 17), none, .load none (.t 2)⟩, [0, 1, 2]), (⟨(some 18), none, .bin 0 .geq (.t 16) (.t 17)⟩, []), (⟨(some 4), none, .mv (.t 18)⟩, [])])
 (.ret)) (.skip)))))))
 (.seq (.any [(⟨(some 19), none, .load none (.t 2)⟩, []), (⟨(some 20), none, .bin 0 .eql (.t 19) (.c (.int .i64 1))⟩, []), (⟨(some 21), none, .mv (.t 20)⟩, []), (⟨(some 22), (some (21, false)), .mv (.t 0)⟩, []), (⟨(some 23), (some (21, false)), .mv (.t 0)⟩, [3]), (⟨(some 24), (some (21, false)), .bin 0 .quo (.t 23) (.c (.int .i64 2))⟩, [3]), (⟨(some 25), (some (21, false)), .call 161 [(.t 22), (.t 24)]⟩, []), (⟨(some 26), (some (21, false)), .load none (.t 2)⟩, [3, 4, 5, 6]), (⟨(some 27), (some (21, false)), .bin 0 .geq (.t 25) (.t 26)⟩, []), (⟨(some 28), none, .pick (.t 21) (.c (.bool true)) (.t 27)⟩, []), (⟨(some 4), none, .mv (.t 28)⟩, [])])
 (.ret)))⟩
theorem c160 : compF Go.Proofs.Tryd.prog 160 = some a160 := by kernel_rfl
def a161 : AFn := ⟨21, [.t 4], .seq (.ops [⟨(some 4), none, .mv (.c (.int .i64 0))⟩])
 (.seq (.ops [⟨(some 5), none, .mv (.c (.int .i64 1))⟩])
 (.seq (.seq (.ops [⟨(some 7), none, .mv (.t 1)⟩, ⟨(some 8), none, .mv (.c (.int .i64 0))⟩])
 (.block 0 (.loop (.seq (.ops [⟨(some 9), none, .bin 0 .lss (.t 8) (.t 7)⟩])
 (.seq (.cond (.t 9) (.skip) (.exit 0))
 (.seq (.block 1 (.seq (.ops [⟨(some 10), none, .mv (.t 8)⟩, ⟨(some 6), none, .mv (.t 10)⟩])
 (.ops [⟨(some 11), none, .mv (.t 5)⟩, ⟨(some 12), none, .mv (.t 0)⟩, ⟨(some 13), none, .mv (.t 6)⟩, ⟨(some 14), none, .bin 0 .sub (.t 12) (.t 13)⟩, ⟨(some 15), none, .bin 0 .mul (.t 11) (.t 14)⟩, ⟨(some 16), none, .mv (.t 6)⟩, ⟨(some 17), none, .bin 0 .add (.t 16) (.c (.int .i64 1))⟩, ⟨(some 18), none, .bin 0 .quo (.t 15) (.t 17)⟩, ⟨(some 5), none, .mv (.t 18)⟩])))
 (.ops [⟨(some 19), none, .bin 0 .add (.t 8) (.c (.int .i64 1))⟩, ⟨(some 8), none, .mv (.t 19)⟩])))))))
 (.seq (.ops [⟨(some 20), none, .mv (.t 5)⟩, ⟨(some 4), none, .mv (.t 20)⟩])
 (.ret))))⟩
theorem c161 : compF Go.Proofs.Tryd.prog 161 = some a161 := by kernel_rfl
def a162 : AFn := ⟨8, [.t 4], .seq (.ops [⟨(some 4), none, .mv (.c (.str []))⟩])
 (.seq (.ops [⟨(some 5), none, .mv (.t 0)⟩, ⟨(some 6), none, .mv (.t 1)⟩, ⟨(some 7), none, .call 194 [(.t 5), (.t 6)]⟩, ⟨(some 4), none, .mv (.t 7)⟩])
 (.ret))⟩
theorem c162 : compF Go.Proofs.Tryd.prog 162 = some a162 := by kernel_rfl
def a164 : AFn := ⟨5, [.t 2], .seq (.ops [⟨(some 2), none, .mv (.c (.int .i32 0))⟩])
 (.seq (.ops [⟨(some 3), none, .mv (.t 0)⟩, ⟨(some 4), none, .bin 0 .sub (.c (.int .i32 97)) (.t 3)⟩, ⟨(some 2), none, .mv (.t 4)⟩])
 (.ret))⟩
def a171 : AFn := ⟨6, [.t 2], .seq (.ops [⟨(some 2), none, .mv (.c (.bool false))⟩])
 (.seq (.ops [⟨(some 3), none, .mv (.t 0)⟩, ⟨(some 4), none, .s2b (.t 3)⟩, ⟨(some 5), none, .call 213 [(.t 4), (.c (.fn 214 []))]⟩, ⟨(some 2), none, .mv (.t 5)⟩])
 (.ret))⟩
def a173 : AFn := ⟨32, [.t 4], .seq (.ops [⟨(some 2), none, .box 107 (.t 0)⟩, ⟨(some 3), none, .box 183 (.t 1)⟩, ⟨(some 4), none, .mv (.c (.int .u8 0))⟩])
 (.seq (.seq (.any [(⟨(some 5), none, .fadr 1 (.t 3)⟩, []), (⟨(some 6), none, .load none (.t 5)⟩, []), (⟨(some 7), none, .fadr 0 (.t 2)⟩, [0, 1]), (⟨(some 8), none, .load none (.t 7)⟩, [0, 1]), (⟨(some 9), none, .len false (.t 8)⟩, [0, 1]), (⟨(some 10), none, .bin 0 .sub (.t 9) (.c (.int .i64 1))⟩, [0, 1]), (⟨(some 11), none, .call 91 [(.t 6), (.c (.int .i64 0)), (.t 10)]⟩, []), (⟨(some 12), none, .mv (.t 11)⟩, []), (⟨(some 13), (some (12, false)), .fadr 0 (.t 3)⟩, []), (⟨(some 14), (some (12, false)), .load none (.t 13)⟩, []), (⟨(some 15), (some (12, false)), .fadr 0 (.t 2)⟩, [8, 9]), (⟨(some 16), (some (12, false)), .load none (.t 15)⟩, [8, 9]), (⟨(some 17), (some (12, false)), .iadr 1 (.t 16) (.c (.int .i64 0))⟩, [8, 9]), (⟨(some 18), (some (12, false)), .load none (.t 17)⟩, [8, 9]), (⟨(some 19), (some (12, false)), .len true (.t 18)⟩, [8, 9]), (⟨(some 20), (some (12, false)), .bin 0 .sub (.t 19) (.c (.int .i64 1))⟩, [8, 9]), (⟨(some 21), (some (12, false)), .call 91 [(.t 14), (.c (.int .i64 0)), (.t 20)]⟩, []), (⟨(some 22), none, .pick (.t 12) (.c (.bool true)) (.t 21)⟩, [])])
 (.cond (.t 22) (.seq (.ops [⟨(some 4), none, .mv (.c (.int .u8 46))⟩])
 (.ret)) (.skip)))
 (.seq (.any [(⟨(some 23), none, .fadr 0 (.t 2)⟩, []), (⟨(some 24), none, .load none (.t 23)⟩, []), (⟨(some 25), none, .fadr 1 (.t 3)⟩, [0, 1]), (⟨(some 26), none, .load none (.t 25)⟩, [0, 1]), (⟨(some 27), none, .iadr 1 (.t 24) (.t 26)⟩, []), (⟨(some 28), none, .load none (.t 27)⟩, []), (⟨(some 29), none, .fadr 0 (.t 3)⟩, [0, 1, 2, 3, 4, 5]), (⟨(some 30), none, .load none (.t 29)⟩, [0, 1, 2, 3, 4, 5]), (⟨(some 31), none, .idxs (.t 28) (.t 30)⟩, []), (⟨(some 4), none, .mv (.t 31)⟩, [])])
 (.ret)))⟩
def a194 : AFn := ⟨54, [.t 4], .seq (.ops [⟨(some 4), none, .mv (.c (.str []))⟩])
 (.seq (.seq (.ops [⟨(some 10), none, .mv (.t 1)⟩, ⟨(some 11), none, .bin 0 .eql (.t 10) (.c (.int .i64 10))⟩])
 (.cond (.t 11) (.seq (.seq (.ops [⟨(some 12), none, .mv (.t 0)⟩, ⟨(some 13), none, .bin 0 .leq (.c (.int .i64 0)) (.t 12)⟩, ⟨(some 14), none, .mv (.t 13)⟩, ⟨(some 15), (some (14, true)), .mv (.t 0)⟩, ⟨(some 16), (some (14, true)), .bin 0 .lss (.t 15) (.c (.int .i64 100))⟩, ⟨(some 17), none, .pick (.t 14) (.t 16) (.c (.bool false))⟩])
 (.cond (.t 17) (.seq (.ops [⟨(some 18), none, .mv (.t 0)⟩, ⟨(some 19), none, .call 227 [(.t 18)]⟩, ⟨(some 4), none, .mv (.t 19)⟩])
 (.ret)) (.skip)))
 (.seq (.ops [⟨(some 5), none, .allocb 223 24⟩])
 (.seq (.ops [⟨(some 20), none, .mv (.t 0)⟩, ⟨(some 21), none, .conv .u64 (.t 20)⟩, ⟨(some 6), none, .mv (.t 21)⟩])
 (.seq (.seq (.ops [⟨(some 22), none, .mv (.t 0)⟩, ⟨(some 23), none, .bin 0 .lss (.t 22) (.c (.int .i64 0))⟩])
 (.cond (.t 23) (.ops [⟨(some 24), none, .mv (.t 6)⟩, ⟨(some 25), none, .un .neg (.t 24)⟩, ⟨(some 6), none, .mv (.t 25)⟩]) (.skip)))
 (.seq (.ops [⟨(some 26), none, .mv (.t 6)⟩, ⟨(some 27), none, .call 228 [(.t 26)]⟩, ⟨(some 7), none, .mv (.t 27)⟩])
 (.seq (.ops [⟨(some 28), none, .mv (.t 7)⟩, ⟨(some 29), none, .bin 0 .add (.c (.int .i64 1)) (.t 28)⟩, ⟨(some 30), none, .slcb 24 (.t 5) (some (.c (.int .i64 1))) (some (.t 29))⟩, ⟨(some 31), none, .mv (.t 6)⟩, ⟨(some 32), none, .call 229 [(.t 30), (.t 31)]⟩])
 (.seq (.seq (.ops [⟨(some 33), none, .mv (.t 0)⟩, ⟨(some 34), none, .bin 0 .lss (.t 33) (.c (.int .i64 0))⟩])
 (.cond (.t 34) (.seq (.ops [⟨(some 35), none, .aadrb 24 (.t 5) (.c (.int .i64 0))⟩, ⟨none, none, .store 1 (.t 35) (.c (.int .u8 45))⟩])
 (.seq (.ops [⟨(some 36), none, .mv (.t 7)⟩, ⟨(some 37), none, .bin 0 .add (.c (.int .i64 1)) (.t 36)⟩, ⟨(some 38), none, .slcb 24 (.t 5) none (some (.t 37))⟩, ⟨(some 39), none, .b2s (.t 38)⟩, ⟨(some 4), none, .mv (.t 39)⟩])
 (.ret))) (.skip)))
 (.seq (.ops [⟨(some 40), none, .mv (.t 7)⟩, ⟨(some 41), none, .bin 0 .add (.c (.int .i64 1)) (.t 40)⟩, ⟨(some 42), none, .slcb 24 (.t 5) (some (.c (.int .i64 1))) (some (.t 41))⟩, ⟨(some 43), none, .b2s (.t 42)⟩, ⟨(some 4), none, .mv (.t 43)⟩])
 (.ret))))))))) (.skip)))
 (.seq (.ops [⟨(some 45), none, .mv (.t 0)⟩, ⟨(some 46), none, .conv .u64 (.t 45)⟩, ⟨(some 47), none, .mv (.t 1)⟩, ⟨(some 48), none, .mv (.t 0)⟩, ⟨(some 49), none, .bin 0 .lss (.t 48) (.c (.int .i64 0))⟩, ⟨(some 50), none, .call 230 [(.c (.lit true 0 [])), (.t 46), (.t 47), (.t 49), (.c (.bool false))]⟩, ⟨(some 44), none, .mv (.t 50)⟩, ⟨(some 51), none, .ext (.t 44) 0⟩, ⟨(some 52), none, .ext (.t 44) 1⟩, ⟨(some 8), none, .mv (.t 51)⟩, ⟨(some 9), none, .mv (.t 52)⟩])
 (.seq (.ops [⟨(some 53), none, .mv (.t 9)⟩, ⟨(some 4), none, .mv (.t 53)⟩])
 (.ret))))⟩
theorem c194 : compF Go.Proofs.Tryd.prog 194 = some a194 := by kernel_rfl
def a212 : AFn := ⟨25, [.t 2], .seq (.ops [⟨(some 2), none, .mv (.c (.int .i64 0))⟩])
 (.seq (.seq (.ops [⟨(some 3), none, .mv (.t 0)⟩, ⟨(some 4), none, .bin 0 .geq (.t 3) (.c (.int .u64 4294967296))⟩])
 (.cond (.t 4) (.seq (.ops [⟨(some 5), none, .mv (.t 0)⟩, ⟨(some 6), none, .bin 0 .shr (.t 5) (.c (.int .u64 32))⟩, ⟨(some 0), none, .mv (.t 6)⟩])
 (.ops [⟨(some 2), none, .mv (.c (.int .i64 32))⟩])) (.skip)))
 (.seq (.seq (.ops [⟨(some 7), none, .mv (.t 0)⟩, ⟨(some 8), none, .bin 0 .geq (.t 7) (.c (.int .u64 65536))⟩])
 (.cond (.t 8) (.seq (.ops [⟨(some 9), none, .mv (.t 0)⟩, ⟨(some 10), none, .bin 0 .shr (.t 9) (.c (.int .u64 16))⟩, ⟨(some 0), none, .mv (.t 10)⟩])
 (.ops [⟨(some 11), none, .mv (.t 2)⟩, ⟨(some 12), none, .bin 0 .add (.t 11) (.c (.int .i64 16))⟩, ⟨(some 2), none, .mv (.t 12)⟩])) (.skip)))
 (.seq (.seq (.ops [⟨(some 13), none, .mv (.t 0)⟩, ⟨(some 14), none, .bin 0 .geq (.t 13) (.c (.int .u64 256))⟩])
 (.cond (.t 14) (.seq (.ops [⟨(some 15), none, .mv (.t 0)⟩, ⟨(some 16), none, .bin 0 .shr (.t 15) (.c (.int .u64 8))⟩, ⟨(some 0), none, .mv (.t 16)⟩])
 (.ops [⟨(some 17), none, .mv (.t 2)⟩, ⟨(some 18), none, .bin 0 .add (.t 17) (.c (.int .i64 8))⟩, ⟨(some 2), none, .mv (.t 18)⟩])) (.skip)))
 (.seq (.ops [⟨(some 19), none, .mv (.t 2)⟩, ⟨(some 20), none, .mv (.t 0)⟩, ⟨(some 21), none, .conv .u8 (.t 20)⟩, ⟨(some 22), none, .idxs (.c (.str [0, 1, 2, 2, 3, 3, 3, 3, 4, 4, 4, 4, 4, 4, 4, 4, 5, 5, 5, 5, 5, 5, 5, 5, 5, 5, 5, 5, 5, 5, 5, 5, 6, 6, 6, 6, 6, 6, 6, 6, 6, 6, 6, 6, 6, 6, 6, 6, 6, 6, 6, 6, 6, 6, 6, 6, 6, 6, 6, 6, 6, 6, 6, 6, 7, 7, 7, 7, 7, 7, 7, 7, 7, 7, 7, 7, 7, 7, 7, 7, 7, 7, 7, 7, 7, 7, 7, 7, 7, 7, 7, 7, 7, 7, 7, 7, 7, 7, 7, 7, 7, 7, 7, 7, 7, 7, 7, 7, 7, 7, 7, 7, 7, 7, 7, 7, 7, 7, 7, 7, 7, 7, 7, 7, 7, 7, 7, 7, 8, 8, 8, 8, 8, 8, 8, 8, 8, 8, 8, 8, 8, 8, 8, 8, 8, 8, 8, 8, 8, 8, 8, 8, 8, 8, 8, 8, 8, 8, 8, 8, 8, 8, 8, 8, 8, 8, 8, 8, 8, 8, 8, 8, 8, 8, 8, 8, 8, 8, 8, 8, 8, 8, 8, 8, 8, 8, 8, 8, 8, 8, 8, 8, 8, 8, 8, 8, 8, 8, 8, 8, 8, 8, 8, 8, 8, 8, 8, 8, 8, 8, 8, 8, 8, 8, 8, 8, 8, 8, 8, 8, 8, 8, 8, 8, 8, 8, 8, 8, 8, 8, 8, 8, 8, 8, 8, 8, 8, 8, 8, 8, 8, 8, 8, 8, 8, 8, 8, 8, 8, 8, 8, 8, 8, 8, 8, 8])) (.t 21)⟩, ⟨(some 23), none, .conv .i64 (.t 22)⟩, ⟨(some 24), none, .bin 0 .add (.t 19) (.t 23)⟩, ⟨(some 2), none, .mv (.t 24)⟩])
 (.ret)))))⟩
def a213 : AFn := ⟨9, [.t 4], .seq (.ops [⟨(some 4), none, .mv (.c (.bool false))⟩])
 (.seq (.ops [⟨(some 5), none, .mv (.t 0)⟩, ⟨(some 6), none, .mv (.t 1)⟩, ⟨(some 7), none, .call 238 [(.t 5), (.t 6)]⟩, ⟨(some 8), none, .bin 0 .geq (.t 7) (.c (.int .i64 0))⟩, ⟨(some 4), none, .mv (.t 8)⟩])
 (.ret))⟩
def a230 : AFn := ⟨102, [.t 10, .t 11], .seq (.ops [⟨(some 10), none, .mv (.c (.lit true 0 []))⟩, ⟨(some 11), none, .mv (.c (.str []))⟩])
 (.seq (.seq (.ops [⟨(some 19), none, .mv (.t 2)⟩, ⟨(some 20), none, .bin 0 .lss (.t 19) (.c (.int .i64 2))⟩, ⟨(some 21), none, .mv (.t 20)⟩, ⟨(some 22), (some (21, false)), .mv (.t 2)⟩, ⟨(some 23), (some (21, false)), .bin 0 .eql (.t 22) (.c (.int .i64 10))⟩, ⟨(some 24), none, .pick (.t 21) (.c (.bool true)) (.t 23)⟩, ⟨(some 25), none, .mv (.t 24)⟩, ⟨(some 26), (some (25, false)), .mv (.t 2)⟩, ⟨(some 27), (some (25, false)), .bin 0 .gtr (.t 26) (.c (.int .i64 36))⟩, ⟨(some 28), none, .pick (.t 25) (.c (.bool true)) (.t 27)⟩])
 (.cond (.t 28) (.ops [⟨(some 29), none, .bad⟩, ⟨none, none, .bad⟩]) (.skip)))
 (.seq (.ops [⟨(some 12), none, .allocb 238 65⟩])
 (.seq (.ops [⟨(some 13), none, .mv (.c (.int .i64 65))⟩])
 (.seq (.seq (.ops [⟨(some 30), none, .mv (.t 3)⟩])
 (.cond (.t 30) (.ops [⟨(some 31), none, .mv (.t 1)⟩, ⟨(some 32), none, .un .neg (.t 31)⟩, ⟨(some 1), none, .mv (.t 32)⟩]) (.skip)))
 (.seq (.seq (.ops [⟨(some 33), none, .mv (.t 2)⟩, ⟨(some 34), none, .call 249 [(.t 33)]⟩])
 (.cond (.t 34) (.seq (.ops [⟨(some 35), none, .mv (.t 2)⟩, ⟨(some 36), none, .conv .u64 (.t 35)⟩, ⟨(some 37), none, .call 250 [(.t 36)]⟩, ⟨(some 38), none, .conv .u64 (.t 37)⟩, ⟨(some 14), none, .mv (.t 38)⟩])
 (.seq (.ops [⟨(some 39), none, .mv (.t 2)⟩, ⟨(some 40), none, .conv .u64 (.t 39)⟩, ⟨(some 15), none, .mv (.t 40)⟩])
 (.seq (.ops [⟨(some 41), none, .mv (.t 2)⟩, ⟨(some 42), none, .conv .u64 (.t 41)⟩, ⟨(some 43), none, .bin 0 .sub (.t 42) (.c (.int .u64 1))⟩, ⟨(some 16), none, .mv (.t 43)⟩])
 (.seq (.block 0 (.loop (.seq (.seq (.ops [⟨(some 44), none, .mv (.t 1)⟩, ⟨(some 45), none, .mv (.t 15)⟩, ⟨(some 46), none, .bin 0 .geq (.t 44) (.t 45)⟩])
 (.cond (.t 46) (.skip) (.exit 0)))
 (.block 1 (.seq (.ops [⟨(some 47), none, .mv (.t 13)⟩, ⟨(some 48), none, .bin 0 .sub (.t 47) (.c (.int .i64 1))⟩, ⟨(some 13), none, .mv (.t 48)⟩])
 (.seq (.ops [⟨(some 49), none, .mv (.t 13)⟩, ⟨(some 50), none, .mv (.t 1)⟩, ⟨(some 51), none, .mv (.t 16)⟩, ⟨(some 52), none, .bin 0 .and (.t 50) (.t 51)⟩, ⟨(some 53), none, .idxs (.c (.str [48, 49, 50, 51, 52, 53, 54, 55, 56, 57, 97, 98, 99, 100, 101, 102, 103, 104, 105, 106, 107, 108, 109, 110, 111, 112, 113, 114, 115, 116, 117, 118, 119, 120, 121, 122])) (.t 52)⟩, ⟨(some 54), none, .aadrb 65 (.t 12) (.t 49)⟩, ⟨none, none, .store 1 (.t 54) (.t 53)⟩])
 (.ops [⟨(some 55), none, .mv (.t 1)⟩, ⟨(some 56), none, .mv (.t 14)⟩, ⟨(some 57), none, .bin 0 .shr (.t 55) (.t 56)⟩, ⟨(some 1), none, .mv (.t 57)⟩])))))))
 (.seq (.ops [⟨(some 58), none, .mv (.t 13)⟩, ⟨(some 59), none, .bin 0 .sub (.t 58) (.c (.int .i64 1))⟩, ⟨(some 13), none, .mv (.t 59)⟩])
 (.ops [⟨(some 60), none, .mv (.t 13)⟩, ⟨(some 61), none, .mv (.t 1)⟩, ⟨(some 62), none, .idxs (.c (.str [48, 49, 50, 51, 52, 53, 54, 55, 56, 57, 97, 98, 99, 100, 101, 102, 103, 104, 105, 106, 107, 108, 109, 110, 111, 112, 113, 114, 115, 116, 117, 118, 119, 120, 121, 122])) (.t 61)⟩, ⟨(some 63), none, .aadrb 65 (.t 12) (.t 60)⟩, ⟨none, none, .store 1 (.t 63) (.t 62)⟩])))))) (.seq (.ops [⟨(some 64), none, .mv (.t 2)⟩, ⟨(some 65), none, .conv .u64 (.t 64)⟩, ⟨(some 17), none, .mv (.t 65)⟩])
 (.seq (.block 2 (.loop (.seq (.seq (.ops [⟨(some 66), none, .mv (.t 1)⟩, ⟨(some 67), none, .mv (.t 17)⟩, ⟨(some 68), none, .bin 0 .geq (.t 66) (.t 67)⟩])
 (.cond (.t 68) (.skip) (.exit 2)))
 (.block 3 (.seq (.ops [⟨(some 69), none, .mv (.t 13)⟩, ⟨(some 70), none, .bin 0 .sub (.t 69) (.c (.int .i64 1))⟩, ⟨(some 13), none, .mv (.t 70)⟩])
 (.seq (.ops [⟨(some 71), none, .mv (.t 1)⟩, ⟨(some 72), none, .mv (.t 17)⟩, ⟨(some 73), none, .bin 0 .quo (.t 71) (.t 72)⟩, ⟨(some 18), none, .mv (.t 73)⟩])
 (.seq (.ops [⟨(some 74), none, .mv (.t 13)⟩, ⟨(some 75), none, .mv (.t 1)⟩, ⟨(some 76), none, .mv (.t 18)⟩, ⟨(some 77), none, .mv (.t 17)⟩, ⟨(some 78), none, .bin 0 .mul (.t 76) (.t 77)⟩, ⟨(some 79), none, .bin 0 .sub (.t 75) (.t 78)⟩, ⟨(some 80), none, .idxs (.c (.str [48, 49, 50, 51, 52, 53, 54, 55, 56, 57, 97, 98, 99, 100, 101, 102, 103, 104, 105, 106, 107, 108, 109, 110, 111, 112, 113, 114, 115, 116, 117, 118, 119, 120, 121, 122])) (.t 79)⟩, ⟨(some 81), none, .aadrb 65 (.t 12) (.t 74)⟩, ⟨none, none, .store 1 (.t 81) (.t 80)⟩])
 (.ops [⟨(some 82), none, .mv (.t 18)⟩, ⟨(some 1), none, .mv (.t 82)⟩]))))))))
 (.seq (.ops [⟨(some 83), none, .mv (.t 13)⟩, ⟨(some 84), none, .bin 0 .sub (.t 83) (.c (.int .i64 1))⟩, ⟨(some 13), none, .mv (.t 84)⟩])
 (.ops [⟨(some 85), none, .mv (.t 13)⟩, ⟨(some 86), none, .mv (.t 1)⟩, ⟨(some 87), none, .idxs (.c (.str [48, 49, 50, 51, 52, 53, 54, 55, 56, 57, 97, 98, 99, 100, 101, 102, 103, 104, 105, 106, 107, 108, 109, 110, 111, 112, 113, 114, 115, 116, 117, 118, 119, 120, 121, 122])) (.t 86)⟩, ⟨(some 88), none, .aadrb 65 (.t 12) (.t 85)⟩, ⟨none, none, .store 1 (.t 88) (.t 87)⟩]))))))
 (.seq (.seq (.ops [⟨(some 89), none, .mv (.t 3)⟩])
 (.cond (.t 89) (.seq (.ops [⟨(some 90), none, .mv (.t 13)⟩, ⟨(some 91), none, .bin 0 .sub (.t 90) (.c (.int .i64 1))⟩, ⟨(some 13), none, .mv (.t 91)⟩])
 (.ops [⟨(some 92), none, .mv (.t 13)⟩, ⟨(some 93), none, .aadrb 65 (.t 12) (.t 92)⟩, ⟨none, none, .store 1 (.t 93) (.c (.int .u8 45))⟩])) (.skip)))
 (.seq (.seq (.ops [⟨(some 94), none, .mv (.t 4)⟩])
 (.cond (.t 94) (.seq (.ops [⟨(some 95), none, .mv (.t 0)⟩, ⟨(some 96), none, .mv (.t 13)⟩, ⟨(some 97), none, .slcb 65 (.t 12) (some (.t 96)) none⟩, ⟨(some 98), none, .app 5 1 1 (.t 95) (.t 97)⟩, ⟨(some 10), none, .mv (.t 98)⟩])
 (.ret)) (.skip)))
 (.seq (.ops [⟨(some 99), none, .mv (.t 13)⟩, ⟨(some 100), none, .slcb 65 (.t 12) (some (.t 99)) none⟩, ⟨(some 101), none, .b2s (.t 100)⟩, ⟨(some 11), none, .mv (.t 101)⟩])
 (.ret)))))))))⟩
theorem c230 : compF Go.Proofs.Tryd.prog 230 = some a230 := by kernel_rfl
def a232 : AFn := ⟨16, [.t 4], .seq (.ops [⟨(some 4), none, .mv (.c (.lit true 0 []))⟩])
 (.seq (.seq (.ops [⟨(some 5), none, .mv (.t 1)⟩, ⟨(some 6), none, .conv .u32 (.t 5)⟩, ⟨(some 7), none, .bin 0 .leq (.t 6) (.c (.int .u32 127))⟩])
 (.cond (.t 7) (.seq (.ops [⟨(some 8), none, .mv (.t 0)⟩, ⟨(some 9), none, .mv (.t 1)⟩, ⟨(some 10), none, .conv .u8 (.t 9)⟩, ⟨(some 11), none, .bslice 5 1 1 [(.int .u8 0)] [(0, 1, (.t 10))]⟩, ⟨(some 12), none, .app 5 1 1 (.t 8) (.t 11)⟩, ⟨(some 4), none, .mv (.t 12)⟩])
 (.ret)) (.skip)))
 (.seq (.ops [⟨(some 13), none, .mv (.t 0)⟩, ⟨(some 14), none, .mv (.t 1)⟩, ⟨(some 15), none, .call 251 [(.t 13), (.t 14)]⟩, ⟨(some 4), none, .mv (.t 15)⟩])
 (.ret)))⟩
def a233 : AFn := ⟨76, [], .seq (.ops [⟨(some 10), none, .mv (.t 1)⟩, ⟨(some 8), none, .mv (.t 10)⟩])
 (.block 0 (.loop (.block 1 (.seq (.ops [⟨(some 11), none, .mv (.t 8)⟩, ⟨(some 12), none, .bin 0 .mul (.c (.int .i64 2)) (.t 11)⟩, ⟨(some 13), none, .bin 0 .add (.t 12) (.c (.int .i64 1))⟩, ⟨(some 9), none, .mv (.t 13)⟩])
 (.seq (.seq (.ops [⟨(some 14), none, .mv (.t 9)⟩, ⟨(some 15), none, .mv (.t 2)⟩, ⟨(some 16), none, .bin 0 .geq (.t 14) (.t 15)⟩])
 (.cond (.t 16) (.exit 0) (.skip)))
 (.seq (.seq (.any [(⟨(some 17), none, .mv (.t 9)⟩, []), (⟨(some 18), none, .bin 0 .add (.t 17) (.c (.int .i64 1))⟩, []), (⟨(some 19), none, .mv (.t 2)⟩, [0, 1]), (⟨(some 20), none, .bin 0 .lss (.t 18) (.t 19)⟩, []), (⟨(some 21), none, .mv (.t 20)⟩, []), (⟨(some 22), (some (21, true)), .mv (.t 0)⟩, []), (⟨(some 23), (some (21, true)), .mv (.t 3)⟩, [5]), (⟨(some 24), (some (21, true)), .mv (.t 9)⟩, [5, 6]), (⟨(some 25), (some (21, true)), .bin 0 .add (.t 23) (.t 24)⟩, [5]), (⟨(some 26), (some (21, true)), .iadr 1 (.t 22) (.t 25)⟩, []), (⟨(some 27), (some (21, true)), .load none (.t 26)⟩, []), (⟨(some 28), (some (21, true)), .mv (.t 0)⟩, [5, 6, 7, 8, 9, 10]), (⟨(some 29), (some (21, true)), .mv (.t 3)⟩, [5, 6, 7, 8, 9, 10, 11]), (⟨(some 30), (some (21, true)), .mv (.t 9)⟩, [5, 6, 7, 8, 9, 10, 11, 12]), (⟨(some 31), (some (21, true)), .bin 0 .add (.t 29) (.t 30)⟩, [5, 6, 7, 8, 9, 10, 11]), (⟨(some 32), (some (21, true)), .bin 0 .add (.t 31) (.c (.int .i64 1))⟩, [5, 6, 7, 8, 9, 10, 11]), (⟨(some 33), (some (21, true)), .iadr 1 (.t 28) (.t 32)⟩, [5, 6, 7, 8, 9, 10]), (⟨(some 34), (some (21, true)), .load none (.t 33)⟩, [5, 6, 7, 8, 9, 10]), (⟨(some 35), (some (21, true)), .call 208 [(.t 27), (.t 34)]⟩, []), (⟨(some 36), none, .pick (.t 21) (.t 35) (.c (.bool false))⟩, [])])
 (.cond (.t 36) (.ops [⟨(some 37), none, .mv (.t 9)⟩, ⟨(some 38), none, .bin 0 .add (.t 37) (.c (.int .i64 1))⟩, ⟨(some 9), none, .mv (.t 38)⟩]) (.skip)))
 (.seq (.seq (.any [(⟨(some 39), none, .mv (.t 0)⟩, []), (⟨(some 40), none, .mv (.t 3)⟩, [0]), (⟨(some 41), none, .mv (.t 8)⟩, [0, 1]), (⟨(some 42), none, .bin 0 .add (.t 40) (.t 41)⟩, [0]), (⟨(some 43), none, .iadr 1 (.t 39) (.t 42)⟩, []), (⟨(some 44), none, .load none (.t 43)⟩, []), (⟨(some 45), none, .mv (.t 0)⟩, [0, 1, 2, 3, 4, 5]), (⟨(some 46), none, .mv (.t 3)⟩, [0, 1, 2, 3, 4, 5, 6]), (⟨(some 47), none, .mv (.t 9)⟩, [0, 1, 2, 3, 4, 5, 6, 7]), (⟨(some 48), none, .bin 0 .add (.t 46) (.t 47)⟩, [0, 1, 2, 3, 4, 5, 6]), (⟨(some 49), none, .iadr 1 (.t 45) (.t 48)⟩, [0, 1, 2, 3, 4, 5]), (⟨(some 50), none, .load none (.t 49)⟩, [0, 1, 2, 3, 4, 5]), (⟨(some 51), none, .call 208 [(.t 44), (.t 50)]⟩, []), (⟨(some 52), none, .un .not (.t 51)⟩, [])])
 (.cond (.t 52) (.ret) (.skip)))
 (.seq (.any [(⟨(some 53), none, .mv (.t 0)⟩, []), (⟨(some 54), none, .mv (.t 3)⟩, [0]), (⟨(some 55), none, .mv (.t 8)⟩, [0, 1]), (⟨(some 56), none, .bin 0 .add (.t 54) (.t 55)⟩, [0]), (⟨(some 57), none, .mv (.t 0)⟩, [0, 1, 2, 3]), (⟨(some 58), none, .mv (.t 3)⟩, [0, 1, 2, 3, 4]), (⟨(some 59), none, .mv (.t 9)⟩, [0, 1, 2, 3, 4, 5]), (⟨(some 60), none, .bin 0 .add (.t 58) (.t 59)⟩, [0, 1, 2, 3, 4]), (⟨(some 61), none, .mv (.t 0)⟩, [0, 1, 2, 3, 4, 5, 6, 7]), (⟨(some 62), none, .mv (.t 3)⟩, [0, 1, 2, 3, 4, 5, 6, 7, 8]), (⟨(some 63), none, .mv (.t 9)⟩, [0, 1, 2, 3, 4, 5, 6, 7, 8, 9]), (⟨(some 64), none, .bin 0 .add (.t 62) (.t 63)⟩, [0, 1, 2, 3, 4, 5, 6, 7, 8]), (⟨(some 65), none, .iadr 1 (.t 61) (.t 64)⟩, [0, 1, 2, 3, 4, 5, 6, 7]), (⟨(some 66), none, .load none (.t 65)⟩, [0, 1, 2, 3, 4, 5, 6, 7]), (⟨(some 67), none, .mv (.t 0)⟩, [0, 1, 2, 3, 4, 5, 6, 7, 8, 9, 10, 11, 12, 13]), (⟨(some 68), none, .mv (.t 3)⟩, [0, 1, 2, 3, 4, 5, 6, 7, 8, 9, 10, 11, 12, 13, 14]), (⟨(some 69), none, .mv (.t 8)⟩, [0, 1, 2, 3, 4, 5, 6, 7, 8, 9, 10, 11, 12, 13, 14, 15]), (⟨(some 70), none, .bin 0 .add (.t 68) (.t 69)⟩, [0, 1, 2, 3, 4, 5, 6, 7, 8, 9, 10, 11, 12, 13, 14]), (⟨(some 71), none, .iadr 1 (.t 67) (.t 70)⟩, [0, 1, 2, 3, 4, 5, 6, 7, 8, 9, 10, 11, 12, 13]), (⟨(some 72), none, .load none (.t 71)⟩, [0, 1, 2, 3, 4, 5, 6, 7, 8, 9, 10, 11, 12, 13]), (⟨(some 73), none, .iadr 1 (.t 53) (.t 56)⟩, [4, 5, 6, 7]), (⟨none, none, .store 1 (.t 73) (.t 66)⟩, [4, 5, 6, 7]), (⟨(some 74), none, .iadr 1 (.t 57) (.t 60)⟩, []), (⟨none, none, .store 1 (.t 74) (.t 72)⟩, [])])
 (.ops [⟨(some 75), none, .mv (.t 9)⟩, ⟨(some 8), none, .mv (.t 75)⟩])))))))))⟩
def a249 : AFn := ⟨8, [.t 2], .seq (.ops [⟨(some 2), none, .mv (.c (.bool false))⟩])
 (.seq (.ops [⟨(some 3), none, .mv (.t 0)⟩, ⟨(some 4), none, .mv (.t 0)⟩, ⟨(some 5), none, .bin 0 .sub (.t 4) (.c (.int .i64 1))⟩, ⟨(some 6), none, .bin 0 .and (.t 3) (.t 5)⟩, ⟨(some 7), none, .bin 0 .eql (.t 6) (.c (.int .i64 0))⟩, ⟨(some 2), none, .mv (.t 7)⟩])
 (.ret))⟩
theorem c249 : compF Go.Proofs.Tryd.prog 249 = some a249 := by kernel_rfl
def a250 : AFn := ⟨8, [.t 2], .seq (.ops [⟨(some 2), none, .mv (.c (.int .i64 0))⟩])
 (.seq (.cond (.c (.bool false)) (.seq (.ops [⟨(some 3), none, .mv (.t 0)⟩, ⟨(some 4), none, .conv .u32 (.t 3)⟩, ⟨(some 5), none, .call 256 [(.t 4)]⟩, ⟨(some 2), none, .mv (.t 5)⟩])
 (.ret)) (.skip))
 (.seq (.ops [⟨(some 6), none, .mv (.t 0)⟩, ⟨(some 7), none, .call 257 [(.t 6)]⟩, ⟨(some 2), none, .mv (.t 7)⟩])
 (.ret)))⟩
theorem c250 : compF Go.Proofs.Tryd.prog 250 = some a250 := by kernel_rfl
end Go.Proofs.YthcldfmlfjomfaaDoor
namespace Go.Proofs
open Go.Shelf
def Tryd.lays105_ren : Go.Shelf.Ren := ⟨fun | 105 => 119 | 212 => 107 | 99 => 157 | 165 => 158 | 166 => 94 | 170 => 159 | 169 => 95 | 263 => 147 | 264 => 148 | 206 => 192 | 240 => 139 | 241 => 193 | 276 => 183 | 277 => 226 | n => n, fun | 9 => 9 | 3 => 3 | 4 => 4 | 20 => 20 | 0 => 0 | 46 => 95 | 109 => 134 | 5 => 5 | 72 => 118 | 76 => 121 | 51 => 149 | 146 => 162 | 53 => 132 | 148 => 164 | 70 => 115 | 37 => 116 | 75 => 120 | 127 => 156 | 164 => 193 | 80 => 52 | n => n, fun | n => n⟩
theorem Tryd.lays105 : Go.Proofs.Lays.n105 Tryd.prog Tryd.lays105_ren := {
  mixed := by kernel_rfl
  f99 := Tryd.func157.trans (congrArg some (by kernel_rfl))
  f105 := Tryd.func119.trans (congrArg some (by kernel_rfl))
  f165 := Tryd.func158.trans (congrArg some (by kernel_rfl))
  f166 := Tryd.func94.trans (congrArg some (by kernel_rfl))
  f169 := Tryd.func95.trans (congrArg some (by kernel_rfl))
  f170 := Tryd.func159.trans (congrArg some (by kernel_rfl))
  f206 := Tryd.func192.trans (congrArg some (by kernel_rfl))
  f212 := Tryd.func107.trans (congrArg some (by kernel_rfl))
  f240 := Tryd.func139.trans (congrArg some (by kernel_rfl))
  f241 := Tryd.func193.trans (congrArg some (by kernel_rfl))
  f263 := Tryd.func147.trans (congrArg some (by kernel_rfl))
  f264 := Tryd.func148.trans (congrArg some (by kernel_rfl))
  f276 := Tryd.func183.trans (congrArg some (by kernel_rfl))
  f277 := Tryd.func226.trans (congrArg some (by kernel_rfl))
  t0 := Tryd.underlying0
  a0 := Tryd.isAgg0
  z0 := Tryd.sizeOf0
  v0 := Tryd.zeroValue0
  t3 := Tryd.underlying3
  a3 := Tryd.isAgg3
  z3 := Tryd.sizeOf3
  v3 := Tryd.zeroValue3
  t4 := Tryd.underlying4
  a4 := Tryd.isAgg4
  z4 := Tryd.sizeOf4
  v4 := Tryd.zeroValue4
  t5 := Tryd.underlying5
  a5 := Tryd.isAgg5
  z5 := Tryd.sizeOf5
  v5 := Tryd.zeroValue5
  t9 := Tryd.underlying9
  a9 := Tryd.isAgg9
  z9 := Tryd.sizeOf9
  v9 := Tryd.zeroValue9
  t20 := Tryd.underlying20
  a20 := Tryd.isAgg20
  z20 := Tryd.sizeOf20
  v20 := Tryd.zeroValue20
  t37 := Tryd.underlying116
  a37 := Tryd.isAgg116
  z37 := Tryd.sizeOf116
  v37 := Tryd.zeroValue116
  t46 := Tryd.underlying95
  a46 := Tryd.isAgg95
  z46 := Tryd.sizeOf95
  v46 := Tryd.zeroValue95
  t51 := Tryd.underlying149
  a51 := Tryd.isAgg149
  z51 := Tryd.sizeOf149
  v51 := Tryd.zeroValue149
  t53 := Tryd.underlying132
  a53 := Tryd.isAgg132
  z53 := Tryd.sizeOf132
  v53 := Tryd.zeroValue132
  t70 := Tryd.underlying115
  a70 := Tryd.isAgg115
  z70 := Tryd.sizeOf115
  v70 := Tryd.zeroValue115
  t72 := Tryd.underlying118
  a72 := Tryd.isAgg118
  z72 := Tryd.sizeOf118
  v72 := Tryd.zeroValue118
  t75 := Tryd.underlying120
  a75 := Tryd.isAgg120
  z75 := Tryd.sizeOf120
  v75 := Tryd.zeroValue120
  t76 := Tryd.underlying121
  a76 := Tryd.isAgg121
  z76 := Tryd.sizeOf121
  v76 := Tryd.zeroValue121
  t109 := Tryd.underlying134
  a109 := Tryd.isAgg134
  z109 := Tryd.sizeOf134
  v109 := Tryd.zeroValue134
  t127 := Tryd.underlying156
  a127 := Tryd.isAgg156
  z127 := Tryd.sizeOf156
  v127 := Tryd.zeroValue156
  t146 := Tryd.underlying162
  a146 := Tryd.isAgg162
  z146 := Tryd.sizeOf162
  v146 := Tryd.zeroValue162
  t148 := Tryd.underlying164
  a148 := Tryd.isAgg164
  z148 := Tryd.sizeOf164
  v148 := Tryd.zeroValue164
  t164 := Tryd.underlying193
  a164 := Tryd.isAgg193
  z164 := Tryd.sizeOf193
  v164 := Tryd.zeroValue193 }
def Tryd.lays138_ren : Go.Shelf.Ren := ⟨fun | 138 => 166 | 195 => 200 | 218 => 201 | 143 => 191 | 219 => 222 | 217 => 239 | 225 => 244 | 224 => 245 | 267 => 246 | 266 => 253 | 314 => 255 | n => n, fun | 9 => 9 | 3 => 3 | 4 => 4 | 5 => 5 | 0 => 0 | 46 => 95 | 146 => 162 | 51 => 149 | n => n, fun | 1 => 0 | n => n⟩
theorem Tryd.lays138 : Go.Proofs.Lays.n138 Tryd.prog Tryd.lays138_ren := {
  mixed := by kernel_rfl
  f138 := Tryd.func166.trans (congrArg some (by kernel_rfl))
  f143 := Tryd.func191.trans (congrArg some (by kernel_rfl))
  f195 := Tryd.func200.trans (congrArg some (by kernel_rfl))
  f217 := Tryd.func239.trans (congrArg some (by kernel_rfl))
  f218 := Tryd.func201.trans (congrArg some (by kernel_rfl))
  f219 := Tryd.func222.trans (congrArg some (by kernel_rfl))
  f224 := Tryd.func245.trans (congrArg some (by kernel_rfl))
  f225 := Tryd.func244.trans (congrArg some (by kernel_rfl))
  f266 := Tryd.func253.trans (congrArg some (by kernel_rfl))
  f267 := Tryd.func246.trans (congrArg some (by kernel_rfl))
  f314 := Tryd.func255.trans (congrArg some (by kernel_rfl))
  t0 := Tryd.underlying0
  a0 := Tryd.isAgg0
  z0 := Tryd.sizeOf0
  v0 := Tryd.zeroValue0
  t3 := Tryd.underlying3
  a3 := Tryd.isAgg3
  z3 := Tryd.sizeOf3
  v3 := Tryd.zeroValue3
  t4 := Tryd.underlying4
  a4 := Tryd.isAgg4
  z4 := Tryd.sizeOf4
  v4 := Tryd.zeroValue4
  t5 := Tryd.underlying5
  a5 := Tryd.isAgg5
  z5 := Tryd.sizeOf5
  v5 := Tryd.zeroValue5
  t9 := Tryd.underlying9
  a9 := Tryd.isAgg9
  z9 := Tryd.sizeOf9
  v9 := Tryd.zeroValue9
  t46 := Tryd.underlying95
  a46 := Tryd.isAgg95
  z46 := Tryd.sizeOf95
  v46 := Tryd.zeroValue95
  t51 := Tryd.underlying149
  a51 := Tryd.isAgg149
  z51 := Tryd.sizeOf149
  v51 := Tryd.zeroValue149
  t146 := Tryd.underlying162
  a146 := Tryd.isAgg162
  z146 := Tryd.sizeOf162
  v146 := Tryd.zeroValue162
  g1 := by kernel_rfl }
def Tryd.lays230_ren : Go.Shelf.Ren := ⟨fun | 230 => 163 | 197 => 195 | 118 => 196 | 165 => 158 | 166 => 94 | 168 => 197 | 270 => 198 | 167 => 199 | 169 => 95 | 260 => 231 | 240 => 139 | 241 => 193 | 242 => 232 | 276 => 183 | 277 => 226 | 278 => 251 | n => n, fun | 107 => 176 | 9 => 9 | 72 => 118 | 0 => 0 | 4 => 4 | 3 => 3 | 21 => 21 | 105 => 200 | 76 => 121 | 5 => 5 | 75 => 120 | 70 => 115 | 20 => 20 | 37 => 116 | 127 => 156 | 119 => 239 | 46 => 95 | 139 => 242 | 138 => 241 | 164 => 193 | 51 => 149 | 80 => 52 | n => n, fun | 3 => 2 | 4 => 3 | n => n⟩
theorem Tryd.lays230 : Go.Proofs.Lays.n230 Tryd.prog Tryd.lays230_ren := {
  mixed := by kernel_rfl
  f118 := Tryd.func196.trans (congrArg some (by kernel_rfl))
  f165 := Tryd.func158.trans (congrArg some (by kernel_rfl))
  f166 := Tryd.func94.trans (congrArg some (by kernel_rfl))
  f167 := Tryd.func199.trans (congrArg some (by kernel_rfl))
  f168 := Tryd.func197.trans (congrArg some (by kernel_rfl))
  f169 := Tryd.func95.trans (congrArg some (by kernel_rfl))
  f197 := Tryd.func195.trans (congrArg some (by kernel_rfl))
  f230 := Tryd.func163.trans (congrArg some (by kernel_rfl))
  f240 := Tryd.func139.trans (congrArg some (by kernel_rfl))
  f241 := Tryd.func193.trans (congrArg some (by kernel_rfl))
  f242 := Tryd.func232.trans (congrArg some (by kernel_rfl))
  f260 := Tryd.func231.trans (congrArg some (by kernel_rfl))
  f270 := Tryd.func198.trans (congrArg some (by kernel_rfl))
  f276 := Tryd.func183.trans (congrArg some (by kernel_rfl))
  f277 := Tryd.func226.trans (congrArg some (by kernel_rfl))
  f278 := Tryd.func251.trans (congrArg some (by kernel_rfl))
  t0 := Tryd.underlying0
  a0 := Tryd.isAgg0
  z0 := Tryd.sizeOf0
  v0 := Tryd.zeroValue0
  t3 := Tryd.underlying3
  a3 := Tryd.isAgg3
  z3 := Tryd.sizeOf3
  v3 := Tryd.zeroValue3
  t4 := Tryd.underlying4
  a4 := Tryd.isAgg4
  z4 := Tryd.sizeOf4
  v4 := Tryd.zeroValue4
  t5 := Tryd.underlying5
  a5 := Tryd.isAgg5
  z5 := Tryd.sizeOf5
  v5 := Tryd.zeroValue5
  t9 := Tryd.underlying9
  a9 := Tryd.isAgg9
  z9 := Tryd.sizeOf9
  v9 := Tryd.zeroValue9
  t20 := Tryd.underlying20
  a20 := Tryd.isAgg20
  z20 := Tryd.sizeOf20
  v20 := Tryd.zeroValue20
  t21 := Tryd.underlying21
  a21 := Tryd.isAgg21
  z21 := Tryd.sizeOf21
  v21 := Tryd.zeroValue21
  t37 := Tryd.underlying116
  a37 := Tryd.isAgg116
  z37 := Tryd.sizeOf116
  v37 := Tryd.zeroValue116
  t46 := Tryd.underlying95
  a46 := Tryd.isAgg95
  z46 := Tryd.sizeOf95
  v46 := Tryd.zeroValue95
  t51 := Tryd.underlying149
  a51 := Tryd.isAgg149
  z51 := Tryd.sizeOf149
  v51 := Tryd.zeroValue149
  t70 := Tryd.underlying115
  a70 := Tryd.isAgg115
  z70 := Tryd.sizeOf115
  v70 := Tryd.zeroValue115
  t72 := Tryd.underlying118
  a72 := Tryd.isAgg118
  z72 := Tryd.sizeOf118
  v72 := Tryd.zeroValue118
  t75 := Tryd.underlying120
  a75 := Tryd.isAgg120
  z75 := Tryd.sizeOf120
  v75 := Tryd.zeroValue120
  t76 := Tryd.underlying121
  a76 := Tryd.isAgg121
  z76 := Tryd.sizeOf121
  v76 := Tryd.zeroValue121
  t105 := Tryd.underlying200
  a105 := Tryd.isAgg200
  z105 := Tryd.sizeOf200
  v105 := Tryd.zeroValue200
  t107 := Tryd.underlying176
  a107 := Tryd.isAgg176
  z107 := Tryd.sizeOf176
  v107 := Tryd.zeroValue176
  t119 := Tryd.underlying239
  a119 := Tryd.isAgg239
  z119 := Tryd.sizeOf239
  t127 := Tryd.underlying156
  a127 := Tryd.isAgg156
  z127 := Tryd.sizeOf156
  v127 := Tryd.zeroValue156
  t138 := Tryd.underlying241
  a138 := Tryd.isAgg241
  z138 := Tryd.sizeOf241
  v138 := Tryd.zeroValue241
  t139 := Tryd.underlying242
  a139 := Tryd.isAgg242
  z139 := Tryd.sizeOf242
  v139 := Tryd.zeroValue242
  t164 := Tryd.underlying193
  a164 := Tryd.isAgg193
  z164 := Tryd.sizeOf193
  v164 := Tryd.zeroValue193
  g3 := by kernel_rfl
  g4 := by kernel_rfl }
def Tryd.lays171_ren : Go.Shelf.Ren := ⟨fun | 171 => 125 | 243 => 165 | 246 => 194 | 283 => 227 | 284 => 228 | 285 => 229 | 286 => 230 | 129 => 212 | 317 => 247 | 318 => 248 | 319 => 249 | 320 => 250 | 337 => 256 | 338 => 257 | n => n, fun | 3 => 3 | 9 => 9 | 2 => 2 | 4 => 4 | 171 => 223 | 0 => 0 | 53 => 132 | 37 => 116 | 5 => 5 | 173 => 225 | 212 => 237 | 51 => 149 | 20 => 20 | 213 => 238 | 46 => 95 | 232 => 247 | 233 => 248 | n => n, fun | 17 => 1 | 18 => 4 | 19 => 5 | n => n⟩
theorem Tryd.lays171 : Go.Proofs.Lays.n171 Tryd.prog Tryd.lays171_ren := {
  mixed := by kernel_rfl
  f129 := Tryd.func212.trans (congrArg some (by kernel_rfl))
  f171 := Tryd.func125.trans (congrArg some (by kernel_rfl))
  f243 := Tryd.func165.trans (congrArg some (by kernel_rfl))
  f246 := Tryd.func194.trans (congrArg some (by kernel_rfl))
  f283 := Tryd.func227.trans (congrArg some (by kernel_rfl))
  f284 := Tryd.func228.trans (congrArg some (by kernel_rfl))
  f285 := Tryd.func229.trans (congrArg some (by kernel_rfl))
  f286 := Tryd.func230.trans (congrArg some (by kernel_rfl))
  f317 := Tryd.func247.trans (congrArg some (by kernel_rfl))
  f318 := Tryd.func248.trans (congrArg some (by kernel_rfl))
  f319 := Tryd.func249.trans (congrArg some (by kernel_rfl))
  f320 := Tryd.func250.trans (congrArg some (by kernel_rfl))
  f337 := Tryd.func256.trans (congrArg some (by kernel_rfl))
  f338 := Tryd.func257.trans (congrArg some (by kernel_rfl))
  t0 := Tryd.underlying0
  a0 := Tryd.isAgg0
  z0 := Tryd.sizeOf0
  v0 := Tryd.zeroValue0
  t2 := Tryd.underlying2
  a2 := Tryd.isAgg2
  z2 := Tryd.sizeOf2
  v2 := Tryd.zeroValue2
  t3 := Tryd.underlying3
  a3 := Tryd.isAgg3
  z3 := Tryd.sizeOf3
  v3 := Tryd.zeroValue3
  t4 := Tryd.underlying4
  a4 := Tryd.isAgg4
  z4 := Tryd.sizeOf4
  v4 := Tryd.zeroValue4
  t5 := Tryd.underlying5
  a5 := Tryd.isAgg5
  z5 := Tryd.sizeOf5
  v5 := Tryd.zeroValue5
  t9 := Tryd.underlying9
  a9 := Tryd.isAgg9
  z9 := Tryd.sizeOf9
  v9 := Tryd.zeroValue9
  t20 := Tryd.underlying20
  a20 := Tryd.isAgg20
  z20 := Tryd.sizeOf20
  v20 := Tryd.zeroValue20
  t37 := Tryd.underlying116
  a37 := Tryd.isAgg116
  z37 := Tryd.sizeOf116
  v37 := Tryd.zeroValue116
  t46 := Tryd.underlying95
  a46 := Tryd.isAgg95
  z46 := Tryd.sizeOf95
  v46 := Tryd.zeroValue95
  t51 := Tryd.underlying149
  a51 := Tryd.isAgg149
  z51 := Tryd.sizeOf149
  v51 := Tryd.zeroValue149
  t53 := Tryd.underlying132
  a53 := Tryd.isAgg132
  z53 := Tryd.sizeOf132
  v53 := Tryd.zeroValue132
  t171 := Tryd.underlying223
  a171 := Tryd.isAgg223
  z171 := Tryd.sizeOf223
  v171 := Tryd.zeroValue223
  t173 := Tryd.underlying225
  a173 := Tryd.isAgg225
  z173 := Tryd.sizeOf225
  v173 := Tryd.zeroValue225
  t212 := Tryd.underlying237
  a212 := Tryd.isAgg237
  z212 := Tryd.sizeOf237
  v212 := Tryd.zeroValue237
  t213 := Tryd.underlying238
  a213 := Tryd.isAgg238
  z213 := Tryd.sizeOf238
  t232 := Tryd.underlying247
  a232 := Tryd.isAgg247
  z232 := Tryd.sizeOf247
  v232 := Tryd.zeroValue247
  t233 := Tryd.underlying248
  a233 := Tryd.isAgg248
  z233 := Tryd.sizeOf248
  v233 := Tryd.zeroValue248
  g17 := by kernel_rfl
  g18 := by kernel_rfl
  g19 := by kernel_rfl }
def Tryd.lays7x29_ren : Go.Shelf.Ren := ⟨fun | 29 => 257 | n => n, fun | 22 => 132 | 3 => 3 | 4 => 4 | 25 => 95 | 54 => 248 | 0 => 0 | 5 => 5 | n => n, fun | 1 => 5 | n => n⟩
theorem Tryd.lays7x29 : Go.Proofs.Lays7.n29 Tryd.prog Tryd.lays7x29_ren := {
  mixed := by kernel_rfl
  f29 := Tryd.func257.trans (congrArg some (by kernel_rfl))
  t0 := Tryd.underlying0
  a0 := Tryd.isAgg0
  z0 := Tryd.sizeOf0
  v0 := Tryd.zeroValue0
  i0 := by kernel_rfl
  t3 := Tryd.underlying3
  a3 := Tryd.isAgg3
  z3 := Tryd.sizeOf3
  v3 := Tryd.zeroValue3
  i3 := by kernel_rfl
  t4 := Tryd.underlying4
  a4 := Tryd.isAgg4
  z4 := Tryd.sizeOf4
  v4 := Tryd.zeroValue4
  i4 := by kernel_rfl
  t5 := Tryd.underlying5
  a5 := Tryd.isAgg5
  z5 := Tryd.sizeOf5
  v5 := Tryd.zeroValue5
  i5 := by kernel_rfl
  t22 := Tryd.underlying132
  a22 := Tryd.isAgg132
  z22 := Tryd.sizeOf132
  v22 := Tryd.zeroValue132
  i22 := by kernel_rfl
  t25 := Tryd.underlying95
  a25 := Tryd.isAgg95
  z25 := Tryd.sizeOf95
  v25 := Tryd.zeroValue95
  i25 := by kernel_rfl
  t54 := Tryd.underlying248
  a54 := Tryd.isAgg248
  z54 := Tryd.sizeOf248
  g1 := by kernel_rfl }
end Go.Proofs
namespace Go.Proofs.YthcldfmlfjomfaaDoor
open Go.RowKit Go.Shelf Go.Lib
theorem extra105 : Builder.Extra Tryd.prog Tryd.lays105_ren where
  sizeBuilder := by kernel_rfl
  liesBuilder := by kernel_rfl
  t5 := Tryd.lays105.t5
  a5 := Tryd.lays105.a5
  z5 := Tryd.lays105.z5
  v5 := Tryd.lays105.v5
  infoByte := by kernel_rfl
  cellsByte := by kernel_rfl
  sizeByte := by kernel_rfl
  neB5 := by decide
theorem repeat_cc (s : List UInt8) (c : Nat) (nid : Nat) (hc : c ≤ 9223372036854775807) (hlen : s.length * c ≤ 140737488355328) : ACall Tryd.prog 119 [.str s, .int .i64 c] [] nid (.str (Lib.repeatL s c)) [] :=
  acall_below (us := [.string ⟨s.toArray⟩, .int .i64 c]) nid Tryd.func119 (by kernel_rfl) (by kernel_rfl) rfl rfl (fun w => by
    have h := Any.strings_Repeat Tryd.lays105 extra105 ⟨s.toArray⟩ c w hc (by simpa [ByteArray.size] using hlen)
    have hf : Tryd.lays105_ren.f 105 = 119 := by kernel_rfl
    rw [hf] at h
    simpa using h)
end Go.Proofs.YthcldfmlfjomfaaDoor
namespace Go.Proofs.YthcldfmlfjomfaaDoor
open Go.RowKit Go.Shelf
theorem tz64_c (nid : Nat) : ACall Tryd.prog 257 [.int .u64 2] [] nid (.int .i64 1) [] :=
  acall_belowG nid Tryd.func257 (by kernel_rfl) (by kernel_rfl) (us := [.int .u64 2]) rfl rfl fun w hw => by
    have hg : Tryd.lays7x29_ren.g 1 = 5 := by kernel_rfl
    have hf : Tryd.lays7x29_ren.f 29 = 257 := by kernel_rfl
    have h := Any7.tz64_core Tryd.lays7x29 2 1 1 w rfl (by rw [tz64_key 2 2 (by decide) (by decide) (by decide)]) (by decide) (by decide) (by rw [hg]; exact hw.tab.1)
    rw [hf] at h
    exact h.mono fun e w' ⟨h1, h2⟩ => ⟨h1, by rw [h2]; exact Below.refl _ _⟩
theorem tz_c (nid : Nat) : ACall Tryd.prog 250 [.int .u64 2] [] nid (.int .i64 1) [] := by
  refine acall_run c250 (by simp [a250]) ?_
  simp -dsimp only [aqT, aqU, aqN, ↓seqK, ↓blkK, ↓loopK, step, stepBin, Nat.reduceBEq, Nat.reduceBeqDiff, Nat.add_assoc nid, Nat.reduceAdd, reduceCtorEq, ↓reduceIte, Nat.reduceLeDiff, Nat.reduceBneDiff, Option.toList, ← Int.ofNat_tmod, ← Int.ofNat_tdiv, Nat.reduceLT, Int.cast_ofNat_Int, Int.reduceBEq, Int.reduceBNe, Int.reduceLT, Int.reduceLE, Int.reduceAdd, Int.reduceSub, Int.reduceMul, Int.reduceToNat, Int.reduceNeg, Int.reduceTMod, Int.reduceEq, not_false_eq_true, Int.reducePow, Int.reduceFDiv, Nat.reducePow, Nat.reduceSub, Nat.reduceMul, Nat.min_eq_left, Nat.reduceEqDiff, BEq.rfl, Int.tdiv_one, LN_succ, a250]
  refine CallO.pure (tz64_c _) ?_
  simp -dsimp only [aqT, aqU, aqN, ↓seqK, ↓blkK, ↓loopK, step, stepBin, Nat.reduceBEq, Nat.reduceBeqDiff, Nat.add_assoc nid, Nat.reduceAdd, reduceCtorEq, ↓reduceIte, Nat.reduceLeDiff, Nat.reduceBneDiff, Option.toList, ← Int.ofNat_tmod, ← Int.ofNat_tdiv, Nat.reduceLT, Int.cast_ofNat_Int, Int.reduceBEq, Int.reduceBNe, Int.reduceLT, Int.reduceLE, Int.reduceAdd, Int.reduceSub, Int.reduceMul, Int.reduceToNat, Int.reduceNeg, Int.reduceTMod, Int.reduceEq, not_false_eq_true, Int.reducePow, Int.reduceFDiv, Nat.reducePow, Nat.reduceSub, Nat.reduceMul, Nat.min_eq_left, Nat.reduceEqDiff, BEq.rfl, Int.tdiv_one, LN_succ]
  refine RetOK.pure (.inl rfl) rfl ?_
  simp [retPV, over, keys, List.map_nil, List.map_cons, List.contains_cons, List.contains_nil, Bool.or_false, Bool.or_true, Bool.true_or, Bool.false_or, beq_self_eq_true, cond_true, cond_false, HeapCov, orNil, nilSz, onBlk, srcOf, getH_hit, getH_miss, getH.eq_1, getS_hit, getS_miss, getS.eq_1, BlkCov, PVCovs, PVCov, ColsEq, AColsEq, ACEq, ColEq.refl, liveIds, SlotsCov, List.all_nil, List.all_cons, List.any_nil, List.any_cons, List.nil_append, List.cons_append, inRange, apart, nilBlk, idS1, idS2, readAll, readRes, onAll, step, res, AX.val, List.drop_zero, List.drop_succ_cons, List.take_succ_cons, List.take_zero]
set_option maxHeartbeats 1000000 in
theorem isPow_c (nid : Nat) : ACall Tryd.prog 249 [.int .i64 2] [] nid (.bool true) [] := by
  refine acall_run c249 (by simp [a249]) ?_
  simp -dsimp only [aqT, aqU, aqN, ↓seqK, ↓blkK, ↓loopK, step, stepBin, Nat.reduceBEq, Nat.reduceBeqDiff, Nat.add_assoc nid, Nat.reduceAdd, reduceCtorEq, ↓reduceIte, Nat.reduceLeDiff, Nat.reduceBneDiff, Option.toList, ← Int.ofNat_tmod, ← Int.ofNat_tdiv, Nat.reduceLT, Int.cast_ofNat_Int, Int.reduceBEq, Int.reduceBNe, Int.reduceLT, Int.reduceLE, Int.reduceAdd, Int.reduceSub, Int.reduceMul, Int.reduceToNat, Int.reduceNeg, Int.reduceTMod, Int.reduceEq, not_false_eq_true, Int.reducePow, Int.reduceFDiv, Nat.reducePow, Nat.reduceSub, Nat.reduceMul, Nat.min_eq_left, Nat.reduceEqDiff, BEq.rfl, Int.tdiv_one, LN_succ, a249]
  refine ⟨by unfold inI64; omega, ?_⟩
  have e : (IntKind.i64.wrap ((BitVec.ofInt IntKind.i64.bits 2 &&& BitVec.ofInt IntKind.i64.bits 1).toNat : Int) == 0) = true := by decide
  rw [e]
  refine RetOK.pure (.inl rfl) rfl ?_
  simp [retPV, over, keys, List.map_nil, List.map_cons, List.contains_cons, List.contains_nil, Bool.or_false, Bool.or_true, Bool.true_or, Bool.false_or, beq_self_eq_true, cond_true, cond_false, HeapCov, orNil, nilSz, onBlk, srcOf, getH_hit, getH_miss, getH.eq_1, getS_hit, getS_miss, getS.eq_1, BlkCov, PVCovs, PVCov, ColsEq, AColsEq, ACEq, ColEq.refl, liveIds, SlotsCov, List.all_nil, List.all_cons, List.any_nil, List.any_cons, List.nil_append, List.cons_append, inRange, apart, nilBlk, idS1, idS2, readAll, readRes, onAll, step, res, AX.val, List.drop_zero, List.drop_succ_cons, List.take_succ_cons, List.take_zero]
def digs : List UInt8 := [48, 49, 50, 51, 52, 53, 54, 55, 56, 57, 97, 98, 99, 100, 101, 102, 103, 104, 105, 106, 107, 108, 109, 110, 111, 112, 113, 114, 115, 116, 117, 118, 119, 120, 121, 122]
def cellB (n j p : Nat) : Int := if 65 - j ≤ p ∧ p < 65 then ((bitB n (64 - p)).toNat : Nat) else 0
theorem cellB_zero (n : Nat) : (fun _ : Nat => (0 : Int)) = cellB n 0 := by
  funext p
  unfold cellB
  rw [if_neg (by omega)]
theorem cellB_step {n j : Nat} (hj : j < 65) : (fun p => if p = 64 - j then (((bitB n j).toNat : Nat) : Int) else cellB n j p) = cellB n (j + 1) := by
  funext p
  unfold cellB
  by_cases h : p = 64 - j
  · subst h
    rw [if_pos rfl, if_pos (by omega), show 64 - (64 - j) = j by omega]
  · rw [if_neg h]
    by_cases h2 : 65 - j ≤ p ∧ p < 65
    · rw [if_pos h2, if_pos (by omega)]
    · rw [if_neg h2, if_neg (by omega)]
theorem dig_bit {n j : Nat} : digs.getD ((n / 2 ^ j) &&& 1) 0 = bitB n j := by
  unfold bitB
  rw [Nat.and_one_is_mod, Nat.testBit_eq_decide_div_mod_eq]
  rcases Nat.mod_two_eq_zero_or_one (n / 2 ^ j) with e | e <;> rw [e] <;> simp [digs]
theorem bits_str {n k : Nat} (hk : k ≤ 65) (h0 : 0 < k) : ((List.range (65 - (65 - k))).map fun i => UInt8.ofNat (cellB n k (65 - k + i)).toNat) = numV n k := by
  unfold numV
  rw [show 65 - (65 - k) = k by omega]
  refine List.map_congr_left fun i hi => ?_
  have hi := List.mem_range.1 hi
  unfold cellB
  rw [if_pos (by omega), Int.toNat_natCast, show 64 - (65 - k + i) = k - 1 - i by omega, UInt8.ofNat_toNat]
theorem log_of {n j : Nat} (h1 : n / 2 ^ j < 2) (h2 : j = 0 ∨ 2 ^ j ≤ n) : n.log2 = j := by
  have hp : 0 < 2 ^ j := Nat.two_pow_pos j
  have h3 : n < 2 ^ (j + 1) := by
    rw [Nat.pow_succ, Nat.mul_comm]
    exact (Nat.div_lt_iff_lt_mul hp).1 h1
  by_cases h0 : n = 0
  · subst h0
    rcases h2 with rfl | h2
    · rfl
    · omega
  · have h4 := (Nat.log2_lt h0).2 h3
    rcases h2 with rfl | h2
    · omega
    · have h5 : ¬ n.log2 < j := fun h => by have := (Nat.log2_lt h0).1 h; omega
      omega
set_option maxHeartbeats 4000000 in
theorem formatBits_c (n : Nat) (nid : Nat) (hn : n < 2 ^ 40) : ACall Tryd.prog 230 [.lit true 0 [], .int .u64 (n : Nat), .int .i64 2, .bool false, .bool false] [] nid (.tup [.lit true 0 [], .str (numV n (n.log2 + 1))]) [] := by
  have hw2 : IntKind.u64.wrap 2 = 2 := by decide
  have hw1 : IntKind.u64.wrap 1 = 1 := by decide
  refine acall_run c230 (by simp [a230]) ?_
  simp -dsimp only [aqT, aqU, aqN, ↓seqK, ↓blkK, ↓loopK, step, stepBin, Nat.reduceBEq, Nat.reduceBeqDiff, Nat.add_assoc nid, Nat.reduceAdd, reduceCtorEq, ↓reduceIte, Nat.reduceLeDiff, Nat.reduceBneDiff, Option.toList, ← Int.ofNat_tmod, ← Int.ofNat_tdiv, Nat.reduceLT, Int.cast_ofNat_Int, Int.reduceBEq, Int.reduceBNe, Int.reduceLT, Int.reduceLE, Int.reduceAdd, Int.reduceSub, Int.reduceMul, Int.reduceToNat, Int.reduceNeg, Int.reduceTMod, Int.reduceEq, not_false_eq_true, Int.reducePow, Int.reduceFDiv, Nat.reducePow, Nat.reduceSub, Nat.reduceMul, Nat.min_eq_left, Nat.reduceEqDiff, BEq.rfl, Int.tdiv_one, LN_succ, a230]
  refine CallO.pure (isPow_c _) ?_
  simp -dsimp only [aqT, aqU, aqN, ↓seqK, ↓blkK, ↓loopK, step, stepBin, Nat.reduceBEq, Nat.reduceBeqDiff, Nat.add_assoc nid, Nat.reduceAdd, reduceCtorEq, ↓reduceIte, Nat.reduceLeDiff, Nat.reduceBneDiff, Option.toList, ← Int.ofNat_tmod, ← Int.ofNat_tdiv, Nat.reduceLT, Int.cast_ofNat_Int, Int.reduceBEq, Int.reduceBNe, Int.reduceLT, Int.reduceLE, Int.reduceAdd, Int.reduceSub, Int.reduceMul, Int.reduceToNat, Int.reduceNeg, Int.reduceTMod, Int.reduceEq, not_false_eq_true, Int.reducePow, Int.reduceFDiv, Nat.reducePow, Nat.reduceSub, Nat.reduceMul, Nat.min_eq_left, Nat.reduceEqDiff, BEq.rfl, Int.tdiv_one, LN_succ]
  rw [hw2]
  refine CallO.pure (tz_c _) ?_
  simp -dsimp only [aqT, aqU, aqN, ↓seqK, ↓blkK, ↓loopK, step, stepBin, Nat.reduceBEq, Nat.reduceBeqDiff, Nat.add_assoc nid, Nat.reduceAdd, reduceCtorEq, ↓reduceIte, Nat.reduceLeDiff, Nat.reduceBneDiff, Option.toList, ← Int.ofNat_tmod, ← Int.ofNat_tdiv, Nat.reduceLT, Int.cast_ofNat_Int, Int.reduceBEq, Int.reduceBNe, Int.reduceLT, Int.reduceLE, Int.reduceAdd, Int.reduceSub, Int.reduceMul, Int.reduceToNat, Int.reduceNeg, Int.reduceTMod, Int.reduceEq, not_false_eq_true, Int.reducePow, Int.reduceFDiv, Nat.reducePow, Nat.reduceSub, Nat.reduceMul, Nat.min_eq_left, Nat.reduceEqDiff, BEq.rfl, Int.tdiv_one, LN_succ]
  rw [hw1, hw2]
  simp -dsimp only [aqT, aqU, aqN, ↓seqK, ↓blkK, ↓loopK, step, stepBin, Nat.reduceBEq, Nat.reduceBeqDiff, Nat.add_assoc nid, Nat.reduceAdd, reduceCtorEq, ↓reduceIte, Nat.reduceLeDiff, Nat.reduceBneDiff, Option.toList, ← Int.ofNat_tmod, ← Int.ofNat_tdiv, Nat.reduceLT, Int.cast_ofNat_Int, Int.reduceBEq, Int.reduceBNe, Int.reduceLT, Int.reduceLE, Int.reduceAdd, Int.reduceSub, Int.reduceMul, Int.reduceToNat, Int.reduceNeg, Int.reduceTMod, Int.reduceEq, not_false_eq_true, Int.reducePow, Int.reduceFDiv, Nat.reducePow, Nat.reduceSub, Nat.reduceMul, Nat.min_eq_left, Nat.reduceEqDiff, BEq.rfl, Int.tdiv_one, LN_succ]
  refine LP.mkP (fun j : Nat => j ≤ 41 ∧ (j = 0 ∨ 2 ^ j ≤ n)) (fun j : Nat => ⟨[(1, .int .u64 (n / 2 ^ j : Nat)), (15, .int .u64 2), (16, .int .u64 1), (14, .int .u64 1), (13, .int .i64 (65 - j : Nat)), (12, .arv (nid + 8)), (3, .bool false), (4, .bool false), (10, .lit true 0 [])], [(nid + 8, some (.arr 238 65 [.i .u8 (cellB n j)]))], nid + 200, nid⟩) (fun j => 42 - j) 0 ⟨by omega, .inl rfl⟩ (Cov.go [(nid + 8, nid + 48)] [] ?_) (fun j hj => ?_)
  · simp [retPV, over, keys, List.map_nil, List.map_cons, List.contains_cons, List.contains_nil, Bool.or_false, Bool.or_true, Bool.true_or, Bool.false_or, beq_self_eq_true, cond_true, cond_false, HeapCov, orNil, nilSz, onBlk, srcOf, getH_hit, getH_miss, getH.eq_1, getS_hit, getS_miss, getS.eq_1, BlkCov, PVCovs, PVCov, ColsEq, AColsEq, ACEq, ColEq.refl, liveIds, SlotsCov, List.all_nil, List.all_cons, List.any_nil, List.any_cons, List.nil_append, List.cons_append, inRange, apart, nilBlk, idS1, idS2, readAll, readRes, onAll, step, res, AX.val, List.drop_zero, List.drop_succ_cons, List.take_succ_cons, List.take_zero, hw1, ← cellB_zero]
  obtain ⟨hj, hj2⟩ := hj
  have hu : n / 2 ^ j ≤ n := Nat.div_le_self _ _
  have hun : n / 2 ^ j < two64 := by unfold two64; omega
  have hand := (and_u hun (show (1 : Nat) < two64 by decide)).1
  rw [show (((1 : Nat) : Int)) = 1 from rfl] at hand
  have hdig := dig_bit (n := n) (j := j)
  have hstep := cellB_step (n := n) (j := j) (by omega)
  have hm : (n / 2 ^ j) &&& 1 < 2 := by rw [Nat.and_one_is_mod]; omega
  have hdd : n / 2 ^ j / 2 = n / 2 ^ (j + 1) := by rw [Nat.div_div_eq_div_mul, Nat.pow_succ]
  have hpos : 2 ≤ n / 2 ^ j → 2 ^ (j + 1) ≤ n := fun h => by
    rw [Nat.pow_succ, Nat.mul_comm]
    exact (Nat.le_div_iff_mul_le (Nat.two_pow_pos j)).1 h
  have hlog := fun h => log_of (n := n) (j := j) h hj2
  generalize n / 2 ^ j = u at *
  simp -dsimp only [aqT, aqU, aqN, ↓seqK, ↓blkK, ↓loopK, step, stepBin, Nat.reduceBEq, Nat.reduceBeqDiff, Nat.add_assoc nid, Nat.reduceAdd, reduceCtorEq, ↓reduceIte, Nat.reduceLeDiff, Nat.reduceBneDiff, Option.toList, ← Int.ofNat_tmod, ← Int.ofNat_tdiv, Nat.reduceLT, Int.cast_ofNat_Int, Int.reduceBEq, Int.reduceBNe, Int.reduceLT, Int.reduceLE, Int.reduceAdd, Int.reduceSub, Int.reduceMul, Int.reduceToNat, Int.reduceNeg, Int.reduceTMod, Int.reduceEq, not_false_eq_true, Int.reducePow, Int.reduceFDiv, Nat.reducePow, Nat.reduceSub, Nat.reduceMul, Nat.min_eq_left, Nat.reduceEqDiff, BEq.rfl, Int.tdiv_one, LN_succ]
  refine S2.dec (fun h3 => ?_) (fun h3 => ?_) <;> simp -dsimp only [aqT, aqU, aqN, ↓seqK, ↓blkK, ↓loopK, step, stepBin, Nat.reduceBEq, Nat.reduceBeqDiff, Nat.add_assoc nid, Nat.reduceAdd, reduceCtorEq, ↓reduceIte, Nat.reduceLeDiff, Nat.reduceBneDiff, Option.toList, ← Int.ofNat_tmod, ← Int.ofNat_tdiv, Nat.reduceLT, Int.cast_ofNat_Int, Int.reduceBEq, Int.reduceBNe, Int.reduceLT, Int.reduceLE, Int.reduceAdd, Int.reduceSub, Int.reduceMul, Int.reduceToNat, Int.reduceNeg, Int.reduceTMod, Int.reduceEq, not_false_eq_true, Int.reducePow, Int.reduceFDiv, Nat.reducePow, Nat.reduceSub, Nat.reduceMul, Nat.min_eq_left, Nat.reduceEqDiff, BEq.rfl, Int.tdiv_one, LN_succ]
  · have hfd : ((u : Nat) : Int).fdiv (2 ^ min 1 IntKind.u64.bits) = ((u / 2 : Nat) : Int) := by
      rw [show min 1 IntKind.u64.bits = 1 from rfl, Int.pow_succ, Int.pow_zero, Int.one_mul, Int.fdiv_eq_ediv_of_nonneg _ (by decide), Int.natCast_ediv]; rfl
    have e13 : ((65 - j : Nat) : Int) - 1 = ((64 - j : Nat) : Int) := by omega
    unfold digs at hdig
    rw [hand, e13, hfd, hdd]
    simp only [Int.toNat_natCast]
    rw [hdig, hstep]
    have h2 : 2 ≤ u := by omega
    have hp2 := hpos h2
    have hj1 : j + 1 ≤ 41 := by
      rcases Nat.lt_or_ge j 41 with h | h
      · omega
      · have : 2 ^ 41 ≤ 2 ^ (j + 1) := Nat.pow_le_pow_right (by omega) (by omega)
        omega
    refine ⟨by unfold inI64; omega, by omega, by omega, j + 1, ⟨⟨hj1, .inr hp2⟩, by omega⟩, Cov.go [] [] ?_⟩
    simp [retPV, over, keys, List.map_nil, List.map_cons, List.contains_cons, List.contains_nil, Bool.or_false, Bool.or_true, Bool.true_or, Bool.false_or, beq_self_eq_true, cond_true, cond_false, HeapCov, orNil, nilSz, onBlk, srcOf, getH_hit, getH_miss, getH.eq_1, getS_hit, getS_miss, getS.eq_1, BlkCov, PVCovs, PVCov, ColsEq, AColsEq, ACEq, ColEq.refl, liveIds, SlotsCov, List.all_nil, List.all_cons, List.any_nil, List.any_cons, List.nil_append, List.cons_append, inRange, apart, nilBlk, idS1, idS2, readAll, readRes, onAll, step, res, AX.val, List.drop_zero, List.drop_succ_cons, List.take_succ_cons, List.take_zero, show 65 - (j + 1) = 64 - j by omega]
  · have h2 : u < 2 := by omega
    have hu1 : u &&& 1 = u := by rw [Nat.and_one_is_mod]; omega
    have e13 : ((65 - j : Nat) : Int) - 1 = ((64 - j : Nat) : Int) := by omega
    have hlog := hlog h2
    have hs := bits_str (n := n) (k := j + 1) (by omega) (by omega)
    rw [show 65 - (j + 1) = 64 - j by omega] at hs
    unfold digs at hdig
    rw [hu1] at hdig
    rw [e13]
    simp only [Int.toNat_natCast]
    rw [hdig, hstep, show (64 - j == 0) = false by simp; omega]
    simp -dsimp only [aqT, aqU, aqN, ↓seqK, ↓blkK, ↓loopK, step, stepBin, Nat.reduceBEq, Nat.reduceBeqDiff, Nat.add_assoc nid, Nat.reduceAdd, reduceCtorEq, ↓reduceIte, Nat.reduceLeDiff, Nat.reduceBneDiff, Option.toList, ← Int.ofNat_tmod, ← Int.ofNat_tdiv, Nat.reduceLT, Int.cast_ofNat_Int, Int.reduceBEq, Int.reduceBNe, Int.reduceLT, Int.reduceLE, Int.reduceAdd, Int.reduceSub, Int.reduceMul, Int.reduceToNat, Int.reduceNeg, Int.reduceTMod, Int.reduceEq, not_false_eq_true, Int.reducePow, Int.reduceFDiv, Nat.reducePow, Nat.reduceSub, Nat.reduceMul, Nat.min_eq_left, Nat.reduceEqDiff, BEq.rfl, Int.tdiv_one, LN_succ, Col.shift]
    rw [hs]
    refine ⟨by unfold inI64; omega, by omega, by omega, by omega, ?_⟩
    rw [hlog]
    refine RetOK.go [] [] (.inl rfl) ?_
    simp [a230, retPV, over, keys, List.map_nil, List.map_cons, List.contains_cons, List.contains_nil, Bool.or_false, Bool.or_true, Bool.true_or, Bool.false_or, beq_self_eq_true, cond_true, cond_false, HeapCov, orNil, nilSz, onBlk, srcOf, getH_hit, getH_miss, getH.eq_1, getS_hit, getS_miss, getS.eq_1, BlkCov, PVCovs, PVCov, ColsEq, AColsEq, ACEq, ColEq.refl, liveIds, SlotsCov, List.all_nil, List.all_cons, List.any_nil, List.any_cons, List.nil_append, List.cons_append, inRange, apart, nilBlk, idS1, idS2, readAll, readRes, onAll, step, res, AX.val, List.drop_zero, List.drop_succ_cons, List.take_succ_cons, List.take_zero]
theorem formatInt_c (n : Nat) (nid : Nat) (hn : n < 2 ^ 40) : ACall Tryd.prog 194 [.int .i64 (n : Nat), .int .i64 2] [] nid (.str (numV n (n.log2 + 1))) [] := by
  have hw : IntKind.u64.wrap ((n : Nat) : Int) = n := u64_in (by unfold two64; omega)
  refine acall_run c194 (by simp [a194]) ?_
  simp -dsimp only [aqT, aqU, aqN, ↓seqK, ↓blkK, ↓loopK, step, stepBin, Nat.reduceBEq, Nat.reduceBeqDiff, Nat.add_assoc nid, Nat.reduceAdd, reduceCtorEq, ↓reduceIte, Nat.reduceLeDiff, Nat.reduceBneDiff, Option.toList, ← Int.ofNat_tmod, ← Int.ofNat_tdiv, Nat.reduceLT, Int.cast_ofNat_Int, Int.reduceBEq, Int.reduceBNe, Int.reduceLT, Int.reduceLE, Int.reduceAdd, Int.reduceSub, Int.reduceMul, Int.reduceToNat, Int.reduceNeg, Int.reduceTMod, Int.reduceEq, not_false_eq_true, Int.reducePow, Int.reduceFDiv, Nat.reducePow, Nat.reduceSub, Nat.reduceMul, Nat.min_eq_left, Nat.reduceEqDiff, BEq.rfl, Int.tdiv_one, LN_succ, a194]
  rw [hw, show decide (((n : Nat) : Int) < 0) = false by simp]
  refine CallO.pure (formatBits_c n _ hn) ?_
  simp -dsimp only [aqT, aqU, aqN, ↓seqK, ↓blkK, ↓loopK, step, stepBin, Nat.reduceBEq, Nat.reduceBeqDiff, Nat.add_assoc nid, Nat.reduceAdd, reduceCtorEq, ↓reduceIte, Nat.reduceLeDiff, Nat.reduceBneDiff, Option.toList, ← Int.ofNat_tmod, ← Int.ofNat_tdiv, Nat.reduceLT, Int.cast_ofNat_Int, Int.reduceBEq, Int.reduceBNe, Int.reduceLT, Int.reduceLE, Int.reduceAdd, Int.reduceSub, Int.reduceMul, Int.reduceToNat, Int.reduceNeg, Int.reduceTMod, Int.reduceEq, not_false_eq_true, Int.reducePow, Int.reduceFDiv, Nat.reducePow, Nat.reduceSub, Nat.reduceMul, Nat.min_eq_left, Nat.reduceEqDiff, BEq.rfl, Int.tdiv_one, LN_succ]
  refine RetOK.pure (.inl rfl) rfl ?_
  simp [retPV, over, keys, List.map_nil, List.map_cons, List.contains_cons, List.contains_nil, Bool.or_false, Bool.or_true, Bool.true_or, Bool.false_or, beq_self_eq_true, cond_true, cond_false, HeapCov, orNil, nilSz, onBlk, srcOf, getH_hit, getH_miss, getH.eq_1, getS_hit, getS_miss, getS.eq_1, BlkCov, PVCovs, PVCov, ColsEq, AColsEq, ACEq, ColEq.refl, liveIds, SlotsCov, List.all_nil, List.all_cons, List.any_nil, List.any_cons, List.nil_append, List.cons_append, inRange, apart, nilBlk, idS1, idS2, readAll, readRes, onAll, step, res, AX.val, List.drop_zero, List.drop_succ_cons, List.take_succ_cons, List.take_zero]
theorem formatIntS_c (n : Nat) (nid : Nat) (hn : n < 2 ^ 40) : ACall Tryd.prog 162 [.int .i64 (n : Nat), .int .i64 2] [] nid (.str (numV n (n.log2 + 1))) [] := by
  refine acall_run c162 (by simp [a162]) ?_
  simp -dsimp only [aqT, aqU, aqN, ↓seqK, ↓blkK, ↓loopK, step, stepBin, Nat.reduceBEq, Nat.reduceBeqDiff, Nat.add_assoc nid, Nat.reduceAdd, reduceCtorEq, ↓reduceIte, Nat.reduceLeDiff, Nat.reduceBneDiff, Option.toList, ← Int.ofNat_tmod, ← Int.ofNat_tdiv, Nat.reduceLT, Int.cast_ofNat_Int, Int.reduceBEq, Int.reduceBNe, Int.reduceLT, Int.reduceLE, Int.reduceAdd, Int.reduceSub, Int.reduceMul, Int.reduceToNat, Int.reduceNeg, Int.reduceTMod, Int.reduceEq, not_false_eq_true, Int.reducePow, Int.reduceFDiv, Nat.reducePow, Nat.reduceSub, Nat.reduceMul, Nat.min_eq_left, Nat.reduceEqDiff, BEq.rfl, Int.tdiv_one, LN_succ, a162]
  refine CallO.pure (formatInt_c n _ hn) ?_
  simp -dsimp only [aqT, aqU, aqN, ↓seqK, ↓blkK, ↓loopK, step, stepBin, Nat.reduceBEq, Nat.reduceBeqDiff, Nat.add_assoc nid, Nat.reduceAdd, reduceCtorEq, ↓reduceIte, Nat.reduceLeDiff, Nat.reduceBneDiff, Option.toList, ← Int.ofNat_tmod, ← Int.ofNat_tdiv, Nat.reduceLT, Int.cast_ofNat_Int, Int.reduceBEq, Int.reduceBNe, Int.reduceLT, Int.reduceLE, Int.reduceAdd, Int.reduceSub, Int.reduceMul, Int.reduceToNat, Int.reduceNeg, Int.reduceTMod, Int.reduceEq, not_false_eq_true, Int.reducePow, Int.reduceFDiv, Nat.reducePow, Nat.reduceSub, Nat.reduceMul, Nat.min_eq_left, Nat.reduceEqDiff, BEq.rfl, Int.tdiv_one, LN_succ]
  refine RetOK.pure (.inl rfl) rfl ?_
  simp [retPV, over, keys, List.map_nil, List.map_cons, List.contains_cons, List.contains_nil, Bool.or_false, Bool.or_true, Bool.true_or, Bool.false_or, beq_self_eq_true, cond_true, cond_false, HeapCov, orNil, nilSz, onBlk, srcOf, getH_hit, getH_miss, getH.eq_1, getS_hit, getS_miss, getS.eq_1, BlkCov, PVCovs, PVCov, ColsEq, AColsEq, ACEq, ColEq.refl, liveIds, SlotsCov, List.all_nil, List.all_cons, List.any_nil, List.any_cons, List.nil_append, List.cons_append, inRange, apart, nilBlk, idS1, idS2, readAll, readRes, onAll, step, res, AX.val, List.drop_zero, List.drop_succ_cons, List.take_succ_cons, List.take_zero]
end Go.Proofs.YthcldfmlfjomfaaDoor
namespace Go.Proofs.YthcldfmlfjomfaaDoor
open Go.RowKit
theorem below_c (x n : Int) (nid : Nat) (hn : n ≤ 9223372036854775807) : ACall Tryd.prog 137 [.int .i64 x, .int .i64 n] [] nid (.int .i64 (below x n)) [] := by
  refine acall_run c137 (by simp [a137]) ?_
  simp -dsimp only [a137, aqT, aqU, aqN, ↓seqK, ↓blkK, ↓loopK, step, stepBin, Nat.reduceBEq, Nat.reduceBeqDiff, Nat.add_assoc nid, Nat.reduceAdd, reduceCtorEq, ↓reduceIte, Nat.reduceLeDiff, Nat.reduceBneDiff, Option.toList, ← Int.ofNat_tmod, ← Int.ofNat_tdiv, Nat.reduceLT]
  refine S2.dec (fun h => ?_) (fun h => ?_)
  · simp -dsimp only [aqT, aqU, aqN, ↓seqK, ↓blkK, ↓loopK, step, stepBin, Nat.reduceBEq, Nat.reduceBeqDiff, Nat.add_assoc nid, Nat.reduceAdd, reduceCtorEq, ↓reduceIte, Nat.reduceLeDiff, Nat.reduceBneDiff, Option.toList, ← Int.ofNat_tmod, ← Int.ofNat_tdiv, Nat.reduceLT]
    refine RetOK.pure (.inl rfl) rfl ?_
    simp [retPV, PVCov, getS, below, h]
  simp -dsimp only [aqT, aqU, aqN, ↓seqK, ↓blkK, ↓loopK, step, stepBin, Nat.reduceBEq, Nat.reduceBeqDiff, Nat.add_assoc nid, Nat.reduceAdd, reduceCtorEq, ↓reduceIte, Nat.reduceLeDiff, Nat.reduceBneDiff, Option.toList, ← Int.ofNat_tmod, ← Int.ofNat_tdiv, Nat.reduceLT]
  refine ⟨by omega, S2.dec (fun h2 => ?_) (fun h2 => ?_)⟩
  · simp -dsimp only [aqT, aqU, aqN, ↓seqK, ↓blkK, ↓loopK, step, stepBin, Nat.reduceBEq, Nat.reduceBeqDiff, Nat.add_assoc nid, Nat.reduceAdd, reduceCtorEq, ↓reduceIte, Nat.reduceLeDiff, Nat.reduceBneDiff, Option.toList, ← Int.ofNat_tmod, ← Int.ofNat_tdiv, Nat.reduceLT]
    have := Int.lt_tmod_of_pos x (show 0 < n by omega)
    refine ⟨by unfold inI64; omega, RetOK.pure (.inl rfl) rfl ?_⟩
    have h3 : x.tmod n + n = x % n := by rw [Int.tmod_eq_emod]; split <;> rw [Int.tmod_eq_emod] at h2 <;> rename_i h6 <;> simp only [h6, if_true, if_false, not_false_eq_true] at h2 <;> have := Int.emod_nonneg x (show n ≠ 0 by omega) <;> omega
    simp [retPV, over, keys, List.map_nil, List.map_cons, List.contains_cons, List.contains_nil, Bool.or_false, Bool.or_true, Bool.true_or, Bool.false_or, beq_self_eq_true, cond_true, cond_false, HeapCov, orNil, nilSz, onBlk, srcOf, getH_hit, getH_miss, getH.eq_1, getS_hit, getS_miss, getS.eq_1, BlkCov, PVCovs, PVCov, ColsEq, AColsEq, ACEq, ColEq.refl, liveIds, SlotsCov, List.all_nil, List.all_cons, List.any_nil, List.any_cons, List.nil_append, List.cons_append, inRange, apart, nilBlk, idS1, idS2, readAll, readRes, onAll, step, res, AX.val, List.drop_zero, List.drop_succ_cons, List.take_succ_cons, List.take_zero, below, h, h3]
  · simp -dsimp only [aqT, aqU, aqN, ↓seqK, ↓blkK, ↓loopK, step, stepBin, Nat.reduceBEq, Nat.reduceBeqDiff, Nat.add_assoc nid, Nat.reduceAdd, reduceCtorEq, ↓reduceIte, Nat.reduceLeDiff, Nat.reduceBneDiff, Option.toList, ← Int.ofNat_tmod, ← Int.ofNat_tdiv, Nat.reduceLT]
    refine RetOK.pure (.inl rfl) rfl ?_
    have h3 : x.tmod n = x % n := by rw [Int.tmod_eq_emod]; split <;> rw [Int.tmod_eq_emod] at h2 <;> rename_i h6 <;> simp only [h6, if_true, if_false, not_false_eq_true] at h2 <;> have := Int.emod_lt_of_pos x (show 0 < n by omega) <;> omega
    simp [retPV, over, keys, List.map_nil, List.map_cons, List.contains_cons, List.contains_nil, Bool.or_false, Bool.or_true, Bool.true_or, Bool.false_or, beq_self_eq_true, cond_true, cond_false, HeapCov, orNil, nilSz, onBlk, srcOf, getH_hit, getH_miss, getH.eq_1, getS_hit, getS_miss, getS.eq_1, BlkCov, PVCovs, PVCov, ColsEq, AColsEq, ACEq, ColEq.refl, liveIds, SlotsCov, List.all_nil, List.all_cons, List.any_nil, List.any_cons, List.nil_append, List.cons_append, inRange, apart, nilBlk, idS1, idS2, readAll, readRes, onAll, step, res, AX.val, List.drop_zero, List.drop_succ_cons, List.take_succ_cons, List.take_zero, below, h, h3]
def strmC (nl : Bool) (A : List Int) (p : Nat) : Option ABlk := some (.box 25 [.lit nl A.length [.i .i64 fun i => A.getD i 0], .int .i64 p])
theorem strmC_low (n : Nat) (nl : Bool) (A : List Int) (p : Nat) : lowBlk n (strmC nl A p) = true := rfl
theorem next_c (s nid : Nat) (nl : Bool) (A : List Int) (p : Nat) (n : Int) (h : s < nid) (hp : p ≤ 1099511627775) (hA : A.length ≤ 17592186044416) (hn : n ≤ 9223372036854775807) :
    ACall Tryd.prog 85 [.ptr s 0, .int .i64 n] [(s, strmC nl A p)] nid (.int .i64 (nextV A p n)) [(s, strmC nl A (p + 1))] := by
  obtain ⟨e1, e2, e3, e4, e5, e6, e7, e8, e9⟩ := id_all h
  refine acall_run c85 (by simp [a85]) ?_
  simp -dsimp only [a85, strmC, aqT, aqU, aqN, ↓seqK, ↓blkK, ↓loopK, step, stepBin, Nat.reduceBEq, Nat.reduceBeqDiff, Nat.add_assoc nid, Nat.reduceAdd, reduceCtorEq, ↓reduceIte, Nat.reduceLeDiff, Nat.reduceBneDiff, Option.toList, ← Int.ofNat_tmod, ← Int.ofNat_tdiv, Nat.reduceLT, e1, e2, e3, e4, e5, e6, e7, e8, e9]
  refine ⟨by unfold inI64; omega, S2.intro (fun h2 => ?_) (fun h2 => ?_)⟩
  · simp -dsimp only [aqT, aqU, aqN, ↓seqK, ↓blkK, ↓loopK, step, stepBin, Nat.reduceBEq, Nat.reduceBeqDiff, Nat.add_assoc nid, Nat.reduceAdd, reduceCtorEq, ↓reduceIte, Nat.reduceLeDiff, Nat.reduceBneDiff, Option.toList, ← Int.ofNat_tmod, ← Int.ofNat_tdiv, Nat.reduceLT, e1, e2, e3, e4, e5, e6, e7, e8, e9]
    refine ⟨by unfold inI64; omega, CallO.pure (below_c _ _ _ hn) ?_⟩
    simp -dsimp only [aqT, aqU, aqN, ↓seqK, ↓blkK, ↓loopK, step, stepBin, Nat.reduceBEq, Nat.reduceBeqDiff, Nat.add_assoc nid, Nat.reduceAdd, reduceCtorEq, ↓reduceIte, Nat.reduceLeDiff, Nat.reduceBneDiff, Option.toList, ← Int.ofNat_tmod, ← Int.ofNat_tdiv, Nat.reduceLT, e1, e2, e3, e4, e5, e6, e7, e8, e9]
    have h3 : A.length = 0 := by simpa using h2
    refine RetOK.same (.inl rfl) rfl (by simp [strmC, liveIds]; omega) ?_ ?_
    · simp [retPV, over, keys, List.map_nil, List.map_cons, List.contains_cons, List.contains_nil, Bool.or_false, Bool.or_true, Bool.true_or, Bool.false_or, beq_self_eq_true, cond_true, cond_false, HeapCov, orNil, nilSz, onBlk, srcOf, getH_hit, getH_miss, getH.eq_1, getS_hit, getS_miss, getS.eq_1, BlkCov, PVCovs, PVCov, ColsEq, AColsEq, ACEq, ColEq.refl, liveIds, SlotsCov, List.all_nil, List.all_cons, List.any_nil, List.any_cons, List.nil_append, List.cons_append, inRange, apart, nilBlk, idS1, idS2, readAll, readRes, onAll, step, res, AX.val, List.drop_zero, List.drop_succ_cons, List.take_succ_cons, List.take_zero, strmC]
    · simp [retPV, over, keys, List.map_nil, List.map_cons, List.contains_cons, List.contains_nil, Bool.or_false, Bool.or_true, Bool.true_or, Bool.false_or, beq_self_eq_true, cond_true, cond_false, HeapCov, orNil, nilSz, onBlk, srcOf, getH_hit, getH_miss, getH.eq_1, getS_hit, getS_miss, getS.eq_1, BlkCov, PVCovs, PVCov, ColsEq, AColsEq, ACEq, ColEq.refl, liveIds, SlotsCov, List.all_nil, List.all_cons, List.any_nil, List.any_cons, List.nil_append, List.cons_append, inRange, apart, nilBlk, idS1, idS2, readAll, readRes, onAll, step, res, AX.val, List.drop_zero, List.drop_succ_cons, List.take_succ_cons, List.take_zero, nextV, h3]
  · simp -dsimp only [aqT, aqU, aqN, ↓seqK, ↓blkK, ↓loopK, step, stepBin, Nat.reduceBEq, Nat.reduceBeqDiff, Nat.add_assoc nid, Nat.reduceAdd, reduceCtorEq, ↓reduceIte, Nat.reduceLeDiff, Nat.reduceBneDiff, Option.toList, ← Int.ofNat_tmod, ← Int.ofNat_tdiv, Nat.reduceLT, e1, e2, e3, e4, e5, e6, e7, e8, e9]
    have h3 : 0 < A.length := by have : ¬ A.length = 0 := by simpa using h2
                                 omega
    have h4 : ∀ z : Nat, z ≤ 1099511627776 → IntKind.i64.wrap (z : Int) = z := fun z hz => IntWalk.i64_in _ (by omega)
    have h5 : p / A.length ≤ p := Nat.div_le_self _ _
    have h6 : p % A.length < A.length := Nat.mod_lt _ h3
    have h11 := h4 _ (show p / A.length ≤ 1099511627776 by omega)
    refine ⟨by unfold inI64; omega, by omega, by unfold inI64; omega, by omega, by omega, CallO.pure (below_c _ _ _ (by omega)) ?_⟩
    simp -dsimp only [aqT, aqU, aqN, ↓seqK, ↓blkK, ↓loopK, step, stepBin, Nat.reduceBEq, Nat.reduceBeqDiff, Nat.add_assoc nid, Nat.reduceAdd, reduceCtorEq, ↓reduceIte, Nat.reduceLeDiff, Nat.reduceBneDiff, Option.toList, ← Int.ofNat_tmod, ← Int.ofNat_tdiv, Nat.reduceLT, h11, e1, e2, e3, e4, e5, e6, e7, e8, e9]
    have h7 := round_bd p A.length h3 (by omega)
    have h8 := below_bd (A.getD (p % A.length) 0) (n := 1073741824) (by omega)
    rw [← Int.natCast_emod, ← Int.natCast_ediv] at h7
    generalize h9 : ((p / A.length : Nat) : Int) * (7919 + ((p % A.length : Nat) : Int)) = z at h7 ⊢
    refine ⟨by unfold inI64; omega, by unfold inI64; omega, by unfold inI64; omega, CallO.pure (below_c _ _ _ hn) ?_⟩
    simp -dsimp only [aqT, aqU, aqN, ↓seqK, ↓blkK, ↓loopK, step, stepBin, Nat.reduceBEq, Nat.reduceBeqDiff, Nat.add_assoc nid, Nat.reduceAdd, reduceCtorEq, ↓reduceIte, Nat.reduceLeDiff, Nat.reduceBneDiff, Option.toList, ← Int.ofNat_tmod, ← Int.ofNat_tdiv, Nat.reduceLT, e1, e2, e3, e4, e5, e6, e7, e8, e9]
    refine RetOK.same (.inl rfl) rfl (by simp [strmC, liveIds]; omega) ?_ ?_
    · simp [retPV, over, keys, List.map_nil, List.map_cons, List.contains_cons, List.contains_nil, Bool.or_false, Bool.or_true, Bool.true_or, Bool.false_or, beq_self_eq_true, cond_true, cond_false, HeapCov, orNil, nilSz, onBlk, srcOf, getH_hit, getH_miss, getH.eq_1, getS_hit, getS_miss, getS.eq_1, BlkCov, PVCovs, PVCov, ColsEq, AColsEq, ACEq, ColEq.refl, liveIds, SlotsCov, List.all_nil, List.all_cons, List.any_nil, List.any_cons, List.nil_append, List.cons_append, inRange, apart, nilBlk, idS1, idS2, readAll, readRes, onAll, step, res, AX.val, List.drop_zero, List.drop_succ_cons, List.take_succ_cons, List.take_zero, strmC]
    · have h10 : A.length ≠ 0 := by omega
      simp [retPV, over, keys, List.map_nil, List.map_cons, List.contains_cons, List.contains_nil, Bool.or_false, Bool.or_true, Bool.true_or, Bool.false_or, beq_self_eq_true, cond_true, cond_false, HeapCov, orNil, nilSz, onBlk, srcOf, getH_hit, getH_miss, getH.eq_1, getS_hit, getS_miss, getS.eq_1, BlkCov, PVCovs, PVCov, ColsEq, AColsEq, ACEq, ColEq.refl, liveIds, SlotsCov, List.all_nil, List.all_cons, List.any_nil, List.any_cons, List.nil_append, List.cons_append, inRange, apart, nilBlk, idS1, idS2, readAll, readRes, onAll, step, res, AX.val, List.drop_zero, List.drop_succ_cons, List.take_succ_cons, List.take_zero, nextV, h10, ← h9]
theorem range_c (s nid : Nat) (nl : Bool) (A : List Int) (p : Nat) (lo hi : Int) (h : s < nid) (hp : p ≤ 1099511627775) (hA : A.length ≤ 17592186044416) (h1 : lo ≤ hi) (hl : -1099511627776 ≤ lo) (hh : hi ≤ 1099511627776) :
    ACall Tryd.prog 37 [.ptr s 0, .int .i64 lo, .int .i64 hi] [(s, strmC nl A p)] nid (.int .i64 (rangeV A p lo hi)) [(s, strmC nl A (p + 1))] := by
  obtain ⟨e1, e2, e3, e4, e5, e6, e7, e8, e9⟩ := id_all h
  refine acall_run c37 (by simp [a37]) ?_
  simp -dsimp only [a37, aqT, aqU, aqN, ↓seqK, ↓blkK, ↓loopK, step, stepBin, Nat.reduceBEq, Nat.reduceBeqDiff, Nat.add_assoc nid, Nat.reduceAdd, reduceCtorEq, ↓reduceIte, Nat.reduceLeDiff, Nat.reduceBneDiff, Option.toList, ← Int.ofNat_tmod, ← Int.ofNat_tdiv, Nat.reduceLT, e1, e2, e3, e4, e5, e6, e7, e8, e9]
  refine S2.dec (fun h => absurd h (by omega)) (fun h => ?_)
  simp -dsimp only [aqT, aqU, aqN, ↓seqK, ↓blkK, ↓loopK, step, stepBin, Nat.reduceBEq, Nat.reduceBeqDiff, Nat.add_assoc nid, Nat.reduceAdd, reduceCtorEq, ↓reduceIte, Nat.reduceLeDiff, Nat.reduceBneDiff, Option.toList, ← Int.ofNat_tmod, ← Int.ofNat_tdiv, Nat.reduceLT, e1, e2, e3, e4, e5, e6, e7, e8, e9]
  refine ⟨by unfold inI64; omega, by unfold inI64; omega, CallO.on (next_c _ _ _ _ _ _ (by omega) hp hA (by omega)) (subH_hit _ _ _) ?_⟩
  simp -dsimp only [aqT, aqU, aqN, ↓seqK, ↓blkK, ↓loopK, step, stepBin, Nat.reduceBEq, Nat.reduceBeqDiff, Nat.add_assoc nid, Nat.reduceAdd, reduceCtorEq, ↓reduceIte, Nat.reduceLeDiff, Nat.reduceBneDiff, Option.toList, ← Int.ofNat_tmod, ← Int.ofNat_tdiv, Nat.reduceLT, e1, e2, e3, e4, e5, e6, e7, e8, e9]
  have := nextV_bd A p (n := hi - lo + 1) (by omega)
  refine ⟨by unfold inI64; omega, RetOK.same (.inl rfl) rfl (by simp [strmC, liveIds]; omega) ?_ ?_⟩
  · simp [retPV, over, keys, List.map_nil, List.map_cons, List.contains_cons, List.contains_nil, Bool.or_false, Bool.or_true, Bool.true_or, Bool.false_or, beq_self_eq_true, cond_true, cond_false, HeapCov, orNil, nilSz, onBlk, srcOf, getH_hit, getH_miss, getH.eq_1, getS_hit, getS_miss, getS.eq_1, BlkCov, PVCovs, PVCov, ColsEq, AColsEq, ACEq, ColEq.refl, liveIds, SlotsCov, List.all_nil, List.all_cons, List.any_nil, List.any_cons, List.nil_append, List.cons_append, inRange, apart, nilBlk, idS1, idS2, readAll, readRes, onAll, step, res, AX.val, List.drop_zero, List.drop_succ_cons, List.take_succ_cons, List.take_zero, strmC]
  · simp [retPV, over, keys, List.map_nil, List.map_cons, List.contains_cons, List.contains_nil, Bool.or_false, Bool.or_true, Bool.true_or, Bool.false_or, beq_self_eq_true, cond_true, cond_false, HeapCov, orNil, nilSz, onBlk, srcOf, getH_hit, getH_miss, getH.eq_1, getS_hit, getS_miss, getS.eq_1, BlkCov, PVCovs, PVCov, ColsEq, AColsEq, ACEq, ColEq.refl, liveIds, SlotsCov, List.all_nil, List.all_cons, List.any_nil, List.any_cons, List.nil_append, List.cons_append, inRange, apart, nilBlk, idS1, idS2, readAll, readRes, onAll, step, res, AX.val, List.drop_zero, List.drop_succ_cons, List.take_succ_cons, List.take_zero, rangeV]
theorem flip_c (s nid : Nat) (nl : Bool) (A : List Int) (p : Nat) (n : Int) (h : s < nid) (hp : p ≤ 1099511627775) (hA : A.length ≤ 17592186044416) (hn : n ≤ 9223372036854775807) :
    ACall Tryd.prog 43 [.ptr s 0, .int .i64 n] [(s, strmC nl A p)] nid (.bool (flipV A p n)) [(s, strmC nl A (p + 1))] := by
  obtain ⟨e1, e2, e3, e4, e5, e6, e7, e8, e9⟩ := id_all h
  refine acall_run c43 (by simp [a43]) ?_
  simp -dsimp only [a43, aqT, aqU, aqN, ↓seqK, ↓blkK, ↓loopK, step, stepBin, Nat.reduceBEq, Nat.reduceBeqDiff, Nat.add_assoc nid, Nat.reduceAdd, reduceCtorEq, ↓reduceIte, Nat.reduceLeDiff, Nat.reduceBneDiff, Option.toList, ← Int.ofNat_tmod, ← Int.ofNat_tdiv, Nat.reduceLT, e1, e2, e3, e4, e5, e6, e7, e8, e9]
  refine CallO.on (next_c _ _ _ _ _ _ (by omega) hp hA hn) (subH_hit _ _ _) ?_
  simp -dsimp only [aqT, aqU, aqN, ↓seqK, ↓blkK, ↓loopK, step, stepBin, Nat.reduceBEq, Nat.reduceBeqDiff, Nat.add_assoc nid, Nat.reduceAdd, reduceCtorEq, ↓reduceIte, Nat.reduceLeDiff, Nat.reduceBneDiff, Option.toList, ← Int.ofNat_tmod, ← Int.ofNat_tdiv, Nat.reduceLT, e1, e2, e3, e4, e5, e6, e7, e8, e9]
  refine RetOK.same (.inl rfl) rfl (by simp [strmC, liveIds]; omega) ?_ ?_
  · simp [retPV, over, keys, List.map_nil, List.map_cons, List.contains_cons, List.contains_nil, Bool.or_false, Bool.or_true, Bool.true_or, Bool.false_or, beq_self_eq_true, cond_true, cond_false, HeapCov, orNil, nilSz, onBlk, srcOf, getH_hit, getH_miss, getH.eq_1, getS_hit, getS_miss, getS.eq_1, BlkCov, PVCovs, PVCov, ColsEq, AColsEq, ACEq, ColEq.refl, liveIds, SlotsCov, List.all_nil, List.all_cons, List.any_nil, List.any_cons, List.nil_append, List.cons_append, inRange, apart, nilBlk, idS1, idS2, readAll, readRes, onAll, step, res, AX.val, List.drop_zero, List.drop_succ_cons, List.take_succ_cons, List.take_zero, strmC]
  · simp [retPV, over, keys, List.map_nil, List.map_cons, List.contains_cons, List.contains_nil, Bool.or_false, Bool.or_true, Bool.true_or, Bool.false_or, beq_self_eq_true, cond_true, cond_false, HeapCov, orNil, nilSz, onBlk, srcOf, getH_hit, getH_miss, getH.eq_1, getS_hit, getS_miss, getS.eq_1, BlkCov, PVCovs, PVCov, ColsEq, AColsEq, ACEq, ColEq.refl, liveIds, SlotsCov, List.all_nil, List.all_cons, List.any_nil, List.any_cons, List.nil_append, List.cons_append, inRange, apart, nilBlk, idS1, idS2, readAll, readRes, onAll, step, res, AX.val, List.drop_zero, List.drop_succ_cons, List.take_succ_cons, List.take_zero, flipV]
theorem pick_c (s nid : Nat) (nl nl' : Bool) (A : List Int) (p : Nat) (n : Nat) (g : Nat → Int) (h : s < nid) (hp : p ≤ 1099511627775) (hA : A.length ≤ 17592186044416) (h1 : 0 < n) (hn : n ≤ 1099511627776) :
    ACall Tryd.prog 58 [.ptr s 0, .lit nl' n [.i .i64 g]] [(s, strmC nl A p)] nid (.int .i64 (g (pickI A p n))) [(s, strmC nl A (p + 1))] := by
  obtain ⟨e1, e2, e3, e4, e5, e6, e7, e8, e9⟩ := id_all h
  refine acall_run c58 (by simp [a58]) ?_
  simp -dsimp only [a58, aqT, aqU, aqN, ↓seqK, ↓blkK, ↓loopK, step, stepBin, Nat.reduceBEq, Nat.reduceBeqDiff, Nat.add_assoc nid, Nat.reduceAdd, reduceCtorEq, ↓reduceIte, Nat.reduceLeDiff, Nat.reduceBneDiff, Option.toList, ← Int.ofNat_tmod, ← Int.ofNat_tdiv, Nat.reduceLT, e1, e2, e3, e4, e5, e6, e7, e8, e9]
  refine CallO.on (next_c _ _ _ _ _ _ (by omega) hp hA (by omega)) (subH_hit _ _ _) ?_
  simp -dsimp only [aqT, aqU, aqN, ↓seqK, ↓blkK, ↓loopK, step, stepBin, Nat.reduceBEq, Nat.reduceBeqDiff, Nat.add_assoc nid, Nat.reduceAdd, reduceCtorEq, ↓reduceIte, Nat.reduceLeDiff, Nat.reduceBneDiff, Option.toList, ← Int.ofNat_tmod, ← Int.ofNat_tdiv, Nat.reduceLT, e1, e2, e3, e4, e5, e6, e7, e8, e9]
  have := nextV_bd A p (n := (n : Int)) (by omega)
  refine ⟨this, RetOK.same (.inl rfl) rfl (by simp [strmC, liveIds]; omega) ?_ ?_⟩
  · simp [retPV, over, keys, List.map_nil, List.map_cons, List.contains_cons, List.contains_nil, Bool.or_false, Bool.or_true, Bool.true_or, Bool.false_or, beq_self_eq_true, cond_true, cond_false, HeapCov, orNil, nilSz, onBlk, srcOf, getH_hit, getH_miss, getH.eq_1, getS_hit, getS_miss, getS.eq_1, BlkCov, PVCovs, PVCov, ColsEq, AColsEq, ACEq, ColEq.refl, liveIds, SlotsCov, List.all_nil, List.all_cons, List.any_nil, List.any_cons, List.nil_append, List.cons_append, inRange, apart, nilBlk, idS1, idS2, readAll, readRes, onAll, step, res, AX.val, List.drop_zero, List.drop_succ_cons, List.take_succ_cons, List.take_zero, strmC]
  · simp [retPV, over, keys, List.map_nil, List.map_cons, List.contains_cons, List.contains_nil, Bool.or_false, Bool.or_true, Bool.true_or, Bool.false_or, beq_self_eq_true, cond_true, cond_false, HeapCov, orNil, nilSz, onBlk, srcOf, getH_hit, getH_miss, getH.eq_1, getS_hit, getS_miss, getS.eq_1, BlkCov, PVCovs, PVCov, ColsEq, AColsEq, ACEq, ColEq.refl, liveIds, SlotsCov, List.all_nil, List.all_cons, List.any_nil, List.any_cons, List.nil_append, List.cons_append, inRange, apart, nilBlk, idS1, idS2, readAll, readRes, onAll, step, res, AX.val, List.drop_zero, List.drop_succ_cons, List.take_succ_cons, List.take_zero, pickI]
theorem CallX.pick_go {s id nid : Nat} {nl : Bool} {A : List Int} {p : Nat} {n T : Nat} {g : Nat → Int} {H : Heap} {K : PV → Heap → List Nat → Prop} (hs : getH H s = strmC nl A p) (hid : getH H id = some (.arr T n [.i .i64 g])) (hne : (s == id) = false) (h : s < nid) (hp : p ≤ 1099511627775) (hA : A.length ≤ 17592186044416) (h1 : 0 < n) (hn : n ≤ 1099511627776)
    (hK : K (.int .i64 (g (pickI A p n))) [(s, strmC nl A (p + 1)), (id, none)] [s, id]) : CallX Tryd.prog 58 [.ptr s 0, .sl id 0 n] H nid K := by
  refine CallX.given [id] (u := [(s, strmC nl A (p + 1))]) (fun nl' => ?_) (subH_get hs) (by simp [getH, hne]) hK
  have e : lends H [id] nl' [.ptr s 0, .sl id 0 n] = [.ptr s 0, .lit (nl' id) n [.i .i64 g]] := by simp [lends, lend, hid, noOs]
  rw [e]
  exact pick_c s _ nl _ A p n _ h hp hA h1 hn
theorem CallO.pick_go {s id nid : Nat} {nl : Bool} {A : List Int} {p : Nat} {n T : Nat} {g : Nat → Int} {H : Heap} {K : PV → Heap → Prop} (hs : getH H s = strmC nl A p) (hid : getH H id = some (.arr T n [.i .i64 g])) (hne : (s == id) = false) (h : s < nid) (hp : p ≤ 1099511627775) (hA : A.length ≤ 17592186044416) (h1 : 0 < n) (hn : n ≤ 1099511627776)
    (hK : K (.int .i64 (g (pickI A p n))) [(s, strmC nl A (p + 1)), (id, none)]) : CallOK Tryd.prog 58 [.ptr s 0, .sl id 0 n] H nid K :=
  CallO.x (CallX.pick_go hs hid hne h hp hA h1 hn hK)
end Go.Proofs.YthcldfmlfjomfaaDoor
namespace Go.Proofs.YthcldfmlfjomfaaDoor
open Go.RowKit
def litI (nl : Bool) (l : List Int) : PV := .lit nl l.length [.i .i64 fun i => l.getD i 0]
theorem out_c (x lo hi : Int) (nid : Nat) : ACall Tryd.prog 91 [.int .i64 x, .int .i64 lo, .int .i64 hi] [] nid (.bool (outB x lo hi)) [] := by
  refine acall_run c91 (by simp [a91]) ?_
  simp -dsimp only [a91, aqT, aqU, aqN, ↓seqK, ↓blkK, ↓loopK, step, stepBin, Nat.reduceBEq, Nat.reduceBeqDiff, Nat.add_assoc nid, Nat.reduceAdd, reduceCtorEq, ↓reduceIte, Nat.reduceLeDiff, Nat.reduceBneDiff, Option.toList, ← Int.ofNat_tmod, ← Int.ofNat_tdiv, Nat.reduceLT]
  refine S2.dec (fun h => ?_) (fun h => ?_) <;> simp -dsimp only [aqT, aqU, aqN, ↓seqK, ↓blkK, ↓loopK, step, stepBin, Nat.reduceBEq, Nat.reduceBeqDiff, Nat.add_assoc nid, Nat.reduceAdd, reduceCtorEq, ↓reduceIte, Nat.reduceLeDiff, Nat.reduceBneDiff, Option.toList, ← Int.ofNat_tmod, ← Int.ofNat_tdiv, Nat.reduceLT] <;> refine RetOK.pure (.inl rfl) rfl ?_ <;> simp [retPV, over, keys, List.map_nil, List.map_cons, List.contains_cons, List.contains_nil, Bool.or_false, Bool.or_true, Bool.true_or, Bool.false_or, beq_self_eq_true, cond_true, cond_false, HeapCov, orNil, nilSz, onBlk, srcOf, getH_hit, getH_miss, getH.eq_1, getS_hit, getS_miss, getS.eq_1, BlkCov, PVCovs, PVCov, ColsEq, AColsEq, ACEq, ColEq.refl, liveIds, SlotsCov, List.all_nil, List.all_cons, List.any_nil, List.any_cons, List.nil_append, List.cons_append, inRange, apart, nilBlk, idS1, idS2, readAll, readRes, onAll, step, res, AX.val, List.drop_zero, List.drop_succ_cons, List.take_succ_cons, List.take_zero, outB] <;> omega
theorem in_c (x lo hi : Int) (nid : Nat) : ACall Tryd.prog 89 [.int .i64 x, .int .i64 lo, .int .i64 hi] [] nid (.bool (!outB x lo hi)) [] := by
  refine acall_run c89 (by simp [a89]) ?_
  simp -dsimp only [a89, aqT, aqU, aqN, ↓seqK, ↓blkK, ↓loopK, step, stepBin, Nat.reduceBEq, Nat.reduceBeqDiff, Nat.add_assoc nid, Nat.reduceAdd, reduceCtorEq, ↓reduceIte, Nat.reduceLeDiff, Nat.reduceBneDiff, Option.toList, ← Int.ofNat_tmod, ← Int.ofNat_tdiv, Nat.reduceLT]
  refine S2.dec (fun h => ?_) (fun h => ?_) <;> simp -dsimp only [aqT, aqU, aqN, ↓seqK, ↓blkK, ↓loopK, step, stepBin, Nat.reduceBEq, Nat.reduceBeqDiff, Nat.add_assoc nid, Nat.reduceAdd, reduceCtorEq, ↓reduceIte, Nat.reduceLeDiff, Nat.reduceBneDiff, Option.toList, ← Int.ofNat_tmod, ← Int.ofNat_tdiv, Nat.reduceLT] <;> refine RetOK.pure (.inl rfl) rfl ?_ <;> simp [retPV, over, keys, List.map_nil, List.map_cons, List.contains_cons, List.contains_nil, Bool.or_false, Bool.or_true, Bool.true_or, Bool.false_or, beq_self_eq_true, cond_true, cond_false, HeapCov, orNil, nilSz, onBlk, srcOf, getH_hit, getH_miss, getH.eq_1, getS_hit, getS_miss, getS.eq_1, BlkCov, PVCovs, PVCov, ColsEq, AColsEq, ACEq, ColEq.refl, liveIds, SlotsCov, List.all_nil, List.all_cons, List.any_nil, List.any_cons, List.nil_append, List.cons_append, inRange, apart, nilBlk, idS1, idS2, readAll, readRes, onAll, step, res, AX.val, List.drop_zero, List.drop_succ_cons, List.take_succ_cons, List.take_zero, outB] <;> first | omega | (rw [Bool.eq_iff_iff]; simp; omega)
end Go.Proofs.YthcldfmlfjomfaaDoor
namespace Go.Proofs.YthcldfmlfjomfaaDoor
open Go.RowKit
def spanV (x lo hi : Int) : Int := if outB x lo hi = true then 1 else 0
theorem span_c (x lo hi : Int) (nid : Nat) : ACall Tryd.prog 59 [.int .i64 x, .int .i64 lo, .int .i64 hi] [] nid (.int .i64 (spanV x lo hi)) [] := by
  refine acall_run c59 (by simp [a59]) ?_
  simp -dsimp only [aqT, aqU, aqN, ↓seqK, ↓blkK, ↓loopK, step, stepBin, Nat.reduceBEq, Nat.reduceBeqDiff, Nat.add_assoc nid, Nat.reduceAdd, reduceCtorEq, ↓reduceIte, Nat.reduceLeDiff, Nat.reduceBneDiff, Option.toList, ← Int.ofNat_tmod, ← Int.ofNat_tdiv, Nat.reduceLT, a59]
  refine CallO.pure (in_c x lo hi _) ?_
  simp -dsimp only [aqT, aqU, aqN, ↓seqK, ↓blkK, ↓loopK, step, stepBin, Nat.reduceBEq, Nat.reduceBeqDiff, Nat.add_assoc nid, Nat.reduceAdd, reduceCtorEq, ↓reduceIte, Nat.reduceLeDiff, Nat.reduceBneDiff, Option.toList, ← Int.ofNat_tmod, ← Int.ofNat_tdiv, Nat.reduceLT]
  unfold spanV
  cases h : outB x lo hi <;> simp -dsimp only [aqT, aqU, aqN, ↓seqK, ↓blkK, ↓loopK, step, stepBin, Nat.reduceBEq, Nat.reduceBeqDiff, Nat.add_assoc nid, Nat.reduceAdd, reduceCtorEq, ↓reduceIte, Nat.reduceLeDiff, Nat.reduceBneDiff, Option.toList, ← Int.ofNat_tmod, ← Int.ofNat_tdiv, Nat.reduceLT]
  · refine RetOK.pure (.inl rfl) rfl ?_
    simp [retPV, over, keys, List.map_nil, List.map_cons, List.contains_cons, List.contains_nil, Bool.or_false, Bool.or_true, Bool.true_or, Bool.false_or, beq_self_eq_true, cond_true, cond_false, HeapCov, orNil, nilSz, onBlk, srcOf, getH_hit, getH_miss, getH.eq_1, getS_hit, getS_miss, getS.eq_1, BlkCov, PVCovs, PVCov, ColsEq, AColsEq, ACEq, ColEq.refl, liveIds, SlotsCov, List.all_nil, List.all_cons, List.any_nil, List.any_cons, List.nil_append, List.cons_append, inRange, apart, nilBlk, idS1, idS2, readAll, readRes, onAll, step, res, AX.val, List.drop_zero, List.drop_succ_cons, List.take_succ_cons, List.take_zero]
  · refine RetOK.pure (.inl rfl) rfl ?_
    simp [retPV, over, keys, List.map_nil, List.map_cons, List.contains_cons, List.contains_nil, Bool.or_false, Bool.or_true, Bool.true_or, Bool.false_or, beq_self_eq_true, cond_true, cond_false, HeapCov, orNil, nilSz, onBlk, srcOf, getH_hit, getH_miss, getH.eq_1, getS_hit, getS_miss, getS.eq_1, BlkCov, PVCovs, PVCov, ColsEq, AColsEq, ACEq, ColEq.refl, liveIds, SlotsCov, List.all_nil, List.all_cons, List.any_nil, List.any_cons, List.nil_append, List.cons_append, inRange, apart, nilBlk, idS1, idS2, readAll, readRes, onAll, step, res, AX.val, List.drop_zero, List.drop_succ_cons, List.take_succ_cons, List.take_zero]
end Go.Proofs.YthcldfmlfjomfaaDoor
namespace Go.Proofs.YthcldfmlfjomfaaDoor
open Go.RowKit
theorem oddI_c (s nid : Nat) (nl : Bool) (A : List Int) (p : Nat) (lo hi : Int) (h : s < nid) (hp : p ≤ 1099511627000) (hA : A.length ≤ 17592186044416) (h1 : lo ≤ hi) (hl : -1000000 ≤ lo) (hh : hi ≤ 1000000) :
    ∃ x : Int, (-1099511627776 ≤ x ∧ x ≤ 1099511627776) ∧ ACall Tryd.prog 57 [.ptr s 0, .int .i64 lo, .int .i64 hi] [(s, strmC nl A p)] nid (.int .i64 x) [(s, strmC nl A (p + 2))] := by
  obtain ⟨e1, e2, e3, e4, e5, e6, e7, e8, e9⟩ := id_all h
  refine acall_ex c57 (by simp [a57]) ?_
  simp -dsimp only [aqT0, ROp0, aqT, aqU, aqN, ↓seqK, ↓blkK, ↓loopK, step, stepBin, Nat.reduceBEq, Nat.reduceBeqDiff, Nat.add_assoc nid, Nat.reduceAdd, reduceCtorEq, ↓reduceIte, Nat.reduceLeDiff, Nat.reduceBneDiff, Option.toList, ← Int.ofNat_tmod, ← Int.ofNat_tdiv, Nat.reduceLT, Int.cast_ofNat_Int, Int.reduceBEq, Int.reduceBNe, Int.reduceLT, Int.reduceLE, Int.reduceAdd, Int.reduceSub, Int.reduceMul, Int.reduceToNat, Int.reduceNeg, Int.reduceTMod, Int.reduceEq, not_false_eq_true, Int.reducePow, Int.reduceFDiv, Nat.reducePow, Nat.reduceSub, Nat.reduceMul, Nat.min_eq_left, Nat.reduceEqDiff, BEq.rfl, Int.tdiv_one, LN_succ, e1, e2, e3, e4, e5, e6, e7, e8, e9, a57, strmC_low]
  refine CallX.on (flip_c s _ nl A p _ (by omega) (by omega) hA (by omega)) (subH_get (by simp only [aqT, aqU, aqN, ↓seqK, ↓blkK, ↓loopK, step, stepBin, Nat.reduceBEq, Nat.reduceBeqDiff, Nat.add_assoc nid, Nat.reduceAdd, reduceCtorEq, ↓reduceIte, Nat.reduceLeDiff, Nat.reduceBneDiff, Option.toList, ← Int.ofNat_tmod, ← Int.ofNat_tdiv, Nat.reduceLT, e1, e2, e3, e4, e5, e6, e7, e8, e9])) ?_
  simp -dsimp only [aqT0, ROp0, aqT, aqU, aqN, ↓seqK, ↓blkK, ↓loopK, step, stepBin, Nat.reduceBEq, Nat.reduceBeqDiff, Nat.add_assoc nid, Nat.reduceAdd, reduceCtorEq, ↓reduceIte, Nat.reduceLeDiff, Nat.reduceBneDiff, Option.toList, ← Int.ofNat_tmod, ← Int.ofNat_tdiv, Nat.reduceLT, Int.cast_ofNat_Int, Int.reduceBEq, Int.reduceBNe, Int.reduceLT, Int.reduceLE, Int.reduceAdd, Int.reduceSub, Int.reduceMul, Int.reduceToNat, Int.reduceNeg, Int.reduceTMod, Int.reduceEq, not_false_eq_true, Int.reducePow, Int.reduceFDiv, Nat.reducePow, Nat.reduceSub, Nat.reduceMul, Nat.min_eq_left, Nat.reduceEqDiff, BEq.rfl, Int.tdiv_one, LN_succ, e1, e2, e3, e4, e5, e6, e7, e8, e9, strmC_low]
  refine S2.intro (fun h2 => ?_) (fun h2 => ?_) <;> simp -dsimp only [aqT0, ROp0, aqT, aqU, aqN, ↓seqK, ↓blkK, ↓loopK, step, stepBin, Nat.reduceBEq, Nat.reduceBeqDiff, Nat.add_assoc nid, Nat.reduceAdd, reduceCtorEq, ↓reduceIte, Nat.reduceLeDiff, Nat.reduceBneDiff, Option.toList, ← Int.ofNat_tmod, ← Int.ofNat_tdiv, Nat.reduceLT, Int.cast_ofNat_Int, Int.reduceBEq, Int.reduceBNe, Int.reduceLT, Int.reduceLE, Int.reduceAdd, Int.reduceSub, Int.reduceMul, Int.reduceToNat, Int.reduceNeg, Int.reduceTMod, Int.reduceEq, not_false_eq_true, Int.reducePow, Int.reduceFDiv, Nat.reducePow, Nat.reduceSub, Nat.reduceMul, Nat.min_eq_left, Nat.reduceEqDiff, BEq.rfl, Int.tdiv_one, LN_succ, e1, e2, e3, e4, e5, e6, e7, e8, e9, strmC_low]
  · refine ⟨by unfold inI64; omega, by unfold inI64; omega, CallX.pick_go (T := 3) (nl := nl) (A := A) (p := p + 1) (g := fun i => [lo - 1, hi + 1, lo, hi, -1099511627776, 1099511627776].getD i 0) (by simp only [aqT, aqU, aqN, ↓seqK, ↓blkK, ↓loopK, step, stepBin, Nat.reduceBEq, Nat.reduceBeqDiff, Nat.add_assoc nid, Nat.reduceAdd, reduceCtorEq, ↓reduceIte, Nat.reduceLeDiff, Nat.reduceBneDiff, Option.toList, ← Int.ofNat_tmod, ← Int.ofNat_tdiv, Nat.reduceLT, e1, e2, e3, e4, e5, e6, e7, e8, e9]) (by simp only [aqT, aqU, aqN, ↓seqK, ↓blkK, ↓loopK, step, stepBin, Nat.reduceBEq, Nat.reduceBeqDiff, Nat.add_assoc nid, Nat.reduceAdd, reduceCtorEq, ↓reduceIte, Nat.reduceLeDiff, Nat.reduceBneDiff, Option.toList, ← Int.ofNat_tmod, ← Int.ofNat_tdiv, Nat.reduceLT, e1, e2, e3, e4, e5, e6, e7, e8, e9]) (by simp only [aqT, aqU, aqN, ↓seqK, ↓blkK, ↓loopK, step, stepBin, Nat.reduceBEq, Nat.reduceBeqDiff, Nat.add_assoc nid, Nat.reduceAdd, reduceCtorEq, ↓reduceIte, Nat.reduceLeDiff, Nat.reduceBneDiff, Option.toList, ← Int.ofNat_tmod, ← Int.ofNat_tdiv, Nat.reduceLT, e1, e2, e3, e4, e5, e6, e7, e8, e9]) (by omega) (by omega) hA (by omega) (by omega) ?_⟩
    simp -dsimp only [aqT0, ROp0, aqT, aqU, aqN, ↓seqK, ↓blkK, ↓loopK, step, stepBin, Nat.reduceBEq, Nat.reduceBeqDiff, Nat.add_assoc nid, Nat.reduceAdd, reduceCtorEq, ↓reduceIte, Nat.reduceLeDiff, Nat.reduceBneDiff, Option.toList, ← Int.ofNat_tmod, ← Int.ofNat_tdiv, Nat.reduceLT, Int.cast_ofNat_Int, Int.reduceBEq, Int.reduceBNe, Int.reduceLT, Int.reduceLE, Int.reduceAdd, Int.reduceSub, Int.reduceMul, Int.reduceToNat, Int.reduceNeg, Int.reduceTMod, Int.reduceEq, not_false_eq_true, Int.reducePow, Int.reduceFDiv, Nat.reducePow, Nat.reduceSub, Nat.reduceMul, Nat.min_eq_left, Nat.reduceEqDiff, BEq.rfl, Int.tdiv_one, LN_succ, e1, e2, e3, e4, e5, e6, e7, e8, e9, strmC_low]
    have hb := pickV_bd A (p + 1) (l := [lo - 1, hi + 1, lo, hi, -1099511627776, 1099511627776]) (lo := -1099511627776) (hi := 1099511627776) (by simp) (by simp; omega)
    refine EndOK.mk _ hb ?_
    refine RetOK.go [] [] (.inl rfl) ?_
    simp [a57, retPV, over, keys, List.map_nil, List.map_cons, List.contains_cons, List.contains_nil, Bool.or_false, Bool.or_true, Bool.true_or, Bool.false_or, beq_self_eq_true, cond_true, cond_false, HeapCov, orNil, nilSz, onBlk, srcOf, getH_hit, getH_miss, getH.eq_1, getS_hit, getS_miss, getS.eq_1, BlkCov, PVCovs, PVCov, ColsEq, AColsEq, ACEq, ColEq.refl, liveIds, SlotsCov, List.all_nil, List.all_cons, List.any_nil, List.any_cons, List.nil_append, List.cons_append, inRange, apart, nilBlk, idS1, idS2, readAll, readRes, onAll, step, res, AX.val, List.drop_zero, List.drop_succ_cons, List.take_succ_cons, List.take_zero, e1, e2, e3, e4, e5, e6, e7, e8, e9, strmC, pickV]
    omega
  · refine CallX.on (range_c s _ nl A (p + 1) _ _ (by omega) (by omega) hA h1 (by omega) (by omega)) (subH_get (by simp only [aqT, aqU, aqN, ↓seqK, ↓blkK, ↓loopK, step, stepBin, Nat.reduceBEq, Nat.reduceBeqDiff, Nat.add_assoc nid, Nat.reduceAdd, reduceCtorEq, ↓reduceIte, Nat.reduceLeDiff, Nat.reduceBneDiff, Option.toList, ← Int.ofNat_tmod, ← Int.ofNat_tdiv, Nat.reduceLT, e1, e2, e3, e4, e5, e6, e7, e8, e9])) ?_
    simp -dsimp only [aqT0, ROp0, aqT, aqU, aqN, ↓seqK, ↓blkK, ↓loopK, step, stepBin, Nat.reduceBEq, Nat.reduceBeqDiff, Nat.add_assoc nid, Nat.reduceAdd, reduceCtorEq, ↓reduceIte, Nat.reduceLeDiff, Nat.reduceBneDiff, Option.toList, ← Int.ofNat_tmod, ← Int.ofNat_tdiv, Nat.reduceLT, Int.cast_ofNat_Int, Int.reduceBEq, Int.reduceBNe, Int.reduceLT, Int.reduceLE, Int.reduceAdd, Int.reduceSub, Int.reduceMul, Int.reduceToNat, Int.reduceNeg, Int.reduceTMod, Int.reduceEq, not_false_eq_true, Int.reducePow, Int.reduceFDiv, Nat.reducePow, Nat.reduceSub, Nat.reduceMul, Nat.min_eq_left, Nat.reduceEqDiff, BEq.rfl, Int.tdiv_one, LN_succ, e1, e2, e3, e4, e5, e6, e7, e8, e9, strmC_low]
    have hb := rangeV_bd A (p + 1) h1
    refine EndOK.mk (rangeV A (p + 1) lo hi) (by omega) ?_
    refine RetOK.go [] [] (.inl rfl) ?_
    simp [a57, retPV, over, keys, List.map_nil, List.map_cons, List.contains_cons, List.contains_nil, Bool.or_false, Bool.or_true, Bool.true_or, Bool.false_or, beq_self_eq_true, cond_true, cond_false, HeapCov, orNil, nilSz, onBlk, srcOf, getH_hit, getH_miss, getH.eq_1, getS_hit, getS_miss, getS.eq_1, BlkCov, PVCovs, PVCov, ColsEq, AColsEq, ACEq, ColEq.refl, liveIds, SlotsCov, List.all_nil, List.all_cons, List.any_nil, List.any_cons, List.nil_append, List.cons_append, inRange, apart, nilBlk, idS1, idS2, readAll, readRes, onAll, step, res, AX.val, List.drop_zero, List.drop_succ_cons, List.take_succ_cons, List.take_zero, e1, e2, e3, e4, e5, e6, e7, e8, e9, strmC]
    omega
theorem getD_all {α : Type} {P : α → Prop} {l : List α} {d : α} (h : ∀ x ∈ l, P x) {i : Nat} (hi : i < l.length) : P (l.getD i d) := by
  rw [List.getD_eq_getElem?_getD, List.getElem?_eq_getElem hi]
  exact h _ (List.getElem_mem _)
end Go.Proofs.YthcldfmlfjomfaaDoor
namespace Go.Proofs.YthcldfmlfjomfaaDoor
open Go.RowKit
def arrS (l : List (List UInt8)) : Option ABlk := some (.arr 9 l.length [.s fun i => l.getD i []])
theorem getD_app1 (l : List (List UInt8)) (x : List UInt8) {n : Nat} (hn : l.length = n) : (fun i => if i < n then l.getD i [] else [x].getD (i - n) []) = fun i => (l ++ [x]).getD i [] := by
  subst hn
  funext i
  simp only [List.getD_eq_getElem?_getD, List.getElem?_append]
  split <;> rfl
def ShortRows (m : Nat) (l : List (List UInt8)) : Prop := ∀ r ∈ l, r.length ≤ m
theorem ShortRows.at {m : Nat} {l : List (List UInt8)} (h : ShortRows m l) (i : Nat) : (l.getD i []).length ≤ m := by
  rw [List.getD_eq_getElem?_getD]
  cases hg : l[i]? with
  | none => simp
  | some x => exact h x (List.mem_of_getElem? hg)
theorem ShortRows.set {m : Nat} {l : List (List UInt8)} (h : ShortRows m l) (i : Nat) {x : List UInt8} (hx : x.length ≤ m) : ShortRows m (l.set i x) := fun r hr => by
  rcases List.mem_or_eq_of_mem_set hr with h1 | h1
  · exact h r h1
  · rw [h1]; exact hx
theorem ShortRows.mono {m n : Nat} {l : List (List UInt8)} (h : ShortRows m l) (hn : m ≤ n) : ShortRows n l := fun r hr => Nat.le_trans (h r hr) hn
def litS (nl : Bool) (l : List (List UInt8)) : PV := .lit nl l.length [.s fun i => l.getD i []]
theorem take_eqL {l m : List (List UInt8)} {k : Nat} (hl : k < l.length) (hm : k < m.length) (h : l.take k = m.take k) (hx : l.getD k [] = m.getD k []) : l.take (k + 1) = m.take (k + 1) := by
  rw [take_snoc (x := l.getD k []) (by rw [List.getD_eq_getElem?_getD, List.getElem?_eq_getElem hl]; rfl), take_snoc (x := m.getD k []) (by rw [List.getD_eq_getElem?_getD, List.getElem?_eq_getElem hm]; rfl), h, hx]
theorem equalS_c (nl nl' : Bool) (l m : List (List UInt8)) (nid : Nat) (hl : l.length ≤ 1000000000000) (hm : m.length ≤ 1000000000000) : ACall Tryd.prog 20 [litS nl l, litS nl' m] [] nid (.bool (l == m)) [] := by
  refine acall_run c20 (by simp [a20]) ?_
  unfold litS
  simp -dsimp only [aqT, aqU, aqN, ↓seqK, ↓blkK, ↓loopK, step, stepBin, Nat.reduceBEq, Nat.reduceBeqDiff, Nat.add_assoc nid, Nat.reduceAdd, reduceCtorEq, ↓reduceIte, Nat.reduceLeDiff, Nat.reduceBneDiff, Option.toList, ← Int.ofNat_tmod, ← Int.ofNat_tdiv, Nat.reduceLT, a20]
  refine S2.intro (fun h => ?_) (fun h => ?_) <;> simp -dsimp only [aqT, aqU, aqN, ↓seqK, ↓blkK, ↓loopK, step, stepBin, Nat.reduceBEq, Nat.reduceBeqDiff, Nat.add_assoc nid, Nat.reduceAdd, reduceCtorEq, ↓reduceIte, Nat.reduceLeDiff, Nat.reduceBneDiff, Option.toList, ← Int.ofNat_tmod, ← Int.ofNat_tdiv, Nat.reduceLT]
  · refine RetOK.pure (.inl rfl) rfl ?_
    have h1 : l ≠ m := fun e => by subst e; simp at h
    have h2 : (l == m) = false := by simpa using h1
    simp [retPV, over, keys, List.map_nil, List.map_cons, List.contains_cons, List.contains_nil, Bool.or_false, Bool.or_true, Bool.true_or, Bool.false_or, beq_self_eq_true, cond_true, cond_false, HeapCov, orNil, nilSz, onBlk, srcOf, getH_hit, getH_miss, getH.eq_1, getS_hit, getS_miss, getS.eq_1, BlkCov, PVCovs, PVCov, ColsEq, AColsEq, ACEq, ColEq.refl, liveIds, SlotsCov, List.all_nil, List.all_cons, List.any_nil, List.any_cons, List.nil_append, List.cons_append, inRange, apart, nilBlk, idS1, idS2, readAll, readRes, onAll, step, res, AX.val, List.drop_zero, List.drop_succ_cons, List.take_succ_cons, List.take_zero, h1]
  have hlm : l.length = m.length := by have : (l.length : Int) = m.length := by simpa using h
                                       omega
  refine LP.mkP (fun k : Nat => k ≤ l.length ∧ l.take k = m.take k) (fun k : Nat => ⟨[(13, .int .i64 k), (12, .int .i64 l.length), (0, litS nl l), (1, litS nl' m)], [], nid + 36, nid⟩) (fun k => l.length + 1 - k) 0 ⟨by omega, rfl⟩ (Cov.go [] [] ?_) (fun k hk => ?_)
  · simp [retPV, over, keys, List.map_nil, List.map_cons, List.contains_cons, List.contains_nil, Bool.or_false, Bool.or_true, Bool.true_or, Bool.false_or, beq_self_eq_true, cond_true, cond_false, HeapCov, orNil, nilSz, onBlk, srcOf, getH_hit, getH_miss, getH.eq_1, getS_hit, getS_miss, getS.eq_1, BlkCov, PVCovs, PVCov, ColsEq, AColsEq, ACEq, ColEq.refl, liveIds, SlotsCov, List.all_nil, List.all_cons, List.any_nil, List.any_cons, List.nil_append, List.cons_append, inRange, apart, nilBlk, idS1, idS2, readAll, readRes, onAll, step, res, AX.val, List.drop_zero, List.drop_succ_cons, List.take_succ_cons, List.take_zero, litS]
  unfold litS
  obtain ⟨hk, ht⟩ := hk
  simp -dsimp only [aqT, aqU, aqN, ↓seqK, ↓blkK, ↓loopK, step, stepBin, Nat.reduceBEq, Nat.reduceBeqDiff, Nat.add_assoc nid, Nat.reduceAdd, reduceCtorEq, ↓reduceIte, Nat.reduceLeDiff, Nat.reduceBneDiff, Option.toList, ← Int.ofNat_tmod, ← Int.ofNat_tdiv, Nat.reduceLT]
  refine S2.dec (fun h3 => ?_) (fun h3 => ?_) <;> simp -dsimp only [aqT, aqU, aqN, ↓seqK, ↓blkK, ↓loopK, step, stepBin, Nat.reduceBEq, Nat.reduceBeqDiff, Nat.add_assoc nid, Nat.reduceAdd, reduceCtorEq, ↓reduceIte, Nat.reduceLeDiff, Nat.reduceBneDiff, Option.toList, ← Int.ofNat_tmod, ← Int.ofNat_tdiv, Nat.reduceLT]
  · refine ⟨by omega, by omega, S2.intro (fun h4 => ?_) (fun h4 => ?_)⟩ <;> simp -dsimp only [aqT, aqU, aqN, ↓seqK, ↓blkK, ↓loopK, step, stepBin, Nat.reduceBEq, Nat.reduceBeqDiff, Nat.add_assoc nid, Nat.reduceAdd, reduceCtorEq, ↓reduceIte, Nat.reduceLeDiff, Nat.reduceBneDiff, Option.toList, ← Int.ofNat_tmod, ← Int.ofNat_tdiv, Nat.reduceLT]
    · refine RetOK.pure (.inl rfl) rfl ?_
      have h1 : l ≠ m := fun e => by subst e; simp at h4
      simp [retPV, over, keys, List.map_nil, List.map_cons, List.contains_cons, List.contains_nil, Bool.or_false, Bool.or_true, Bool.true_or, Bool.false_or, beq_self_eq_true, cond_true, cond_false, HeapCov, orNil, nilSz, onBlk, srcOf, getH_hit, getH_miss, getH.eq_1, getS_hit, getS_miss, getS.eq_1, BlkCov, PVCovs, PVCov, ColsEq, AColsEq, ACEq, ColEq.refl, liveIds, SlotsCov, List.all_nil, List.all_cons, List.any_nil, List.any_cons, List.nil_append, List.cons_append, inRange, apart, nilBlk, idS1, idS2, readAll, readRes, onAll, step, res, AX.val, List.drop_zero, List.drop_succ_cons, List.take_succ_cons, List.take_zero, h1]
    · have h5 : l.getD k [] = m.getD k [] := by simpa only [Bool.not_eq_false', beq_iff_eq] using h4
      refine ⟨by unfold inI64; omega, k + 1, ⟨⟨by omega, take_eqL (by omega) (by omega) ht h5⟩, by omega⟩, Cov.go [] [] ?_⟩
      simp [retPV, over, keys, List.map_nil, List.map_cons, List.contains_cons, List.contains_nil, Bool.or_false, Bool.or_true, Bool.true_or, Bool.false_or, beq_self_eq_true, cond_true, cond_false, HeapCov, orNil, nilSz, onBlk, srcOf, getH_hit, getH_miss, getH.eq_1, getS_hit, getS_miss, getS.eq_1, BlkCov, PVCovs, PVCov, ColsEq, AColsEq, ACEq, ColEq.refl, liveIds, SlotsCov, List.all_nil, List.all_cons, List.any_nil, List.any_cons, List.nil_append, List.cons_append, inRange, apart, nilBlk, idS1, idS2, readAll, readRes, onAll, step, res, AX.val, List.drop_zero, List.drop_succ_cons, List.take_succ_cons, List.take_zero, litS]
  · have hkl : k = l.length := by omega
    have h1 : l = m := by rw [hkl] at ht; rw [List.take_length, hlm, List.take_length] at ht; exact ht
    refine RetOK.pure (.inl rfl) rfl ?_
    simp [retPV, over, keys, List.map_nil, List.map_cons, List.contains_cons, List.contains_nil, Bool.or_false, Bool.or_true, Bool.true_or, Bool.false_or, beq_self_eq_true, cond_true, cond_false, HeapCov, orNil, nilSz, onBlk, srcOf, getH_hit, getH_miss, getH.eq_1, getS_hit, getS_miss, getS.eq_1, BlkCov, PVCovs, PVCov, ColsEq, AColsEq, ACEq, ColEq.refl, liveIds, SlotsCov, List.all_nil, List.all_cons, List.any_nil, List.any_cons, List.nil_append, List.cons_append, inRange, apart, nilBlk, idS1, idS2, readAll, readRes, onAll, step, res, AX.val, List.drop_zero, List.drop_succ_cons, List.take_succ_cons, List.take_zero, h1]
end Go.Proofs.YthcldfmlfjomfaaDoor
namespace Go.Proofs.YthcldfmlfjomfaaDoor
open Go.RowKit
end Go.Proofs.YthcldfmlfjomfaaDoor
namespace Go.Proofs.YthcldfmlfjomfaaDoor
open Go.RowKit
theorem fill_step (f : Nat → Int) (y : Nat) : (fun j => if j = y then f y else if j < y then f j else 0) = fun j => if j < y + 1 then f j else 0 := by
  funext j
  by_cases h : j = y
  · subst h; simp
  · rw [if_neg h]
    by_cases h2 : j < y
    · rw [if_pos h2, if_pos (by omega)]
    · rw [if_neg h2, if_neg (by omega)]
theorem fill_bytes {l : List UInt8} {n : Nat} (h : l.length = n) : (List.range n).map (fun i => UInt8.ofNat (if i < n then (((l.getD i 0).toNat : Nat) : Int) else 0).toNat) = l := by
  subst h
  apply List.ext_getElem
  · simp
  · intro i h1 h2
    rw [List.getElem_map, List.getElem_range, if_pos h2]
    simp [List.getD_eq_getElem?_getD, List.getElem?_eq_getElem h2]
theorem turnL_take (v : List (List UInt8)) {c x : Nat} (h : x < c) : (turnL v c).take (x + 1) = (turnL v c).take x ++ [colB v x] := by
  refine take_snoc ?_
  unfold turnL
  rw [List.getElem?_map, List.getElem?_range h]
  rfl
set_option maxHeartbeats 8000000 in
theorem turned_all (nl : Bool) (v : List (List UInt8)) (c : Nat) (nid : Nat) (hv : v.length ≤ 1000000000) (hc : c ≤ 1000000000) (hw : ∀ s ∈ v, c ≤ s.length) : ACall Tryd.prog 73 [litS nl v, .int .i64 (c : Nat)] [] nid (.sl nid 0 c) [(nid, arrS (turnL v c))] := by
  have hrl := turnL_len v c
  refine acall_run c73 (by simp [a73]) ?_
  unfold litS
  simp -dsimp only [aqT, aqU, aqN, ↓seqK, ↓blkK, ↓loopK, step, stepBin, Nat.reduceBEq, Nat.reduceBeqDiff, Nat.add_assoc nid, Nat.reduceAdd, reduceCtorEq, ↓reduceIte, Nat.reduceLeDiff, Nat.reduceBneDiff, Option.toList, ← Int.ofNat_tmod, ← Int.ofNat_tdiv, Nat.reduceLT, a73]
  refine LP.mkP (fun x : Nat => x ≤ c) (fun x : Nat => ⟨[(11, .int .i64 x), (10, .int .i64 (c : Nat)), (5, .sl (nid + 4) 0 x), (0, litS nl v)], [(nid + 4, arrS ((turnL v c).take x))], nid + 100, nid⟩) (fun x => c + 1 - x) 0 (by omega) (Cov.go [] [(nid + 4, 1)] ?_) (fun x hx => ?_)
  · simp [retPV, over, keys, List.map_nil, List.map_cons, List.contains_cons, List.contains_nil, Bool.or_false, Bool.or_true, Bool.true_or, Bool.false_or, beq_self_eq_true, cond_true, cond_false, HeapCov, orNil, nilSz, onBlk, srcOf, getH_hit, getH_miss, getH.eq_1, getS_hit, getS_miss, getS.eq_1, BlkCov, PVCovs, PVCov, ColsEq, AColsEq, ACEq, ColEq.refl, liveIds, SlotsCov, List.all_nil, List.all_cons, List.any_nil, List.any_cons, List.nil_append, List.cons_append, inRange, apart, nilBlk, idS1, idS2, readAll, readRes, onAll, step, res, AX.val, List.drop_zero, List.drop_succ_cons, List.take_succ_cons, List.take_zero, arrS, litS]
  have hxl : ((turnL v c).take x).length = x := by rw [List.length_take]; omega
  unfold arrS litS
  rw [hxl]
  simp -dsimp only [aqT, aqU, aqN, ↓seqK, ↓blkK, ↓loopK, step, stepBin, Nat.reduceBEq, Nat.reduceBeqDiff, Nat.add_assoc nid, Nat.reduceAdd, reduceCtorEq, ↓reduceIte, Nat.reduceLeDiff, Nat.reduceBneDiff, Option.toList, ← Int.ofNat_tmod, ← Int.ofNat_tdiv, Nat.reduceLT, Int.cast_ofNat_Int, Int.reduceBEq, Int.reduceBNe, Int.reduceLT, Int.reduceLE, Int.reduceAdd, Int.reduceSub, Int.reduceMul, Int.reduceToNat, Int.reduceNeg, Int.reduceTMod, Int.reduceEq, not_false_eq_true, Int.reducePow, Int.reduceFDiv, Nat.reducePow, Nat.reduceSub, Nat.reduceMul, Nat.min_eq_left, Nat.reduceEqDiff, BEq.rfl, Int.tdiv_one, LN_succ]
  refine S2.dec (fun h1 => ?_) (fun h1 => ?_) <;> simp -dsimp only [aqT, aqU, aqN, ↓seqK, ↓blkK, ↓loopK, step, stepBin, Nat.reduceBEq, Nat.reduceBeqDiff, Nat.add_assoc nid, Nat.reduceAdd, reduceCtorEq, ↓reduceIte, Nat.reduceLeDiff, Nat.reduceBneDiff, Option.toList, ← Int.ofNat_tmod, ← Int.ofNat_tdiv, Nat.reduceLT, Int.cast_ofNat_Int, Int.reduceBEq, Int.reduceBNe, Int.reduceLT, Int.reduceLE, Int.reduceAdd, Int.reduceSub, Int.reduceMul, Int.reduceToNat, Int.reduceNeg, Int.reduceTMod, Int.reduceEq, not_false_eq_true, Int.reducePow, Int.reduceFDiv, Nat.reducePow, Nat.reduceSub, Nat.reduceMul, Nat.min_eq_left, Nat.reduceEqDiff, BEq.rfl, Int.tdiv_one, LN_succ]
  · have hxw : x < c := by omega
    have htk := turnL_take v hxw
    have hRl := colB_len v x
    have hRt := fun y hy => colB_at v x (i := y) hy
    generalize colB v x = R at *
    generalize (turnL v c).take x = T at *
    refine ⟨by omega, ?_⟩
    refine LP.mkP (fun y : Nat => y ≤ v.length) (fun y : Nat => ⟨[(19, .int .i64 y), (18, .int .i64 v.length), (17, litS nl v), (7, .sl (nid + 8) 0 v.length), (6, .int .i64 x), (11, .int .i64 x), (10, .int .i64 (c : Nat)), (5, .sl (nid + 4) 0 x), (0, litS nl v)], [(nid + 4, arrS T), (nid + 8, some (.arr 5 v.length [.i .u8 fun i => if i < y then (((R.getD i 0).toNat : Nat) : Int) else 0]))], nid + 2000, nid⟩) (fun y => v.length + 1 - y) 0 (by omega) (Cov.go [(nid + 8, nid + 120)] [] ?_) (fun y hy => ?_)
    · simp [retPV, over, keys, List.map_nil, List.map_cons, List.contains_cons, List.contains_nil, Bool.or_false, Bool.or_true, Bool.true_or, Bool.false_or, beq_self_eq_true, cond_true, cond_false, HeapCov, orNil, nilSz, onBlk, srcOf, getH_hit, getH_miss, getH.eq_1, getS_hit, getS_miss, getS.eq_1, BlkCov, PVCovs, PVCov, ColsEq, AColsEq, ACEq, ColEq.refl, liveIds, SlotsCov, List.all_nil, List.all_cons, List.any_nil, List.any_cons, List.nil_append, List.cons_append, inRange, apart, nilBlk, idS1, idS2, readAll, readRes, onAll, step, res, AX.val, List.drop_zero, List.drop_succ_cons, List.take_succ_cons, List.take_zero, arrS, litS, hxl, Col.const]
    unfold arrS litS
    simp -dsimp only [aqT, aqU, aqN, ↓seqK, ↓blkK, ↓loopK, step, stepBin, Nat.reduceBEq, Nat.reduceBeqDiff, Nat.add_assoc nid, Nat.reduceAdd, reduceCtorEq, ↓reduceIte, Nat.reduceLeDiff, Nat.reduceBneDiff, Option.toList, ← Int.ofNat_tmod, ← Int.ofNat_tdiv, Nat.reduceLT, Int.cast_ofNat_Int, Int.reduceBEq, Int.reduceBNe, Int.reduceLT, Int.reduceLE, Int.reduceAdd, Int.reduceSub, Int.reduceMul, Int.reduceToNat, Int.reduceNeg, Int.reduceTMod, Int.reduceEq, not_false_eq_true, Int.reducePow, Int.reduceFDiv, Nat.reducePow, Nat.reduceSub, Nat.reduceMul, Nat.min_eq_left, Nat.reduceEqDiff, BEq.rfl, Int.tdiv_one, LN_succ]
    refine S2.dec (fun h2 => ?_) (fun h2 => ?_) <;> simp -dsimp only [aqT, aqU, aqN, ↓seqK, ↓blkK, ↓loopK, step, stepBin, Nat.reduceBEq, Nat.reduceBeqDiff, Nat.add_assoc nid, Nat.reduceAdd, reduceCtorEq, ↓reduceIte, Nat.reduceLeDiff, Nat.reduceBneDiff, Option.toList, ← Int.ofNat_tmod, ← Int.ofNat_tdiv, Nat.reduceLT, Int.cast_ofNat_Int, Int.reduceBEq, Int.reduceBNe, Int.reduceLT, Int.reduceLE, Int.reduceAdd, Int.reduceSub, Int.reduceMul, Int.reduceToNat, Int.reduceNeg, Int.reduceTMod, Int.reduceEq, not_false_eq_true, Int.reducePow, Int.reduceFDiv, Nat.reducePow, Nat.reduceSub, Nat.reduceMul, Nat.min_eq_left, Nat.reduceEqDiff, BEq.rfl, Int.tdiv_one, LN_succ]
    · have hyv : y < v.length := by omega
      have hcv := hRt y hyv
      have hlen := getD_all (P := fun s : List UInt8 => c ≤ s.length) (d := []) hw hyv
      have e : (fun j => if j = y then (((R.getD y 0).toNat : Nat) : Int) else if j < y then (((R.getD j 0).toNat : Nat) : Int) else 0) = fun j => if j < y + 1 then (((R.getD j 0).toNat : Nat) : Int) else 0 := fill_step (fun j => (((R.getD j 0).toNat : Nat) : Int)) y
      rw [← hcv, e]
      refine ⟨by omega, by omega, by omega, by unfold inI64; omega, y + 1, ⟨by omega, by omega⟩, Cov.go [] [] ?_⟩
      simp [retPV, over, keys, List.map_nil, List.map_cons, List.contains_cons, List.contains_nil, Bool.or_false, Bool.or_true, Bool.true_or, Bool.false_or, beq_self_eq_true, cond_true, cond_false, HeapCov, orNil, nilSz, onBlk, srcOf, getH_hit, getH_miss, getH.eq_1, getS_hit, getS_miss, getS.eq_1, BlkCov, PVCovs, PVCov, ColsEq, AColsEq, ACEq, ColEq.refl, liveIds, SlotsCov, List.all_nil, List.all_cons, List.any_nil, List.any_cons, List.nil_append, List.cons_append, inRange, apart, nilBlk, idS1, idS2, readAll, readRes, onAll, step, res, AX.val, List.drop_zero, List.drop_succ_cons, List.take_succ_cons, List.take_zero, arrS, litS, hxl, -List.getD_eq_getElem?_getD]
    · have hyn : y = v.length := by omega
      subst hyn
      rw [fill_bytes hRl, getD_app1 T R hxl]
      refine ⟨by omega, by unfold inI64; omega, x + 1, ⟨by omega, by omega⟩, Cov.go [(nid + 4, nid + 2020)] [] ?_⟩
      simp [retPV, over, keys, List.map_nil, List.map_cons, List.contains_cons, List.contains_nil, Bool.or_false, Bool.or_true, Bool.true_or, Bool.false_or, beq_self_eq_true, cond_true, cond_false, HeapCov, orNil, nilSz, onBlk, srcOf, getH_hit, getH_miss, getH.eq_1, getS_hit, getS_miss, getS.eq_1, BlkCov, PVCovs, PVCov, ColsEq, AColsEq, ACEq, ColEq.refl, liveIds, SlotsCov, List.all_nil, List.all_cons, List.any_nil, List.any_cons, List.nil_append, List.cons_append, inRange, apart, nilBlk, idS1, idS2, readAll, readRes, onAll, step, res, AX.val, List.drop_zero, List.drop_succ_cons, List.take_succ_cons, List.take_zero, arrS, litS, hxl, htk, -List.getD_eq_getElem?_getD]
  · have hxn : x = c := by omega
    subst hxn
    have hT : (turnL v x).take x = turnL v x := List.take_of_length_le (by omega)
    rw [hT]
    refine RetOK.go [(nid, nid + 4)] [] (.inl rfl) ?_
    simp [a73, retPV, over, keys, List.map_nil, List.map_cons, List.contains_cons, List.contains_nil, Bool.or_false, Bool.or_true, Bool.true_or, Bool.false_or, beq_self_eq_true, cond_true, cond_false, HeapCov, orNil, nilSz, onBlk, srcOf, getH_hit, getH_miss, getH.eq_1, getS_hit, getS_miss, getS.eq_1, BlkCov, PVCovs, PVCov, ColsEq, AColsEq, ACEq, ColEq.refl, liveIds, SlotsCov, List.all_nil, List.all_cons, List.any_nil, List.any_cons, List.nil_append, List.cons_append, inRange, apart, nilBlk, idS1, idS2, readAll, readRes, onAll, step, res, AX.val, List.drop_zero, List.drop_succ_cons, List.take_succ_cons, List.take_zero, arrS, hrl, -List.getD_eq_getElem?_getD]
end Go.Proofs.YthcldfmlfjomfaaDoor
