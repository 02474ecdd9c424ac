/-
  The functions' forms for the abstract machine, each checked against the program's form.
-/
import Derived.Test.YtpifoghhaohhaaaGreatDoorKFC1
import Derived.Test.YtpifoghhaohhaaaGreatDoorProg
import Derived.Test.YtpifoghhaohhaaaGreatDoorKFC3
import Derived.Ground.NamesProg
import Derived.Shelf.Strings.SlTrimAscii
import Derived.Shelf.Strings.Repeat
import Derived.Shelf.Strconv.Itoa3
import Derived.WalkKit
import Derived.Lib.Agree
set_option linter.unusedVariables false
set_option linter.unusedSimpArgs false
set_option maxRecDepth 100000
namespace Go.Proofs.YtpifoghhaohhaaaGreatDoor
def a2 : AFn := ⟨1, [], .ops [⟨(some 0), none, .call 1 []⟩]⟩
theorem c2 : compF Go.Proofs.Tryz.prog 2 = some a2 := by kernel_rfl
def a3 : AFn := ⟨182, [.t 2], .seq (.ops [⟨(some 2), none, .mv (.c (.bool false))⟩])
 (.seq (.ops [⟨(some 26), none, .mv (.t 0)⟩, ⟨(some 27), none, .build [(.lit true 0 []), (.int .i64 0)] [(0, 1, (.t 26))]⟩, ⟨(some 28), none, .box 25 (.t 27)⟩, ⟨(some 3), none, .mv (.t 28)⟩])
 (.seq (.ops [⟨(some 29), none, .mv (.t 3)⟩, ⟨(some 30), none, .call 14 [(.t 29), (.c (.int .i64 7)), (.c (.int .i64 4))]⟩, ⟨(some 4), none, .alloc 29 [(.lit true 0 []), (.lit true 0 [])]⟩, ⟨none, none, .store 2 (.t 4) (.t 30)⟩])
 (.seq (.ops [⟨(some 31), none, .mv (.t 3)⟩, ⟨(some 32), none, .load (some 2) (.t 4)⟩, ⟨(some 33), none, .call 15 [(.t 31), (.t 32)]⟩, ⟨(some 34), none, .mv (.t 3)⟩, ⟨(some 35), none, .call 16 [(.t 34)]⟩, ⟨(some 36), none, .mv (.t 3)⟩, ⟨(some 37), none, .call 16 [(.t 36)]⟩, ⟨(some 5), none, .mv (.t 33)⟩, ⟨(some 6), none, .mv (.t 35)⟩, ⟨(some 7), none, .mv (.t 37)⟩])
 (.seq (.ops [⟨(some 38), none, .load (some 2) (.t 4)⟩, ⟨(some 39), none, .call 17 [(.t 38)]⟩, ⟨(some 8), none, .mv (.t 39)⟩])
 (.seq (.ops [⟨(some 41), none, .load (some 2) (.t 4)⟩, ⟨(some 42), none, .mv (.t 5)⟩, ⟨(some 43), none, .call 18 [(.t 41), (.t 42)]⟩, ⟨(some 40), none, .mv (.t 43)⟩, ⟨(some 44), none, .ext (.t 40) 0⟩, ⟨(some 45), none, .ext (.t 40) 1⟩, ⟨(some 46), none, .ext (.t 40) 2⟩, ⟨(some 9), none, .mv (.t 44)⟩, ⟨(some 10), none, .mv (.t 45)⟩, ⟨(some 11), none, .mv (.t 46)⟩])
 (.seq (.ops [⟨(some 48), none, .load (some 2) (.t 4)⟩, ⟨(some 49), none, .mv (.t 5)⟩, ⟨(some 50), none, .call 19 [(.t 48), (.t 49)]⟩, ⟨(some 47), none, .mv (.t 50)⟩, ⟨(some 51), none, .ext (.t 47) 0⟩, ⟨(some 52), none, .ext (.t 47) 1⟩, ⟨(some 12), none, .mv (.t 51)⟩, ⟨(some 13), none, .mv (.t 52)⟩])
 (.seq (.ops [⟨(some 54), none, .load (some 2) (.t 4)⟩, ⟨(some 55), none, .mv (.t 5)⟩, ⟨(some 56), none, .call 20 [(.t 54), (.t 55)]⟩, ⟨(some 53), none, .mv (.t 56)⟩, ⟨(some 57), none, .ext (.t 53) 0⟩, ⟨(some 58), none, .ext (.t 53) 1⟩, ⟨(some 59), none, .ext (.t 53) 2⟩, ⟨(some 14), none, .alloc 41 [(.int .i64 0), (.int .i64 0)]⟩, ⟨none, none, .store 2 (.t 14) (.t 57)⟩, ⟨(some 15), none, .mv (.t 58)⟩, ⟨(some 16), none, .mv (.t 59)⟩])
 (.seq (.ops [⟨(some 61), none, .load (some 2) (.t 4)⟩, ⟨(some 62), none, .mv (.t 6)⟩, ⟨(some 63), none, .mv (.t 7)⟩, ⟨(some 64), none, .call 21 [(.t 61), (.t 62), (.t 63)]⟩, ⟨(some 60), none, .mv (.t 64)⟩, ⟨(some 65), none, .ext (.t 60) 0⟩, ⟨(some 66), none, .ext (.t 60) 1⟩, ⟨(some 17), none, .mv (.t 65)⟩, ⟨(some 18), none, .mv (.t 66)⟩])
 (.seq (.ops [⟨(some 67), none, .mv (.t 8)⟩, ⟨(some 19), none, .mv (.t 67)⟩])
 (.seq (.ops [⟨(some 20), none, .mv (.c (.lit true 0 []))⟩])
 (.seq (.seq (.ops [⟨(some 68), none, .mv (.t 19)⟩, ⟨(some 69), none, .bin 0 .eql (.t 68) (.c (.int .i64 0))⟩])
 (.cond (.t 69) (.ops [⟨(some 71), none, .load (some 2) (.t 4)⟩, ⟨(some 72), none, .mv (.t 6)⟩, ⟨(some 73), none, .mv (.t 7)⟩, ⟨(some 74), none, .call 22 [(.t 71), (.t 72), (.t 73)]⟩, ⟨(some 70), none, .mv (.t 74)⟩, ⟨(some 75), none, .ext (.t 70) 0⟩, ⟨(some 76), none, .ext (.t 70) 1⟩, ⟨(some 20), none, .mv (.t 75)⟩, ⟨(some 19), none, .mv (.t 76)⟩]) (.skip)))
 (.seq (.seq (.ops [⟨(some 77), none, .mv (.t 18)⟩, ⟨(some 78), none, .mv (.t 19)⟩, ⟨(some 79), none, .bin 0 .neq (.t 77) (.t 78)⟩, ⟨(some 80), none, .mv (.t 79)⟩, ⟨(some 81), (some (80, false)), .mv (.t 17)⟩, ⟨(some 82), (some (80, false)), .mv (.t 20)⟩, ⟨(some 83), (some (80, false)), .call 23 [(.t 81), (.t 82)]⟩, ⟨(some 84), (some (80, false)), .un .not (.t 83)⟩, ⟨(some 85), none, .pick (.t 80) (.c (.bool true)) (.t 84)⟩])
 (.cond (.t 85) (.seq (.ops [⟨(some 2), none, .mv (.c (.bool false))⟩])
 (.ret)) (.skip)))
 (.seq (.ops [⟨(some 86), none, .mv (.t 8)⟩, ⟨(some 21), none, .mv (.t 86)⟩])
 (.seq (.seq (.ops [⟨(some 87), none, .mv (.t 21)⟩, ⟨(some 88), none, .bin 0 .eql (.t 87) (.c (.int .i64 0))⟩])
 (.cond (.t 88) (.ops [⟨(some 89), none, .load (some 2) (.t 4)⟩, ⟨(some 90), none, .mv (.t 5)⟩, ⟨(some 91), none, .call 24 [(.t 89), (.t 90)]⟩, ⟨(some 21), none, .mv (.t 91)⟩]) (.skip)))
 (.seq (.seq (.ops [⟨(some 92), none, .mv (.t 21)⟩, ⟨(some 93), none, .bin 0 .neq (.t 92) (.c (.int .i64 0))⟩])
 (.cond (.t 93) (.seq (.ops [⟨(some 94), none, .mv (.t 11)⟩, ⟨(some 95), none, .mv (.t 21)⟩, ⟨(some 96), none, .bin 0 .eql (.t 94) (.t 95)⟩, ⟨(some 97), none, .mv (.t 96)⟩, ⟨(some 98), (some (97, true)), .mv (.t 13)⟩, ⟨(some 99), (some (97, true)), .mv (.t 21)⟩, ⟨(some 100), (some (97, true)), .bin 0 .eql (.t 98) (.t 99)⟩, ⟨(some 101), none, .pick (.t 97) (.t 100) (.c (.bool false))⟩, ⟨(some 102), none, .mv (.t 101)⟩, ⟨(some 103), (some (102, true)), .mv (.t 16)⟩, ⟨(some 104), (some (102, true)), .mv (.t 21)⟩, ⟨(some 105), (some (102, true)), .bin 0 .eql (.t 103) (.t 104)⟩, ⟨(some 106), none, .pick (.t 102) (.t 105) (.c (.bool false))⟩, ⟨(some 107), none, .mv (.t 106)⟩, ⟨(some 108), (some (107, true)), .mv (.t 9)⟩, ⟨(some 109), (some (107, true)), .len false (.t 108)⟩, ⟨(some 110), (some (107, true)), .mv (.t 10)⟩, ⟨(some 111), (some (107, true)), .len false (.t 110)⟩, ⟨(some 112), (some (107, true)), .bin 0 .add (.t 109) (.t 111)⟩, ⟨(some 113), (some (107, true)), .mv (.t 12)⟩, ⟨(some 114), (some (107, true)), .len false (.t 113)⟩, ⟨(some 115), (some (107, true)), .bin 0 .add (.t 112) (.t 114)⟩, ⟨(some 116), (some (107, true)), .bin 0 .eql (.t 115) (.c (.int .i64 0))⟩, ⟨(some 117), none, .pick (.t 107) (.t 116) (.c (.bool false))⟩, ⟨(some 118), none, .mv (.t 117)⟩, ⟨(some 119), (some (118, true)), .load (some 2) (.t 14)⟩, ⟨(some 120), (some (118, true)), .build [(.int .i64 0), (.int .i64 0)] []⟩, ⟨(some 121), (some (118, true)), .eqs false [0, 0] (.t 119) (.t 120)⟩, ⟨(some 122), none, .pick (.t 118) (.t 121) (.c (.bool false))⟩, ⟨(some 123), none, .mv (.t 122)⟩, ⟨(some 124), (some (123, true)), .mv (.t 15)⟩, ⟨(some 125), (some (123, true)), .un .not (.t 124)⟩, ⟨(some 126), none, .pick (.t 123) (.t 125) (.c (.bool false))⟩, ⟨(some 127), none, .mv (.t 126)⟩, ⟨(some 128), (some (127, true)), .call 25 []⟩, ⟨(some 129), none, .pick (.t 127) (.t 128) (.c (.bool false))⟩, ⟨(some 2), none, .mv (.t 129)⟩])
 (.ret)) (.skip)))
 (.seq (.ops [⟨(some 131), none, .load (some 2) (.t 4)⟩, ⟨(some 132), none, .mv (.t 5)⟩, ⟨(some 133), none, .call 26 [(.t 131), (.t 132)]⟩, ⟨(some 130), none, .mv (.t 133)⟩, ⟨(some 134), none, .ext (.t 130) 0⟩, ⟨(some 135), none, .ext (.t 130) 1⟩, ⟨(some 22), none, .mv (.t 134)⟩, ⟨(some 23), none, .mv (.t 135)⟩])
 (.seq (.ops [⟨(some 137), none, .load (some 2) (.t 4)⟩, ⟨(some 138), none, .mv (.t 5)⟩, ⟨(some 139), none, .call 27 [(.t 137), (.t 138)]⟩, ⟨(some 136), none, .mv (.t 139)⟩, ⟨(some 140), none, .ext (.t 136) 0⟩, ⟨(some 141), none, .ext (.t 136) 1⟩, ⟨(some 24), none, .alloc 41 [(.int .i64 0), (.int .i64 0)]⟩, ⟨none, none, .store 2 (.t 24) (.t 140)⟩, ⟨(some 25), none, .mv (.t 141)⟩])
 (.seq (.ops [⟨(some 142), none, .mv (.t 11)⟩, ⟨(some 143), none, .bin 0 .eql (.t 142) (.c (.int .i64 0))⟩, ⟨(some 144), none, .mv (.t 143)⟩, ⟨(some 145), (some (144, true)), .mv (.t 9)⟩, ⟨(some 146), (some (144, true)), .mv (.t 22)⟩, ⟨(some 147), (some (144, true)), .call 28 [(.t 145), (.t 146)]⟩, ⟨(some 148), none, .pick (.t 144) (.t 147) (.c (.bool false))⟩, ⟨(some 149), none, .mv (.t 148)⟩, ⟨(some 150), (some (149, true)), .mv (.t 10)⟩, ⟨(some 151), (some (149, true)), .mv (.t 23)⟩, ⟨(some 152), (some (149, true)), .call 28 [(.t 150), (.t 151)]⟩, ⟨(some 153), none, .pick (.t 149) (.t 152) (.c (.bool false))⟩, ⟨(some 154), none, .mv (.t 153)⟩, ⟨(some 155), (some (154, true)), .mv (.t 13)⟩, ⟨(some 156), (some (154, true)), .bin 0 .eql (.t 155) (.c (.int .i64 0))⟩, ⟨(some 157), none, .pick (.t 154) (.t 156) (.c (.bool false))⟩, ⟨(some 158), none, .mv (.t 157)⟩, ⟨(some 159), (some (158, true)), .mv (.t 12)⟩, ⟨(some 160), (some (158, true)), .load (some 2) (.t 4)⟩, ⟨(some 161), (some (158, true)), .mv (.t 5)⟩, ⟨(some 162), (some (158, true)), .call 30 [(.t 160), (.t 161)]⟩, ⟨(some 163), (some (158, true)), .call 29 [(.t 159), (.t 162), (.c (.fn 28 []))]⟩, ⟨(some 164), none, .pick (.t 158) (.t 163) (.c (.bool false))⟩, ⟨(some 165), none, .mv (.t 164)⟩, ⟨(some 166), (some (165, true)), .mv (.t 16)⟩, ⟨(some 167), (some (165, true)), .bin 0 .eql (.t 166) (.c (.int .i64 0))⟩, ⟨(some 168), none, .pick (.t 165) (.t 167) (.c (.bool false))⟩, ⟨(some 169), none, .mv (.t 168)⟩, ⟨(some 170), (some (169, true)), .load (some 2) (.t 14)⟩, ⟨(some 171), (some (169, true)), .load (some 2) (.t 24)⟩, ⟨(some 172), (some (169, true)), .eqs false [0, 0] (.t 170) (.t 171)⟩, ⟨(some 173), none, .pick (.t 169) (.t 172) (.c (.bool false))⟩, ⟨(some 174), none, .mv (.t 173)⟩, ⟨(some 175), (some (174, true)), .mv (.t 15)⟩, ⟨(some 176), (some (174, true)), .mv (.t 25)⟩, ⟨(some 177), (some (174, true)), .bin 2 .eql (.t 175) (.t 176)⟩, ⟨(some 178), none, .pick (.t 174) (.t 177) (.c (.bool false))⟩, ⟨(some 179), none, .mv (.t 178)⟩, ⟨(some 180), (some (179, true)), .call 25 []⟩, ⟨(some 181), none, .pick (.t 179) (.t 180) (.c (.bool false))⟩, ⟨(some 2), none, .mv (.t 181)⟩])
 (.ret)))))))))))))))))))⟩
theorem c3 : compF Go.Proofs.Tryz.prog 3 = some a3 := by kernel_rfl
def a4 : AFn := ⟨198, [.t 2], .seq (.ops [⟨(some 2), none, .mv (.c (.bool false))⟩])
 (.seq (.ops [⟨(some 29), none, .mv (.t 0)⟩, ⟨(some 30), none, .build [(.lit true 0 []), (.int .i64 0)] [(0, 1, (.t 29))]⟩, ⟨(some 31), none, .box 25 (.t 30)⟩, ⟨(some 3), none, .mv (.t 31)⟩])
 (.seq (.ops [⟨(some 32), none, .mv (.t 3)⟩, ⟨(some 33), none, .call 31 [(.t 32), (.c (.int .i64 2)), (.c (.int .i64 4))]⟩, ⟨(some 34), none, .mv (.t 3)⟩, ⟨(some 35), none, .call 31 [(.t 34), (.c (.int .i64 1)), (.c (.int .i64 4))]⟩, ⟨(some 4), none, .mv (.t 33)⟩, ⟨(some 5), none, .mv (.t 35)⟩])
 (.seq (.ops [⟨(some 6), none, .mv (.c (.lit true 0 []))⟩])
 (.seq (.seq (.ops [⟨(some 36), none, .mv (.t 4)⟩, ⟨(some 37), none, .mv (.c (.int .i64 0))⟩])
 (.block 0 (.loop (.seq (.ops [⟨(some 38), none, .bin 0 .lss (.t 37) (.t 36)⟩])
 (.seq (.cond (.t 38) (.skip) (.exit 0))
 (.seq (.block 1 (.ops [⟨(some 39), none, .mv (.t 6)⟩, ⟨(some 40), none, .mv (.t 3)⟩, ⟨(some 41), none, .mv (.t 5)⟩, ⟨(some 42), none, .call 32 [(.t 40), (.t 41)]⟩, ⟨(some 43), none, .bslice 9 1 1 [(.str [])] [(0, 1, (.t 42))]⟩, ⟨(some 44), none, .app 9 1 16 (.t 39) (.t 43)⟩, ⟨(some 6), none, .mv (.t 44)⟩]))
 (.ops [⟨(some 45), none, .bin 0 .add (.t 37) (.c (.int .i64 1))⟩, ⟨(some 37), none, .mv (.t 45)⟩])))))))
 (.seq (.ops [⟨(some 47), none, .mv (.t 4)⟩, ⟨(some 48), none, .bslice 3 1 4 [(.int .i64 0)] [(0, 1, (.c (.int .i64 1))), (1, 1, (.c (.int .i64 2))), (2, 1, (.c (.int .i64 3))), (3, 1, (.c (.int .i64 4)))]⟩, ⟨(some 49), none, .call 33 [(.t 47), (.t 48)]⟩, ⟨(some 46), none, .mv (.t 49)⟩, ⟨(some 50), none, .ext (.t 46) 0⟩, ⟨(some 51), none, .ext (.t 46) 1⟩, ⟨(some 7), none, .mv (.t 50)⟩, ⟨(some 8), none, .mv (.t 51)⟩])
 (.seq (.seq (.ops [⟨(some 52), none, .mv (.t 8)⟩, ⟨(some 53), none, .bin 0 .neq (.t 52) (.c (.int .i64 0))⟩, ⟨(some 54), none, .mv (.t 53)⟩, ⟨(some 55), (some (54, false)), .mv (.t 7)⟩, ⟨(some 56), (some (54, false)), .len false (.t 55)⟩, ⟨(some 57), (some (54, false)), .bin 0 .eql (.t 56) (.c (.int .i64 0))⟩, ⟨(some 58), none, .pick (.t 54) (.c (.bool true)) (.t 57)⟩])
 (.cond (.t 58) (.seq (.ops [⟨(some 2), none, .mv (.c (.bool false))⟩])
 (.ret)) (.skip)))
 (.seq (.ops [⟨(some 60), none, .mv (.t 6)⟩, ⟨(some 61), none, .mv (.t 7)⟩, ⟨(some 62), none, .call 34 [(.t 60), (.t 61)]⟩, ⟨(some 59), none, .mv (.t 62)⟩, ⟨(some 63), none, .ext (.t 59) 0⟩, ⟨(some 64), none, .ext (.t 59) 1⟩, ⟨(some 9), none, .alloc 29 [(.lit true 0 []), (.lit true 0 [])]⟩, ⟨none, none, .store 2 (.t 9) (.t 63)⟩, ⟨(some 10), none, .mv (.t 64)⟩])
 (.seq (.seq (.ops [⟨(some 65), none, .mv (.t 10)⟩, ⟨(some 66), none, .un .not (.t 65)⟩])
 (.cond (.t 66) (.seq (.ops [⟨(some 2), none, .mv (.c (.bool false))⟩])
 (.ret)) (.skip)))
 (.seq (.ops [⟨(some 11), none, .mv (.c (.lit true 0 []))⟩])
 (.seq (.seq (.ops [⟨(some 67), none, .mv (.t 5)⟩, ⟨(some 68), none, .mv (.c (.int .i64 0))⟩])
 (.block 2 (.loop (.seq (.ops [⟨(some 69), none, .bin 0 .lss (.t 68) (.t 67)⟩])
 (.seq (.cond (.t 69) (.skip) (.exit 2))
 (.seq (.block 3 (.seq (.ops [⟨(some 70), none, .mv (.t 68)⟩, ⟨(some 12), none, .mv (.t 70)⟩])
 (.ops [⟨(some 71), none, .mv (.t 11)⟩, ⟨(some 72), none, .mv (.t 12)⟩, ⟨(some 73), none, .bslice 3 1 1 [(.int .i64 0)] [(0, 1, (.t 72))]⟩, ⟨(some 74), none, .app 3 1 8 (.t 71) (.t 73)⟩, ⟨(some 11), none, .mv (.t 74)⟩])))
 (.ops [⟨(some 75), none, .bin 0 .add (.t 68) (.c (.int .i64 1))⟩, ⟨(some 68), none, .mv (.t 75)⟩])))))))
 (.seq (.ops [⟨(some 76), none, .mv (.t 3)⟩, ⟨(some 77), none, .mv (.t 7)⟩, ⟨(some 78), none, .len false (.t 77)⟩, ⟨(some 79), none, .call 35 [(.t 76), (.t 78)]⟩, ⟨(some 13), none, .mv (.t 79)⟩])
 (.seq (.ops [⟨(some 14), none, .mv (.c (.lit true 0 []))⟩])
 (.seq (.seq (.ops [⟨(some 80), none, .fadr 1 (.t 9)⟩, ⟨(some 81), none, .load none (.t 80)⟩, ⟨(some 82), none, .mv (.t 13)⟩, ⟨(some 83), none, .iadr 2 (.t 81) (.t 82)⟩, ⟨(some 84), none, .fadr 1 (.t 83)⟩, ⟨(some 85), none, .load none (.t 84)⟩, ⟨(some 86), none, .len false (.t 85)⟩, ⟨(some 87), none, .mv (.c (.int .i64 0))⟩])
 (.block 4 (.loop (.seq (.ops [⟨(some 88), none, .bin 0 .lss (.t 87) (.t 86)⟩])
 (.seq (.cond (.t 88) (.skip) (.exit 4))
 (.seq (.block 5 (.seq (.ops [⟨(some 89), none, .mv (.t 87)⟩, ⟨(some 90), none, .iadr 1 (.t 85) (.t 87)⟩, ⟨(some 91), none, .load none (.t 90)⟩, ⟨(some 15), none, .mv (.t 89)⟩, ⟨(some 16), none, .mv (.t 91)⟩])
 (.ops [⟨(some 92), none, .mv (.t 14)⟩, ⟨(some 93), none, .mv (.t 15)⟩, ⟨(some 94), none, .mv (.t 16)⟩, ⟨(some 95), none, .build [(.int .i64 0), (.str [])] [(0, 1, (.t 93)), (1, 1, (.t 94))]⟩, ⟨(some 96), none, .bslice 69 2 1 [(.int .i64 0), (.str [])] [(0, 2, (.t 95))]⟩, ⟨(some 97), none, .app 69 2 24 (.t 92) (.t 96)⟩, ⟨(some 14), none, .mv (.t 97)⟩])))
 (.ops [⟨(some 98), none, .bin 0 .add (.t 87) (.c (.int .i64 1))⟩, ⟨(some 87), none, .mv (.t 98)⟩])))))))
 (.seq (.ops [⟨(some 100), none, .load (some 2) (.t 9)⟩, ⟨(some 101), none, .mv (.t 14)⟩, ⟨(some 102), none, .call 36 [(.t 100), (.t 101)]⟩, ⟨(some 99), none, .mv (.t 102)⟩, ⟨(some 103), none, .ext (.t 99) 0⟩, ⟨(some 104), none, .ext (.t 99) 1⟩, ⟨(some 105), none, .ext (.t 99) 2⟩, ⟨(some 17), none, .mv (.t 103)⟩, ⟨(some 18), none, .mv (.t 104)⟩, ⟨(some 8), none, .mv (.t 105)⟩])
 (.seq (.ops [⟨(some 107), none, .mv (.t 6)⟩, ⟨(some 108), none, .mv (.t 7)⟩, ⟨(some 109), none, .mv (.t 13)⟩, ⟨(some 110), none, .iadr 2 (.t 108) (.t 109)⟩, ⟨(some 111), none, .load (some 2) (.t 110)⟩, ⟨(some 112), none, .call 37 [(.t 107), (.t 111)]⟩, ⟨(some 106), none, .mv (.t 112)⟩, ⟨(some 113), none, .ext (.t 106) 0⟩, ⟨(some 114), none, .ext (.t 106) 1⟩, ⟨(some 19), none, .mv (.t 113)⟩, ⟨(some 20), none, .mv (.t 114)⟩])
 (.seq (.seq (.ops [⟨(some 115), none, .mv (.t 8)⟩, ⟨(some 116), none, .bin 0 .neq (.t 115) (.c (.int .i64 0))⟩, ⟨(some 117), none, .mv (.t 116)⟩, ⟨(some 118), (some (117, false)), .mv (.t 20)⟩, ⟨(some 119), (some (117, false)), .bin 0 .neq (.t 118) (.c (.int .i64 0))⟩, ⟨(some 120), none, .pick (.t 117) (.c (.bool true)) (.t 119)⟩, ⟨(some 121), none, .mv (.t 120)⟩, ⟨(some 122), (some (121, false)), .mv (.t 17)⟩, ⟨(some 123), (some (121, false)), .fadr 1 (.t 9)⟩, ⟨(some 124), (some (121, false)), .load none (.t 123)⟩, ⟨(some 125), (some (121, false)), .mv (.t 13)⟩, ⟨(some 126), (some (121, false)), .iadr 2 (.t 124) (.t 125)⟩, ⟨(some 127), (some (121, false)), .fadr 0 (.t 126)⟩, ⟨(some 128), (some (121, false)), .load none (.t 127)⟩, ⟨(some 129), (some (121, false)), .call 38 [(.t 122), (.t 128)]⟩, ⟨(some 130), (some (121, false)), .un .not (.t 129)⟩, ⟨(some 131), none, .pick (.t 121) (.c (.bool true)) (.t 130)⟩, ⟨(some 132), none, .mv (.t 131)⟩, ⟨(some 133), (some (132, false)), .mv (.t 18)⟩, ⟨(some 134), (some (132, false)), .mv (.t 19)⟩, ⟨(some 135), (some (132, false)), .bin 2 .eql (.t 133) (.t 134)⟩, ⟨(some 136), none, .pick (.t 132) (.c (.bool true)) (.t 135)⟩])
 (.cond (.t 136) (.seq (.ops [⟨(some 2), none, .mv (.c (.bool false))⟩])
 (.ret)) (.skip)))
 (.seq (.ops [⟨(some 138), none, .load (some 2) (.t 9)⟩, ⟨(some 139), none, .mv (.t 11)⟩, ⟨(some 140), none, .call 19 [(.t 138), (.t 139)]⟩, ⟨(some 137), none, .mv (.t 140)⟩, ⟨(some 141), none, .ext (.t 137) 0⟩, ⟨(some 142), none, .ext (.t 137) 1⟩, ⟨(some 21), none, .mv (.t 141)⟩, ⟨(some 8), none, .mv (.t 142)⟩])
 (.seq (.ops [⟨(some 144), none, .mv (.t 6)⟩, ⟨(some 145), none, .mv (.t 7)⟩, ⟨(some 146), none, .call 39 [(.t 144), (.t 145)]⟩, ⟨(some 143), none, .mv (.t 146)⟩, ⟨(some 147), none, .ext (.t 143) 0⟩, ⟨(some 148), none, .ext (.t 143) 1⟩, ⟨(some 22), none, .mv (.t 147)⟩, ⟨(some 20), none, .mv (.t 148)⟩])
 (.seq (.ops [⟨(some 150), none, .mv (.t 6)⟩, ⟨(some 151), none, .mv (.t 7)⟩, ⟨(some 152), none, .call 40 [(.t 150), (.t 151)]⟩, ⟨(some 149), none, .mv (.t 152)⟩, ⟨(some 153), none, .ext (.t 149) 0⟩, ⟨(some 154), none, .ext (.t 149) 1⟩, ⟨(some 23), none, .mv (.t 153)⟩, ⟨(some 24), none, .mv (.t 154)⟩])
 (.seq (.ops [⟨(some 156), none, .load (some 2) (.t 9)⟩, ⟨(some 157), none, .mv (.t 11)⟩, ⟨(some 158), none, .call 18 [(.t 156), (.t 157)]⟩, ⟨(some 155), none, .mv (.t 158)⟩, ⟨(some 159), none, .ext (.t 155) 0⟩, ⟨(some 160), none, .ext (.t 155) 1⟩, ⟨(some 161), none, .ext (.t 155) 2⟩, ⟨(some 25), none, .mv (.t 159)⟩, ⟨(some 26), none, .mv (.t 160)⟩, ⟨(some 27), none, .mv (.t 161)⟩])
 (.seq (.seq (.ops [⟨(some 162), none, .mv (.t 8)⟩, ⟨(some 163), none, .bin 0 .neq (.t 162) (.c (.int .i64 0))⟩, ⟨(some 164), none, .mv (.t 163)⟩, ⟨(some 165), (some (164, false)), .mv (.t 20)⟩, ⟨(some 166), (some (164, false)), .bin 0 .neq (.t 165) (.c (.int .i64 0))⟩, ⟨(some 167), none, .pick (.t 164) (.c (.bool true)) (.t 166)⟩, ⟨(some 168), none, .mv (.t 167)⟩, ⟨(some 169), (some (168, false)), .mv (.t 24)⟩, ⟨(some 170), (some (168, false)), .bin 0 .neq (.t 169) (.c (.int .i64 0))⟩, ⟨(some 171), none, .pick (.t 168) (.c (.bool true)) (.t 170)⟩, ⟨(some 172), none, .mv (.t 171)⟩, ⟨(some 173), (some (172, false)), .mv (.t 27)⟩, ⟨(some 174), (some (172, false)), .bin 0 .neq (.t 173) (.c (.int .i64 0))⟩, ⟨(some 175), none, .pick (.t 172) (.c (.bool true)) (.t 174)⟩, ⟨(some 176), none, .mv (.t 175)⟩, ⟨(some 177), (some (176, false)), .mv (.t 26)⟩, ⟨(some 178), (some (176, false)), .len false (.t 177)⟩, ⟨(some 179), (some (176, false)), .mv (.t 23)⟩, ⟨(some 180), (some (176, false)), .len false (.t 179)⟩, ⟨(some 181), (some (176, false)), .bin 0 .neq (.t 178) (.t 180)⟩, ⟨(some 182), none, .pick (.t 176) (.c (.bool true)) (.t 181)⟩])
 (.cond (.t 182) (.seq (.ops [⟨(some 2), none, .mv (.c (.bool false))⟩])
 (.ret)) (.skip)))
 (.seq (.ops [⟨(some 183), none, .mv (.t 21)⟩, ⟨(some 184), none, .len false (.t 183)⟩, ⟨(some 185), none, .bin 0 .sub (.t 184) (.c (.int .i64 1))⟩, ⟨(some 28), none, .mv (.t 185)⟩])
 (.seq (.seq (.ops [⟨(some 186), none, .mv (.t 23)⟩, ⟨(some 187), none, .len false (.t 186)⟩, ⟨(some 188), none, .bin 0 .gtr (.t 187) (.c (.int .i64 0))⟩])
 (.cond (.t 188) (.ops [⟨(some 189), none, .mv (.t 28)⟩, ⟨(some 190), none, .bin 0 .add (.t 189) (.c (.int .i64 1))⟩, ⟨(some 28), none, .mv (.t 190)⟩]) (.skip)))
 (.seq (.ops [⟨(some 191), none, .mv (.t 28)⟩, ⟨(some 192), none, .mv (.t 22)⟩, ⟨(some 193), none, .len false (.t 192)⟩, ⟨(some 194), none, .bin 0 .eql (.t 191) (.t 193)⟩, ⟨(some 195), none, .mv (.t 194)⟩, ⟨(some 196), (some (195, true)), .call 41 []⟩, ⟨(some 197), none, .pick (.t 195) (.t 196) (.c (.bool false))⟩, ⟨(some 2), none, .mv (.t 197)⟩])
 (.ret)))))))))))))))))))))))))⟩
theorem c4 : compF Go.Proofs.Tryz.prog 4 = some a4 := by kernel_rfl
def a5 : AFn := ⟨102, [.t 2], .seq (.ops [⟨(some 2), none, .mv (.c (.bool false))⟩])
 (.seq (.ops [⟨(some 15), none, .mv (.t 0)⟩, ⟨(some 16), none, .build [(.lit true 0 []), (.int .i64 0)] [(0, 1, (.t 15))]⟩, ⟨(some 17), none, .box 25 (.t 16)⟩, ⟨(some 3), none, .mv (.t 17)⟩])
 (.seq (.ops [⟨(some 18), none, .mv (.t 3)⟩, ⟨(some 19), none, .call 42 [(.t 18), (.c (.int .i64 6)), (.c (.int .i64 4))]⟩, ⟨(some 4), none, .alloc 29 [(.lit true 0 []), (.lit true 0 [])]⟩, ⟨none, none, .store 2 (.t 4) (.t 19)⟩])
 (.seq (.seq (.ops [⟨(some 20), none, .fadr 1 (.t 4)⟩, ⟨(some 21), none, .load none (.t 20)⟩, ⟨(some 22), none, .len false (.t 21)⟩, ⟨(some 23), none, .bin 0 .eql (.t 22) (.c (.int .i64 0))⟩])
 (.cond (.t 23) (.seq (.ops [⟨(some 24), none, .call 43 []⟩, ⟨(some 2), none, .mv (.t 24)⟩])
 (.ret)) (.skip)))
 (.seq (.any [(⟨(some 25), none, .fadr 1 (.t 4)⟩, []), (⟨(some 26), none, .load none (.t 25)⟩, []), (⟨(some 27), none, .mv (.t 3)⟩, [0, 1]), (⟨(some 28), none, .fadr 1 (.t 4)⟩, [0, 1, 2]), (⟨(some 29), none, .load none (.t 28)⟩, [0, 1, 2]), (⟨(some 30), none, .len false (.t 29)⟩, [0, 1, 2]), (⟨(some 31), none, .call 35 [(.t 27), (.t 30)]⟩, [0, 1]), (⟨(some 32), none, .iadr 2 (.t 26) (.t 31)⟩, []), (⟨(some 33), none, .load (some 2) (.t 32)⟩, []), (⟨(some 5), none, .alloc 67 [(.str []), (.lit true 0 [])]⟩, [0, 1, 2, 3, 4, 5, 6, 7, 8]), (⟨none, none, .store 2 (.t 5) (.t 33)⟩, [])])
 (.seq (.ops [⟨(some 6), none, .mv (.c (.lit true 0 []))⟩])
 (.seq (.ops [⟨(some 34), none, .fadr 1 (.t 4)⟩, ⟨(some 35), none, .load none (.t 34)⟩, ⟨(some 36), none, .len false (.t 35)⟩, ⟨(some 7), none, .mv (.t 36)⟩])
 (.seq (.seq (.ops [⟨(some 37), none, .fadr 0 (.t 4)⟩, ⟨(some 38), none, .load none (.t 37)⟩, ⟨(some 39), none, .len false (.t 38)⟩, ⟨(some 40), none, .mv (.c (.int .i64 0))⟩])
 (.block 0 (.loop (.seq (.ops [⟨(some 41), none, .bin 0 .lss (.t 40) (.t 39)⟩])
 (.seq (.cond (.t 41) (.skip) (.exit 0))
 (.seq (.block 1 (.seq (.ops [⟨(some 42), none, .mv (.t 40)⟩, ⟨(some 8), none, .mv (.t 42)⟩])
 (.seq (.seq (.ops [⟨(some 43), none, .mv (.t 3)⟩, ⟨(some 44), none, .call 44 [(.t 43), (.c (.int .i64 4))]⟩])
 (.cond (.t 44) (.exit 1) (.skip)))
 (.seq (.ops [⟨(some 45), none, .mv (.t 6)⟩, ⟨(some 46), none, .mv (.t 8)⟩, ⟨(some 47), none, .fadr 1 (.t 5)⟩, ⟨(some 48), none, .load none (.t 47)⟩, ⟨(some 49), none, .mv (.t 8)⟩, ⟨(some 50), none, .iadr 1 (.t 48) (.t 49)⟩, ⟨(some 51), none, .load none (.t 50)⟩, ⟨(some 52), none, .build [(.int .i64 0), (.str [])] [(0, 1, (.t 46)), (1, 1, (.t 51))]⟩, ⟨(some 53), none, .bslice 69 2 1 [(.int .i64 0), (.str [])] [(0, 2, (.t 52))]⟩, ⟨(some 54), none, .app 69 2 24 (.t 45) (.t 53)⟩, ⟨(some 6), none, .mv (.t 54)⟩])
 (.seq (.ops [⟨(some 56), none, .load (some 2) (.t 4)⟩, ⟨(some 57), none, .mv (.t 6)⟩, ⟨(some 58), none, .call 36 [(.t 56), (.t 57)]⟩, ⟨(some 55), none, .mv (.t 58)⟩, ⟨(some 59), none, .ext (.t 55) 0⟩, ⟨(some 60), none, .ext (.t 55) 1⟩, ⟨(some 61), none, .ext (.t 55) 2⟩, ⟨(some 9), none, .mv (.t 59)⟩, ⟨(some 10), none, .mv (.t 60)⟩, ⟨(some 11), none, .mv (.t 61)⟩])
 (.seq (.ops [⟨(some 63), none, .load (some 2) (.t 4)⟩, ⟨(some 64), none, .mv (.t 6)⟩, ⟨(some 65), none, .call 45 [(.t 63), (.t 64)]⟩, ⟨(some 62), none, .mv (.t 65)⟩, ⟨(some 66), none, .ext (.t 62) 0⟩, ⟨(some 67), none, .ext (.t 62) 1⟩, ⟨(some 68), none, .ext (.t 62) 2⟩, ⟨(some 12), none, .mv (.t 66)⟩, ⟨(some 13), none, .mv (.t 67)⟩, ⟨(some 14), none, .mv (.t 68)⟩])
 (.seq (.seq (.ops [⟨(some 69), none, .mv (.t 11)⟩, ⟨(some 70), none, .bin 0 .neq (.t 69) (.c (.int .i64 0))⟩, ⟨(some 71), none, .mv (.t 70)⟩, ⟨(some 72), (some (71, false)), .mv (.t 14)⟩, ⟨(some 73), (some (71, false)), .bin 0 .neq (.t 72) (.c (.int .i64 0))⟩, ⟨(some 74), none, .pick (.t 71) (.c (.bool true)) (.t 73)⟩, ⟨(some 75), none, .mv (.t 74)⟩, ⟨(some 76), (some (75, false)), .mv (.t 9)⟩, ⟨(some 77), (some (75, false)), .fadr 0 (.t 5)⟩, ⟨(some 78), (some (75, false)), .load none (.t 77)⟩, ⟨(some 79), (some (75, false)), .call 38 [(.t 76), (.t 78)]⟩, ⟨(some 80), (some (75, false)), .un .not (.t 79)⟩, ⟨(some 81), none, .pick (.t 75) (.c (.bool true)) (.t 80)⟩, ⟨(some 82), none, .mv (.t 81)⟩, ⟨(some 83), (some (82, false)), .mv (.t 9)⟩, ⟨(some 84), (some (82, false)), .len false (.t 83)⟩, ⟨(some 85), (some (82, false)), .mv (.t 7)⟩, ⟨(some 86), (some (82, false)), .bin 0 .gtr (.t 84) (.t 85)⟩, ⟨(some 87), none, .pick (.t 82) (.c (.bool true)) (.t 86)⟩, ⟨(some 88), none, .mv (.t 87)⟩, ⟨(some 89), (some (88, false)), .mv (.t 13)⟩, ⟨(some 90), (some (88, false)), .bin 0 .neq (.t 89) (.c (.int .i64 0))⟩, ⟨(some 91), none, .pick (.t 88) (.c (.bool true)) (.t 90)⟩, ⟨(some 92), none, .mv (.t 91)⟩, ⟨(some 93), (some (92, false)), .mv (.t 12)⟩, ⟨(some 94), (some (92, false)), .mv (.t 9)⟩, ⟨(some 95), (some (92, false)), .call 28 [(.t 93), (.t 94)]⟩, ⟨(some 96), (some (92, false)), .un .not (.t 95)⟩, ⟨(some 97), none, .pick (.t 92) (.c (.bool true)) (.t 96)⟩])
 (.cond (.t 97) (.seq (.ops [⟨(some 2), none, .mv (.c (.bool false))⟩])
 (.ret)) (.skip)))
 (.ops [⟨(some 98), none, .mv (.t 9)⟩, ⟨(some 99), none, .len false (.t 98)⟩, ⟨(some 7), none, .mv (.t 99)⟩]))))))))
 (.ops [⟨(some 100), none, .bin 0 .add (.t 40) (.c (.int .i64 1))⟩, ⟨(some 40), none, .mv (.t 100)⟩])))))))
 (.seq (.ops [⟨(some 101), none, .call 43 []⟩, ⟨(some 2), none, .mv (.t 101)⟩])
 (.ret)))))))))⟩
theorem c5 : compF Go.Proofs.Tryz.prog 5 = some a5 := by kernel_rfl
def a6 : AFn := ⟨217, [.t 2], .seq (.ops [⟨(some 2), none, .mv (.c (.bool false))⟩])
 (.seq (.ops [⟨(some 30), none, .mv (.t 0)⟩, ⟨(some 31), none, .build [(.lit true 0 []), (.int .i64 0)] [(0, 1, (.t 30))]⟩, ⟨(some 32), none, .box 25 (.t 31)⟩, ⟨(some 3), none, .mv (.t 32)⟩])
 (.seq (.ops [⟨(some 33), none, .mv (.t 3)⟩, ⟨(some 34), none, .call 14 [(.t 33), (.c (.int .i64 7)), (.c (.int .i64 4))]⟩, ⟨(some 4), none, .alloc 29 [(.lit true 0 []), (.lit true 0 [])]⟩, ⟨none, none, .store 2 (.t 4) (.t 34)⟩])
 (.seq (.ops [⟨(some 35), none, .mv (.t 3)⟩, ⟨(some 36), none, .load (some 2) (.t 4)⟩, ⟨(some 37), none, .call 46 [(.t 35), (.t 36)]⟩, ⟨(some 5), none, .mv (.t 37)⟩])
 (.seq (.ops [⟨(some 38), none, .load (some 2) (.t 4)⟩, ⟨(some 39), none, .mv (.t 5)⟩, ⟨(some 40), none, .call 47 [(.t 38), (.t 39)]⟩, ⟨(some 6), none, .mv (.t 40)⟩])
 (.seq (.ops [⟨(some 42), none, .load (some 2) (.t 4)⟩, ⟨(some 43), none, .mv (.t 5)⟩, ⟨(some 44), none, .call 36 [(.t 42), (.t 43)]⟩, ⟨(some 41), none, .mv (.t 44)⟩, ⟨(some 45), none, .ext (.t 41) 0⟩, ⟨(some 46), none, .ext (.t 41) 1⟩, ⟨(some 47), none, .ext (.t 41) 2⟩, ⟨(some 7), none, .mv (.t 45)⟩, ⟨(some 8), none, .mv (.t 46)⟩, ⟨(some 9), none, .mv (.t 47)⟩])
 (.seq (.ops [⟨(some 49), none, .load (some 2) (.t 4)⟩, ⟨(some 50), none, .mv (.t 5)⟩, ⟨(some 51), none, .call 45 [(.t 49), (.t 50)]⟩, ⟨(some 48), none, .mv (.t 51)⟩, ⟨(some 52), none, .ext (.t 48) 0⟩, ⟨(some 53), none, .ext (.t 48) 1⟩, ⟨(some 54), none, .ext (.t 48) 2⟩, ⟨(some 10), none, .mv (.t 52)⟩, ⟨(some 11), none, .mv (.t 53)⟩, ⟨(some 12), none, .mv (.t 54)⟩])
 (.seq (.ops [⟨(some 56), none, .load (some 2) (.t 4)⟩, ⟨(some 57), none, .mv (.t 5)⟩, ⟨(some 58), none, .call 48 [(.t 56), (.t 57)]⟩, ⟨(some 55), none, .mv (.t 58)⟩, ⟨(some 59), none, .ext (.t 55) 0⟩, ⟨(some 60), none, .ext (.t 55) 1⟩, ⟨(some 61), none, .ext (.t 55) 2⟩, ⟨(some 13), none, .mv (.t 59)⟩, ⟨(some 14), none, .mv (.t 60)⟩, ⟨(some 15), none, .mv (.t 61)⟩])
 (.seq (.ops [⟨(some 63), none, .load (some 2) (.t 4)⟩, ⟨(some 64), none, .mv (.t 5)⟩, ⟨(some 65), none, .call 49 [(.t 63), (.t 64)]⟩, ⟨(some 62), none, .mv (.t 65)⟩, ⟨(some 66), none, .ext (.t 62) 0⟩, ⟨(some 67), none, .ext (.t 62) 1⟩, ⟨(some 68), none, .ext (.t 62) 2⟩, ⟨(some 69), none, .ext (.t 62) 3⟩, ⟨(some 16), none, .mv (.t 66)⟩, ⟨(some 17), none, .mv (.t 67)⟩, ⟨(some 18), none, .mv (.t 68)⟩, ⟨(some 19), none, .mv (.t 69)⟩])
 (.seq (.seq (.ops [⟨(some 70), none, .mv (.t 6)⟩, ⟨(some 71), none, .bin 0 .neq (.t 70) (.c (.int .i64 0))⟩])
 (.cond (.t 71) (.seq (.ops [⟨(some 72), none, .mv (.t 9)⟩, ⟨(some 73), none, .mv (.t 6)⟩, ⟨(some 74), none, .bin 0 .eql (.t 72) (.t 73)⟩, ⟨(some 75), none, .mv (.t 74)⟩, ⟨(some 76), (some (75, true)), .mv (.t 12)⟩, ⟨(some 77), (some (75, true)), .mv (.t 6)⟩, ⟨(some 78), (some (75, true)), .bin 0 .eql (.t 76) (.t 77)⟩, ⟨(some 79), none, .pick (.t 75) (.t 78) (.c (.bool false))⟩, ⟨(some 80), none, .mv (.t 79)⟩, ⟨(some 81), (some (80, true)), .mv (.t 15)⟩, ⟨(some 82), (some (80, true)), .mv (.t 6)⟩, ⟨(some 83), (some (80, true)), .bin 0 .eql (.t 81) (.t 82)⟩, ⟨(some 84), none, .pick (.t 80) (.t 83) (.c (.bool false))⟩, ⟨(some 85), none, .mv (.t 84)⟩, ⟨(some 86), (some (85, true)), .mv (.t 19)⟩, ⟨(some 87), (some (85, true)), .mv (.t 6)⟩, ⟨(some 88), (some (85, true)), .bin 0 .eql (.t 86) (.t 87)⟩, ⟨(some 89), none, .pick (.t 85) (.t 88) (.c (.bool false))⟩, ⟨(some 90), none, .mv (.t 89)⟩, ⟨(some 91), (some (90, true)), .mv (.t 7)⟩, ⟨(some 92), (some (90, true)), .len false (.t 91)⟩, ⟨(some 93), (some (90, true)), .mv (.t 10)⟩, ⟨(some 94), (some (90, true)), .len false (.t 93)⟩, ⟨(some 95), (some (90, true)), .bin 0 .add (.t 92) (.t 94)⟩, ⟨(some 96), (some (90, true)), .mv (.t 13)⟩, ⟨(some 97), (some (90, true)), .len false (.t 96)⟩, ⟨(some 98), (some (90, true)), .bin 0 .add (.t 95) (.t 97)⟩, ⟨(some 99), (some (90, true)), .bin 0 .eql (.t 98) (.c (.int .i64 0))⟩, ⟨(some 100), none, .pick (.t 90) (.t 99) (.c (.bool false))⟩, ⟨(some 101), none, .mv (.t 100)⟩, ⟨(some 102), (some (101, true)), .mv (.t 8)⟩, ⟨(some 103), (some (101, true)), .un .not (.t 102)⟩, ⟨(some 104), none, .pick (.t 101) (.t 103) (.c (.bool false))⟩, ⟨(some 105), none, .mv (.t 104)⟩, ⟨(some 106), (some (105, true)), .mv (.t 14)⟩, ⟨(some 107), (some (105, true)), .un .not (.t 106)⟩, ⟨(some 108), none, .pick (.t 105) (.t 107) (.c (.bool false))⟩, ⟨(some 109), none, .mv (.t 108)⟩, ⟨(some 110), (some (109, true)), .mv (.t 18)⟩, ⟨(some 111), (some (109, true)), .un .not (.t 110)⟩, ⟨(some 112), none, .pick (.t 109) (.t 111) (.c (.bool false))⟩, ⟨(some 113), none, .mv (.t 112)⟩, ⟨(some 114), (some (113, true)), .mv (.t 11)⟩, ⟨(some 115), (some (113, true)), .bin 0 .eql (.t 114) (.c (.int .i64 0))⟩, ⟨(some 116), none, .pick (.t 113) (.t 115) (.c (.bool false))⟩, ⟨(some 117), none, .mv (.t 116)⟩, ⟨(some 118), (some (117, true)), .mv (.t 16)⟩, ⟨(some 119), (some (117, true)), .bin 0 .eql (.t 118) (.c (.int .i64 0))⟩, ⟨(some 120), none, .pick (.t 117) (.t 119) (.c (.bool false))⟩, ⟨(some 121), none, .mv (.t 120)⟩, ⟨(some 122), (some (121, true)), .mv (.t 17)⟩, ⟨(some 123), (some (121, true)), .bin 0 .eql (.t 122) (.c (.int .i64 0))⟩, ⟨(some 124), none, .pick (.t 121) (.t 123) (.c (.bool false))⟩, ⟨(some 125), none, .mv (.t 124)⟩, ⟨(some 126), (some (125, true)), .call 25 []⟩, ⟨(some 127), none, .pick (.t 125) (.t 126) (.c (.bool false))⟩, ⟨(some 2), none, .mv (.t 127)⟩])
 (.ret)) (.skip)))
 (.seq (.ops [⟨(some 129), none, .load (some 2) (.t 4)⟩, ⟨(some 130), none, .mv (.t 5)⟩, ⟨(some 131), none, .call 50 [(.t 129), (.t 130)]⟩, ⟨(some 128), none, .mv (.t 131)⟩, ⟨(some 132), none, .ext (.t 128) 0⟩, ⟨(some 133), none, .ext (.t 128) 1⟩, ⟨(some 20), none, .mv (.t 132)⟩, ⟨(some 21), none, .mv (.t 133)⟩])
 (.seq (.ops [⟨(some 135), none, .load (some 2) (.t 4)⟩, ⟨(some 136), none, .mv (.t 5)⟩, ⟨(some 137), none, .call 51 [(.t 135), (.t 136)]⟩, ⟨(some 134), none, .mv (.t 137)⟩, ⟨(some 138), none, .ext (.t 134) 0⟩, ⟨(some 139), none, .ext (.t 134) 1⟩, ⟨(some 22), none, .mv (.t 138)⟩, ⟨(some 23), none, .mv (.t 139)⟩])
 (.seq (.ops [⟨(some 141), none, .load (some 2) (.t 4)⟩, ⟨(some 142), none, .mv (.t 5)⟩, ⟨(some 143), none, .call 52 [(.t 141), (.t 142)]⟩, ⟨(some 140), none, .mv (.t 143)⟩, ⟨(some 144), none, .ext (.t 140) 0⟩, ⟨(some 145), none, .ext (.t 140) 1⟩, ⟨(some 146), none, .ext (.t 140) 2⟩, ⟨(some 24), none, .mv (.t 144)⟩, ⟨(some 25), none, .mv (.t 145)⟩, ⟨(some 26), none, .mv (.t 146)⟩])
 (.seq (.ops [⟨(some 148), none, .load (some 2) (.t 4)⟩, ⟨(some 149), none, .mv (.t 5)⟩, ⟨(some 150), none, .call 53 [(.t 148), (.t 149)]⟩, ⟨(some 147), none, .mv (.t 150)⟩, ⟨(some 151), none, .ext (.t 147) 0⟩, ⟨(some 152), none, .ext (.t 147) 1⟩, ⟨(some 153), none, .ext (.t 147) 2⟩, ⟨(some 27), none, .mv (.t 151)⟩, ⟨(some 28), none, .mv (.t 152)⟩, ⟨(some 29), none, .mv (.t 153)⟩])
 (.seq (.seq (.ops [⟨(some 154), none, .mv (.t 9)⟩, ⟨(some 155), none, .bin 0 .neq (.t 154) (.c (.int .i64 0))⟩, ⟨(some 156), none, .mv (.t 155)⟩, ⟨(some 157), (some (156, false)), .mv (.t 7)⟩, ⟨(some 158), (some (156, false)), .mv (.t 20)⟩, ⟨(some 159), (some (156, false)), .call 28 [(.t 157), (.t 158)]⟩, ⟨(some 160), (some (156, false)), .un .not (.t 159)⟩, ⟨(some 161), none, .pick (.t 156) (.c (.bool true)) (.t 160)⟩, ⟨(some 162), none, .mv (.t 161)⟩, ⟨(some 163), (some (162, false)), .mv (.t 8)⟩, ⟨(some 164), (some (162, false)), .mv (.t 21)⟩, ⟨(some 165), (some (162, false)), .bin 2 .neq (.t 163) (.t 164)⟩, ⟨(some 166), none, .pick (.t 162) (.c (.bool true)) (.t 165)⟩, ⟨(some 167), none, .mv (.t 166)⟩, ⟨(some 168), (some (167, false)), .mv (.t 12)⟩, ⟨(some 169), (some (167, false)), .bin 0 .neq (.t 168) (.c (.int .i64 0))⟩, ⟨(some 170), none, .pick (.t 167) (.c (.bool true)) (.t 169)⟩, ⟨(some 171), none, .mv (.t 170)⟩, ⟨(some 172), (some (171, false)), .mv (.t 10)⟩, ⟨(some 173), (some (171, false)), .mv (.t 22)⟩, ⟨(some 174), (some (171, false)), .call 28 [(.t 172), (.t 173)]⟩, ⟨(some 175), (some (171, false)), .un .not (.t 174)⟩, ⟨(some 176), none, .pick (.t 171) (.c (.bool true)) (.t 175)⟩, ⟨(some 177), none, .mv (.t 176)⟩, ⟨(some 178), (some (177, false)), .mv (.t 11)⟩, ⟨(some 179), (some (177, false)), .mv (.t 23)⟩, ⟨(some 180), (some (177, false)), .bin 0 .neq (.t 178) (.t 179)⟩, ⟨(some 181), none, .pick (.t 177) (.c (.bool true)) (.t 180)⟩])
 (.cond (.t 181) (.seq (.ops [⟨(some 2), none, .mv (.c (.bool false))⟩])
 (.ret)) (.skip)))
 (.seq (.ops [⟨(some 182), none, .mv (.t 15)⟩, ⟨(some 183), none, .mv (.t 26)⟩, ⟨(some 184), none, .bin 0 .eql (.t 182) (.t 183)⟩, ⟨(some 185), none, .mv (.t 184)⟩, ⟨(some 186), (some (185, true)), .mv (.t 13)⟩, ⟨(some 187), (some (185, true)), .mv (.t 24)⟩, ⟨(some 188), (some (185, true)), .call 28 [(.t 186), (.t 187)]⟩, ⟨(some 189), none, .pick (.t 185) (.t 188) (.c (.bool false))⟩, ⟨(some 190), none, .mv (.t 189)⟩, ⟨(some 191), (some (190, true)), .mv (.t 14)⟩, ⟨(some 192), (some (190, true)), .mv (.t 25)⟩, ⟨(some 193), (some (190, true)), .bin 2 .eql (.t 191) (.t 192)⟩, ⟨(some 194), none, .pick (.t 190) (.t 193) (.c (.bool false))⟩, ⟨(some 195), none, .mv (.t 194)⟩, ⟨(some 196), (some (195, true)), .mv (.t 19)⟩, ⟨(some 197), (some (195, true)), .bin 0 .eql (.t 196) (.c (.int .i64 0))⟩, ⟨(some 198), none, .pick (.t 195) (.t 197) (.c (.bool false))⟩, ⟨(some 199), none, .mv (.t 198)⟩, ⟨(some 200), (some (199, true)), .mv (.t 16)⟩, ⟨(some 201), (some (199, true)), .mv (.t 27)⟩, ⟨(some 202), (some (199, true)), .bin 0 .eql (.t 200) (.t 201)⟩, ⟨(some 203), none, .pick (.t 199) (.t 202) (.c (.bool false))⟩, ⟨(some 204), none, .mv (.t 203)⟩, ⟨(some 205), (some (204, true)), .mv (.t 17)⟩, ⟨(some 206), (some (204, true)), .mv (.t 28)⟩, ⟨(some 207), (some (204, true)), .bin 0 .eql (.t 205) (.t 206)⟩, ⟨(some 208), none, .pick (.t 204) (.t 207) (.c (.bool false))⟩, ⟨(some 209), none, .mv (.t 208)⟩, ⟨(some 210), (some (209, true)), .mv (.t 18)⟩, ⟨(some 211), (some (209, true)), .mv (.t 29)⟩, ⟨(some 212), (some (209, true)), .bin 2 .eql (.t 210) (.t 211)⟩, ⟨(some 213), none, .pick (.t 209) (.t 212) (.c (.bool false))⟩, ⟨(some 214), none, .mv (.t 213)⟩, ⟨(some 215), (some (214, true)), .call 25 []⟩, ⟨(some 216), none, .pick (.t 214) (.t 215) (.c (.bool false))⟩, ⟨(some 2), none, .mv (.t 216)⟩])
 (.ret))))))))))))))))⟩
def a7 : AFn := ⟨127, [.t 2], .seq (.ops [⟨(some 2), none, .mv (.c (.bool false))⟩])
 (.seq (.ops [⟨(some 15), none, .mv (.t 0)⟩, ⟨(some 16), none, .build [(.lit true 0 []), (.int .i64 0)] [(0, 1, (.t 15))]⟩, ⟨(some 17), none, .box 25 (.t 16)⟩, ⟨(some 3), none, .mv (.t 17)⟩])
 (.seq (.ops [⟨(some 18), none, .mv (.t 3)⟩, ⟨(some 19), none, .call 14 [(.t 18), (.c (.int .i64 5)), (.c (.int .i64 4))]⟩, ⟨(some 4), none, .alloc 29 [(.lit true 0 []), (.lit true 0 [])]⟩, ⟨none, none, .store 2 (.t 4) (.t 19)⟩])
 (.seq (.seq (.ops [⟨(some 20), none, .mv (.t 3)⟩, ⟨(some 21), none, .call 44 [(.t 20), (.c (.int .i64 15))]⟩])
 (.cond (.t 21) (.ops [⟨(some 22), none, .mv (.t 3)⟩, ⟨(some 23), none, .mv (.t 3)⟩, ⟨(some 24), none, .bslice 3 1 2 [(.int .i64 0)] [(0, 1, (.c (.int .i64 2))), (1, 1, (.c (.int .i64 12)))]⟩, ⟨(some 25), none, .call 54 [(.t 23), (.t 24)]⟩, ⟨(some 26), none, .mv (.t 3)⟩, ⟨(some 27), none, .bslice 3 1 2 [(.int .i64 0)] [(0, 1, (.c (.int .i64 2))), (1, 1, (.c (.int .i64 12)))]⟩, ⟨(some 28), none, .call 54 [(.t 26), (.t 27)]⟩, ⟨(some 29), none, .call 14 [(.t 22), (.t 25), (.t 28)]⟩, ⟨none, none, .store 2 (.t 4) (.t 29)⟩]) (.skip)))
 (.seq (.ops [⟨(some 30), none, .load (some 2) (.t 4)⟩, ⟨(some 31), none, .call 17 [(.t 30)]⟩, ⟨(some 5), none, .mv (.t 31)⟩])
 (.seq (.ops [⟨(some 32), none, .mv (.t 5)⟩, ⟨(some 33), none, .fadr 0 (.t 4)⟩, ⟨(some 34), none, .load none (.t 33)⟩, ⟨(some 35), none, .len false (.t 34)⟩, ⟨(some 36), none, .bin 0 .gtr (.t 35) (.c (.int .i64 10))⟩, ⟨(some 37), none, .call 56 [(.t 36), (.c (.int .i64 2))]⟩, ⟨(some 38), none, .bslice 33 1 2 [(.int .i64 0)] [(0, 1, (.t 32)), (1, 1, (.t 37))]⟩, ⟨(some 39), none, .call 55 [(.t 38)]⟩, ⟨(some 6), none, .mv (.t 39)⟩])
 (.seq (.ops [⟨(some 40), none, .mv (.t 6)⟩, ⟨(some 41), none, .fadr 1 (.t 4)⟩, ⟨(some 42), none, .load none (.t 41)⟩, ⟨(some 43), none, .len false (.t 42)⟩, ⟨(some 44), none, .bin 0 .gtr (.t 43) (.c (.int .i64 10))⟩, ⟨(some 45), none, .call 56 [(.t 44), (.c (.int .i64 2))]⟩, ⟨(some 46), none, .bslice 33 1 2 [(.int .i64 0)] [(0, 1, (.t 40)), (1, 1, (.t 45))]⟩, ⟨(some 47), none, .call 55 [(.t 46)]⟩, ⟨(some 7), none, .mv (.t 47)⟩])
 (.seq (.seq (.ops [⟨(some 48), none, .mv (.t 7)⟩, ⟨(some 49), none, .bin 0 .eql (.t 48) (.c (.int .i64 0))⟩, ⟨(some 50), none, .mv (.t 49)⟩, ⟨(some 51), (some (50, true)), .fadr 0 (.t 4)⟩, ⟨(some 52), (some (50, true)), .load none (.t 51)⟩, ⟨(some 53), (some (50, true)), .len false (.t 52)⟩, ⟨(some 54), (some (50, true)), .bin 0 .gtr (.t 53) (.c (.int .i64 6))⟩, ⟨(some 55), none, .pick (.t 50) (.t 54) (.c (.bool false))⟩])
 (.cond (.t 55) (.seq (.ops [⟨(some 56), none, .call 25 []⟩, ⟨(some 2), none, .mv (.t 56)⟩])
 (.ret)) (.skip)))
 (.seq (.ops [⟨(some 58), none, .load (some 2) (.t 4)⟩, ⟨(some 59), none, .call 57 [(.t 58)]⟩, ⟨(some 57), none, .mv (.t 59)⟩, ⟨(some 60), none, .ext (.t 57) 0⟩, ⟨(some 61), none, .ext (.t 57) 1⟩, ⟨(some 8), none, .mv (.t 60)⟩, ⟨(some 9), none, .mv (.t 61)⟩])
 (.seq (.ops [⟨(some 63), none, .load (some 2) (.t 4)⟩, ⟨(some 64), none, .call 58 [(.t 63)]⟩, ⟨(some 62), none, .mv (.t 64)⟩, ⟨(some 65), none, .ext (.t 62) 0⟩, ⟨(some 66), none, .ext (.t 62) 1⟩, ⟨(some 67), none, .ext (.t 62) 2⟩, ⟨(some 10), none, .mv (.t 65)⟩, ⟨(some 11), none, .mv (.t 66)⟩, ⟨(some 12), none, .mv (.t 67)⟩])
 (.seq (.seq (.ops [⟨(some 68), none, .mv (.t 9)⟩, ⟨(some 69), none, .mv (.t 6)⟩, ⟨(some 70), none, .bin 0 .neq (.t 68) (.t 69)⟩, ⟨(some 71), none, .mv (.t 70)⟩, ⟨(some 72), (some (71, false)), .mv (.t 6)⟩, ⟨(some 73), (some (71, false)), .bin 0 .eql (.t 72) (.c (.int .i64 0))⟩, ⟨(some 74), (some (71, false)), .mv (.t 73)⟩, ⟨(some 75), (some (74, true)), .mv (.t 8)⟩, ⟨(some 76), (some (74, true)), .load (some 2) (.t 4)⟩, ⟨(some 77), (some (74, true)), .call 59 [(.t 76)]⟩, ⟨(some 78), (some (74, true)), .call 23 [(.t 75), (.t 77)]⟩, ⟨(some 79), (some (74, true)), .un .not (.t 78)⟩, ⟨(some 80), (some (71, false)), .pick (.t 74) (.t 79) (.c (.bool false))⟩, ⟨(some 81), none, .pick (.t 71) (.c (.bool true)) (.t 80)⟩, ⟨(some 82), none, .mv (.t 81)⟩, ⟨(some 83), (some (82, false)), .mv (.t 6)⟩, ⟨(some 84), (some (82, false)), .bin 0 .neq (.t 83) (.c (.int .i64 0))⟩, ⟨(some 85), (some (82, false)), .mv (.t 84)⟩, ⟨(some 86), (some (85, true)), .mv (.t 8)⟩, ⟨(some 87), (some (85, true)), .len false (.t 86)⟩, ⟨(some 88), (some (85, true)), .bin 0 .gtr (.t 87) (.c (.int .i64 0))⟩, ⟨(some 89), (some (82, false)), .pick (.t 85) (.t 88) (.c (.bool false))⟩, ⟨(some 90), none, .pick (.t 82) (.c (.bool true)) (.t 89)⟩])
 (.cond (.t 90) (.seq (.ops [⟨(some 2), none, .mv (.c (.bool false))⟩])
 (.ret)) (.skip)))
 (.seq (.seq (.ops [⟨(some 91), none, .mv (.t 7)⟩, ⟨(some 92), none, .bin 0 .neq (.t 91) (.c (.int .i64 0))⟩])
 (.cond (.t 92) (.seq (.ops [⟨(some 93), none, .mv (.t 12)⟩, ⟨(some 94), none, .mv (.t 7)⟩, ⟨(some 95), none, .bin 0 .eql (.t 93) (.t 94)⟩, ⟨(some 96), none, .mv (.t 95)⟩, ⟨(some 97), (some (96, true)), .mv (.t 10)⟩, ⟨(some 98), (some (96, true)), .bin 0 .eql (.t 97) (.c (.int .i64 0))⟩, ⟨(some 99), none, .pick (.t 96) (.t 98) (.c (.bool false))⟩, ⟨(some 100), none, .mv (.t 99)⟩, ⟨(some 101), (some (100, true)), .mv (.t 11)⟩, ⟨(some 102), (some (100, true)), .bin 0 .eql (.t 101) (.c (.int .i64 0))⟩, ⟨(some 103), none, .pick (.t 100) (.t 102) (.c (.bool false))⟩, ⟨(some 104), none, .mv (.t 103)⟩, ⟨(some 105), (some (104, true)), .call 25 []⟩, ⟨(some 106), none, .pick (.t 104) (.t 105) (.c (.bool false))⟩, ⟨(some 2), none, .mv (.t 106)⟩])
 (.ret)) (.skip)))
 (.seq (.ops [⟨(some 108), none, .load (some 2) (.t 4)⟩, ⟨(some 109), none, .call 60 [(.t 108)]⟩, ⟨(some 107), none, .mv (.t 109)⟩, ⟨(some 110), none, .ext (.t 107) 0⟩, ⟨(some 111), none, .ext (.t 107) 1⟩, ⟨(some 13), none, .mv (.t 110)⟩, ⟨(some 14), none, .mv (.t 111)⟩])
 (.seq (.ops [⟨(some 112), none, .mv (.t 12)⟩, ⟨(some 113), none, .bin 0 .eql (.t 112) (.c (.int .i64 0))⟩, ⟨(some 114), none, .mv (.t 113)⟩, ⟨(some 115), (some (114, true)), .mv (.t 10)⟩, ⟨(some 116), (some (114, true)), .mv (.t 13)⟩, ⟨(some 117), (some (114, true)), .bin 0 .eql (.t 115) (.t 116)⟩, ⟨(some 118), none, .pick (.t 114) (.t 117) (.c (.bool false))⟩, ⟨(some 119), none, .mv (.t 118)⟩, ⟨(some 120), (some (119, true)), .mv (.t 11)⟩, ⟨(some 121), (some (119, true)), .mv (.t 14)⟩, ⟨(some 122), (some (119, true)), .bin 0 .eql (.t 120) (.t 121)⟩, ⟨(some 123), none, .pick (.t 119) (.t 122) (.c (.bool false))⟩, ⟨(some 124), none, .mv (.t 123)⟩, ⟨(some 125), (some (124, true)), .call 25 []⟩, ⟨(some 126), none, .pick (.t 124) (.t 125) (.c (.bool false))⟩, ⟨(some 2), none, .mv (.t 126)⟩])
 (.ret))))))))))))))⟩
def a8 : AFn := ⟨86, [.t 2], .seq (.ops [⟨(some 2), none, .mv (.c (.bool false))⟩])
 (.seq (.ops [⟨(some 16), none, .mv (.t 0)⟩, ⟨(some 17), none, .build [(.lit true 0 []), (.int .i64 0)] [(0, 1, (.t 16))]⟩, ⟨(some 18), none, .box 25 (.t 17)⟩, ⟨(some 3), none, .mv (.t 18)⟩])
 (.seq (.ops [⟨(some 19), none, .mv (.t 3)⟩, ⟨(some 20), none, .call 42 [(.t 19), (.c (.int .i64 6)), (.c (.int .i64 4))]⟩, ⟨(some 4), none, .alloc 29 [(.lit true 0 []), (.lit true 0 [])]⟩, ⟨none, none, .store 2 (.t 4) (.t 20)⟩])
 (.seq (.ops [⟨(some 21), none, .mv (.t 3)⟩, ⟨(some 22), none, .load (some 2) (.t 4)⟩, ⟨(some 23), none, .call 46 [(.t 21), (.t 22)]⟩, ⟨(some 5), none, .mv (.t 23)⟩])
 (.seq (.seq (.ops [⟨(some 24), none, .load (some 2) (.t 4)⟩, ⟨(some 25), none, .mv (.t 5)⟩, ⟨(some 26), none, .call 47 [(.t 24), (.t 25)]⟩, ⟨(some 27), none, .bin 0 .neq (.t 26) (.c (.int .i64 0))⟩])
 (.cond (.t 27) (.seq (.ops [⟨(some 28), none, .call 43 []⟩, ⟨(some 2), none, .mv (.t 28)⟩])
 (.ret)) (.skip)))
 (.seq (.ops [⟨(some 30), none, .load (some 2) (.t 4)⟩, ⟨(some 31), none, .mv (.t 5)⟩, ⟨(some 32), none, .call 48 [(.t 30), (.t 31)]⟩, ⟨(some 29), none, .mv (.t 32)⟩, ⟨(some 33), none, .ext (.t 29) 0⟩, ⟨(some 34), none, .ext (.t 29) 1⟩, ⟨(some 35), none, .ext (.t 29) 2⟩, ⟨(some 6), none, .mv (.t 33)⟩, ⟨(some 7), none, .mv (.t 34)⟩, ⟨(some 8), none, .mv (.t 35)⟩])
 (.seq (.seq (.ops [⟨(some 36), none, .mv (.t 8)⟩, ⟨(some 37), none, .bin 0 .neq (.t 36) (.c (.int .i64 0))⟩, ⟨(some 38), none, .mv (.t 37)⟩, ⟨(some 39), (some (38, false)), .mv (.t 7)⟩, ⟨(some 40), (some (38, false)), .un .not (.t 39)⟩, ⟨(some 41), none, .pick (.t 38) (.c (.bool true)) (.t 40)⟩])
 (.cond (.t 41) (.seq (.ops [⟨(some 42), none, .mv (.t 8)⟩, ⟨(some 43), none, .bin 0 .eql (.t 42) (.c (.int .i64 0))⟩, ⟨(some 44), none, .mv (.t 43)⟩, ⟨(some 45), (some (44, true)), .mv (.t 6)⟩, ⟨(some 46), (some (44, true)), .len false (.t 45)⟩, ⟨(some 47), (some (44, true)), .bin 0 .eql (.t 46) (.c (.int .i64 0))⟩, ⟨(some 48), none, .pick (.t 44) (.t 47) (.c (.bool false))⟩, ⟨(some 49), none, .mv (.t 48)⟩, ⟨(some 50), (some (49, true)), .call 43 []⟩, ⟨(some 51), none, .pick (.t 49) (.t 50) (.c (.bool false))⟩, ⟨(some 2), none, .mv (.t 51)⟩])
 (.ret)) (.skip)))
 (.seq (.seq (.ops [⟨(some 52), none, .mv (.t 5)⟩, ⟨(some 53), none, .len false (.t 52)⟩, ⟨(some 54), none, .mv (.c (.int .i64 0))⟩])
 (.block 0 (.loop (.seq (.ops [⟨(some 55), none, .bin 0 .lss (.t 54) (.t 53)⟩])
 (.seq (.cond (.t 55) (.skip) (.exit 0))
 (.seq (.block 1 (.seq (.ops [⟨(some 56), none, .iadr 2 (.t 52) (.t 54)⟩, ⟨(some 57), none, .load (some 2) (.t 56)⟩, ⟨(some 10), none, .alloc 69 [(.int .i64 0), (.str [])]⟩, ⟨none, none, .store 2 (.t 10) (.t 57)⟩])
 (.seq (.ops [⟨(some 59), none, .load (some 2) (.t 4)⟩, ⟨(some 60), none, .fadr 0 (.t 10)⟩, ⟨(some 61), none, .load none (.t 60)⟩, ⟨(some 62), none, .bslice 3 1 1 [(.int .i64 0)] [(0, 1, (.t 61))]⟩, ⟨(some 63), none, .call 18 [(.t 59), (.t 62)]⟩, ⟨(some 58), none, .mv (.t 63)⟩, ⟨(some 64), none, .ext (.t 58) 0⟩, ⟨(some 65), none, .ext (.t 58) 1⟩, ⟨(some 66), none, .ext (.t 58) 2⟩, ⟨(some 11), none, .alloc 26 [(.lit true 0 [])]⟩, ⟨none, none, .store 1 (.t 11) (.t 64)⟩, ⟨(some 12), none, .mv (.t 65)⟩, ⟨(some 13), none, .mv (.t 66)⟩])
 (.seq (.seq (.ops [⟨(some 67), none, .mv (.t 13)⟩, ⟨(some 68), none, .bin 0 .neq (.t 67) (.c (.int .i64 0))⟩])
 (.cond (.t 68) (.seq (.ops [⟨(some 2), none, .mv (.c (.bool false))⟩])
 (.ret)) (.skip)))
 (.seq (.any [(⟨(some 69), none, .fadr 1 (.t 10)⟩, []), (⟨(some 70), none, .load none (.t 69)⟩, []), (⟨(some 71), none, .fadr 0 (.t 4)⟩, [0, 1]), (⟨(some 72), none, .load none (.t 71)⟩, [0, 1]), (⟨(some 73), none, .fadr 0 (.t 10)⟩, [0, 1, 2, 3]), (⟨(some 74), none, .load none (.t 73)⟩, [0, 1, 2, 3]), (⟨(some 75), none, .iadr 1 (.t 72) (.t 74)⟩, [0, 1]), (⟨(some 76), none, .load none (.t 75)⟩, [0, 1]), (⟨(some 77), none, .bin 1 .neq (.t 70) (.t 76)⟩, []), (⟨(some 14), none, .mv (.t 77)⟩, [])])
 (.seq (.ops [⟨(some 78), none, .mv (.t 6)⟩, ⟨(some 79), none, .mkfn 62 [(.t 11)]⟩, ⟨(some 80), none, .call 61 [(.t 78), (.t 79)]⟩, ⟨(some 15), none, .mv (.t 80)⟩])
 (.seq (.ops [⟨(some 81), none, .mv (.t 15)⟩, ⟨(some 82), none, .mv (.t 14)⟩, ⟨(some 83), none, .bin 2 .neq (.t 81) (.t 82)⟩])
 (.cond (.t 83) (.seq (.ops [⟨(some 2), none, .mv (.c (.bool false))⟩])
 (.ret)) (.skip)))))))))
 (.ops [⟨(some 84), none, .bin 0 .add (.t 54) (.c (.int .i64 1))⟩, ⟨(some 54), none, .mv (.t 84)⟩])))))))
 (.seq (.ops [⟨(some 85), none, .call 43 []⟩, ⟨(some 2), none, .mv (.t 85)⟩])
 (.ret)))))))))⟩
def a9 : AFn := ⟨120, [.t 2], .seq (.ops [⟨(some 2), none, .mv (.c (.bool false))⟩])
 (.seq (.ops [⟨(some 19), none, .mv (.t 0)⟩, ⟨(some 20), none, .build [(.lit true 0 []), (.int .i64 0)] [(0, 1, (.t 19))]⟩, ⟨(some 21), none, .box 25 (.t 20)⟩, ⟨(some 3), none, .mv (.t 21)⟩])
 (.seq (.ops [⟨(some 22), none, .mv (.t 3)⟩, ⟨(some 23), none, .call 14 [(.t 22), (.c (.int .i64 6)), (.c (.int .i64 4))]⟩, ⟨(some 4), none, .alloc 29 [(.lit true 0 []), (.lit true 0 [])]⟩, ⟨none, none, .store 2 (.t 4) (.t 23)⟩])
 (.seq (.ops [⟨(some 24), none, .mv (.t 3)⟩, ⟨(some 25), none, .load (some 2) (.t 4)⟩, ⟨(some 26), none, .call 46 [(.t 24), (.t 25)]⟩, ⟨(some 5), none, .mv (.t 26)⟩])
 (.seq (.ops [⟨(some 27), none, .load (some 2) (.t 4)⟩, ⟨(some 28), none, .call 17 [(.t 27)]⟩, ⟨(some 6), none, .mv (.t 28)⟩])
 (.seq (.seq (.any [(⟨(some 29), none, .load (some 2) (.t 4)⟩, []), (⟨(some 30), none, .call 63 [(.t 29)]⟩, []), (⟨(some 31), none, .mv (.t 6)⟩, [0, 1]), (⟨(some 32), none, .bin 0 .neq (.t 30) (.t 31)⟩, []), (⟨(some 33), none, .mv (.t 32)⟩, []), (⟨(some 34), (some (33, false)), .load (some 2) (.t 4)⟩, []), (⟨(some 35), (some (33, false)), .mv (.t 5)⟩, [5]), (⟨(some 36), (some (33, false)), .call 64 [(.t 34), (.t 35)]⟩, []), (⟨(some 37), (some (33, false)), .load (some 2) (.t 4)⟩, [5, 6, 7]), (⟨(some 38), (some (33, false)), .mv (.t 5)⟩, [5, 6, 7, 8]), (⟨(some 39), (some (33, false)), .call 47 [(.t 37), (.t 38)]⟩, []), (⟨(some 40), (some (33, false)), .bin 0 .neq (.t 36) (.t 39)⟩, []), (⟨(some 41), none, .pick (.t 33) (.c (.bool true)) (.t 40)⟩, [])])
 (.cond (.t 41) (.seq (.ops [⟨(some 2), none, .mv (.c (.bool false))⟩])
 (.ret)) (.skip)))
 (.seq (.ops [⟨(some 43), none, .load (some 2) (.t 4)⟩, ⟨(some 44), none, .call 65 [(.t 43)]⟩, ⟨(some 42), none, .mv (.t 44)⟩, ⟨(some 45), none, .ext (.t 42) 0⟩, ⟨(some 46), none, .ext (.t 42) 1⟩, ⟨(some 7), none, .mv (.t 45)⟩, ⟨(some 8), none, .mv (.t 46)⟩])
 (.seq (.ops [⟨(some 47), none, .mv (.t 6)⟩, ⟨(some 9), none, .mv (.t 47)⟩])
 (.seq (.ops [⟨(some 10), none, .mv (.c (.lit true 0 []))⟩])
 (.seq (.seq (.ops [⟨(some 48), none, .mv (.t 9)⟩, ⟨(some 49), none, .bin 0 .eql (.t 48) (.c (.int .i64 0))⟩])
 (.cond (.t 49) (.ops [⟨(some 51), none, .load (some 2) (.t 4)⟩, ⟨(some 52), none, .call 66 [(.t 51)]⟩, ⟨(some 50), none, .mv (.t 52)⟩, ⟨(some 53), none, .ext (.t 50) 0⟩, ⟨(some 54), none, .ext (.t 50) 1⟩, ⟨(some 10), none, .mv (.t 53)⟩, ⟨(some 9), none, .mv (.t 54)⟩]) (.skip)))
 (.seq (.seq (.ops [⟨(some 55), none, .mv (.t 8)⟩, ⟨(some 56), none, .mv (.t 9)⟩, ⟨(some 57), none, .bin 0 .neq (.t 55) (.t 56)⟩, ⟨(some 58), none, .mv (.t 57)⟩, ⟨(some 59), (some (58, false)), .mv (.t 7)⟩, ⟨(some 60), (some (58, false)), .mv (.t 10)⟩, ⟨(some 61), (some (58, false)), .call 67 [(.t 59), (.t 60)]⟩, ⟨(some 62), (some (58, false)), .un .not (.t 61)⟩, ⟨(some 63), none, .pick (.t 58) (.c (.bool true)) (.t 62)⟩])
 (.cond (.t 63) (.seq (.ops [⟨(some 2), none, .mv (.c (.bool false))⟩])
 (.ret)) (.skip)))
 (.seq (.ops [⟨(some 65), none, .load (some 2) (.t 4)⟩, ⟨(some 66), none, .call 68 [(.t 65)]⟩, ⟨(some 64), none, .mv (.t 66)⟩, ⟨(some 67), none, .ext (.t 64) 0⟩, ⟨(some 68), none, .ext (.t 64) 1⟩, ⟨(some 11), none, .mv (.t 67)⟩, ⟨(some 8), none, .mv (.t 68)⟩])
 (.seq (.seq (.ops [⟨(some 69), none, .mv (.t 8)⟩, ⟨(some 70), none, .mv (.t 6)⟩, ⟨(some 71), none, .bin 0 .neq (.t 69) (.t 70)⟩, ⟨(some 72), none, .mv (.t 71)⟩, ⟨(some 73), (some (72, false)), .mv (.t 6)⟩, ⟨(some 74), (some (72, false)), .bin 0 .eql (.t 73) (.c (.int .i64 0))⟩, ⟨(some 75), (some (72, false)), .mv (.t 74)⟩, ⟨(some 76), (some (75, true)), .mv (.t 11)⟩, ⟨(some 77), (some (75, true)), .load (some 2) (.t 4)⟩, ⟨(some 78), (some (75, true)), .call 69 [(.t 77)]⟩, ⟨(some 79), (some (75, true)), .bin 1 .neq (.t 76) (.t 78)⟩, ⟨(some 80), (some (72, false)), .pick (.t 75) (.t 79) (.c (.bool false))⟩, ⟨(some 81), none, .pick (.t 72) (.c (.bool true)) (.t 80)⟩, ⟨(some 82), none, .mv (.t 81)⟩, ⟨(some 83), (some (82, false)), .mv (.t 6)⟩, ⟨(some 84), (some (82, false)), .bin 0 .neq (.t 83) (.c (.int .i64 0))⟩, ⟨(some 85), (some (82, false)), .mv (.t 84)⟩, ⟨(some 86), (some (85, true)), .mv (.t 11)⟩, ⟨(some 87), (some (85, true)), .bin 1 .neq (.t 86) (.c (.str []))⟩, ⟨(some 88), (some (82, false)), .pick (.t 85) (.t 87) (.c (.bool false))⟩, ⟨(some 89), none, .pick (.t 82) (.c (.bool true)) (.t 88)⟩])
 (.cond (.t 89) (.seq (.ops [⟨(some 2), none, .mv (.c (.bool false))⟩])
 (.ret)) (.skip)))
 (.seq (.ops [⟨(some 90), none, .mv (.t 3)⟩, ⟨(some 91), none, .call 70 [(.t 90)]⟩, ⟨(some 12), none, .mv (.t 91)⟩])
 (.seq (.ops [⟨(some 93), none, .mv (.t 12)⟩, ⟨(some 94), none, .call 71 [(.t 93)]⟩, ⟨(some 92), none, .mv (.t 94)⟩, ⟨(some 95), none, .ext (.t 92) 0⟩, ⟨(some 96), none, .ext (.t 92) 1⟩, ⟨(some 97), none, .ext (.t 92) 2⟩, ⟨(some 13), none, .alloc 29 [(.lit true 0 []), (.lit true 0 [])]⟩, ⟨none, none, .store 2 (.t 13) (.t 95)⟩, ⟨(some 14), none, .mv (.t 96)⟩, ⟨(some 15), none, .mv (.t 97)⟩])
 (.seq (.ops [⟨(some 99), none, .mv (.t 12)⟩, ⟨(some 100), none, .call 72 [(.t 99)]⟩, ⟨(some 98), none, .mv (.t 100)⟩, ⟨(some 101), none, .ext (.t 98) 0⟩, ⟨(some 102), none, .ext (.t 98) 1⟩, ⟨(some 103), none, .ext (.t 98) 2⟩, ⟨(some 16), none, .alloc 29 [(.lit true 0 []), (.lit true 0 [])]⟩, ⟨none, none, .store 2 (.t 16) (.t 101)⟩, ⟨(some 17), none, .mv (.t 102)⟩, ⟨(some 18), none, .mv (.t 103)⟩])
 (.seq (.ops [⟨(some 104), none, .mv (.t 15)⟩, ⟨(some 105), none, .mv (.t 18)⟩, ⟨(some 106), none, .bin 0 .eql (.t 104) (.t 105)⟩, ⟨(some 107), none, .mv (.t 106)⟩, ⟨(some 108), (some (107, true)), .mv (.t 14)⟩, ⟨(some 109), (some (107, true)), .mv (.t 17)⟩, ⟨(some 110), (some (107, true)), .bin 0 .eql (.t 108) (.t 109)⟩, ⟨(some 111), none, .pick (.t 107) (.t 110) (.c (.bool false))⟩, ⟨(some 112), none, .mv (.t 111)⟩, ⟨(some 113), (some (112, true)), .load (some 2) (.t 13)⟩, ⟨(some 114), (some (112, true)), .load (some 2) (.t 16)⟩, ⟨(some 115), (some (112, true)), .call 73 [(.t 113), (.t 114)]⟩, ⟨(some 116), none, .pick (.t 112) (.t 115) (.c (.bool false))⟩, ⟨(some 117), none, .mv (.t 116)⟩, ⟨(some 118), (some (117, true)), .call 25 []⟩, ⟨(some 119), none, .pick (.t 117) (.t 118) (.c (.bool false))⟩, ⟨(some 2), none, .mv (.t 119)⟩])
 (.ret)))))))))))))))))⟩
def a14 : AFn := ⟨69, [.c 6 (some 2)], .seq (.ops [⟨(some 3), none, .box 23 (.t 0)⟩, ⟨(some 6), none, .alloc 29 [(.lit true 0 []), (.lit true 0 [])]⟩])
 (.seq (.ops [⟨(some 7), none, .alloc 29 [(.lit true 0 []), (.lit true 0 [])]⟩])
 (.seq (.ops [⟨(some 13), none, .mkfn 82 [(.t 3)]⟩, ⟨(some 8), none, .mv (.t 13)⟩])
 (.seq (.seq (.ops [⟨(some 14), none, .load none (.t 3)⟩, ⟨(some 15), none, .mv (.t 2)⟩, ⟨(some 16), none, .call 31 [(.t 14), (.c (.int .i64 1)), (.t 15)]⟩, ⟨(some 17), none, .mv (.c (.int .i64 0))⟩])
 (.block 0 (.loop (.seq (.ops [⟨(some 18), none, .bin 0 .lss (.t 17) (.t 16)⟩])
 (.seq (.cond (.t 18) (.skip) (.exit 0))
 (.seq (.block 1 (.any [(⟨(some 19), none, .fadr 0 (.t 7)⟩, []), (⟨(some 20), none, .load none (.t 19)⟩, []), (⟨(some 21), none, .mv (.t 8)⟩, [0, 1]), (⟨(some 22), none, .callv (.t 21) []⟩, [0, 1]), (⟨(some 23), none, .bslice 9 1 1 [(.str [])] [(0, 1, (.t 22))]⟩, [0, 1]), (⟨(some 24), none, .app 9 1 16 (.t 20) (.t 23)⟩, []), (⟨(some 25), none, .fadr 0 (.t 7)⟩, []), (⟨none, none, .store 1 (.t 25) (.t 24)⟩, [])]))
 (.ops [⟨(some 26), none, .bin 0 .add (.t 17) (.c (.int .i64 1))⟩, ⟨(some 17), none, .mv (.t 26)⟩])))))))
 (.seq (.seq (.ops [⟨(some 27), none, .load none (.t 3)⟩, ⟨(some 28), none, .mv (.t 1)⟩, ⟨(some 29), none, .call 31 [(.t 27), (.c (.int .i64 0)), (.t 28)]⟩, ⟨(some 30), none, .mv (.c (.int .i64 0))⟩])
 (.block 2 (.loop (.seq (.ops [⟨(some 31), none, .bin 0 .lss (.t 30) (.t 29)⟩])
 (.seq (.cond (.t 31) (.skip) (.exit 2))
 (.seq (.block 3 (.seq (.ops [⟨(some 32), none, .mv (.t 30)⟩, ⟨(some 9), none, .mv (.t 32)⟩])
 (.seq (.ops [⟨(some 33), none, .mv (.t 9)⟩, ⟨(some 34), none, .call 84 [(.t 33)]⟩, ⟨(some 35), none, .bin 1 .add (.c (.str [102])) (.t 34)⟩, ⟨(some 36), none, .build [(.str []), (.lit true 0 [])] [(0, 1, (.t 35))]⟩, ⟨(some 10), none, .alloc 67 [(.str []), (.lit true 0 [])]⟩, ⟨none, none, .store 2 (.t 10) (.t 36)⟩])
 (.seq (.seq (.ops [⟨(some 37), none, .fadr 0 (.t 7)⟩, ⟨(some 38), none, .load none (.t 37)⟩, ⟨(some 39), none, .len false (.t 38)⟩, ⟨(some 40), none, .mv (.c (.int .i64 0))⟩])
 (.block 4 (.loop (.seq (.ops [⟨(some 41), none, .bin 0 .lss (.t 40) (.t 39)⟩])
 (.seq (.cond (.t 41) (.skip) (.exit 4))
 (.seq (.block 5 (.seq (.ops [⟨(some 42), none, .iadr 1 (.t 38) (.t 40)⟩, ⟨(some 43), none, .load none (.t 42)⟩, ⟨(some 12), none, .mv (.t 43)⟩])
 (.any [(⟨(some 44), none, .fadr 1 (.t 10)⟩, []), (⟨(some 45), none, .load none (.t 44)⟩, []), (⟨(some 46), none, .load none (.t 3)⟩, [0, 1]), (⟨(some 47), none, .mv (.t 12)⟩, [0, 1, 2]), (⟨(some 48), none, .mv (.t 12)⟩, [0, 1, 2, 3]), (⟨(some 49), none, .mv (.t 8)⟩, [0, 1, 2, 3, 4]), (⟨(some 50), none, .callv (.t 49) []⟩, [0, 1, 2, 3, 4]), (⟨(some 51), none, .bslice 9 1 3 [(.str [])] [(0, 1, (.t 47)), (1, 1, (.t 48)), (2, 1, (.t 50))]⟩, [0, 1, 2]), (⟨(some 52), none, .call 83 [(.t 46), (.t 51)]⟩, [0, 1]), (⟨(some 53), none, .bslice 9 1 1 [(.str [])] [(0, 1, (.t 52))]⟩, [0, 1]), (⟨(some 54), none, .app 9 1 16 (.t 45) (.t 53)⟩, []), (⟨(some 55), none, .fadr 1 (.t 10)⟩, []), (⟨none, none, .store 1 (.t 55) (.t 54)⟩, [])])))
 (.ops [⟨(some 56), none, .bin 0 .add (.t 40) (.c (.int .i64 1))⟩, ⟨(some 40), none, .mv (.t 56)⟩])))))))
 (.ops [⟨(some 57), none, .fadr 1 (.t 7)⟩, ⟨(some 58), none, .load none (.t 57)⟩, ⟨(some 59), none, .load (some 2) (.t 10)⟩, ⟨(some 60), none, .bslice 67 2 1 [(.str []), (.lit true 0 [])] [(0, 2, (.t 59))]⟩, ⟨(some 61), none, .app 67 2 40 (.t 58) (.t 60)⟩, ⟨(some 62), none, .fadr 1 (.t 7)⟩, ⟨none, none, .store 1 (.t 62) (.t 61)⟩])))))
 (.ops [⟨(some 63), none, .bin 0 .add (.t 30) (.c (.int .i64 1))⟩, ⟨(some 30), none, .mv (.t 63)⟩])))))))
 (.seq (.seq (.ops [⟨(some 64), none, .load none (.t 3)⟩, ⟨(some 65), none, .call 44 [(.t 64), (.c (.int .i64 12))]⟩])
 (.cond (.t 65) (.ops [⟨(some 66), none, .load none (.t 3)⟩, ⟨(some 67), none, .call 85 [(.t 66), (.t 7)]⟩]) (.skip)))
 (.seq (.ops [⟨(some 68), none, .load (some 2) (.t 7)⟩, ⟨none, none, .store 2 (.t 6) (.t 68)⟩])
 (.ret)))))))⟩
theorem c14 : compF Go.Proofs.Tryz.prog 14 = some a14 := by kernel_rfl
def a17 : AFn := ⟨69, [.t 2], .seq (.ops [⟨(some 1), none, .box 29 (.t 0)⟩, ⟨(some 2), none, .mv (.c (.int .i64 0))⟩])
 (.seq (.ops [⟨(some 3), none, .mv (.c (.fn 86 []))⟩])
 (.seq (.block 0 (.seq (.ops [⟨(some 7), none, .fadr 0 (.t 1)⟩, ⟨(some 8), none, .load none (.t 7)⟩, ⟨(some 9), none, .len false (.t 8)⟩, ⟨(some 10), none, .bin 0 .eql (.t 9) (.c (.int .i64 0))⟩, ⟨(some 6), none, .mv (.t 10)⟩])
 (.cond (.t 6) (.seq (.ops [⟨(some 2), none, .mv (.c (.int .i64 8))⟩])
 (.ret)) (.seq (.ops [⟨(some 12), none, .fadr 0 (.t 1)⟩, ⟨(some 13), none, .load none (.t 12)⟩, ⟨(some 14), none, .len false (.t 13)⟩, ⟨(some 15), none, .bin 0 .gtr (.t 14) (.c (.int .i64 100))⟩, ⟨(some 16), none, .mv (.t 15)⟩, ⟨(some 17), (some (16, false)), .fadr 1 (.t 1)⟩, ⟨(some 18), (some (16, false)), .load none (.t 17)⟩, ⟨(some 19), (some (16, false)), .len false (.t 18)⟩, ⟨(some 20), (some (16, false)), .bin 0 .gtr (.t 19) (.c (.int .i64 300))⟩, ⟨(some 21), none, .pick (.t 16) (.c (.bool true)) (.t 20)⟩, ⟨(some 11), none, .mv (.t 21)⟩])
 (.cond (.t 11) (.seq (.ops [⟨(some 2), none, .mv (.c (.int .i64 2))⟩])
 (.ret)) (.seq (.ops [⟨(some 23), none, .fadr 0 (.t 1)⟩, ⟨(some 24), none, .load none (.t 23)⟩, ⟨(some 25), none, .mv (.t 3)⟩, ⟨(some 26), none, .call 61 [(.t 24), (.t 25)]⟩, ⟨(some 22), none, .mv (.t 26)⟩])
 (.cond (.t 22) (.seq (.ops [⟨(some 2), none, .mv (.c (.int .i64 9))⟩])
 (.ret)) (.skip))))))))
 (.seq (.seq (.ops [⟨(some 27), none, .fadr 1 (.t 1)⟩, ⟨(some 28), none, .load none (.t 27)⟩, ⟨(some 29), none, .len false (.t 28)⟩, ⟨(some 30), none, .mv (.c (.int .i64 0))⟩])
 (.block 1 (.loop (.seq (.ops [⟨(some 31), none, .bin 0 .lss (.t 30) (.t 29)⟩])
 (.seq (.cond (.t 31) (.skip) (.exit 1))
 (.seq (.block 2 (.seq (.ops [⟨(some 32), none, .mv (.t 30)⟩, ⟨(some 33), none, .iadr 2 (.t 28) (.t 30)⟩, ⟨(some 34), none, .load (some 2) (.t 33)⟩, ⟨(some 5), none, .alloc 67 [(.str []), (.lit true 0 [])]⟩, ⟨(some 4), none, .mv (.t 32)⟩, ⟨none, none, .store 2 (.t 5) (.t 34)⟩])
 (.block 3 (.seq (.ops [⟨(some 36), none, .fadr 0 (.t 5)⟩, ⟨(some 37), none, .load none (.t 36)⟩, ⟨(some 38), none, .call 88 [(.t 37)]⟩, ⟨(some 39), none, .un .not (.t 38)⟩, ⟨(some 35), none, .mv (.t 39)⟩])
 (.cond (.t 35) (.seq (.ops [⟨(some 2), none, .mv (.c (.int .i64 5))⟩])
 (.ret)) (.seq (.ops [⟨(some 41), none, .fadr 1 (.t 5)⟩, ⟨(some 42), none, .load none (.t 41)⟩, ⟨(some 43), none, .len false (.t 42)⟩, ⟨(some 44), none, .fadr 0 (.t 1)⟩, ⟨(some 45), none, .load none (.t 44)⟩, ⟨(some 46), none, .len false (.t 45)⟩, ⟨(some 47), none, .bin 0 .neq (.t 43) (.t 46)⟩, ⟨(some 40), none, .mv (.t 47)⟩])
 (.cond (.t 40) (.seq (.ops [⟨(some 2), none, .mv (.c (.int .i64 3))⟩])
 (.ret)) (.seq (.ops [⟨(some 49), none, .fadr 1 (.t 5)⟩, ⟨(some 50), none, .load none (.t 49)⟩, ⟨(some 51), none, .mv (.t 3)⟩, ⟨(some 52), none, .call 61 [(.t 50), (.t 51)]⟩, ⟨(some 48), none, .mv (.t 52)⟩])
 (.cond (.t 48) (.seq (.ops [⟨(some 2), none, .mv (.c (.int .i64 9))⟩])
 (.ret)) (.seq (.any [(⟨(some 54), none, .mv (.t 4)⟩, []), (⟨(some 55), none, .bin 0 .gtr (.t 54) (.c (.int .i64 0))⟩, []), (⟨(some 56), none, .mv (.t 55)⟩, []), (⟨(some 57), (some (56, true)), .fadr 0 (.t 5)⟩, []), (⟨(some 58), (some (56, true)), .load none (.t 57)⟩, []), (⟨(some 59), (some (56, true)), .fadr 1 (.t 1)⟩, [3, 4]), (⟨(some 60), (some (56, true)), .load none (.t 59)⟩, [3, 4]), (⟨(some 61), (some (56, true)), .mv (.t 4)⟩, [3, 4, 5, 6]), (⟨(some 62), (some (56, true)), .bin 0 .sub (.t 61) (.c (.int .i64 1))⟩, [3, 4, 5, 6]), (⟨(some 63), (some (56, true)), .iadr 2 (.t 60) (.t 62)⟩, [3, 4]), (⟨(some 64), (some (56, true)), .fadr 0 (.t 63)⟩, [3, 4]), (⟨(some 65), (some (56, true)), .load none (.t 64)⟩, [3, 4]), (⟨(some 66), (some (56, true)), .bin 1 .leq (.t 58) (.t 65)⟩, []), (⟨(some 67), none, .pick (.t 56) (.t 66) (.c (.bool false))⟩, []), (⟨(some 53), none, .mv (.t 67)⟩, [])])
 (.cond (.t 53) (.seq (.ops [⟨(some 2), none, .mv (.c (.int .i64 7))⟩])
 (.ret)) (.skip))))))))))))
 (.ops [⟨(some 68), none, .bin 0 .add (.t 30) (.c (.int .i64 1))⟩, ⟨(some 30), none, .mv (.t 68)⟩])))))))
 (.seq (.ops [⟨(some 2), none, .mv (.c (.int .i64 0))⟩])
 (.ret)))))⟩
theorem c17 : compF Go.Proofs.Tryz.prog 17 = some a17 := by kernel_rfl
def a20 : AFn := ⟨29, [.c 4 (some 2), .t 5, .t 6], .seq (.ops [⟨(some 2), none, .box 29 (.t 0)⟩, ⟨(some 4), none, .alloc 41 [(.int .i64 0), (.int .i64 0)]⟩, ⟨(some 5), none, .mv (.c (.bool false))⟩, ⟨(some 6), none, .mv (.c (.int .i64 0))⟩])
 (.seq (.seq (.ops [⟨(some 8), none, .load (some 2) (.t 2)⟩, ⟨(some 9), none, .mv (.t 1)⟩, ⟨(some 10), none, .call 89 [(.t 8), (.t 9)]⟩, ⟨(some 7), none, .mv (.t 10)⟩])
 (.seq (.ops [⟨(some 11), none, .mv (.t 7)⟩, ⟨(some 12), none, .bin 0 .neq (.t 11) (.c (.int .i64 0))⟩])
 (.cond (.t 12) (.seq (.ops [⟨(some 13), none, .build [(.int .i64 0), (.int .i64 0)] []⟩, ⟨(some 14), none, .mv (.t 7)⟩, ⟨none, none, .store 2 (.t 4) (.t 13)⟩, ⟨(some 5), none, .mv (.c (.bool false))⟩, ⟨(some 6), none, .mv (.t 14)⟩])
 (.ret)) (.skip))))
 (.seq (.seq (.ops [⟨(some 15), none, .fadr 1 (.t 2)⟩, ⟨(some 16), none, .load none (.t 15)⟩, ⟨(some 17), none, .len false (.t 16)⟩, ⟨(some 18), none, .bin 0 .eql (.t 17) (.c (.int .i64 0))⟩])
 (.cond (.t 18) (.seq (.ops [⟨(some 19), none, .build [(.int .i64 0), (.int .i64 0)] []⟩, ⟨none, none, .store 2 (.t 4) (.t 19)⟩, ⟨(some 5), none, .mv (.c (.bool false))⟩, ⟨(some 6), none, .mv (.c (.int .i64 0))⟩])
 (.ret)) (.skip)))
 (.seq (.any [(⟨(some 20), none, .load (some 2) (.t 2)⟩, []), (⟨(some 21), none, .mv (.t 1)⟩, [0]), (⟨(some 22), none, .call 93 [(.t 20), (.t 21)]⟩, []), (⟨(some 23), none, .len false (.t 22)⟩, []), (⟨(some 24), none, .bin 0 .sub (.t 23) (.c (.int .i64 1))⟩, []), (⟨(some 25), none, .fadr 1 (.t 2)⟩, [0, 1, 2, 3, 4]), (⟨(some 26), none, .load none (.t 25)⟩, [0, 1, 2, 3, 4]), (⟨(some 27), none, .len false (.t 26)⟩, [0, 1, 2, 3, 4]), (⟨(some 28), none, .call 94 [(.t 24), (.t 27)]⟩, []), (⟨none, none, .store 2 (.t 4) (.t 28)⟩, []), (⟨(some 5), none, .mv (.c (.bool true))⟩, []), (⟨(some 6), none, .mv (.c (.int .i64 0))⟩, [])])
 (.ret))))⟩
def a21 : AFn := ⟨50, [.t 6, .t 7], .seq (.ops [⟨(some 3), none, .box 29 (.t 0)⟩, ⟨(some 6), none, .mv (.c (.lit true 0 []))⟩, ⟨(some 7), none, .mv (.c (.int .i64 0))⟩])
 (.seq (.seq (.ops [⟨(some 13), none, .load (some 2) (.t 3)⟩, ⟨(some 14), none, .call 63 [(.t 13)]⟩, ⟨(some 8), none, .mv (.t 14)⟩])
 (.seq (.ops [⟨(some 15), none, .mv (.t 8)⟩, ⟨(some 16), none, .bin 0 .neq (.t 15) (.c (.int .i64 0))⟩])
 (.cond (.t 16) (.seq (.ops [⟨(some 17), none, .mv (.t 8)⟩, ⟨(some 6), none, .mv (.c (.lit true 0 []))⟩, ⟨(some 7), none, .mv (.t 17)⟩])
 (.ret)) (.skip))))
 (.seq (.any [(⟨(some 18), none, .load (some 2) (.t 3)⟩, []), (⟨(some 19), none, .mv (.t 1)⟩, [0]), (⟨(some 20), none, .call 95 [(.t 18), (.t 19)]⟩, []), (⟨(some 21), none, .load (some 2) (.t 3)⟩, [0, 1, 2]), (⟨(some 22), none, .mv (.t 2)⟩, [0, 1, 2, 3]), (⟨(some 23), none, .call 95 [(.t 21), (.t 22)]⟩, []), (⟨(some 9), none, .mv (.t 20)⟩, []), (⟨(some 10), none, .mv (.t 23)⟩, [])])
 (.seq (.seq (.ops [⟨(some 24), none, .mv (.t 9)⟩, ⟨(some 25), none, .bin 3 .eql (.t 24) (.c (.lit true 0 []))⟩, ⟨(some 26), none, .mv (.t 25)⟩, ⟨(some 27), (some (26, false)), .mv (.t 10)⟩, ⟨(some 28), (some (26, false)), .bin 3 .eql (.t 27) (.c (.lit true 0 []))⟩, ⟨(some 29), none, .pick (.t 26) (.c (.bool true)) (.t 28)⟩])
 (.cond (.t 29) (.seq (.ops [⟨(some 6), none, .mv (.c (.lit true 0 []))⟩, ⟨(some 7), none, .mv (.c (.int .i64 8))⟩])
 (.ret)) (.skip)))
 (.seq (.ops [⟨(some 11), none, .mv (.c (.lit true 0 []))⟩])
 (.seq (.seq (.ops [⟨(some 30), none, .mv (.t 9)⟩, ⟨(some 31), none, .len false (.t 30)⟩, ⟨(some 32), none, .mv (.c (.int .i64 0))⟩])
 (.block 0 (.loop (.seq (.ops [⟨(some 33), none, .bin 0 .lss (.t 32) (.t 31)⟩])
 (.seq (.cond (.t 33) (.skip) (.exit 0))
 (.seq (.block 1 (.seq (.ops [⟨(some 34), none, .mv (.t 32)⟩, ⟨(some 12), none, .mv (.t 34)⟩])
 (.seq (.any [(⟨(some 35), none, .mv (.t 9)⟩, []), (⟨(some 36), none, .mv (.t 12)⟩, [0]), (⟨(some 37), none, .iadr 1 (.t 35) (.t 36)⟩, []), (⟨(some 38), none, .load none (.t 37)⟩, []), (⟨(some 39), none, .mv (.t 10)⟩, [0, 1, 2, 3]), (⟨(some 40), none, .mv (.t 12)⟩, [0, 1, 2, 3, 4]), (⟨(some 41), none, .iadr 1 (.t 39) (.t 40)⟩, [0, 1, 2, 3]), (⟨(some 42), none, .load none (.t 41)⟩, [0, 1, 2, 3]), (⟨(some 43), none, .bin 1 .neq (.t 38) (.t 42)⟩, [])])
 (.cond (.t 43) (.ops [⟨(some 44), none, .mv (.t 11)⟩, ⟨(some 45), none, .mv (.t 12)⟩, ⟨(some 46), none, .bslice 3 1 1 [(.int .i64 0)] [(0, 1, (.t 45))]⟩, ⟨(some 47), none, .app 3 1 8 (.t 44) (.t 46)⟩, ⟨(some 11), none, .mv (.t 47)⟩]) (.skip)))))
 (.ops [⟨(some 48), none, .bin 0 .add (.t 32) (.c (.int .i64 1))⟩, ⟨(some 32), none, .mv (.t 48)⟩])))))))
 (.seq (.ops [⟨(some 49), none, .mv (.t 11)⟩, ⟨(some 6), none, .mv (.t 49)⟩, ⟨(some 7), none, .mv (.c (.int .i64 0))⟩])
 (.ret)))))))⟩
def a28 : AFn := ⟨26, [.t 4], .seq (.ops [⟨(some 4), none, .mv (.c (.bool false))⟩])
 (.seq (.seq (.ops [⟨(some 6), none, .mv (.t 0)⟩, ⟨(some 7), none, .len false (.t 6)⟩, ⟨(some 8), none, .mv (.t 1)⟩, ⟨(some 9), none, .len false (.t 8)⟩, ⟨(some 10), none, .bin 0 .neq (.t 7) (.t 9)⟩])
 (.cond (.t 10) (.seq (.ops [⟨(some 4), none, .mv (.c (.bool false))⟩])
 (.ret)) (.skip)))
 (.seq (.seq (.ops [⟨(some 11), none, .mv (.t 0)⟩, ⟨(some 12), none, .len false (.t 11)⟩, ⟨(some 13), none, .mv (.c (.int .i64 0))⟩])
 (.block 0 (.loop (.seq (.ops [⟨(some 14), none, .bin 0 .lss (.t 13) (.t 12)⟩])
 (.seq (.cond (.t 14) (.skip) (.exit 0))
 (.seq (.block 1 (.seq (.ops [⟨(some 15), none, .mv (.t 13)⟩, ⟨(some 5), none, .mv (.t 15)⟩])
 (.seq (.any [(⟨(some 16), none, .mv (.t 0)⟩, []), (⟨(some 17), none, .mv (.t 5)⟩, [0]), (⟨(some 18), none, .iadr 1 (.t 16) (.t 17)⟩, []), (⟨(some 19), none, .load none (.t 18)⟩, []), (⟨(some 20), none, .mv (.t 1)⟩, [0, 1, 2, 3]), (⟨(some 21), none, .mv (.t 5)⟩, [0, 1, 2, 3, 4]), (⟨(some 22), none, .iadr 1 (.t 20) (.t 21)⟩, [0, 1, 2, 3]), (⟨(some 23), none, .load none (.t 22)⟩, [0, 1, 2, 3]), (⟨(some 24), none, .bin 1 .neq (.t 19) (.t 23)⟩, [])])
 (.cond (.t 24) (.seq (.ops [⟨(some 4), none, .mv (.c (.bool false))⟩])
 (.ret)) (.skip)))))
 (.ops [⟨(some 25), none, .bin 0 .add (.t 13) (.c (.int .i64 1))⟩, ⟨(some 13), none, .mv (.t 25)⟩])))))))
 (.seq (.ops [⟨(some 4), none, .mv (.c (.bool true))⟩])
 (.ret))))⟩
theorem c28 : compF Go.Proofs.Tryz.prog 28 = some a28 := by kernel_rfl
def a31 : AFn := ⟨19, [.t 6], .seq (.ops [⟨(some 6), none, .mv (.c (.int .i64 0))⟩])
 (.seq (.seq (.ops [⟨(some 7), none, .mv (.t 2)⟩, ⟨(some 8), none, .mv (.t 1)⟩, ⟨(some 9), none, .bin 0 .lss (.t 7) (.t 8)⟩])
 (.cond (.t 9) (.seq (.ops [⟨(some 10), none, .mv (.t 1)⟩, ⟨(some 6), none, .mv (.t 10)⟩])
 (.ret)) (.skip)))
 (.seq (.ops [⟨(some 11), none, .mv (.t 1)⟩, ⟨(some 12), none, .mv (.t 0)⟩, ⟨(some 13), none, .mv (.t 2)⟩, ⟨(some 14), none, .mv (.t 1)⟩, ⟨(some 15), none, .bin 0 .sub (.t 13) (.t 14)⟩, ⟨(some 16), none, .bin 0 .add (.t 15) (.c (.int .i64 1))⟩, ⟨(some 17), none, .call 35 [(.t 12), (.t 16)]⟩, ⟨(some 18), none, .bin 0 .add (.t 11) (.t 17)⟩, ⟨(some 6), none, .mv (.t 18)⟩])
 (.ret)))⟩
theorem c31 : compF Go.Proofs.Tryz.prog 31 = some a31 := by kernel_rfl
def a35 : AFn := ⟨64, [.t 4], .seq (.ops [⟨(some 4), none, .mv (.c (.int .i64 0))⟩])
 (.seq (.ops [⟨(some 7), none, .mv (.t 0)⟩, ⟨(some 8), none, .nilchk (.t 7)⟩, ⟨(some 9), none, .fadr 1 (.t 8)⟩, ⟨(some 10), none, .load none (.t 9)⟩, ⟨(some 11), none, .bin 0 .add (.t 10) (.c (.int .i64 1))⟩, ⟨(some 12), none, .nilchk (.t 7)⟩, ⟨(some 13), none, .fadr 1 (.t 12)⟩, ⟨none, none, .store 1 (.t 13) (.t 11)⟩])
 (.seq (.seq (.ops [⟨(some 14), none, .mv (.t 0)⟩, ⟨(some 15), none, .nilchk (.t 14)⟩, ⟨(some 16), none, .fadr 0 (.t 15)⟩, ⟨(some 17), none, .load none (.t 16)⟩, ⟨(some 18), none, .len false (.t 17)⟩, ⟨(some 19), none, .bin 0 .eql (.t 18) (.c (.int .i64 0))⟩])
 (.cond (.t 19) (.seq (.ops [⟨(some 20), none, .mv (.t 0)⟩, ⟨(some 21), none, .nilchk (.t 20)⟩, ⟨(some 22), none, .fadr 1 (.t 21)⟩, ⟨(some 23), none, .load none (.t 22)⟩, ⟨(some 24), none, .bin 0 .mul (.t 23) (.c (.int .i64 7919))⟩, ⟨(some 25), none, .mv (.t 1)⟩, ⟨(some 26), none, .call 110 [(.t 24), (.t 25)]⟩, ⟨(some 4), none, .mv (.t 26)⟩])
 (.ret)) (.skip)))
 (.seq (.any [(⟨(some 27), none, .mv (.t 0)⟩, []), (⟨(some 28), none, .nilchk (.t 27)⟩, []), (⟨(some 29), none, .fadr 1 (.t 28)⟩, []), (⟨(some 30), none, .load none (.t 29)⟩, []), (⟨(some 31), none, .bin 0 .sub (.t 30) (.c (.int .i64 1))⟩, []), (⟨(some 32), none, .mv (.t 0)⟩, [0, 1, 2, 3, 4]), (⟨(some 33), none, .nilchk (.t 32)⟩, [0, 1, 2, 3, 4]), (⟨(some 34), none, .fadr 0 (.t 33)⟩, [0, 1, 2, 3, 4]), (⟨(some 35), none, .load none (.t 34)⟩, [0, 1, 2, 3, 4]), (⟨(some 36), none, .len false (.t 35)⟩, [0, 1, 2, 3, 4]), (⟨(some 37), none, .bin 0 .rem (.t 31) (.t 36)⟩, []), (⟨(some 5), none, .mv (.t 37)⟩, [])])
 (.seq (.any [(⟨(some 38), none, .mv (.t 0)⟩, []), (⟨(some 39), none, .nilchk (.t 38)⟩, []), (⟨(some 40), none, .fadr 1 (.t 39)⟩, []), (⟨(some 41), none, .load none (.t 40)⟩, []), (⟨(some 42), none, .bin 0 .sub (.t 41) (.c (.int .i64 1))⟩, []), (⟨(some 43), none, .mv (.t 0)⟩, [0, 1, 2, 3, 4]), (⟨(some 44), none, .nilchk (.t 43)⟩, [0, 1, 2, 3, 4]), (⟨(some 45), none, .fadr 0 (.t 44)⟩, [0, 1, 2, 3, 4]), (⟨(some 46), none, .load none (.t 45)⟩, [0, 1, 2, 3, 4]), (⟨(some 47), none, .len false (.t 46)⟩, [0, 1, 2, 3, 4]), (⟨(some 48), none, .bin 0 .quo (.t 42) (.t 47)⟩, []), (⟨(some 6), none, .mv (.t 48)⟩, [])])
 (.seq (.ops [⟨(some 49), none, .mv (.t 0)⟩, ⟨(some 50), none, .nilchk (.t 49)⟩, ⟨(some 51), none, .fadr 0 (.t 50)⟩, ⟨(some 52), none, .load none (.t 51)⟩, ⟨(some 53), none, .mv (.t 5)⟩, ⟨(some 54), none, .iadr 1 (.t 52) (.t 53)⟩, ⟨(some 55), none, .load none (.t 54)⟩, ⟨(some 56), none, .call 110 [(.t 55), (.c (.int .i64 1073741824))]⟩, ⟨(some 57), none, .mv (.t 6)⟩, ⟨(some 58), none, .mv (.t 5)⟩, ⟨(some 59), none, .bin 0 .add (.c (.int .i64 7919)) (.t 58)⟩, ⟨(some 60), none, .bin 0 .mul (.t 57) (.t 59)⟩, ⟨(some 61), none, .bin 0 .add (.t 56) (.t 60)⟩, ⟨(some 62), none, .mv (.t 1)⟩, ⟨(some 63), none, .call 110 [(.t 61), (.t 62)]⟩, ⟨(some 4), none, .mv (.t 63)⟩])
 (.ret))))))⟩
theorem c35 : compF Go.Proofs.Tryz.prog 35 = some a35 := by kernel_rfl
def a36 : AFn := ⟨39, [.t 4, .t 5, .t 6], .seq (.ops [⟨(some 2), none, .box 29 (.t 0)⟩, ⟨(some 4), none, .mv (.c (.lit true 0 []))⟩, ⟨(some 5), none, .mv (.c (.bool false))⟩, ⟨(some 6), none, .mv (.c (.int .i64 0))⟩])
 (.seq (.seq (.ops [⟨(some 11), none, .load (some 2) (.t 2)⟩, ⟨(some 12), none, .mv (.t 1)⟩, ⟨(some 13), none, .call 64 [(.t 11), (.t 12)]⟩, ⟨(some 7), none, .mv (.t 13)⟩])
 (.seq (.ops [⟨(some 14), none, .mv (.t 7)⟩, ⟨(some 15), none, .bin 0 .neq (.t 14) (.c (.int .i64 0))⟩])
 (.cond (.t 15) (.seq (.ops [⟨(some 16), none, .mv (.t 7)⟩, ⟨(some 4), none, .mv (.c (.lit true 0 []))⟩, ⟨(some 5), none, .mv (.c (.bool false))⟩, ⟨(some 6), none, .mv (.t 16)⟩])
 (.ret)) (.skip))))
 (.seq (.ops [⟨(some 8), none, .mv (.c (.lit true 0 []))⟩])
 (.seq (.seq (.ops [⟨(some 17), none, .fadr 1 (.t 2)⟩, ⟨(some 18), none, .load none (.t 17)⟩, ⟨(some 19), none, .len false (.t 18)⟩, ⟨(some 20), none, .mv (.c (.int .i64 0))⟩])
 (.block 0 (.loop (.seq (.ops [⟨(some 21), none, .bin 0 .lss (.t 20) (.t 19)⟩])
 (.seq (.cond (.t 21) (.skip) (.exit 0))
 (.seq (.block 1 (.seq (.ops [⟨(some 22), none, .iadr 2 (.t 18) (.t 20)⟩, ⟨(some 23), none, .load (some 2) (.t 22)⟩, ⟨(some 10), none, .alloc 67 [(.str []), (.lit true 0 [])]⟩, ⟨none, none, .store 2 (.t 10) (.t 23)⟩])
 (.seq (.ops [⟨(some 24), none, .load (some 2) (.t 10)⟩, ⟨(some 25), none, .mv (.t 1)⟩, ⟨(some 26), none, .call 111 [(.t 24), (.t 25)]⟩])
 (.cond (.t 26) (.ops [⟨(some 27), none, .mv (.t 8)⟩, ⟨(some 28), none, .fadr 0 (.t 10)⟩, ⟨(some 29), none, .load none (.t 28)⟩, ⟨(some 30), none, .bslice 9 1 1 [(.str [])] [(0, 1, (.t 29))]⟩, ⟨(some 31), none, .app 9 1 16 (.t 27) (.t 30)⟩, ⟨(some 8), none, .mv (.t 31)⟩]) (.skip)))))
 (.ops [⟨(some 32), none, .bin 0 .add (.t 20) (.c (.int .i64 1))⟩, ⟨(some 20), none, .mv (.t 32)⟩])))))))
 (.seq (.ops [⟨(some 33), none, .mv (.t 8)⟩, ⟨(some 34), none, .fadr 0 (.t 2)⟩, ⟨(some 35), none, .load none (.t 34)⟩, ⟨(some 36), none, .build [(.str []), (.lit true 0 [])] [(1, 1, (.t 35))]⟩, ⟨(some 37), none, .mv (.t 1)⟩, ⟨(some 38), none, .call 111 [(.t 36), (.t 37)]⟩, ⟨(some 4), none, .mv (.t 33)⟩, ⟨(some 5), none, .mv (.t 38)⟩, ⟨(some 6), none, .mv (.c (.int .i64 0))⟩])
 (.ret)))))⟩
theorem c36 : compF Go.Proofs.Tryz.prog 36 = some a36 := by kernel_rfl
def a37 : AFn := ⟨23, [.t 4, .t 5], .seq (.ops [⟨(some 3), none, .box 75 (.t 1)⟩, ⟨(some 4), none, .mv (.c (.bool false))⟩, ⟨(some 5), none, .mv (.c (.int .i64 0))⟩])
 (.seq (.seq (.ops [⟨(some 7), none, .mv (.t 0)⟩, ⟨(some 8), none, .load (some 2) (.t 3)⟩, ⟨(some 9), none, .bslice 75 2 1 [(.int .i64 0), (.lit true 0 [])] [(0, 2, (.t 8))]⟩, ⟨(some 10), none, .call 112 [(.t 7), (.t 9)]⟩, ⟨(some 6), none, .mv (.t 10)⟩])
 (.seq (.ops [⟨(some 11), none, .mv (.t 6)⟩, ⟨(some 12), none, .bin 0 .neq (.t 11) (.c (.int .i64 0))⟩])
 (.cond (.t 12) (.seq (.ops [⟨(some 13), none, .mv (.t 6)⟩, ⟨(some 4), none, .mv (.c (.bool false))⟩, ⟨(some 5), none, .mv (.t 13)⟩])
 (.ret)) (.skip))))
 (.seq (.any [(⟨(some 14), none, .mv (.t 0)⟩, []), (⟨(some 15), none, .call 114 [(.t 14)]⟩, []), (⟨(some 16), none, .load (some 2) (.t 3)⟩, [0, 1]), (⟨(some 17), none, .mv (.t 0)⟩, [0, 1, 2]), (⟨(some 18), none, .iadr 1 (.t 17) (.c (.int .i64 0))⟩, [0, 1, 2]), (⟨(some 19), none, .load none (.t 18)⟩, [0, 1, 2]), (⟨(some 20), none, .len true (.t 19)⟩, [0, 1, 2]), (⟨(some 21), none, .call 113 [(.t 15), (.t 16), (.t 20)]⟩, []), (⟨(some 22), none, .bin 0 .neq (.t 21) (.c (.int .u64 0))⟩, []), (⟨(some 4), none, .mv (.t 22)⟩, []), (⟨(some 5), none, .mv (.c (.int .i64 0))⟩, [])])
 (.ret)))⟩
def a38 : AFn := ⟨9, [.t 4], .seq (.ops [⟨(some 4), none, .mv (.c (.bool false))⟩])
 (.seq (.ops [⟨(some 5), none, .mv (.t 0)⟩, ⟨(some 6), none, .mv (.t 1)⟩, ⟨(some 7), none, .call 115 [(.t 5), (.t 6)]⟩, ⟨(some 8), none, .bin 0 .geq (.t 7) (.c (.int .i64 0))⟩, ⟨(some 4), none, .mv (.t 8)⟩])
 (.ret))⟩
theorem c38 : compF Go.Proofs.Tryz.prog 38 = some a38 := by kernel_rfl
def a42 : AFn := ⟨21, [.c 6 (some 2)], .seq (.ops [⟨(some 6), none, .alloc 29 [(.lit true 0 []), (.lit true 0 [])]⟩])
 (.seq (.seq (.ops [⟨(some 8), none, .mv (.c (.int .i64 0))⟩])
 (.block 0 (.loop (.seq (.ops [⟨(some 9), none, .bin 0 .lss (.t 8) (.c (.int .i64 6))⟩])
 (.seq (.cond (.t 9) (.skip) (.exit 0))
 (.seq (.block 1 (.seq (.ops [⟨(some 10), none, .mv (.t 0)⟩, ⟨(some 11), none, .mv (.t 1)⟩, ⟨(some 12), none, .mv (.t 2)⟩, ⟨(some 13), none, .call 14 [(.t 10), (.t 11), (.t 12)]⟩, ⟨(some 7), none, .alloc 29 [(.lit true 0 []), (.lit true 0 [])]⟩, ⟨none, none, .store 2 (.t 7) (.t 13)⟩])
 (.seq (.ops [⟨(some 14), none, .load (some 2) (.t 7)⟩, ⟨(some 15), none, .call 17 [(.t 14)]⟩, ⟨(some 16), none, .bin 0 .eql (.t 15) (.c (.int .i64 0))⟩])
 (.cond (.t 16) (.seq (.ops [⟨(some 17), none, .load (some 2) (.t 7)⟩, ⟨none, none, .store 2 (.t 6) (.t 17)⟩])
 (.ret)) (.skip)))))
 (.ops [⟨(some 18), none, .bin 0 .add (.t 8) (.c (.int .i64 1))⟩, ⟨(some 8), none, .mv (.t 18)⟩])))))))
 (.seq (.ops [⟨(some 19), none, .bslice 9 1 1 [(.str [])] [(0, 1, (.c (.str [48])))]⟩, ⟨(some 20), none, .build [(.lit true 0 []), (.lit true 0 [])] [(0, 1, (.t 19))]⟩, ⟨none, none, .store 2 (.t 6) (.t 20)⟩])
 (.ret)))⟩
theorem c42 : compF Go.Proofs.Tryz.prog 42 = some a42 := by kernel_rfl
def a43 : AFn := ⟨50, [.t 0], .seq (.ops [⟨(some 0), none, .mv (.c (.bool false))⟩])
 (.seq (.ops [⟨(some 9), none, .call 119 [(.c (.int .i64 4)), (.c (.int .i64 1))]⟩, ⟨(some 8), none, .mv (.t 9)⟩, ⟨(some 10), none, .ext (.t 8) 0⟩, ⟨(some 11), none, .ext (.t 8) 1⟩, ⟨(some 1), none, .mv (.t 10)⟩, ⟨(some 2), none, .mv (.t 11)⟩])
 (.seq (.ops [⟨(some 13), none, .call 120 [(.c (.int .i64 3))]⟩, ⟨(some 12), none, .mv (.t 13)⟩, ⟨(some 14), none, .ext (.t 12) 0⟩, ⟨(some 15), none, .ext (.t 12) 1⟩, ⟨(some 3), none, .mv (.t 14)⟩, ⟨(some 4), none, .mv (.t 15)⟩])
 (.seq (.ops [⟨(some 17), none, .bslice 9 1 1 [(.str [])] [(0, 1, (.c (.str [49, 120])))]⟩, ⟨(some 18), none, .build [(.lit true 0 []), (.str [])] [(0, 1, (.t 17)), (1, 1, (.c (.str [49])))]⟩, ⟨(some 19), none, .call 121 [(.t 18)]⟩, ⟨(some 16), none, .mv (.t 19)⟩, ⟨(some 20), none, .ext (.t 16) 0⟩, ⟨(some 21), none, .ext (.t 16) 1⟩, ⟨(some 22), none, .ext (.t 16) 2⟩, ⟨(some 5), none, .alloc 41 [(.int .i64 0), (.int .i64 0)]⟩, ⟨none, none, .store 2 (.t 5) (.t 20)⟩, ⟨(some 6), none, .mv (.t 21)⟩, ⟨(some 7), none, .mv (.t 22)⟩])
 (.seq (.ops [⟨(some 23), none, .mv (.t 2)⟩, ⟨(some 24), none, .bin 0 .eql (.t 23) (.c (.int .i64 0))⟩, ⟨(some 25), none, .mv (.t 24)⟩, ⟨(some 26), (some (25, true)), .mv (.t 1)⟩, ⟨(some 27), (some (25, true)), .bin 1 .eql (.t 26) (.c (.str [49, 49, 48]))⟩, ⟨(some 28), none, .pick (.t 25) (.t 27) (.c (.bool false))⟩, ⟨(some 29), none, .mv (.t 28)⟩, ⟨(some 30), (some (29, true)), .mv (.t 4)⟩, ⟨(some 31), (some (29, true)), .bin 0 .eql (.t 30) (.c (.int .i64 0))⟩, ⟨(some 32), none, .pick (.t 29) (.t 31) (.c (.bool false))⟩, ⟨(some 33), none, .mv (.t 32)⟩, ⟨(some 34), (some (33, true)), .mv (.t 3)⟩, ⟨(some 35), (some (33, true)), .len false (.t 34)⟩, ⟨(some 36), (some (33, true)), .bin 0 .eql (.t 35) (.c (.int .i64 3))⟩, ⟨(some 37), none, .pick (.t 33) (.t 36) (.c (.bool false))⟩, ⟨(some 38), none, .mv (.t 37)⟩, ⟨(some 39), (some (38, true)), .mv (.t 7)⟩, ⟨(some 40), (some (38, true)), .bin 0 .eql (.t 39) (.c (.int .i64 0))⟩, ⟨(some 41), none, .pick (.t 38) (.t 40) (.c (.bool false))⟩, ⟨(some 42), none, .mv (.t 41)⟩, ⟨(some 43), (some (42, true)), .mv (.t 6)⟩, ⟨(some 44), none, .pick (.t 42) (.t 43) (.c (.bool false))⟩, ⟨(some 45), none, .mv (.t 44)⟩, ⟨(some 46), (some (45, true)), .load (some 2) (.t 5)⟩, ⟨(some 47), (some (45, true)), .build [(.int .i64 0), (.int .i64 0)] [(0, 1, (.c (.int .i64 1))), (1, 1, (.c (.int .i64 2)))]⟩, ⟨(some 48), (some (45, true)), .eqs false [0, 0] (.t 46) (.t 47)⟩, ⟨(some 49), none, .pick (.t 45) (.t 48) (.c (.bool false))⟩, ⟨(some 0), none, .mv (.t 49)⟩])
 (.ret)))))⟩
theorem c43 : compF Go.Proofs.Tryz.prog 43 = some a43 := by kernel_rfl
def a44 : AFn := ⟨9, [.t 4], .seq (.ops [⟨(some 4), none, .mv (.c (.bool false))⟩])
 (.seq (.ops [⟨(some 5), none, .mv (.t 0)⟩, ⟨(some 6), none, .mv (.t 1)⟩, ⟨(some 7), none, .call 35 [(.t 5), (.t 6)]⟩, ⟨(some 8), none, .bin 0 .eql (.t 7) (.c (.int .i64 0))⟩, ⟨(some 4), none, .mv (.t 8)⟩])
 (.ret))⟩
theorem c44 : compF Go.Proofs.Tryz.prog 44 = some a44 := by kernel_rfl
def a45 : AFn := ⟨66, [.t 4, .t 5, .t 6], .seq (.ops [⟨(some 2), none, .box 29 (.t 0)⟩, ⟨(some 4), none, .mv (.c (.lit true 0 []))⟩, ⟨(some 5), none, .mv (.c (.int .i64 0))⟩, ⟨(some 6), none, .mv (.c (.int .i64 0))⟩])
 (.seq (.seq (.ops [⟨(some 15), none, .load (some 2) (.t 2)⟩, ⟨(some 16), none, .mv (.t 1)⟩, ⟨(some 17), none, .call 64 [(.t 15), (.t 16)]⟩, ⟨(some 7), none, .mv (.t 17)⟩])
 (.seq (.ops [⟨(some 18), none, .mv (.t 7)⟩, ⟨(some 19), none, .bin 0 .neq (.t 18) (.c (.int .i64 0))⟩])
 (.cond (.t 19) (.seq (.ops [⟨(some 20), none, .mv (.t 7)⟩, ⟨(some 4), none, .mv (.c (.lit true 0 []))⟩, ⟨(some 5), none, .mv (.c (.int .i64 0))⟩, ⟨(some 6), none, .mv (.t 20)⟩])
 (.ret)) (.skip))))
 (.seq (.ops [⟨(some 8), none, .mv (.c (.int .i64 0))⟩])
 (.seq (.ops [⟨(some 9), none, .mv (.c (.lit true 0 []))⟩])
 (.seq (.seq (.ops [⟨(some 21), none, .fadr 1 (.t 2)⟩, ⟨(some 22), none, .load none (.t 21)⟩, ⟨(some 23), none, .len false (.t 22)⟩, ⟨(some 24), none, .mv (.c (.int .i64 0))⟩])
 (.block 0 (.loop (.seq (.ops [⟨(some 25), none, .bin 0 .lss (.t 24) (.t 23)⟩])
 (.seq (.cond (.t 25) (.skip) (.exit 0))
 (.seq (.block 1 (.seq (.ops [⟨(some 26), none, .iadr 2 (.t 22) (.t 24)⟩, ⟨(some 27), none, .load (some 2) (.t 26)⟩, ⟨(some 11), none, .alloc 67 [(.str []), (.lit true 0 [])]⟩, ⟨none, none, .store 2 (.t 11) (.t 27)⟩])
 (.seq (.ops [⟨(some 12), none, .mv (.c (.int .i64 0))⟩])
 (.seq (.seq (.ops [⟨(some 28), none, .mv (.t 1)⟩, ⟨(some 29), none, .len false (.t 28)⟩, ⟨(some 30), none, .mv (.c (.int .i64 0))⟩])
 (.block 2 (.loop (.seq (.ops [⟨(some 31), none, .bin 0 .lss (.t 30) (.t 29)⟩])
 (.seq (.cond (.t 31) (.skip) (.exit 2))
 (.seq (.block 3 (.seq (.ops [⟨(some 32), none, .iadr 2 (.t 28) (.t 30)⟩, ⟨(some 33), none, .load (some 2) (.t 32)⟩, ⟨(some 14), none, .alloc 69 [(.int .i64 0), (.str [])]⟩, ⟨none, none, .store 2 (.t 14) (.t 33)⟩])
 (.seq (.any [(⟨(some 34), none, .fadr 1 (.t 11)⟩, []), (⟨(some 35), none, .load none (.t 34)⟩, []), (⟨(some 36), none, .fadr 0 (.t 14)⟩, [0, 1]), (⟨(some 37), none, .load none (.t 36)⟩, [0, 1]), (⟨(some 38), none, .iadr 1 (.t 35) (.t 37)⟩, []), (⟨(some 39), none, .load none (.t 38)⟩, []), (⟨(some 40), none, .fadr 1 (.t 14)⟩, [0, 1, 2, 3, 4, 5]), (⟨(some 41), none, .load none (.t 40)⟩, [0, 1, 2, 3, 4, 5]), (⟨(some 42), none, .bin 1 .neq (.t 39) (.t 41)⟩, [])])
 (.cond (.t 42) (.ops [⟨(some 43), none, .mv (.t 12)⟩, ⟨(some 44), none, .bin 0 .add (.t 43) (.c (.int .i64 1))⟩, ⟨(some 12), none, .mv (.t 44)⟩]) (.skip)))))
 (.ops [⟨(some 45), none, .bin 0 .add (.t 30) (.c (.int .i64 1))⟩, ⟨(some 30), none, .mv (.t 45)⟩])))))))
 (.seq (.seq (.ops [⟨(some 46), none, .mv (.t 9)⟩, ⟨(some 47), none, .len false (.t 46)⟩, ⟨(some 48), none, .bin 0 .eql (.t 47) (.c (.int .i64 0))⟩, ⟨(some 49), none, .mv (.t 48)⟩, ⟨(some 50), (some (49, false)), .mv (.t 12)⟩, ⟨(some 51), (some (49, false)), .mv (.t 8)⟩, ⟨(some 52), (some (49, false)), .bin 0 .lss (.t 50) (.t 51)⟩, ⟨(some 53), none, .pick (.t 49) (.c (.bool true)) (.t 52)⟩])
 (.cond (.t 53) (.ops [⟨(some 54), none, .mv (.t 12)⟩, ⟨(some 8), none, .mv (.t 54)⟩, ⟨(some 9), none, .mv (.c (.lit true 0 []))⟩]) (.skip)))
 (.seq (.ops [⟨(some 55), none, .mv (.t 12)⟩, ⟨(some 56), none, .mv (.t 8)⟩, ⟨(some 57), none, .bin 0 .eql (.t 55) (.t 56)⟩])
 (.cond (.t 57) (.ops [⟨(some 58), none, .mv (.t 9)⟩, ⟨(some 59), none, .fadr 0 (.t 11)⟩, ⟨(some 60), none, .load none (.t 59)⟩, ⟨(some 61), none, .bslice 9 1 1 [(.str [])] [(0, 1, (.t 60))]⟩, ⟨(some 62), none, .app 9 1 16 (.t 58) (.t 61)⟩, ⟨(some 9), none, .mv (.t 62)⟩]) (.skip))))))))
 (.ops [⟨(some 63), none, .bin 0 .add (.t 24) (.c (.int .i64 1))⟩, ⟨(some 24), none, .mv (.t 63)⟩])))))))
 (.seq (.ops [⟨(some 64), none, .mv (.t 9)⟩, ⟨(some 65), none, .mv (.t 8)⟩, ⟨(some 4), none, .mv (.t 64)⟩, ⟨(some 5), none, .mv (.t 65)⟩, ⟨(some 6), none, .mv (.c (.int .i64 0))⟩])
 (.ret))))))⟩
theorem c45 : compF Go.Proofs.Tryz.prog 45 = some a45 := by kernel_rfl
def a46 : AFn := ⟨103, [.t 4], .seq (.ops [⟨(some 3), none, .box 29 (.t 1)⟩, ⟨(some 4), none, .mv (.c (.lit true 0 []))⟩])
 (.seq (.ops [⟨(some 5), none, .mv (.c (.lit true 0 []))⟩])
 (.seq (.ops [⟨(some 9), none, .fadr 0 (.t 3)⟩, ⟨(some 10), none, .load none (.t 9)⟩, ⟨(some 6), none, .mv (.t 10)⟩])
 (.seq (.seq (.ops [⟨(some 11), none, .fadr 1 (.t 3)⟩, ⟨(some 12), none, .load none (.t 11)⟩, ⟨(some 13), none, .len false (.t 12)⟩, ⟨(some 14), none, .bin 0 .gtr (.t 13) (.c (.int .i64 0))⟩, ⟨(some 15), none, .mv (.t 14)⟩, ⟨(some 16), (some (15, true)), .mv (.t 0)⟩, ⟨(some 17), (some (15, true)), .call 44 [(.t 16), (.c (.int .i64 4))]⟩, ⟨(some 18), (some (15, true)), .un .not (.t 17)⟩, ⟨(some 19), none, .pick (.t 15) (.t 18) (.c (.bool false))⟩])
 (.cond (.t 19) (.any [(⟨(some 20), none, .fadr 1 (.t 3)⟩, []), (⟨(some 21), none, .load none (.t 20)⟩, []), (⟨(some 22), none, .mv (.t 0)⟩, [0, 1]), (⟨(some 23), none, .fadr 1 (.t 3)⟩, [0, 1, 2]), (⟨(some 24), none, .load none (.t 23)⟩, [0, 1, 2]), (⟨(some 25), none, .len false (.t 24)⟩, [0, 1, 2]), (⟨(some 26), none, .call 35 [(.t 22), (.t 25)]⟩, [0, 1]), (⟨(some 27), none, .iadr 2 (.t 21) (.t 26)⟩, []), (⟨(some 28), none, .fadr 1 (.t 27)⟩, []), (⟨(some 29), none, .load none (.t 28)⟩, []), (⟨(some 6), none, .mv (.t 29)⟩, [])]) (.skip)))
 (.seq (.seq (.ops [⟨(some 30), none, .fadr 0 (.t 3)⟩, ⟨(some 31), none, .load none (.t 30)⟩, ⟨(some 32), none, .len false (.t 31)⟩, ⟨(some 33), none, .mv (.c (.int .i64 0))⟩])
 (.block 0 (.loop (.seq (.ops [⟨(some 34), none, .bin 0 .lss (.t 33) (.t 32)⟩])
 (.seq (.cond (.t 34) (.skip) (.exit 0))
 (.seq (.block 1 (.seq (.ops [⟨(some 35), none, .mv (.t 33)⟩, ⟨(some 7), none, .mv (.t 35)⟩])
 (.seq (.ops [⟨(some 36), none, .mv (.t 0)⟩, ⟨(some 37), none, .call 44 [(.t 36), (.c (.int .i64 3))]⟩, ⟨(some 38), none, .un .not (.t 37)⟩, ⟨(some 39), none, .mv (.t 38)⟩, ⟨(some 40), (some (39, true)), .mv (.t 7)⟩, ⟨(some 41), (some (39, true)), .mv (.t 6)⟩, ⟨(some 42), (some (39, true)), .len false (.t 41)⟩, ⟨(some 43), (some (39, true)), .bin 0 .lss (.t 40) (.t 42)⟩, ⟨(some 44), none, .pick (.t 39) (.t 43) (.c (.bool false))⟩])
 (.cond (.t 44) (.any [(⟨(some 45), none, .mv (.t 5)⟩, []), (⟨(some 46), none, .mv (.t 7)⟩, [0]), (⟨(some 47), none, .mv (.t 0)⟩, [0, 1]), (⟨(some 48), none, .mv (.t 6)⟩, [0, 1, 2]), (⟨(some 49), none, .mv (.t 7)⟩, [0, 1, 2, 3]), (⟨(some 50), none, .iadr 1 (.t 48) (.t 49)⟩, [0, 1, 2]), (⟨(some 51), none, .load none (.t 50)⟩, [0, 1, 2]), (⟨(some 52), none, .mv (.t 6)⟩, [0, 1, 2, 3, 4, 5, 6]), (⟨(some 53), none, .mv (.t 7)⟩, [0, 1, 2, 3, 4, 5, 6, 7]), (⟨(some 54), none, .iadr 1 (.t 52) (.t 53)⟩, [0, 1, 2, 3, 4, 5, 6]), (⟨(some 55), none, .load none (.t 54)⟩, [0, 1, 2, 3, 4, 5, 6]), (⟨(some 56), none, .mv (.t 6)⟩, [0, 1, 2, 3, 4, 5, 6, 7, 8, 9, 10]), (⟨(some 57), none, .mv (.t 7)⟩, [0, 1, 2, 3, 4, 5, 6, 7, 8, 9, 10, 11]), (⟨(some 58), none, .iadr 1 (.t 56) (.t 57)⟩, [0, 1, 2, 3, 4, 5, 6, 7, 8, 9, 10]), (⟨(some 59), none, .load none (.t 58)⟩, [0, 1, 2, 3, 4, 5, 6, 7, 8, 9, 10]), (⟨(some 60), none, .bslice 9 1 5 [(.str [])] [(0, 1, (.t 51)), (1, 1, (.t 55)), (2, 1, (.t 59)), (3, 1, (.c (.str [48]))), (4, 1, (.c (.str [49])))]⟩, [0, 1, 2]), (⟨(some 61), none, .call 83 [(.t 47), (.t 60)]⟩, [0, 1]), (⟨(some 62), none, .build [(.int .i64 0), (.str [])] [(0, 1, (.t 46)), (1, 1, (.t 61))]⟩, [0]), (⟨(some 63), none, .bslice 69 2 1 [(.int .i64 0), (.str [])] [(0, 2, (.t 62))]⟩, [0]), (⟨(some 64), none, .app 69 2 24 (.t 45) (.t 63)⟩, []), (⟨(some 5), none, .mv (.t 64)⟩, [])]) (.skip)))))
 (.ops [⟨(some 65), none, .bin 0 .add (.t 33) (.c (.int .i64 1))⟩, ⟨(some 33), none, .mv (.t 65)⟩])))))))
 (.seq (.seq (.ops [⟨(some 66), none, .mv (.t 5)⟩, ⟨(some 67), none, .len false (.t 66)⟩, ⟨(some 68), none, .bin 0 .gtr (.t 67) (.c (.int .i64 0))⟩, ⟨(some 69), none, .mv (.t 68)⟩, ⟨(some 70), (some (69, true)), .mv (.t 0)⟩, ⟨(some 71), (some (69, true)), .call 44 [(.t 70), (.c (.int .i64 15))]⟩, ⟨(some 72), none, .pick (.t 69) (.t 71) (.c (.bool false))⟩])
 (.cond (.t 72) (.seq (.ops [⟨(some 73), none, .mv (.t 5)⟩, ⟨(some 74), none, .mv (.t 0)⟩, ⟨(some 75), none, .mv (.t 5)⟩, ⟨(some 76), none, .len false (.t 75)⟩, ⟨(some 77), none, .call 35 [(.t 74), (.t 76)]⟩, ⟨(some 78), none, .iadr 2 (.t 73) (.t 77)⟩, ⟨(some 8), none, .mv (.t 78)⟩])
 (.any [(⟨(some 79), none, .mv (.t 8)⟩, []), (⟨(some 80), none, .mv (.t 8)⟩, [0]), (⟨(some 81), none, .mv (.t 0)⟩, [0, 1]), (⟨(some 82), none, .mv (.t 8)⟩, [0, 1, 2]), (⟨(some 83), none, .nilchk (.t 82)⟩, [0, 1, 2]), (⟨(some 84), none, .fadr 0 (.t 83)⟩, [0, 1, 2]), (⟨(some 85), none, .load none (.t 84)⟩, [0, 1, 2]), (⟨(some 86), none, .fadr 0 (.t 3)⟩, [0, 1, 2, 3, 4, 5, 6]), (⟨(some 87), none, .load none (.t 86)⟩, [0, 1, 2, 3, 4, 5, 6]), (⟨(some 88), none, .len false (.t 87)⟩, [0, 1, 2, 3, 4, 5, 6]), (⟨(some 89), none, .bslice 3 1 4 [(.int .i64 0)] [(0, 1, (.t 85)), (1, 1, (.c (.int .i64 (-1)))), (2, 1, (.t 88)), (3, 1, (.c (.int .i64 0)))]⟩, [0, 1, 2]), (⟨(some 90), none, .call 54 [(.t 81), (.t 89)]⟩, [0, 1]), (⟨(some 91), none, .mv (.t 0)⟩, [0, 1, 2, 3, 4, 5, 6, 7, 8, 9, 10, 11]), (⟨(some 92), none, .mv (.t 8)⟩, [0, 1, 2, 3, 4, 5, 6, 7, 8, 9, 10, 11, 12]), (⟨(some 93), none, .nilchk (.t 92)⟩, [0, 1, 2, 3, 4, 5, 6, 7, 8, 9, 10, 11, 12]), (⟨(some 94), none, .fadr 1 (.t 93)⟩, [0, 1, 2, 3, 4, 5, 6, 7, 8, 9, 10, 11, 12]), (⟨(some 95), none, .load none (.t 94)⟩, [0, 1, 2, 3, 4, 5, 6, 7, 8, 9, 10, 11, 12]), (⟨(some 96), none, .bslice 9 1 3 [(.str [])] [(0, 1, (.t 95)), (1, 1, (.c (.str []))), (2, 1, (.c (.str [32])))]⟩, [0, 1, 2, 3, 4, 5, 6, 7, 8, 9, 10, 11, 12]), (⟨(some 97), none, .call 83 [(.t 91), (.t 96)]⟩, [0, 1]), (⟨(some 98), none, .nilchk (.t 79)⟩, [1]), (⟨(some 99), none, .fadr 0 (.t 98)⟩, [1]), (⟨none, none, .store 1 (.t 99) (.t 90)⟩, [1]), (⟨(some 100), none, .nilchk (.t 80)⟩, []), (⟨(some 101), none, .fadr 1 (.t 100)⟩, []), (⟨none, none, .store 1 (.t 101) (.t 97)⟩, [])])) (.skip)))
 (.seq (.ops [⟨(some 102), none, .mv (.t 5)⟩, ⟨(some 4), none, .mv (.t 102)⟩])
 (.ret)))))))⟩
def a51 : AFn := ⟨59, [.t 4, .t 5], .seq (.ops [⟨(some 2), none, .box 29 (.t 0)⟩, ⟨(some 4), none, .mv (.c (.lit true 0 []))⟩, ⟨(some 5), none, .mv (.c (.int .i64 0))⟩])
 (.seq (.ops [⟨(some 6), none, .mv (.c (.lit true 0 []))⟩])
 (.seq (.ops [⟨(some 7), none, .mv (.c (.int .i64 0))⟩])
 (.seq (.seq (.ops [⟨(some 13), none, .fadr 1 (.t 2)⟩, ⟨(some 14), none, .load none (.t 13)⟩, ⟨(some 15), none, .len false (.t 14)⟩, ⟨(some 16), none, .mv (.c (.int .i64 0))⟩])
 (.block 0 (.loop (.seq (.ops [⟨(some 17), none, .bin 0 .lss (.t 16) (.t 15)⟩])
 (.seq (.cond (.t 17) (.skip) (.exit 0))
 (.seq (.block 1 (.seq (.ops [⟨(some 18), none, .iadr 2 (.t 14) (.t 16)⟩, ⟨(some 19), none, .load (some 2) (.t 18)⟩, ⟨(some 9), none, .alloc 67 [(.str []), (.lit true 0 [])]⟩, ⟨none, none, .store 2 (.t 9) (.t 19)⟩])
 (.seq (.ops [⟨(some 10), none, .mv (.c (.int .i64 0))⟩])
 (.seq (.seq (.ops [⟨(some 20), none, .mv (.t 1)⟩, ⟨(some 21), none, .len false (.t 20)⟩, ⟨(some 22), none, .mv (.c (.int .i64 0))⟩])
 (.block 2 (.loop (.seq (.ops [⟨(some 23), none, .bin 0 .lss (.t 22) (.t 21)⟩])
 (.seq (.cond (.t 23) (.skip) (.exit 2))
 (.seq (.block 3 (.seq (.ops [⟨(some 24), none, .iadr 2 (.t 20) (.t 22)⟩, ⟨(some 25), none, .load (some 2) (.t 24)⟩, ⟨(some 12), none, .alloc 69 [(.int .i64 0), (.str [])]⟩, ⟨none, none, .store 2 (.t 12) (.t 25)⟩])
 (.any [(⟨(some 26), none, .mv (.t 10)⟩, []), (⟨(some 27), none, .fadr 1 (.t 9)⟩, [0]), (⟨(some 28), none, .load none (.t 27)⟩, [0]), (⟨(some 29), none, .fadr 0 (.t 12)⟩, [0, 1, 2]), (⟨(some 30), none, .load none (.t 29)⟩, [0, 1, 2]), (⟨(some 31), none, .iadr 1 (.t 28) (.t 30)⟩, [0]), (⟨(some 32), none, .load none (.t 31)⟩, [0]), (⟨(some 33), none, .fadr 1 (.t 12)⟩, [0, 1, 2, 3, 4, 5, 6]), (⟨(some 34), none, .load none (.t 33)⟩, [0, 1, 2, 3, 4, 5, 6]), (⟨(some 35), none, .bin 1 .neq (.t 32) (.t 34)⟩, [0]), (⟨(some 36), none, .call 133 [(.t 35)]⟩, [0]), (⟨(some 37), none, .bin 0 .add (.t 26) (.t 36)⟩, []), (⟨(some 10), none, .mv (.t 37)⟩, [])])))
 (.ops [⟨(some 38), none, .bin 0 .add (.t 22) (.c (.int .i64 1))⟩, ⟨(some 22), none, .mv (.t 38)⟩])))))))
 (.seq (.seq (.ops [⟨(some 39), none, .mv (.t 6)⟩, ⟨(some 40), none, .len false (.t 39)⟩, ⟨(some 41), none, .bin 0 .eql (.t 40) (.c (.int .i64 0))⟩, ⟨(some 42), none, .mv (.t 41)⟩, ⟨(some 43), (some (42, false)), .mv (.t 10)⟩, ⟨(some 44), (some (42, false)), .mv (.t 7)⟩, ⟨(some 45), (some (42, false)), .bin 0 .lss (.t 43) (.t 44)⟩, ⟨(some 46), none, .pick (.t 42) (.c (.bool true)) (.t 45)⟩])
 (.cond (.t 46) (.ops [⟨(some 47), none, .mv (.t 10)⟩, ⟨(some 6), none, .mv (.c (.lit true 0 []))⟩, ⟨(some 7), none, .mv (.t 47)⟩]) (.skip)))
 (.seq (.ops [⟨(some 48), none, .mv (.t 10)⟩, ⟨(some 49), none, .mv (.t 7)⟩, ⟨(some 50), none, .bin 0 .eql (.t 48) (.t 49)⟩])
 (.cond (.t 50) (.ops [⟨(some 51), none, .mv (.t 6)⟩, ⟨(some 52), none, .fadr 0 (.t 9)⟩, ⟨(some 53), none, .load none (.t 52)⟩, ⟨(some 54), none, .bslice 9 1 1 [(.str [])] [(0, 1, (.t 53))]⟩, ⟨(some 55), none, .app 9 1 16 (.t 51) (.t 54)⟩, ⟨(some 6), none, .mv (.t 55)⟩]) (.skip))))))))
 (.ops [⟨(some 56), none, .bin 0 .add (.t 16) (.c (.int .i64 1))⟩, ⟨(some 16), none, .mv (.t 56)⟩])))))))
 (.seq (.ops [⟨(some 57), none, .mv (.t 6)⟩, ⟨(some 58), none, .mv (.t 7)⟩, ⟨(some 4), none, .mv (.t 57)⟩, ⟨(some 5), none, .mv (.t 58)⟩])
 (.ret)))))⟩
def a53 : AFn := ⟨82, [.t 4, .t 5, .t 6], .seq (.ops [⟨(some 2), none, .box 29 (.t 0)⟩, ⟨(some 3), none, .box 65 (.t 1)⟩, ⟨(some 4), none, .mv (.c (.int .i64 0))⟩, ⟨(some 5), none, .mv (.c (.int .i64 0))⟩, ⟨(some 6), none, .mv (.c (.bool false))⟩])
 (.seq (.ops [⟨(some 16), none, .load (some 2) (.t 2)⟩, ⟨(some 17), none, .call 102 [(.t 16)]⟩, ⟨(some 18), none, .mkfn 140 [(.t 3)]⟩, ⟨(some 19), none, .call 122 [(.t 17), (.t 18)]⟩, ⟨(some 7), none, .mv (.t 19)⟩])
 (.seq (.ops [⟨(some 8), none, .mv (.c (.int .i64 (-1)))⟩, ⟨(some 9), none, .mv (.c (.int .i64 0))⟩, ⟨(some 10), none, .mv (.c (.int .i64 0))⟩])
 (.seq (.seq (.ops [⟨(some 20), none, .fadr 0 (.t 2)⟩, ⟨(some 21), none, .load none (.t 20)⟩, ⟨(some 22), none, .len false (.t 21)⟩, ⟨(some 23), none, .mv (.c (.int .i64 0))⟩])
 (.block 0 (.loop (.seq (.ops [⟨(some 24), none, .bin 0 .lss (.t 23) (.t 22)⟩])
 (.seq (.cond (.t 24) (.skip) (.exit 0))
 (.seq (.block 1 (.seq (.ops [⟨(some 25), none, .mv (.t 23)⟩, ⟨(some 11), none, .alloc 3 [(.int .i64 0)]⟩, ⟨none, none, .store 1 (.t 11) (.t 25)⟩])
 (.seq (.seq (.ops [⟨(some 26), none, .load none (.t 3)⟩, ⟨(some 27), none, .mkfn 141 [(.t 11)]⟩, ⟨(some 28), none, .call 125 [(.t 26), (.t 27)]⟩])
 (.cond (.t 28) (.exit 1) (.skip)))
 (.seq (.ops [⟨(some 29), none, .mmk .s (.int .i64 0)⟩, ⟨(some 12), none, .mv (.t 29)⟩])
 (.seq (.ops [⟨(some 13), none, .mv (.c (.int .i64 0))⟩])
 (.seq (.seq (.ops [⟨(some 30), none, .mv (.t 7)⟩, ⟨(some 31), none, .len false (.t 30)⟩, ⟨(some 32), none, .mv (.c (.int .i64 0))⟩])
 (.block 2 (.loop (.seq (.ops [⟨(some 33), none, .bin 0 .lss (.t 32) (.t 31)⟩])
 (.seq (.cond (.t 33) (.skip) (.exit 2))
 (.seq (.block 3 (.seq (.ops [⟨(some 34), none, .iadr 2 (.t 30) (.t 32)⟩, ⟨(some 35), none, .load (some 2) (.t 34)⟩, ⟨(some 15), none, .alloc 67 [(.str []), (.lit true 0 [])]⟩, ⟨none, none, .store 2 (.t 15) (.t 35)⟩])
 (.seq (.ops [⟨(some 36), none, .mv (.t 12)⟩, ⟨(some 37), none, .fadr 1 (.t 15)⟩, ⟨(some 38), none, .load none (.t 37)⟩, ⟨(some 39), none, .load none (.t 11)⟩, ⟨(some 40), none, .iadr 1 (.t 38) (.t 39)⟩, ⟨(some 41), none, .load none (.t 40)⟩, ⟨(some 42), none, .mlk false .s (.int .i64 0) (.t 36) (.t 41)⟩, ⟨(some 43), none, .bin 0 .add (.t 42) (.c (.int .i64 1))⟩, ⟨none, none, .mup .s (.t 36) (.t 41) (.t 43)⟩])
 (.ops [⟨(some 44), none, .mv (.t 13)⟩, ⟨(some 45), none, .mv (.t 12)⟩, ⟨(some 46), none, .fadr 1 (.t 15)⟩, ⟨(some 47), none, .load none (.t 46)⟩, ⟨(some 48), none, .load none (.t 11)⟩, ⟨(some 49), none, .iadr 1 (.t 47) (.t 48)⟩, ⟨(some 50), none, .load none (.t 49)⟩, ⟨(some 51), none, .mlk false .s (.int .i64 0) (.t 45) (.t 50)⟩, ⟨(some 52), none, .mm true (.t 44) [(.t 51)]⟩, ⟨(some 13), none, .mv (.t 52)⟩]))))
 (.ops [⟨(some 53), none, .bin 0 .add (.t 32) (.c (.int .i64 1))⟩, ⟨(some 32), none, .mv (.t 53)⟩])))))))
 (.seq (.ops [⟨(some 54), none, .mv (.t 8)⟩, ⟨(some 55), none, .bin 0 .lss (.t 54) (.c (.int .i64 0))⟩, ⟨(some 56), none, .mv (.t 55)⟩, ⟨(some 57), (some (56, false)), .mv (.t 13)⟩, ⟨(some 58), (some (56, false)), .mv (.t 9)⟩, ⟨(some 59), (some (56, false)), .call 143 [(.t 57), (.t 58)]⟩, ⟨(some 60), (some (56, false)), .mv (.t 10)⟩, ⟨(some 61), (some (56, false)), .mv (.t 12)⟩, ⟨(some 62), (some (56, false)), .mlen (.t 61)⟩, ⟨(some 63), (some (56, false)), .call 143 [(.t 60), (.t 62)]⟩, ⟨(some 64), (some (56, false)), .bslice 3 1 2 [(.int .i64 0)] [(0, 1, (.t 59)), (1, 1, (.t 63))]⟩, ⟨(some 65), (some (56, false)), .call 142 [(.t 64)]⟩, ⟨(some 66), (some (56, false)), .bin 0 .lss (.t 65) (.c (.int .i64 0))⟩, ⟨(some 67), none, .pick (.t 56) (.c (.bool true)) (.t 66)⟩])
 (.cond (.t 67) (.ops [⟨(some 68), none, .load none (.t 11)⟩, ⟨(some 69), none, .mv (.t 13)⟩, ⟨(some 70), none, .mv (.t 12)⟩, ⟨(some 71), none, .mlen (.t 70)⟩, ⟨(some 8), none, .mv (.t 68)⟩, ⟨(some 9), none, .mv (.t 69)⟩, ⟨(some 10), none, .mv (.t 71)⟩]) (.skip)))))))))
 (.ops [⟨(some 72), none, .bin 0 .add (.t 23) (.c (.int .i64 1))⟩, ⟨(some 23), none, .mv (.t 72)⟩])))))))
 (.seq (.seq (.ops [⟨(some 73), none, .mv (.t 8)⟩, ⟨(some 74), none, .bin 0 .lss (.t 73) (.c (.int .i64 0))⟩, ⟨(some 75), none, .mv (.t 74)⟩, ⟨(some 76), (some (75, false)), .mv (.t 7)⟩, ⟨(some 77), (some (75, false)), .len false (.t 76)⟩, ⟨(some 78), (some (75, false)), .bin 0 .lss (.t 77) (.c (.int .i64 2))⟩, ⟨(some 79), none, .pick (.t 75) (.c (.bool true)) (.t 78)⟩])
 (.cond (.t 79) (.seq (.ops [⟨(some 4), none, .mv (.c (.int .i64 0))⟩, ⟨(some 5), none, .mv (.c (.int .i64 0))⟩, ⟨(some 6), none, .mv (.c (.bool false))⟩])
 (.ret)) (.skip)))
 (.seq (.ops [⟨(some 80), none, .mv (.t 8)⟩, ⟨(some 81), none, .mv (.t 9)⟩, ⟨(some 4), none, .mv (.t 80)⟩, ⟨(some 5), none, .mv (.t 81)⟩, ⟨(some 6), none, .mv (.c (.bool true))⟩])
 (.ret))))))⟩
def a61 : AFn := ⟨9, [.t 4], .seq (.ops [⟨(some 4), none, .mv (.c (.bool false))⟩])
 (.seq (.ops [⟨(some 5), none, .mv (.t 0)⟩, ⟨(some 6), none, .mv (.t 1)⟩, ⟨(some 7), none, .call 151 [(.t 5), (.t 6)]⟩, ⟨(some 8), none, .bin 0 .geq (.t 7) (.c (.int .i64 0))⟩, ⟨(some 4), none, .mv (.t 8)⟩])
 (.ret))⟩
theorem c61 : compF Go.Proofs.Tryz.prog 61 = some a61 := by kernel_rfl
def a63 : AFn := ⟨68, [.t 2], .seq (.ops [⟨(some 1), none, .box 29 (.t 0)⟩, ⟨(some 2), none, .mv (.c (.int .i64 0))⟩])
 (.seq (.block 0 (.seq (.ops [⟨(some 7), none, .fadr 0 (.t 1)⟩, ⟨(some 8), none, .load none (.t 7)⟩, ⟨(some 9), none, .len false (.t 8)⟩, ⟨(some 10), none, .bin 0 .eql (.t 9) (.c (.int .i64 0))⟩, ⟨(some 6), none, .mv (.t 10)⟩])
 (.cond (.t 6) (.seq (.ops [⟨(some 2), none, .mv (.c (.int .i64 8))⟩])
 (.ret)) (.seq (.ops [⟨(some 12), none, .fadr 0 (.t 1)⟩, ⟨(some 13), none, .load none (.t 12)⟩, ⟨(some 14), none, .len false (.t 13)⟩, ⟨(some 15), none, .bin 0 .gtr (.t 14) (.c (.int .i64 100))⟩, ⟨(some 16), none, .mv (.t 15)⟩, ⟨(some 17), (some (16, false)), .fadr 1 (.t 1)⟩, ⟨(some 18), (some (16, false)), .load none (.t 17)⟩, ⟨(some 19), (some (16, false)), .len false (.t 18)⟩, ⟨(some 20), (some (16, false)), .bin 0 .gtr (.t 19) (.c (.int .i64 300))⟩, ⟨(some 21), none, .pick (.t 16) (.c (.bool true)) (.t 20)⟩, ⟨(some 11), none, .mv (.t 21)⟩])
 (.cond (.t 11) (.seq (.ops [⟨(some 2), none, .mv (.c (.int .i64 2))⟩])
 (.ret)) (.skip))))))
 (.seq (.ops [⟨(some 3), none, .mv (.c (.fn 152 []))⟩])
 (.seq (.seq (.ops [⟨(some 22), none, .fadr 0 (.t 1)⟩, ⟨(some 23), none, .load none (.t 22)⟩, ⟨(some 24), none, .mv (.t 3)⟩, ⟨(some 25), none, .call 61 [(.t 23), (.t 24)]⟩])
 (.cond (.t 25) (.seq (.ops [⟨(some 2), none, .mv (.c (.int .i64 9))⟩])
 (.ret)) (.skip)))
 (.seq (.seq (.ops [⟨(some 26), none, .fadr 1 (.t 1)⟩, ⟨(some 27), none, .load none (.t 26)⟩, ⟨(some 28), none, .len false (.t 27)⟩, ⟨(some 29), none, .mv (.c (.int .i64 0))⟩])
 (.block 1 (.loop (.seq (.ops [⟨(some 30), none, .bin 0 .lss (.t 29) (.t 28)⟩])
 (.seq (.cond (.t 30) (.skip) (.exit 1))
 (.seq (.block 2 (.seq (.ops [⟨(some 31), none, .mv (.t 29)⟩, ⟨(some 32), none, .iadr 2 (.t 27) (.t 29)⟩, ⟨(some 33), none, .load (some 2) (.t 32)⟩, ⟨(some 5), none, .alloc 67 [(.str []), (.lit true 0 [])]⟩, ⟨(some 4), none, .mv (.t 31)⟩, ⟨none, none, .store 2 (.t 5) (.t 33)⟩])
 (.block 3 (.seq (.ops [⟨(some 35), none, .fadr 0 (.t 5)⟩, ⟨(some 36), none, .load none (.t 35)⟩, ⟨(some 37), none, .call 154 [(.t 36)]⟩, ⟨(some 38), none, .un .not (.t 37)⟩, ⟨(some 34), none, .mv (.t 38)⟩])
 (.cond (.t 34) (.seq (.ops [⟨(some 2), none, .mv (.c (.int .i64 5))⟩])
 (.ret)) (.seq (.ops [⟨(some 40), none, .fadr 1 (.t 5)⟩, ⟨(some 41), none, .load none (.t 40)⟩, ⟨(some 42), none, .len false (.t 41)⟩, ⟨(some 43), none, .fadr 0 (.t 1)⟩, ⟨(some 44), none, .load none (.t 43)⟩, ⟨(some 45), none, .len false (.t 44)⟩, ⟨(some 46), none, .bin 0 .neq (.t 42) (.t 45)⟩, ⟨(some 39), none, .mv (.t 46)⟩])
 (.cond (.t 39) (.seq (.ops [⟨(some 2), none, .mv (.c (.int .i64 3))⟩])
 (.ret)) (.seq (.ops [⟨(some 48), none, .fadr 1 (.t 5)⟩, ⟨(some 49), none, .load none (.t 48)⟩, ⟨(some 50), none, .mv (.t 3)⟩, ⟨(some 51), none, .call 61 [(.t 49), (.t 50)]⟩, ⟨(some 47), none, .mv (.t 51)⟩])
 (.cond (.t 47) (.seq (.ops [⟨(some 2), none, .mv (.c (.int .i64 9))⟩])
 (.ret)) (.seq (.any [(⟨(some 53), none, .mv (.t 4)⟩, []), (⟨(some 54), none, .bin 0 .gtr (.t 53) (.c (.int .i64 0))⟩, []), (⟨(some 55), none, .mv (.t 54)⟩, []), (⟨(some 56), (some (55, true)), .fadr 0 (.t 5)⟩, []), (⟨(some 57), (some (55, true)), .load none (.t 56)⟩, []), (⟨(some 58), (some (55, true)), .fadr 1 (.t 1)⟩, [3, 4]), (⟨(some 59), (some (55, true)), .load none (.t 58)⟩, [3, 4]), (⟨(some 60), (some (55, true)), .mv (.t 4)⟩, [3, 4, 5, 6]), (⟨(some 61), (some (55, true)), .bin 0 .sub (.t 60) (.c (.int .i64 1))⟩, [3, 4, 5, 6]), (⟨(some 62), (some (55, true)), .iadr 2 (.t 59) (.t 61)⟩, [3, 4]), (⟨(some 63), (some (55, true)), .fadr 0 (.t 62)⟩, [3, 4]), (⟨(some 64), (some (55, true)), .load none (.t 63)⟩, [3, 4]), (⟨(some 65), (some (55, true)), .bin 1 .leq (.t 57) (.t 64)⟩, []), (⟨(some 66), none, .pick (.t 55) (.t 65) (.c (.bool false))⟩, []), (⟨(some 52), none, .mv (.t 66)⟩, [])])
 (.cond (.t 52) (.seq (.ops [⟨(some 2), none, .mv (.c (.int .i64 7))⟩])
 (.ret)) (.skip))))))))))))
 (.ops [⟨(some 67), none, .bin 0 .add (.t 29) (.c (.int .i64 1))⟩, ⟨(some 29), none, .mv (.t 67)⟩])))))))
 (.seq (.ops [⟨(some 2), none, .mv (.c (.int .i64 0))⟩])
 (.ret))))))⟩
theorem c63 : compF Go.Proofs.Tryz.prog 63 = some a63 := by kernel_rfl
def a64 : AFn := ⟨51, [.t 4], .seq (.ops [⟨(some 2), none, .box 29 (.t 0)⟩, ⟨(some 4), none, .mv (.c (.int .i64 0))⟩])
 (.seq (.seq (.ops [⟨(some 8), none, .load (some 2) (.t 2)⟩, ⟨(some 9), none, .call 63 [(.t 8)]⟩, ⟨(some 5), none, .mv (.t 9)⟩])
 (.seq (.ops [⟨(some 10), none, .mv (.t 5)⟩, ⟨(some 11), none, .bin 0 .neq (.t 10) (.c (.int .i64 0))⟩])
 (.cond (.t 11) (.seq (.ops [⟨(some 12), none, .mv (.t 5)⟩, ⟨(some 4), none, .mv (.t 12)⟩])
 (.ret)) (.skip))))
 (.seq (.seq (.ops [⟨(some 13), none, .mv (.t 1)⟩, ⟨(some 14), none, .len false (.t 13)⟩, ⟨(some 15), none, .bin 0 .gtr (.t 14) (.c (.int .i64 100))⟩])
 (.cond (.t 15) (.seq (.ops [⟨(some 4), none, .mv (.c (.int .i64 2))⟩])
 (.ret)) (.skip)))
 (.seq (.seq (.ops [⟨(some 16), none, .mv (.t 1)⟩, ⟨(some 17), none, .len false (.t 16)⟩, ⟨(some 18), none, .mv (.c (.int .i64 0))⟩])
 (.block 0 (.loop (.seq (.ops [⟨(some 19), none, .bin 0 .lss (.t 18) (.t 17)⟩])
 (.seq (.cond (.t 19) (.skip) (.exit 0))
 (.seq (.block 1 (.seq (.ops [⟨(some 20), none, .mv (.t 18)⟩, ⟨(some 21), none, .iadr 2 (.t 16) (.t 18)⟩, ⟨(some 22), none, .load (some 2) (.t 21)⟩, ⟨(some 7), none, .alloc 69 [(.int .i64 0), (.str [])]⟩, ⟨(some 6), none, .mv (.t 20)⟩, ⟨none, none, .store 2 (.t 7) (.t 22)⟩])
 (.block 2 (.seq (.ops [⟨(some 24), none, .fadr 0 (.t 7)⟩, ⟨(some 25), none, .load none (.t 24)⟩, ⟨(some 26), none, .fadr 0 (.t 2)⟩, ⟨(some 27), none, .load none (.t 26)⟩, ⟨(some 28), none, .len false (.t 27)⟩, ⟨(some 29), none, .bin 0 .sub (.t 28) (.c (.int .i64 1))⟩, ⟨(some 30), none, .call 155 [(.t 25), (.c (.int .i64 0)), (.t 29)]⟩, ⟨(some 23), none, .mv (.t 30)⟩])
 (.cond (.t 23) (.seq (.ops [⟨(some 4), none, .mv (.c (.int .i64 1))⟩])
 (.ret)) (.seq (.ops [⟨(some 32), none, .fadr 1 (.t 7)⟩, ⟨(some 33), none, .load none (.t 32)⟩, ⟨(some 34), none, .call 153 [(.t 33)]⟩, ⟨(some 35), none, .un .not (.t 34)⟩, ⟨(some 31), none, .mv (.t 35)⟩])
 (.cond (.t 31) (.seq (.ops [⟨(some 4), none, .mv (.c (.int .i64 9))⟩])
 (.ret)) (.seq (.any [(⟨(some 37), none, .mv (.t 6)⟩, []), (⟨(some 38), none, .bin 0 .gtr (.t 37) (.c (.int .i64 0))⟩, []), (⟨(some 39), none, .mv (.t 38)⟩, []), (⟨(some 40), (some (39, true)), .fadr 0 (.t 7)⟩, []), (⟨(some 41), (some (39, true)), .load none (.t 40)⟩, []), (⟨(some 42), (some (39, true)), .mv (.t 1)⟩, [3, 4]), (⟨(some 43), (some (39, true)), .mv (.t 6)⟩, [3, 4, 5]), (⟨(some 44), (some (39, true)), .bin 0 .sub (.t 43) (.c (.int .i64 1))⟩, [3, 4, 5]), (⟨(some 45), (some (39, true)), .iadr 2 (.t 42) (.t 44)⟩, [3, 4]), (⟨(some 46), (some (39, true)), .fadr 0 (.t 45)⟩, [3, 4]), (⟨(some 47), (some (39, true)), .load none (.t 46)⟩, [3, 4]), (⟨(some 48), (some (39, true)), .bin 0 .leq (.t 41) (.t 47)⟩, []), (⟨(some 49), none, .pick (.t 39) (.t 48) (.c (.bool false))⟩, []), (⟨(some 36), none, .mv (.t 49)⟩, [])])
 (.cond (.t 36) (.seq (.ops [⟨(some 4), none, .mv (.c (.int .i64 7))⟩])
 (.ret)) (.skip))))))))))
 (.ops [⟨(some 50), none, .bin 0 .add (.t 18) (.c (.int .i64 1))⟩, ⟨(some 18), none, .mv (.t 50)⟩])))))))
 (.seq (.ops [⟨(some 4), none, .mv (.c (.int .i64 0))⟩])
 (.ret)))))⟩
theorem c64 : compF Go.Proofs.Tryz.prog 64 = some a64 := by kernel_rfl
def a70 : AFn := ⟨17, [.t 2], .seq (.ops [⟨(some 2), none, .mv (.c (.str []))⟩])
 (.seq (.ops [⟨(some 4), none, .mv (.t 0)⟩, ⟨(some 5), none, .call 42 [(.t 4), (.c (.int .i64 4)), (.c (.int .i64 3))]⟩, ⟨(some 6), none, .call 69 [(.t 5)]⟩, ⟨(some 3), none, .mv (.t 6)⟩])
 (.seq (.seq (.ops [⟨(some 7), none, .mv (.t 0)⟩, ⟨(some 8), none, .bslice 3 1 4 [(.int .i64 0)] [(0, 1, (.c (.int .i64 0))), (1, 1, (.c (.int .i64 0))), (2, 1, (.c (.int .i64 1))), (3, 1, (.c (.int .i64 2)))]⟩, ⟨(some 9), none, .call 54 [(.t 7), (.t 8)]⟩, ⟨(some 10), none, .mv (.c (.int .i64 0))⟩])
 (.block 0 (.loop (.seq (.ops [⟨(some 11), none, .bin 0 .lss (.t 10) (.t 9)⟩])
 (.seq (.cond (.t 11) (.skip) (.exit 0))
 (.seq (.block 1 (.ops [⟨(some 12), none, .mv (.t 0)⟩, ⟨(some 13), none, .mv (.t 3)⟩, ⟨(some 14), none, .call 163 [(.t 12), (.t 13), (.c (.str [32, 10, 48, 49, 103, 102]))]⟩, ⟨(some 3), none, .mv (.t 14)⟩]))
 (.ops [⟨(some 15), none, .bin 0 .add (.t 10) (.c (.int .i64 1))⟩, ⟨(some 10), none, .mv (.t 15)⟩])))))))
 (.seq (.ops [⟨(some 16), none, .mv (.t 3)⟩, ⟨(some 2), none, .mv (.t 16)⟩])
 (.ret))))⟩
def a72 : AFn := ⟨36, [.c 2 (some 2), .t 3, .t 4], .seq (.ops [⟨(some 2), none, .alloc 29 [(.lit true 0 []), (.lit true 0 [])]⟩, ⟨(some 3), none, .mv (.c (.int .i64 0))⟩, ⟨(some 4), none, .mv (.c (.int .i64 0))⟩])
 (.seq (.ops [⟨(some 11), none, .build [(.lit true 0 []), (.lit true 0 [])] []⟩, ⟨(some 5), none, .alloc 29 [(.lit true 0 []), (.lit true 0 [])]⟩, ⟨none, none, .store 2 (.t 5) (.t 11)⟩])
 (.seq (.seq (.ops [⟨(some 12), none, .mv (.t 0)⟩, ⟨(some 13), none, .len true (.t 12)⟩, ⟨(some 14), none, .bin 0 .gtr (.t 13) (.c (.int .i64 200000))⟩])
 (.cond (.t 14) (.seq (.ops [⟨(some 15), none, .load (some 2) (.t 5)⟩, ⟨none, none, .store 2 (.t 2) (.t 15)⟩, ⟨(some 3), none, .mv (.c (.int .i64 0))⟩, ⟨(some 4), none, .mv (.c (.int .i64 2))⟩])
 (.ret)) (.skip)))
 (.seq (.seq (.ops [⟨(some 16), none, .mv (.t 0)⟩, ⟨(some 17), none, .bin 1 .eql (.t 16) (.c (.str []))⟩])
 (.cond (.t 17) (.seq (.ops [⟨(some 18), none, .load (some 2) (.t 5)⟩, ⟨none, none, .store 2 (.t 2) (.t 18)⟩, ⟨(some 3), none, .mv (.c (.int .i64 0))⟩, ⟨(some 4), none, .mv (.c (.int .i64 9))⟩])
 (.ret)) (.skip)))
 (.seq (.ops [⟨(some 6), none, .alloc 29 [(.lit true 0 []), (.lit true 0 [])]⟩])
 (.seq (.ops [⟨(some 7), none, .alloc 4 [(.bool false)]⟩, ⟨none, none, .store 1 (.t 7) (.c (.bool true))⟩])
 (.seq (.ops [⟨(some 20), none, .mv (.t 0)⟩, ⟨(some 21), none, .mkfn 168 [(.t 7), (.t 6)]⟩, ⟨(some 22), none, .call 167 [(.t 20), (.t 21)]⟩, ⟨(some 19), none, .mv (.t 22)⟩, ⟨(some 23), none, .ext (.t 19) 0⟩, ⟨(some 24), none, .ext (.t 19) 1⟩, ⟨(some 8), none, .mv (.t 23)⟩, ⟨(some 9), none, .mv (.t 24)⟩])
 (.seq (.seq (.ops [⟨(some 25), none, .mv (.t 9)⟩, ⟨(some 26), none, .un .not (.t 25)⟩])
 (.cond (.t 26) (.seq (.ops [⟨(some 27), none, .load (some 2) (.t 5)⟩, ⟨(some 28), none, .mv (.t 8)⟩, ⟨none, none, .store 2 (.t 2) (.t 27)⟩, ⟨(some 3), none, .mv (.t 28)⟩, ⟨(some 4), none, .mv (.c (.int .i64 9))⟩])
 (.ret)) (.skip)))
 (.seq (.seq (.ops [⟨(some 29), none, .load (some 2) (.t 6)⟩, ⟨(some 30), none, .call 17 [(.t 29)]⟩, ⟨(some 10), none, .mv (.t 30)⟩])
 (.seq (.ops [⟨(some 31), none, .mv (.t 10)⟩, ⟨(some 32), none, .bin 0 .neq (.t 31) (.c (.int .i64 0))⟩])
 (.cond (.t 32) (.seq (.ops [⟨(some 33), none, .load (some 2) (.t 5)⟩, ⟨(some 34), none, .mv (.t 10)⟩, ⟨none, none, .store 2 (.t 2) (.t 33)⟩, ⟨(some 3), none, .mv (.c (.int .i64 0))⟩, ⟨(some 4), none, .mv (.t 34)⟩])
 (.ret)) (.skip))))
 (.seq (.ops [⟨(some 35), none, .load (some 2) (.t 6)⟩, ⟨none, none, .store 2 (.t 2) (.t 35)⟩, ⟨(some 3), none, .mv (.c (.int .i64 0))⟩, ⟨(some 4), none, .mv (.c (.int .i64 0))⟩])
 (.ret))))))))))⟩
def a75 : AFn := ⟨12, [], .seq (.ops [⟨(some 3), none, .mv (.t 0)⟩, ⟨(some 4), none, .len false (.t 3)⟩, ⟨(some 5), none, .mv (.c (.int .i64 0))⟩])
 (.block 0 (.loop (.seq (.ops [⟨(some 6), none, .bin 0 .lss (.t 5) (.t 4)⟩])
 (.seq (.cond (.t 6) (.skip) (.exit 0))
 (.seq (.block 1 (.seq (.ops [⟨(some 7), none, .mv (.t 5)⟩, ⟨(some 2), none, .mv (.t 7)⟩])
 (.ops [⟨(some 8), none, .mv (.t 0)⟩, ⟨(some 9), none, .mv (.t 2)⟩, ⟨(some 10), none, .iadr 1 (.t 8) (.t 9)⟩, ⟨none, none, .store 1 (.t 10) (.c (.str [115, 112, 111, 105, 108, 116]))⟩])))
 (.ops [⟨(some 11), none, .bin 0 .add (.t 5) (.c (.int .i64 1))⟩, ⟨(some 5), none, .mv (.t 11)⟩]))))))⟩
def a76 : AFn := ⟨36, [.t 2], .seq (.ops [⟨(some 2), none, .mv (.c (.lit true 0 []))⟩])
 (.seq (.ops [⟨(some 3), none, .mv (.c (.int .i64 0))⟩])
 (.seq (.seq (.ops [⟨(some 9), none, .mv (.t 0)⟩, ⟨(some 10), none, .len false (.t 9)⟩, ⟨(some 11), none, .mv (.c (.int .i64 0))⟩])
 (.block 0 (.loop (.seq (.ops [⟨(some 12), none, .bin 0 .lss (.t 11) (.t 10)⟩])
 (.seq (.cond (.t 12) (.skip) (.exit 0))
 (.seq (.block 1 (.seq (.ops [⟨(some 13), none, .iadr 1 (.t 9) (.t 11)⟩, ⟨(some 14), none, .load none (.t 13)⟩, ⟨(some 5), none, .mv (.t 14)⟩])
 (.seq (.ops [⟨(some 15), none, .mv (.t 3)⟩, ⟨(some 16), none, .mv (.t 5)⟩, ⟨(some 17), none, .len false (.t 16)⟩, ⟨(some 18), none, .bin 0 .add (.t 15) (.t 17)⟩, ⟨(some 3), none, .mv (.t 18)⟩])
 (.seq (.ops [⟨(some 19), none, .mv (.t 3)⟩, ⟨(some 20), none, .bin 0 .lss (.t 19) (.c (.int .i64 0))⟩])
 (.cond (.t 20) (.ops [⟨(some 21), none, .bad⟩, ⟨none, none, .bad⟩]) (.skip))))))
 (.ops [⟨(some 22), none, .bin 0 .add (.t 11) (.c (.int .i64 1))⟩, ⟨(some 11), none, .mv (.t 22)⟩])))))))
 (.seq (.ops [⟨(some 23), none, .mv (.t 3)⟩, ⟨(some 24), none, .call 171 [(.c (.lit true 0 [])), (.t 23)]⟩, ⟨(some 6), none, .mv (.t 24)⟩])
 (.seq (.seq (.ops [⟨(some 25), none, .mv (.t 0)⟩, ⟨(some 26), none, .len false (.t 25)⟩, ⟨(some 27), none, .mv (.c (.int .i64 0))⟩])
 (.block 2 (.loop (.seq (.ops [⟨(some 28), none, .bin 0 .lss (.t 27) (.t 26)⟩])
 (.seq (.cond (.t 28) (.skip) (.exit 2))
 (.seq (.block 3 (.seq (.ops [⟨(some 29), none, .iadr 1 (.t 25) (.t 27)⟩, ⟨(some 30), none, .load none (.t 29)⟩, ⟨(some 8), none, .mv (.t 30)⟩])
 (.ops [⟨(some 31), none, .mv (.t 6)⟩, ⟨(some 32), none, .mv (.t 8)⟩, ⟨(some 33), none, .app 9 1 16 (.t 31) (.t 32)⟩, ⟨(some 6), none, .mv (.t 33)⟩])))
 (.ops [⟨(some 34), none, .bin 0 .add (.t 27) (.c (.int .i64 1))⟩, ⟨(some 27), none, .mv (.t 34)⟩])))))))
 (.seq (.ops [⟨(some 35), none, .mv (.t 6)⟩, ⟨(some 2), none, .mv (.t 35)⟩])
 (.ret))))))⟩
def a82 : AFn := ⟨5, [.t 1], .seq (.ops [⟨(some 1), none, .mv (.c (.str []))⟩])
 (.seq (.ops [⟨(some 2), none, .load none (.t 0)⟩, ⟨(some 3), none, .bslice 9 1 5 [(.str [])] [(0, 1, (.c (.str [48]))), (1, 1, (.c (.str [48]))), (2, 1, (.c (.str [49]))), (3, 1, (.c (.str [49]))), (4, 1, (.c (.str [120, 126])))]⟩, ⟨(some 4), none, .call 83 [(.t 2), (.t 3)]⟩, ⟨(some 1), none, .mv (.t 4)⟩])
 (.ret))⟩
theorem c82 : compF Go.Proofs.Tryz.prog 82 = some a82 := by kernel_rfl
def a83 : AFn := ⟨12, [.t 4], .seq (.ops [⟨(some 4), none, .mv (.c (.str []))⟩])
 (.seq (.ops [⟨(some 5), none, .mv (.t 1)⟩, ⟨(some 6), none, .mv (.t 0)⟩, ⟨(some 7), none, .mv (.t 1)⟩, ⟨(some 8), none, .len false (.t 7)⟩, ⟨(some 9), none, .call 35 [(.t 6), (.t 8)]⟩, ⟨(some 10), none, .iadr 1 (.t 5) (.t 9)⟩, ⟨(some 11), none, .load none (.t 10)⟩, ⟨(some 4), none, .mv (.t 11)⟩])
 (.ret))⟩
theorem c83 : compF Go.Proofs.Tryz.prog 83 = some a83 := by kernel_rfl
def a85 : AFn := ⟨80, [], .seq (.seq (.ops [⟨(some 5), none, .mv (.t 1)⟩, ⟨(some 6), none, .nilchk (.t 5)⟩, ⟨(some 7), none, .fadr 1 (.t 6)⟩, ⟨(some 8), none, .load none (.t 7)⟩, ⟨(some 9), none, .len false (.t 8)⟩, ⟨(some 10), none, .bin 0 .eql (.t 9) (.c (.int .i64 0))⟩, ⟨(some 11), none, .mv (.t 10)⟩, ⟨(some 12), (some (11, false)), .mv (.t 0)⟩, ⟨(some 13), (some (11, false)), .call 44 [(.t 12), (.c (.int .i64 4))]⟩, ⟨(some 14), none, .pick (.t 11) (.c (.bool true)) (.t 13)⟩])
 (.cond (.t 14) (.seq (.any [(⟨(some 15), none, .mv (.t 1)⟩, []), (⟨(some 16), none, .nilchk (.t 15)⟩, []), (⟨(some 17), none, .fadr 0 (.t 16)⟩, []), (⟨(some 18), none, .load none (.t 17)⟩, []), (⟨(some 19), none, .mv (.t 0)⟩, [0, 1, 2, 3]), (⟨(some 20), none, .mv (.t 1)⟩, [0, 1, 2, 3, 4]), (⟨(some 21), none, .nilchk (.t 20)⟩, [0, 1, 2, 3, 4]), (⟨(some 22), none, .fadr 0 (.t 21)⟩, [0, 1, 2, 3, 4]), (⟨(some 23), none, .load none (.t 22)⟩, [0, 1, 2, 3, 4]), (⟨(some 24), none, .len false (.t 23)⟩, [0, 1, 2, 3, 4]), (⟨(some 25), none, .call 35 [(.t 19), (.t 24)]⟩, [0, 1, 2, 3]), (⟨(some 26), none, .mv (.t 0)⟩, [0, 1, 2, 3, 4, 5, 6, 7, 8, 9, 10]), (⟨(some 27), none, .call 177 [(.c (.str [48])), (.c (.int .i64 101))]⟩, [0, 1, 2, 3, 11]), (⟨(some 28), none, .bslice 9 1 4 [(.str [])] [(0, 1, (.c (.str []))), (1, 1, (.c (.str [32]))), (2, 1, (.c (.str [195, 169]))), (3, 1, (.t 27))]⟩, [0, 1, 2, 3, 11]), (⟨(some 29), none, .call 83 [(.t 26), (.t 28)]⟩, [0, 1, 2, 3]), (⟨(some 30), none, .iadr 1 (.t 18) (.t 25)⟩, []), (⟨none, none, .store 1 (.t 30) (.t 29)⟩, [])])
 (.ret)) (.skip)))
 (.seq (.any [(⟨(some 31), none, .mv (.t 1)⟩, []), (⟨(some 32), none, .nilchk (.t 31)⟩, []), (⟨(some 33), none, .fadr 1 (.t 32)⟩, []), (⟨(some 34), none, .load none (.t 33)⟩, []), (⟨(some 35), none, .mv (.t 0)⟩, [0, 1, 2, 3]), (⟨(some 36), none, .mv (.t 1)⟩, [0, 1, 2, 3, 4]), (⟨(some 37), none, .nilchk (.t 36)⟩, [0, 1, 2, 3, 4]), (⟨(some 38), none, .fadr 1 (.t 37)⟩, [0, 1, 2, 3, 4]), (⟨(some 39), none, .load none (.t 38)⟩, [0, 1, 2, 3, 4]), (⟨(some 40), none, .len false (.t 39)⟩, [0, 1, 2, 3, 4]), (⟨(some 41), none, .call 35 [(.t 35), (.t 40)]⟩, [0, 1, 2, 3]), (⟨(some 42), none, .iadr 2 (.t 34) (.t 41)⟩, []), (⟨(some 4), none, .mv (.t 42)⟩, [])])
 (.seq (.ops [⟨(some 43), none, .mv (.t 0)⟩, ⟨(some 44), none, .call 35 [(.t 43), (.c (.int .i64 3))]⟩])
 (.block 0 (.seq (.ops [⟨(some 61), none, .bin 0 .eql (.t 44) (.c (.int .i64 0))⟩, ⟨(some 60), none, .mv (.t 61)⟩])
 (.cond (.t 60) (.ops [⟨(some 62), none, .mv (.t 4)⟩, ⟨(some 63), none, .mv (.t 0)⟩, ⟨(some 64), none, .bslice 9 1 3 [(.str [])] [(0, 1, (.c (.str []))), (1, 1, (.c (.str [102, 48]))), (2, 1, (.c (.str [70])))]⟩, ⟨(some 65), none, .call 83 [(.t 63), (.t 64)]⟩, ⟨(some 66), none, .nilchk (.t 62)⟩, ⟨(some 67), none, .fadr 0 (.t 66)⟩, ⟨none, none, .store 1 (.t 67) (.t 65)⟩]) (.seq (.ops [⟨(some 69), none, .bin 0 .eql (.t 44) (.c (.int .i64 1))⟩, ⟨(some 68), none, .mv (.t 69)⟩])
 (.cond (.t 68) (.ops [⟨(some 70), none, .mv (.t 4)⟩, ⟨(some 71), none, .mv (.t 4)⟩, ⟨(some 72), none, .nilchk (.t 71)⟩, ⟨(some 73), none, .fadr 1 (.t 72)⟩, ⟨(some 74), none, .load none (.t 73)⟩, ⟨(some 75), none, .call 100 [(.t 74)]⟩, ⟨(some 76), none, .bslice 9 1 1 [(.str [])] [(0, 1, (.c (.str [48])))]⟩, ⟨(some 77), none, .app 9 1 16 (.t 75) (.t 76)⟩, ⟨(some 78), none, .nilchk (.t 70)⟩, ⟨(some 79), none, .fadr 1 (.t 78)⟩, ⟨none, none, .store 1 (.t 79) (.t 77)⟩]) (.any [(⟨(some 45), none, .mv (.t 4)⟩, []), (⟨(some 46), none, .nilchk (.t 45)⟩, []), (⟨(some 47), none, .fadr 1 (.t 46)⟩, []), (⟨(some 48), none, .load none (.t 47)⟩, []), (⟨(some 49), none, .mv (.t 0)⟩, [0, 1, 2, 3]), (⟨(some 50), none, .mv (.t 4)⟩, [0, 1, 2, 3, 4]), (⟨(some 51), none, .nilchk (.t 50)⟩, [0, 1, 2, 3, 4]), (⟨(some 52), none, .fadr 1 (.t 51)⟩, [0, 1, 2, 3, 4]), (⟨(some 53), none, .load none (.t 52)⟩, [0, 1, 2, 3, 4]), (⟨(some 54), none, .len false (.t 53)⟩, [0, 1, 2, 3, 4]), (⟨(some 55), none, .call 35 [(.t 49), (.t 54)]⟩, [0, 1, 2, 3]), (⟨(some 56), none, .mv (.t 0)⟩, [0, 1, 2, 3, 4, 5, 6, 7, 8, 9, 10]), (⟨(some 57), none, .bslice 9 1 3 [(.str [])] [(0, 1, (.c (.str []))), (1, 1, (.c (.str [97, 32, 98]))), (2, 1, (.c (.str [49])))]⟩, [0, 1, 2, 3, 4, 5, 6, 7, 8, 9, 10, 11]), (⟨(some 58), none, .call 83 [(.t 56), (.t 57)]⟩, [0, 1, 2, 3]), (⟨(some 59), none, .iadr 1 (.t 48) (.t 55)⟩, []), (⟨none, none, .store 1 (.t 59) (.t 58)⟩, [])]))))))))⟩
theorem c85 : compF Go.Proofs.Tryz.prog 85 = some a85 := by kernel_rfl
def a86 : AFn := ⟨6, [.t 2], .seq (.ops [⟨(some 2), none, .mv (.c (.bool false))⟩])
 (.seq (.ops [⟨(some 3), none, .mv (.t 0)⟩, ⟨(some 4), none, .call 87 [(.t 3)]⟩, ⟨(some 5), none, .un .not (.t 4)⟩, ⟨(some 2), none, .mv (.t 5)⟩])
 (.ret))⟩
theorem c86 : compF Go.Proofs.Tryz.prog 86 = some a86 := by kernel_rfl
def a87 : AFn := ⟨12, [.t 2], .seq (.ops [⟨(some 2), none, .mv (.c (.bool false))⟩])
 (.seq (.ops [⟨(some 3), none, .mv (.t 0)⟩, ⟨(some 4), none, .len true (.t 3)⟩, ⟨(some 5), none, .call 98 [(.t 4), (.c (.int .i64 1)), (.c (.int .i64 100))]⟩, ⟨(some 6), none, .mv (.t 5)⟩, ⟨(some 7), (some (6, true)), .mv (.t 0)⟩, ⟨(some 8), (some (6, true)), .s2b (.t 7)⟩, ⟨(some 9), (some (6, true)), .call 178 [(.t 8), (.c (.fn 179 []))]⟩, ⟨(some 10), (some (6, true)), .un .not (.t 9)⟩, ⟨(some 11), none, .pick (.t 6) (.t 10) (.c (.bool false))⟩, ⟨(some 2), none, .mv (.t 11)⟩])
 (.ret))⟩
theorem c87 : compF Go.Proofs.Tryz.prog 87 = some a87 := by kernel_rfl
def a88 : AFn := ⟨17, [.t 2], .seq (.ops [⟨(some 2), none, .mv (.c (.bool false))⟩])
 (.seq (.ops [⟨(some 3), none, .mv (.t 0)⟩, ⟨(some 4), none, .len true (.t 3)⟩, ⟨(some 5), none, .call 98 [(.t 4), (.c (.int .i64 1)), (.c (.int .i64 40))]⟩, ⟨(some 6), none, .mv (.t 5)⟩, ⟨(some 7), (some (6, true)), .mv (.t 0)⟩, ⟨(some 8), (some (6, true)), .call 180 [(.t 7), (.c (.str [97, 98, 99, 100, 101, 102, 103, 104, 105, 106, 107, 108, 109, 110, 111, 112, 113, 114, 115, 116, 117, 118, 119, 120, 121, 122, 48, 49, 50, 51, 52, 53, 54, 55, 56, 57, 45, 95]))]⟩, ⟨(some 9), (some (6, true)), .bin 1 .eql (.t 8) (.c (.str []))⟩, ⟨(some 10), none, .pick (.t 6) (.t 9) (.c (.bool false))⟩, ⟨(some 11), none, .mv (.t 10)⟩, ⟨(some 12), (some (11, true)), .mv (.t 0)⟩, ⟨(some 13), (some (11, true)), .idxs (.t 12) (.c (.int .i64 0))⟩, ⟨(some 14), (some (11, true)), .call 181 [(.c (.str [97, 98, 99, 100, 101, 102, 103, 104, 105, 106, 107, 108, 109, 110, 111, 112, 113, 114, 115, 116, 117, 118, 119, 120, 121, 122])), (.t 13)]⟩, ⟨(some 15), (some (11, true)), .bin 0 .geq (.t 14) (.c (.int .i64 0))⟩, ⟨(some 16), none, .pick (.t 11) (.t 15) (.c (.bool false))⟩, ⟨(some 2), none, .mv (.t 16)⟩])
 (.ret))⟩
theorem c88 : compF Go.Proofs.Tryz.prog 88 = some a88 := by kernel_rfl
def a94 : AFn := ⟨19, [.c 4 (some 2)], .seq (.ops [⟨(some 4), none, .alloc 41 [(.int .i64 0), (.int .i64 0)]⟩])
 (.seq (.ops [⟨(some 6), none, .mv (.t 0)⟩, ⟨(some 7), none, .mv (.t 0)⟩, ⟨(some 8), none, .un .neg (.t 7)⟩, ⟨(some 9), none, .mm true (.t 6) [(.t 8)]⟩, ⟨(some 10), none, .mv (.t 1)⟩, ⟨(some 11), none, .call 184 [(.t 9), (.t 10)]⟩, ⟨(some 5), none, .mv (.t 11)⟩])
 (.seq (.any [(⟨(some 12), none, .mv (.t 0)⟩, []), (⟨(some 13), none, .mv (.t 5)⟩, [0]), (⟨(some 14), none, .bin 0 .quo (.t 12) (.t 13)⟩, []), (⟨(some 15), none, .mv (.t 1)⟩, [0, 1, 2]), (⟨(some 16), none, .mv (.t 5)⟩, [0, 1, 2, 3]), (⟨(some 17), none, .bin 0 .quo (.t 15) (.t 16)⟩, [0, 1, 2]), (⟨(some 18), none, .build [(.int .i64 0), (.int .i64 0)] [(0, 1, (.t 14)), (1, 1, (.t 17))]⟩, []), (⟨none, none, .store 2 (.t 4) (.t 18)⟩, [])])
 (.ret)))⟩
theorem c94 : compF Go.Proofs.Tryz.prog 94 = some a94 := by kernel_rfl
def a98 : AFn := ⟨15, [.t 6], .seq (.ops [⟨(some 6), none, .mv (.c (.bool false))⟩])
 (.seq (.ops [⟨(some 7), none, .mv (.t 1)⟩, ⟨(some 8), none, .mv (.t 0)⟩, ⟨(some 9), none, .bin 0 .leq (.t 7) (.t 8)⟩, ⟨(some 10), none, .mv (.t 9)⟩, ⟨(some 11), (some (10, true)), .mv (.t 0)⟩, ⟨(some 12), (some (10, true)), .mv (.t 2)⟩, ⟨(some 13), (some (10, true)), .bin 0 .leq (.t 11) (.t 12)⟩, ⟨(some 14), none, .pick (.t 10) (.t 13) (.c (.bool false))⟩, ⟨(some 6), none, .mv (.t 14)⟩])
 (.ret))⟩
theorem c98 : compF Go.Proofs.Tryz.prog 98 = some a98 := by kernel_rfl
def a100 : AFn := ⟨8, [.t 2], .seq (.ops [⟨(some 2), none, .mv (.c (.lit true 0 []))⟩])
 (.seq (.seq (.ops [⟨(some 3), none, .mv (.t 0)⟩, ⟨(some 4), none, .bin 3 .eql (.t 3) (.c (.lit true 0 []))⟩])
 (.cond (.t 4) (.seq (.ops [⟨(some 2), none, .mv (.c (.lit true 0 []))⟩])
 (.ret)) (.skip)))
 (.seq (.ops [⟨(some 5), none, .bslice 9 1 0 [(.str [])] []⟩, ⟨(some 6), none, .mv (.t 0)⟩, ⟨(some 7), none, .app 9 1 16 (.t 5) (.t 6)⟩, ⟨(some 2), none, .mv (.t 7)⟩])
 (.ret)))⟩
theorem c100 : compF Go.Proofs.Tryz.prog 100 = some a100 := by kernel_rfl
def a105 : AFn := ⟨37, [.t 4], .seq (.ops [⟨(some 4), none, .mv (.c (.int .i64 0))⟩])
 (.seq (.block 0 (.seq (.ops [⟨(some 8), none, .mv (.t 0)⟩, ⟨(some 9), none, .call 155 [(.t 8), (.c (.int .i64 1)), (.c (.int .i64 100))]⟩, ⟨(some 7), none, .mv (.t 9)⟩])
 (.cond (.t 7) (.seq (.ops [⟨(some 4), none, .mv (.c (.int .i64 1))⟩])
 (.ret)) (.seq (.ops [⟨(some 11), none, .mv (.t 1)⟩, ⟨(some 12), none, .len false (.t 11)⟩, ⟨(some 13), none, .bin 0 .gtr (.t 12) (.c (.int .i64 6))⟩, ⟨(some 10), none, .mv (.t 13)⟩])
 (.cond (.t 10) (.seq (.ops [⟨(some 4), none, .mv (.c (.int .i64 2))⟩])
 (.ret)) (.skip))))))
 (.seq (.seq (.ops [⟨(some 14), none, .mv (.t 1)⟩, ⟨(some 15), none, .len false (.t 14)⟩, ⟨(some 16), none, .mv (.c (.int .i64 0))⟩])
 (.block 1 (.loop (.seq (.ops [⟨(some 17), none, .bin 0 .lss (.t 16) (.t 15)⟩])
 (.seq (.cond (.t 17) (.skip) (.exit 1))
 (.seq (.block 2 (.seq (.ops [⟨(some 18), none, .mv (.t 16)⟩, ⟨(some 19), none, .iadr 1 (.t 14) (.t 16)⟩, ⟨(some 20), none, .load none (.t 19)⟩, ⟨(some 5), none, .mv (.t 18)⟩, ⟨(some 6), none, .mv (.t 20)⟩])
 (.block 3 (.seq (.ops [⟨(some 22), none, .mv (.t 6)⟩, ⟨(some 23), none, .call 155 [(.t 22), (.c (.int .i64 1)), (.c (.int .i64 6))]⟩, ⟨(some 21), none, .mv (.t 23)⟩])
 (.cond (.t 21) (.seq (.ops [⟨(some 4), none, .mv (.c (.int .i64 4))⟩])
 (.ret)) (.seq (.ops [⟨(some 25), none, .mv (.t 5)⟩, ⟨(some 26), none, .bin 0 .gtr (.t 25) (.c (.int .i64 0))⟩, ⟨(some 27), none, .mv (.t 26)⟩, ⟨(some 28), (some (27, true)), .mv (.t 6)⟩, ⟨(some 29), (some (27, true)), .mv (.t 1)⟩, ⟨(some 30), (some (27, true)), .mv (.t 5)⟩, ⟨(some 31), (some (27, true)), .bin 0 .sub (.t 30) (.c (.int .i64 1))⟩, ⟨(some 32), (some (27, true)), .iadr 1 (.t 29) (.t 31)⟩, ⟨(some 33), (some (27, true)), .load none (.t 32)⟩, ⟨(some 34), (some (27, true)), .bin 0 .leq (.t 28) (.t 33)⟩, ⟨(some 35), none, .pick (.t 27) (.t 34) (.c (.bool false))⟩, ⟨(some 24), none, .mv (.t 35)⟩])
 (.cond (.t 24) (.seq (.ops [⟨(some 4), none, .mv (.c (.int .i64 7))⟩])
 (.ret)) (.skip))))))))
 (.ops [⟨(some 36), none, .bin 0 .add (.t 16) (.c (.int .i64 1))⟩, ⟨(some 16), none, .mv (.t 36)⟩])))))))
 (.seq (.ops [⟨(some 4), none, .mv (.c (.int .i64 0))⟩])
 (.ret))))⟩
def a109 : AFn := ⟨11, [.t 3], .seq (.ops [⟨(some 3), none, .mv (.c (.bool false))⟩])
 (.seq (.ops [⟨(some 4), none, .mv (.t 0)⟩, ⟨(some 5), none, .len true (.t 4)⟩, ⟨(some 6), none, .load none (.t 1)⟩, ⟨(some 7), none, .iadr 1 (.t 6) (.c (.int .i64 0))⟩, ⟨(some 8), none, .load none (.t 7)⟩, ⟨(some 9), none, .len true (.t 8)⟩, ⟨(some 10), none, .bin 0 .neq (.t 5) (.t 9)⟩, ⟨(some 3), none, .mv (.t 10)⟩])
 (.ret))⟩
def a110 : AFn := ⟨16, [.t 4], .seq (.ops [⟨(some 4), none, .mv (.c (.int .i64 0))⟩])
 (.seq (.seq (.ops [⟨(some 5), none, .mv (.t 1)⟩, ⟨(some 6), none, .bin 0 .lss (.t 5) (.c (.int .i64 1))⟩])
 (.cond (.t 6) (.seq (.ops [⟨(some 4), none, .mv (.c (.int .i64 0))⟩])
 (.ret)) (.skip)))
 (.seq (.ops [⟨(some 7), none, .mv (.t 0)⟩, ⟨(some 8), none, .mv (.t 1)⟩, ⟨(some 9), none, .bin 0 .rem (.t 7) (.t 8)⟩, ⟨(some 0), none, .mv (.t 9)⟩])
 (.seq (.seq (.ops [⟨(some 10), none, .mv (.t 0)⟩, ⟨(some 11), none, .bin 0 .lss (.t 10) (.c (.int .i64 0))⟩])
 (.cond (.t 11) (.ops [⟨(some 12), none, .mv (.t 0)⟩, ⟨(some 13), none, .mv (.t 1)⟩, ⟨(some 14), none, .bin 0 .add (.t 12) (.t 13)⟩, ⟨(some 0), none, .mv (.t 14)⟩]) (.skip)))
 (.seq (.ops [⟨(some 15), none, .mv (.t 0)⟩, ⟨(some 4), none, .mv (.t 15)⟩])
 (.ret)))))⟩
theorem c110 : compF Go.Proofs.Tryz.prog 110 = some a110 := by kernel_rfl
def a111 : AFn := ⟨9, [.t 4], .seq (.ops [⟨(some 2), none, .box 67 (.t 0)⟩, ⟨(some 4), none, .mv (.c (.bool false))⟩])
 (.seq (.ops [⟨(some 5), none, .mv (.t 1)⟩, ⟨(some 6), none, .mkfn 190 [(.t 2)]⟩, ⟨(some 7), none, .call 125 [(.t 5), (.t 6)]⟩, ⟨(some 8), none, .un .not (.t 7)⟩, ⟨(some 4), none, .mv (.t 8)⟩])
 (.ret))⟩
theorem c111 : compF Go.Proofs.Tryz.prog 111 = some a111 := by kernel_rfl
def a115 : AFn := ⟨19, [.t 4], .seq (.ops [⟨(some 4), none, .mv (.c (.int .i64 0))⟩])
 (.seq (.seq (.ops [⟨(some 6), none, .mv (.t 0)⟩, ⟨(some 7), none, .len false (.t 6)⟩, ⟨(some 8), none, .mv (.c (.int .i64 0))⟩])
 (.block 0 (.loop (.seq (.ops [⟨(some 9), none, .bin 0 .lss (.t 8) (.t 7)⟩])
 (.seq (.cond (.t 9) (.skip) (.exit 0))
 (.seq (.block 1 (.seq (.ops [⟨(some 10), none, .mv (.t 8)⟩, ⟨(some 5), none, .mv (.t 10)⟩])
 (.seq (.ops [⟨(some 11), none, .mv (.t 1)⟩, ⟨(some 12), none, .mv (.t 0)⟩, ⟨(some 13), none, .mv (.t 5)⟩, ⟨(some 14), none, .iadr 1 (.t 12) (.t 13)⟩, ⟨(some 15), none, .load none (.t 14)⟩, ⟨(some 16), none, .bin 1 .eql (.t 11) (.t 15)⟩])
 (.cond (.t 16) (.seq (.ops [⟨(some 17), none, .mv (.t 5)⟩, ⟨(some 4), none, .mv (.t 17)⟩])
 (.ret)) (.skip)))))
 (.ops [⟨(some 18), none, .bin 0 .add (.t 8) (.c (.int .i64 1))⟩, ⟨(some 8), none, .mv (.t 18)⟩])))))))
 (.seq (.ops [⟨(some 4), none, .mv (.c (.int .i64 (-1)))⟩])
 (.ret)))⟩
theorem c115 : compF Go.Proofs.Tryz.prog 115 = some a115 := by kernel_rfl
def a116 : AFn := ⟨17, [.t 4], .seq (.ops [⟨(some 4), none, .mv (.c (.int .i64 0))⟩])
 (.seq (.seq (.ops [⟨(some 6), none, .mv (.t 0)⟩, ⟨(some 7), none, .call 191 [(.t 6)]⟩, ⟨(some 5), none, .mv (.t 7)⟩])
 (.seq (.ops [⟨(some 8), none, .mv (.t 5)⟩, ⟨(some 9), none, .bin 0 .neq (.t 8) (.c (.int .i64 0))⟩])
 (.cond (.t 9) (.seq (.ops [⟨(some 10), none, .mv (.t 5)⟩, ⟨(some 4), none, .mv (.t 10)⟩])
 (.ret)) (.skip))))
 (.seq (.seq (.ops [⟨(some 11), none, .mv (.t 1)⟩, ⟨(some 12), none, .len false (.t 11)⟩, ⟨(some 13), none, .bin 0 .gtr (.t 12) (.c (.int .i64 20000))⟩])
 (.cond (.t 13) (.seq (.ops [⟨(some 4), none, .mv (.c (.int .i64 2))⟩])
 (.ret)) (.skip)))
 (.seq (.ops [⟨(some 14), none, .mv (.t 0)⟩, ⟨(some 15), none, .mv (.t 1)⟩, ⟨(some 16), none, .call 112 [(.t 14), (.t 15)]⟩, ⟨(some 4), none, .mv (.t 16)⟩])
 (.ret))))⟩
def a117 : AFn := ⟨74, [.t 4], .seq (.ops [⟨(some 4), none, .mv (.c (.lit true 0 []))⟩])
 (.seq (.ops [⟨(some 15), none, .mv (.t 0)⟩, ⟨(some 16), none, .call 114 [(.t 15)]⟩, ⟨(some 5), none, .mv (.t 16)⟩])
 (.seq (.ops [⟨(some 17), none, .mmk .s (.int .i64 0)⟩, ⟨(some 6), none, .mv (.t 17)⟩])
 (.seq (.ops [⟨(some 7), none, .mv (.c (.lit true 0 []))⟩])
 (.seq (.seq (.ops [⟨(some 18), none, .mv (.t 1)⟩, ⟨(some 19), none, .len false (.t 18)⟩, ⟨(some 20), none, .mv (.c (.int .i64 0))⟩])
 (.block 0 (.loop (.seq (.ops [⟨(some 21), none, .bin 0 .lss (.t 20) (.t 19)⟩])
 (.seq (.cond (.t 21) (.skip) (.exit 0))
 (.seq (.block 1 (.seq (.ops [⟨(some 22), none, .mv (.t 20)⟩, ⟨(some 23), none, .iadr 2 (.t 18) (.t 20)⟩, ⟨(some 24), none, .load (some 2) (.t 23)⟩, ⟨(some 9), none, .alloc 75 [(.int .i64 0), (.lit true 0 [])]⟩, ⟨(some 8), none, .mv (.t 22)⟩, ⟨none, none, .store 2 (.t 9) (.t 24)⟩])
 (.seq (.ops [⟨(some 10), none, .mv (.c (.lit true 0 []))⟩])
 (.seq (.seq (.any [(⟨(some 25), none, .mv (.t 5)⟩, []), (⟨(some 26), none, .load (some 2) (.t 9)⟩, [0]), (⟨(some 27), none, .mv (.t 0)⟩, [0, 1]), (⟨(some 28), none, .iadr 1 (.t 27) (.c (.int .i64 0))⟩, [0, 1]), (⟨(some 29), none, .load none (.t 28)⟩, [0, 1]), (⟨(some 30), none, .len true (.t 29)⟩, [0, 1]), (⟨(some 31), none, .call 193 [(.t 25), (.t 26), (.t 30)]⟩, []), (⟨(some 32), none, .len false (.t 31)⟩, []), (⟨(some 33), none, .mv (.c (.int .i64 0))⟩, [0, 1, 2, 3, 4, 5, 6, 7])])
 (.block 2 (.loop (.seq (.ops [⟨(some 34), none, .bin 0 .lss (.t 33) (.t 32)⟩])
 (.seq (.cond (.t 34) (.skip) (.exit 2))
 (.seq (.block 3 (.seq (.ops [⟨(some 35), none, .iadr 1 (.t 31) (.t 33)⟩, ⟨(some 36), none, .load none (.t 35)⟩, ⟨(some 12), none, .mv (.t 36)⟩])
 (.seq (.ops [⟨(some 37), none, .mv (.t 10)⟩, ⟨(some 38), none, .mv (.t 12)⟩, ⟨(some 39), none, .call 194 [(.t 37), (.t 38), (.c (.int .i64 36))]⟩, ⟨(some 10), none, .mv (.t 39)⟩])
 (.ops [⟨(some 40), none, .mv (.t 10)⟩, ⟨(some 41), none, .bslice 5 1 1 [(.int .u8 0)] [(0, 1, (.c (.int .u8 32)))]⟩, ⟨(some 42), none, .app 5 1 1 (.t 40) (.t 41)⟩, ⟨(some 10), none, .mv (.t 42)⟩]))))
 (.ops [⟨(some 43), none, .bin 0 .add (.t 33) (.c (.int .i64 1))⟩, ⟨(some 33), none, .mv (.t 43)⟩])))))))
 (.seq (.ops [⟨(some 45), none, .mv (.t 6)⟩, ⟨(some 46), none, .mv (.t 10)⟩, ⟨(some 47), none, .b2s (.t 46)⟩, ⟨(some 48), none, .mlk true .s (.int .i64 0) (.t 45) (.t 47)⟩, ⟨(some 44), none, .mv (.t 48)⟩, ⟨(some 49), none, .ext (.t 44) 0⟩, ⟨(some 50), none, .ext (.t 44) 1⟩, ⟨(some 13), none, .mv (.t 49)⟩, ⟨(some 14), none, .mv (.t 50)⟩])
 (.seq (.seq (.ops [⟨(some 51), none, .mv (.t 14)⟩, ⟨(some 52), none, .un .not (.t 51)⟩])
 (.cond (.t 52) (.seq (.ops [⟨(some 53), none, .mv (.t 7)⟩, ⟨(some 54), none, .len false (.t 53)⟩, ⟨(some 13), none, .mv (.t 54)⟩])
 (.seq (.ops [⟨(some 55), none, .mv (.t 6)⟩, ⟨(some 56), none, .mv (.t 10)⟩, ⟨(some 57), none, .b2s (.t 56)⟩, ⟨(some 58), none, .mv (.t 13)⟩, ⟨none, none, .mup .s (.t 55) (.t 57) (.t 58)⟩])
 (.ops [⟨(some 59), none, .mv (.t 7)⟩, ⟨(some 60), none, .bslice 22 1 1 [(.lit true 0 [])] [(0, 1, (.c (.lit true 0 [])))]⟩, ⟨(some 61), none, .app 22 1 24 (.t 59) (.t 60)⟩, ⟨(some 7), none, .mv (.t 61)⟩]))) (.skip)))
 (.ops [⟨(some 62), none, .mv (.t 7)⟩, ⟨(some 63), none, .mv (.t 13)⟩, ⟨(some 64), none, .mv (.t 7)⟩, ⟨(some 65), none, .mv (.t 13)⟩, ⟨(some 66), none, .iadr 1 (.t 64) (.t 65)⟩, ⟨(some 67), none, .load none (.t 66)⟩, ⟨(some 68), none, .mv (.t 8)⟩, ⟨(some 69), none, .bslice 3 1 1 [(.int .i64 0)] [(0, 1, (.t 68))]⟩, ⟨(some 70), none, .app 3 1 8 (.t 67) (.t 69)⟩, ⟨(some 71), none, .iadr 1 (.t 62) (.t 63)⟩, ⟨none, none, .store 1 (.t 71) (.t 70)⟩])))))))
 (.ops [⟨(some 72), none, .bin 0 .add (.t 20) (.c (.int .i64 1))⟩, ⟨(some 20), none, .mv (.t 72)⟩])))))))
 (.seq (.ops [⟨(some 73), none, .mv (.t 7)⟩, ⟨(some 4), none, .mv (.t 73)⟩])
 (.ret))))))⟩
def a119 : AFn := ⟨17, [.t 4, .t 5], .seq (.ops [⟨(some 4), none, .mv (.c (.str []))⟩, ⟨(some 5), none, .mv (.c (.int .i64 0))⟩])
 (.seq (.seq (.ops [⟨(some 6), none, .mv (.t 0)⟩, ⟨(some 7), none, .call 195 [(.t 6)]⟩, ⟨(some 8), none, .un .not (.t 7)⟩, ⟨(some 9), none, .mv (.t 8)⟩, ⟨(some 10), (some (9, false)), .mv (.t 1)⟩, ⟨(some 11), (some (9, false)), .call 195 [(.t 10)]⟩, ⟨(some 12), (some (9, false)), .un .not (.t 11)⟩, ⟨(some 13), none, .pick (.t 9) (.c (.bool true)) (.t 12)⟩])
 (.cond (.t 13) (.seq (.ops [⟨(some 4), none, .mv (.c (.str []))⟩, ⟨(some 5), none, .mv (.c (.int .i64 1))⟩])
 (.ret)) (.skip)))
 (.seq (.ops [⟨(some 14), none, .mv (.t 0)⟩, ⟨(some 15), none, .mv (.t 1)⟩, ⟨(some 16), none, .call 196 [(.t 14), (.t 15)]⟩, ⟨(some 4), none, .mv (.t 16)⟩, ⟨(some 5), none, .mv (.c (.int .i64 0))⟩])
 (.ret)))⟩
theorem c119 : compF Go.Proofs.Tryz.prog 119 = some a119 := by kernel_rfl
def a120 : AFn := ⟨30, [.t 2, .t 3], .seq (.ops [⟨(some 1), none, .box 3 (.t 0)⟩, ⟨(some 2), none, .mv (.c (.lit true 0 []))⟩, ⟨(some 3), none, .mv (.c (.int .i64 0))⟩])
 (.seq (.seq (.ops [⟨(some 8), none, .load none (.t 1)⟩, ⟨(some 9), none, .call 197 [(.t 8)]⟩, ⟨(some 4), none, .mv (.t 9)⟩])
 (.seq (.ops [⟨(some 10), none, .mv (.t 4)⟩, ⟨(some 11), none, .bin 0 .neq (.t 10) (.c (.int .i64 0))⟩])
 (.cond (.t 11) (.seq (.ops [⟨(some 12), none, .mv (.t 4)⟩, ⟨(some 2), none, .mv (.c (.lit true 0 []))⟩, ⟨(some 3), none, .mv (.t 12)⟩])
 (.ret)) (.skip))))
 (.seq (.ops [⟨(some 13), none, .mkfn 199 [(.t 1)]⟩, ⟨(some 14), none, .call 198 [(.c (.int .i64 0)), (.t 13)]⟩, ⟨(some 5), none, .mv (.t 14)⟩])
 (.seq (.ops [⟨(some 6), none, .mv (.c (.lit true 0 []))⟩])
 (.seq (.seq (.ops [⟨(some 15), none, .load none (.t 1)⟩, ⟨(some 16), none, .mv (.c (.int .i64 0))⟩])
 (.block 0 (.loop (.seq (.ops [⟨(some 17), none, .bin 0 .lss (.t 16) (.t 15)⟩])
 (.seq (.cond (.t 17) (.skip) (.exit 0))
 (.seq (.block 1 (.seq (.ops [⟨(some 18), none, .mv (.t 16)⟩, ⟨(some 7), none, .mv (.t 18)⟩])
 (.ops [⟨(some 19), none, .mv (.t 6)⟩, ⟨(some 20), none, .mv (.t 7)⟩, ⟨(some 21), none, .bin 0 .add (.t 20) (.c (.int .i64 1))⟩, ⟨(some 22), none, .mv (.t 5)⟩, ⟨(some 23), none, .call 200 [(.t 21), (.t 22)]⟩, ⟨(some 24), none, .bslice 9 1 1 [(.str [])] [(0, 1, (.t 23))]⟩, ⟨(some 25), none, .app 9 1 16 (.t 19) (.t 24)⟩, ⟨(some 6), none, .mv (.t 25)⟩])))
 (.ops [⟨(some 26), none, .bin 0 .add (.t 16) (.c (.int .i64 1))⟩, ⟨(some 16), none, .mv (.t 26)⟩])))))))
 (.seq (.ops [⟨(some 27), none, .mv (.t 6)⟩, ⟨(some 28), none, .mv (.t 5)⟩, ⟨(some 29), none, .call 201 [(.t 27), (.t 28)]⟩, ⟨(some 2), none, .mv (.t 29)⟩, ⟨(some 3), none, .mv (.c (.int .i64 0))⟩])
 (.ret))))))⟩
theorem c120 : compF Go.Proofs.Tryz.prog 120 = some a120 := by kernel_rfl
def a121 : AFn := ⟨27, [.c 2 (some 2), .t 3, .t 4], .seq (.ops [⟨(some 1), none, .box 157 (.t 0)⟩, ⟨(some 2), none, .alloc 41 [(.int .i64 0), (.int .i64 0)]⟩, ⟨(some 3), none, .mv (.c (.bool false))⟩, ⟨(some 4), none, .mv (.c (.int .i64 0))⟩])
 (.seq (.seq (.ops [⟨(some 8), none, .load (some 2) (.t 1)⟩, ⟨(some 9), none, .call 202 [(.t 8)]⟩, ⟨(some 5), none, .mv (.t 9)⟩])
 (.seq (.ops [⟨(some 10), none, .mv (.t 5)⟩, ⟨(some 11), none, .bin 0 .neq (.t 10) (.c (.int .i64 0))⟩])
 (.cond (.t 11) (.seq (.ops [⟨(some 12), none, .build [(.int .i64 0), (.int .i64 0)] []⟩, ⟨(some 13), none, .mv (.t 5)⟩, ⟨none, none, .store 2 (.t 2) (.t 12)⟩, ⟨(some 3), none, .mv (.c (.bool false))⟩, ⟨(some 4), none, .mv (.t 13)⟩])
 (.ret)) (.skip))))
 (.seq (.any [(⟨(some 15), none, .load (some 2) (.t 1)⟩, []), (⟨(some 16), none, .load (some 2) (.t 1)⟩, [0]), (⟨(some 17), none, .call 204 [(.t 16)]⟩, [0]), (⟨(some 18), none, .call 203 [(.t 15), (.t 17)]⟩, []), (⟨(some 14), none, .mv (.t 18)⟩, []), (⟨(some 19), none, .ext (.t 14) 0⟩, []), (⟨(some 20), none, .ext (.t 14) 1⟩, [5]), (⟨(some 6), none, .mv (.t 19)⟩, [6]), (⟨(some 7), none, .mv (.t 20)⟩, [])])
 (.seq (.seq (.ops [⟨(some 21), none, .mv (.t 7)⟩, ⟨(some 22), none, .bin 0 .eql (.t 21) (.c (.int .i64 0))⟩])
 (.cond (.t 22) (.seq (.ops [⟨(some 23), none, .build [(.int .i64 0), (.int .i64 0)] []⟩, ⟨none, none, .store 2 (.t 2) (.t 23)⟩, ⟨(some 3), none, .mv (.c (.bool false))⟩, ⟨(some 4), none, .mv (.c (.int .i64 0))⟩])
 (.ret)) (.skip)))
 (.seq (.ops [⟨(some 24), none, .mv (.t 6)⟩, ⟨(some 25), none, .mv (.t 7)⟩, ⟨(some 26), none, .call 94 [(.t 24), (.t 25)]⟩, ⟨none, none, .store 2 (.t 2) (.t 26)⟩, ⟨(some 3), none, .mv (.c (.bool true))⟩, ⟨(some 4), none, .mv (.c (.int .i64 0))⟩])
 (.ret)))))⟩
theorem c121 : compF Go.Proofs.Tryz.prog 121 = some a121 := by kernel_rfl
def a124 : AFn := ⟨9, [.t 5], .seq (.ops [⟨(some 4), none, .box 67 (.t 0)⟩, ⟨(some 5), none, .mv (.c (.bool false))⟩])
 (.seq (.ops [⟨(some 6), none, .load none (.t 1)⟩, ⟨(some 7), none, .mkfn 126 [(.t 2), (.t 4), (.t 3)]⟩, ⟨(some 8), none, .call 125 [(.t 6), (.t 7)]⟩, ⟨(some 5), none, .mv (.t 8)⟩])
 (.ret))⟩
def a125 : AFn := ⟨9, [.t 4], .seq (.ops [⟨(some 4), none, .mv (.c (.bool false))⟩])
 (.seq (.ops [⟨(some 5), none, .mv (.t 0)⟩, ⟨(some 6), none, .mv (.t 1)⟩, ⟨(some 7), none, .call 205 [(.t 5), (.t 6)]⟩, ⟨(some 8), none, .bin 0 .geq (.t 7) (.c (.int .i64 0))⟩, ⟨(some 4), none, .mv (.t 8)⟩])
 (.ret))⟩
theorem c125 : compF Go.Proofs.Tryz.prog 125 = some a125 := by kernel_rfl
def a127 : AFn := ⟨8, [.t 2], .seq (.ops [⟨(some 2), none, .mv (.c (.int .i64 0))⟩])
 (.seq (.cond (.c (.bool false)) (.seq (.ops [⟨(some 3), none, .mv (.t 0)⟩, ⟨(some 4), none, .conv .u32 (.t 3)⟩, ⟨(some 5), none, .call 206 [(.t 4)]⟩, ⟨(some 2), none, .mv (.t 5)⟩])
 (.ret)) (.skip))
 (.seq (.ops [⟨(some 6), none, .mv (.t 0)⟩, ⟨(some 7), none, .call 207 [(.t 6)]⟩, ⟨(some 2), none, .mv (.t 7)⟩])
 (.ret)))⟩
def a138 : AFn := ⟨22, [.t 4], .seq (.ops [⟨(some 4), none, .mv (.c (.lit true 0 []))⟩])
 (.seq (.ops [⟨(some 5), none, .mv (.c (.lit true 0 []))⟩])
 (.seq (.seq (.ops [⟨(some 7), none, .mv (.t 1)⟩, ⟨(some 8), none, .mv (.c (.int .i64 0))⟩])
 (.block 0 (.loop (.seq (.ops [⟨(some 9), none, .bin 0 .lss (.t 8) (.t 7)⟩])
 (.seq (.cond (.t 9) (.skip) (.exit 0))
 (.seq (.block 1 (.seq (.ops [⟨(some 10), none, .mv (.t 8)⟩, ⟨(some 6), none, .mv (.t 10)⟩])
 (.seq (.ops [⟨(some 11), none, .mv (.t 0)⟩, ⟨(some 12), none, .mv (.t 6)⟩, ⟨(some 13), none, .bin 0 .shr (.t 11) (.t 12)⟩, ⟨(some 14), none, .bin 0 .rem (.t 13) (.c (.int .i64 2))⟩, ⟨(some 15), none, .bin 0 .eql (.t 14) (.c (.int .i64 1))⟩])
 (.cond (.t 15) (.ops [⟨(some 16), none, .mv (.t 5)⟩, ⟨(some 17), none, .mv (.t 6)⟩, ⟨(some 18), none, .bslice 3 1 1 [(.int .i64 0)] [(0, 1, (.t 17))]⟩, ⟨(some 19), none, .app 3 1 8 (.t 16) (.t 18)⟩, ⟨(some 5), none, .mv (.t 19)⟩]) (.skip)))))
 (.ops [⟨(some 20), none, .bin 0 .add (.t 8) (.c (.int .i64 1))⟩, ⟨(some 8), none, .mv (.t 20)⟩])))))))
 (.seq (.ops [⟨(some 21), none, .mv (.t 5)⟩, ⟨(some 4), none, .mv (.t 21)⟩])
 (.ret))))⟩
def a139 : AFn := ⟨40, [.t 4], .seq (.ops [⟨(some 4), none, .mv (.c (.lit true 0 []))⟩])
 (.seq (.ops [⟨(some 8), none, .mv (.t 0)⟩, ⟨(some 9), none, .bin 0 .shl (.c (.int .i64 1)) (.t 8)⟩, ⟨(some 10), none, .bin 0 .sub (.t 9) (.c (.int .i64 1))⟩, ⟨(some 11), none, .mv (.t 0)⟩, ⟨(some 12), none, .call 138 [(.t 10), (.t 11)]⟩, ⟨(some 5), none, .mv (.t 12)⟩])
 (.seq (.seq (.ops [⟨(some 13), none, .mv (.t 0)⟩, ⟨(some 14), none, .bin 0 .shl (.c (.int .i64 1)) (.t 13)⟩, ⟨(some 15), none, .mv (.c (.int .i64 0))⟩])
 (.block 0 (.loop (.seq (.ops [⟨(some 16), none, .bin 0 .lss (.t 15) (.t 14)⟩])
 (.seq (.cond (.t 16) (.skip) (.exit 0))
 (.seq (.block 1 (.seq (.ops [⟨(some 17), none, .mv (.t 15)⟩, ⟨(some 6), none, .mv (.t 17)⟩])
 (.seq (.ops [⟨(some 18), none, .mv (.t 6)⟩, ⟨(some 19), none, .mv (.t 0)⟩, ⟨(some 20), none, .call 138 [(.t 18), (.t 19)]⟩, ⟨(some 7), none, .mv (.t 20)⟩])
 (.seq (.ops [⟨(some 21), none, .mv (.t 7)⟩, ⟨(some 22), none, .len false (.t 21)⟩, ⟨(some 23), none, .mv (.t 5)⟩, ⟨(some 24), none, .len false (.t 23)⟩, ⟨(some 25), none, .call 143 [(.t 22), (.t 24)]⟩, ⟨(some 26), none, .mv (.t 7)⟩, ⟨(some 27), none, .mv (.t 5)⟩, ⟨(some 28), none, .call 210 [(.t 26), (.t 27)]⟩, ⟨(some 29), none, .bslice 3 1 2 [(.int .i64 0)] [(0, 1, (.t 25)), (1, 1, (.t 28))]⟩, ⟨(some 30), none, .call 142 [(.t 29)]⟩, ⟨(some 31), none, .bin 0 .lss (.t 30) (.c (.int .i64 0))⟩, ⟨(some 32), none, .mv (.t 31)⟩, ⟨(some 33), (some (32, true)), .mv (.t 1)⟩, ⟨(some 34), (some (32, true)), .mv (.t 7)⟩, ⟨(some 35), (some (32, true)), .callv (.t 33) [(.t 34)]⟩, ⟨(some 36), none, .pick (.t 32) (.t 35) (.c (.bool false))⟩])
 (.cond (.t 36) (.ops [⟨(some 37), none, .mv (.t 7)⟩, ⟨(some 5), none, .mv (.t 37)⟩]) (.skip))))))
 (.ops [⟨(some 38), none, .bin 0 .add (.t 15) (.c (.int .i64 1))⟩, ⟨(some 15), none, .mv (.t 38)⟩])))))))
 (.seq (.ops [⟨(some 39), none, .mv (.t 5)⟩, ⟨(some 4), none, .mv (.t 39)⟩])
 (.ret))))⟩
def a146 : AFn := ⟨56, [.t 4], .seq (.ops [⟨(some 4), none, .mv (.c (.int .i64 0))⟩])
 (.seq (.seq (.ops [⟨(some 13), none, .mv (.t 0)⟩, ⟨(some 14), none, .nilchk (.t 13)⟩, ⟨(some 15), none, .fadr 2 (.t 14)⟩, ⟨(some 16), none, .load none (.t 15)⟩, ⟨(some 17), none, .mv (.t 1)⟩, ⟨(some 18), none, .mlk true (.i .u64) (.int .i64 0) (.t 16) (.t 17)⟩, ⟨(some 12), none, .mv (.t 18)⟩, ⟨(some 19), none, .ext (.t 12) 0⟩, ⟨(some 20), none, .ext (.t 12) 1⟩, ⟨(some 5), none, .mv (.t 19)⟩, ⟨(some 6), none, .mv (.t 20)⟩])
 (.seq (.ops [⟨(some 21), none, .mv (.t 6)⟩])
 (.cond (.t 21) (.seq (.ops [⟨(some 22), none, .mv (.t 5)⟩, ⟨(some 4), none, .mv (.t 22)⟩])
 (.ret)) (.skip))))
 (.seq (.ops [⟨(some 7), none, .mv (.c (.int .i64 0))⟩, ⟨(some 8), none, .mv (.c (.bool false))⟩])
 (.seq (.seq (.ops [⟨(some 23), none, .mv (.t 0)⟩, ⟨(some 24), none, .nilchk (.t 23)⟩, ⟨(some 25), none, .fadr 1 (.t 24)⟩, ⟨(some 26), none, .load none (.t 25)⟩, ⟨(some 27), none, .mv (.c (.int .i64 0))⟩])
 (.block 0 (.loop (.seq (.ops [⟨(some 28), none, .bin 0 .lss (.t 27) (.t 26)⟩])
 (.seq (.cond (.t 28) (.skip) (.exit 0))
 (.seq (.block 1 (.seq (.ops [⟨(some 29), none, .mv (.t 27)⟩, ⟨(some 9), none, .mv (.t 29)⟩])
 (.seq (.ops [⟨(some 31), none, .mv (.t 0)⟩, ⟨(some 32), none, .mv (.t 1)⟩, ⟨(some 33), none, .mv (.t 9)⟩, ⟨(some 34), none, .call 147 [(.t 31), (.t 32), (.t 33)]⟩, ⟨(some 30), none, .mv (.t 34)⟩, ⟨(some 35), none, .ext (.t 30) 0⟩, ⟨(some 36), none, .ext (.t 30) 1⟩, ⟨(some 10), none, .mv (.t 35)⟩, ⟨(some 11), none, .mv (.t 36)⟩])
 (.seq (.ops [⟨(some 37), none, .mv (.t 11)⟩, ⟨(some 38), none, .mv (.t 37)⟩, ⟨(some 39), (some (38, true)), .mv (.t 8)⟩, ⟨(some 40), (some (38, true)), .un .not (.t 39)⟩, ⟨(some 41), (some (38, true)), .mv (.t 40)⟩, ⟨(some 42), (some (41, false)), .mv (.t 10)⟩, ⟨(some 43), (some (41, false)), .mv (.t 7)⟩, ⟨(some 44), (some (41, false)), .bin 0 .lss (.t 42) (.t 43)⟩, ⟨(some 45), (some (38, true)), .pick (.t 41) (.c (.bool true)) (.t 44)⟩, ⟨(some 46), none, .pick (.t 38) (.t 45) (.c (.bool false))⟩])
 (.cond (.t 46) (.ops [⟨(some 47), none, .mv (.t 10)⟩, ⟨(some 7), none, .mv (.t 47)⟩, ⟨(some 8), none, .mv (.c (.bool true))⟩]) (.skip))))))
 (.ops [⟨(some 48), none, .bin 0 .add (.t 27) (.c (.int .i64 1))⟩, ⟨(some 27), none, .mv (.t 48)⟩])))))))
 (.seq (.ops [⟨(some 49), none, .mv (.t 0)⟩, ⟨(some 50), none, .nilchk (.t 49)⟩, ⟨(some 51), none, .fadr 2 (.t 50)⟩, ⟨(some 52), none, .load none (.t 51)⟩, ⟨(some 53), none, .mv (.t 1)⟩, ⟨(some 54), none, .mv (.t 7)⟩, ⟨none, none, .mup (.i .u64) (.t 52) (.t 53) (.t 54)⟩])
 (.seq (.ops [⟨(some 55), none, .mv (.t 7)⟩, ⟨(some 4), none, .mv (.t 55)⟩])
 (.ret))))))⟩
def a148 : AFn := ⟨17, [.t 2], .seq (.ops [⟨(some 1), none, .box 29 (.t 0)⟩, ⟨(some 2), none, .mv (.c (.lit true 0 []))⟩])
 (.seq (.ops [⟨(some 3), none, .mv (.c (.lit true 0 []))⟩])
 (.seq (.seq (.ops [⟨(some 5), none, .fadr 0 (.t 1)⟩, ⟨(some 6), none, .load none (.t 5)⟩, ⟨(some 7), none, .len false (.t 6)⟩, ⟨(some 8), none, .mv (.c (.int .i64 0))⟩])
 (.block 0 (.loop (.seq (.ops [⟨(some 9), none, .bin 0 .lss (.t 8) (.t 7)⟩])
 (.seq (.cond (.t 9) (.skip) (.exit 0))
 (.seq (.block 1 (.seq (.ops [⟨(some 10), none, .mv (.t 8)⟩, ⟨(some 4), none, .mv (.t 10)⟩])
 (.ops [⟨(some 11), none, .mv (.t 3)⟩, ⟨(some 12), none, .mv (.t 4)⟩, ⟨(some 13), none, .bslice 3 1 1 [(.int .i64 0)] [(0, 1, (.t 12))]⟩, ⟨(some 14), none, .app 3 1 8 (.t 11) (.t 13)⟩, ⟨(some 3), none, .mv (.t 14)⟩])))
 (.ops [⟨(some 15), none, .bin 0 .add (.t 8) (.c (.int .i64 1))⟩, ⟨(some 8), none, .mv (.t 15)⟩])))))))
 (.seq (.ops [⟨(some 16), none, .mv (.t 3)⟩, ⟨(some 2), none, .mv (.t 16)⟩])
 (.ret))))⟩
def a151 : AFn := ⟨19, [.t 4], .seq (.ops [⟨(some 4), none, .mv (.c (.int .i64 0))⟩])
 (.seq (.seq (.ops [⟨(some 6), none, .mv (.t 0)⟩, ⟨(some 7), none, .len false (.t 6)⟩, ⟨(some 8), none, .mv (.c (.int .i64 0))⟩])
 (.block 0 (.loop (.seq (.ops [⟨(some 9), none, .bin 0 .lss (.t 8) (.t 7)⟩])
 (.seq (.cond (.t 9) (.skip) (.exit 0))
 (.seq (.block 1 (.seq (.ops [⟨(some 10), none, .mv (.t 8)⟩, ⟨(some 5), none, .mv (.t 10)⟩])
 (.seq (.ops [⟨(some 11), none, .mv (.t 1)⟩, ⟨(some 12), none, .mv (.t 0)⟩, ⟨(some 13), none, .mv (.t 5)⟩, ⟨(some 14), none, .iadr 1 (.t 12) (.t 13)⟩, ⟨(some 15), none, .load none (.t 14)⟩, ⟨(some 16), none, .callv (.t 11) [(.t 15)]⟩])
 (.cond (.t 16) (.seq (.ops [⟨(some 17), none, .mv (.t 5)⟩, ⟨(some 4), none, .mv (.t 17)⟩])
 (.ret)) (.skip)))))
 (.ops [⟨(some 18), none, .bin 0 .add (.t 8) (.c (.int .i64 1))⟩, ⟨(some 8), none, .mv (.t 18)⟩])))))))
 (.seq (.ops [⟨(some 4), none, .mv (.c (.int .i64 (-1)))⟩])
 (.ret)))⟩
theorem c151 : compF Go.Proofs.Tryz.prog 151 = some a151 := by kernel_rfl
def a152 : AFn := ⟨6, [.t 2], .seq (.ops [⟨(some 2), none, .mv (.c (.bool false))⟩])
 (.seq (.ops [⟨(some 3), none, .mv (.t 0)⟩, ⟨(some 4), none, .call 153 [(.t 3)]⟩, ⟨(some 5), none, .un .not (.t 4)⟩, ⟨(some 2), none, .mv (.t 5)⟩])
 (.ret))⟩
theorem c152 : compF Go.Proofs.Tryz.prog 152 = some a152 := by kernel_rfl
def a153 : AFn := ⟨19, [.t 2], .seq (.ops [⟨(some 2), none, .mv (.c (.bool false))⟩])
 (.seq (.seq (.ops [⟨(some 4), none, .mv (.t 0)⟩, ⟨(some 5), none, .len true (.t 4)⟩, ⟨(some 6), none, .mv (.c (.int .i64 0))⟩])
 (.block 0 (.loop (.seq (.ops [⟨(some 7), none, .bin 0 .lss (.t 6) (.t 5)⟩])
 (.seq (.cond (.t 7) (.skip) (.exit 0))
 (.seq (.block 1 (.seq (.ops [⟨(some 8), none, .mv (.t 6)⟩, ⟨(some 3), none, .mv (.t 8)⟩])
 (.seq (.ops [⟨(some 9), none, .mv (.t 0)⟩, ⟨(some 10), none, .mv (.t 3)⟩, ⟨(some 11), none, .idxs (.t 9) (.t 10)⟩, ⟨(some 12), none, .conv .i64 (.t 11)⟩, ⟨(some 13), none, .call 155 [(.t 12), (.c (.int .i64 33)), (.c (.int .i64 126))]⟩])
 (.cond (.t 13) (.seq (.ops [⟨(some 2), none, .mv (.c (.bool false))⟩])
 (.ret)) (.skip)))))
 (.ops [⟨(some 14), none, .bin 0 .add (.t 6) (.c (.int .i64 1))⟩, ⟨(some 6), none, .mv (.t 14)⟩])))))))
 (.seq (.ops [⟨(some 15), none, .mv (.t 0)⟩, ⟨(some 16), none, .len true (.t 15)⟩, ⟨(some 17), none, .call 155 [(.t 16), (.c (.int .i64 1)), (.c (.int .i64 100))]⟩, ⟨(some 18), none, .un .not (.t 17)⟩, ⟨(some 2), none, .mv (.t 18)⟩])
 (.ret)))⟩
theorem c153 : compF Go.Proofs.Tryz.prog 153 = some a153 := by kernel_rfl
def a154 : AFn := ⟨54, [.t 2], .seq (.ops [⟨(some 2), none, .mv (.c (.bool false))⟩])
 (.seq (.seq (.ops [⟨(some 5), none, .mv (.t 0)⟩, ⟨(some 6), none, .bin 1 .eql (.t 5) (.c (.str []))⟩, ⟨(some 7), none, .mv (.t 6)⟩, ⟨(some 8), (some (7, false)), .mv (.t 0)⟩, ⟨(some 9), (some (7, false)), .len true (.t 8)⟩, ⟨(some 10), (some (7, false)), .bin 0 .gtr (.t 9) (.c (.int .i64 40))⟩, ⟨(some 11), none, .pick (.t 7) (.c (.bool true)) (.t 10)⟩, ⟨(some 12), none, .mv (.t 11)⟩, ⟨(some 13), (some (12, false)), .mv (.t 0)⟩, ⟨(some 14), (some (12, false)), .idxs (.t 13) (.c (.int .i64 0))⟩, ⟨(some 15), (some (12, false)), .bin 0 .lss (.t 14) (.c (.int .u8 97))⟩, ⟨(some 16), none, .pick (.t 12) (.c (.bool true)) (.t 15)⟩, ⟨(some 17), none, .mv (.t 16)⟩, ⟨(some 18), (some (17, false)), .mv (.t 0)⟩, ⟨(some 19), (some (17, false)), .idxs (.t 18) (.c (.int .i64 0))⟩, ⟨(some 20), (some (17, false)), .bin 0 .gtr (.t 19) (.c (.int .u8 122))⟩, ⟨(some 21), none, .pick (.t 17) (.c (.bool true)) (.t 20)⟩])
 (.cond (.t 21) (.seq (.ops [⟨(some 2), none, .mv (.c (.bool false))⟩])
 (.ret)) (.skip)))
 (.seq (.seq (.ops [⟨(some 22), none, .mv (.t 0)⟩, ⟨(some 23), none, .len true (.t 22)⟩, ⟨(some 24), none, .mv (.c (.int .i64 0))⟩])
 (.block 0 (.loop (.seq (.ops [⟨(some 25), none, .bin 0 .lss (.t 24) (.t 23)⟩])
 (.seq (.cond (.t 25) (.skip) (.exit 0))
 (.seq (.block 1 (.seq (.ops [⟨(some 26), none, .mv (.t 24)⟩, ⟨(some 3), none, .mv (.t 26)⟩])
 (.seq (.ops [⟨(some 27), none, .mv (.t 0)⟩, ⟨(some 28), none, .mv (.t 3)⟩, ⟨(some 29), none, .idxs (.t 27) (.t 28)⟩, ⟨(some 4), none, .mv (.t 29)⟩])
 (.seq (.ops [⟨(some 30), none, .mv (.t 4)⟩, ⟨(some 31), none, .bin 0 .geq (.t 30) (.c (.int .u8 97))⟩, ⟨(some 32), none, .mv (.t 31)⟩, ⟨(some 33), (some (32, true)), .mv (.t 4)⟩, ⟨(some 34), (some (32, true)), .bin 0 .leq (.t 33) (.c (.int .u8 122))⟩, ⟨(some 35), none, .pick (.t 32) (.t 34) (.c (.bool false))⟩, ⟨(some 36), none, .mv (.t 35)⟩, ⟨(some 37), (some (36, false)), .mv (.t 4)⟩, ⟨(some 38), (some (36, false)), .bin 0 .geq (.t 37) (.c (.int .u8 48))⟩, ⟨(some 39), (some (36, false)), .mv (.t 38)⟩, ⟨(some 40), (some (39, true)), .mv (.t 4)⟩, ⟨(some 41), (some (39, true)), .bin 0 .leq (.t 40) (.c (.int .u8 57))⟩, ⟨(some 42), (some (36, false)), .pick (.t 39) (.t 41) (.c (.bool false))⟩, ⟨(some 43), none, .pick (.t 36) (.c (.bool true)) (.t 42)⟩, ⟨(some 44), none, .mv (.t 43)⟩, ⟨(some 45), (some (44, false)), .mv (.t 4)⟩, ⟨(some 46), (some (44, false)), .bin 0 .eql (.t 45) (.c (.int .u8 45))⟩, ⟨(some 47), none, .pick (.t 44) (.c (.bool true)) (.t 46)⟩, ⟨(some 48), none, .mv (.t 47)⟩, ⟨(some 49), (some (48, false)), .mv (.t 4)⟩, ⟨(some 50), (some (48, false)), .bin 0 .eql (.t 49) (.c (.int .u8 95))⟩, ⟨(some 51), none, .pick (.t 48) (.c (.bool true)) (.t 50)⟩, ⟨(some 52), none, .un .not (.t 51)⟩])
 (.cond (.t 52) (.seq (.ops [⟨(some 2), none, .mv (.c (.bool false))⟩])
 (.ret)) (.skip))))))
 (.ops [⟨(some 53), none, .bin 0 .add (.t 24) (.c (.int .i64 1))⟩, ⟨(some 24), none, .mv (.t 53)⟩])))))))
 (.seq (.ops [⟨(some 2), none, .mv (.c (.bool true))⟩])
 (.ret))))⟩
theorem c154 : compF Go.Proofs.Tryz.prog 154 = some a154 := by kernel_rfl
def a155 : AFn := ⟨15, [.t 6], .seq (.ops [⟨(some 6), none, .mv (.c (.bool false))⟩])
 (.seq (.ops [⟨(some 7), none, .mv (.t 0)⟩, ⟨(some 8), none, .mv (.t 1)⟩, ⟨(some 9), none, .bin 0 .lss (.t 7) (.t 8)⟩, ⟨(some 10), none, .mv (.t 9)⟩, ⟨(some 11), (some (10, false)), .mv (.t 0)⟩, ⟨(some 12), (some (10, false)), .mv (.t 2)⟩, ⟨(some 13), (some (10, false)), .bin 0 .gtr (.t 11) (.t 12)⟩, ⟨(some 14), none, .pick (.t 10) (.c (.bool true)) (.t 13)⟩, ⟨(some 6), none, .mv (.t 14)⟩])
 (.ret))⟩
theorem c155 : compF Go.Proofs.Tryz.prog 155 = some a155 := by kernel_rfl
def a164 : AFn := ⟨39, [.t 4, .t 5], .seq (.ops [⟨(some 4), none, .mv (.c (.int .i64 0))⟩, ⟨(some 5), none, .mv (.c (.bool false))⟩])
 (.seq (.ops [⟨(some 11), none, .mv (.t 0)⟩, ⟨(some 12), none, .call 220 [(.t 11)]⟩, ⟨(some 10), none, .mv (.t 12)⟩, ⟨(some 13), none, .ext (.t 10) 0⟩, ⟨(some 14), none, .ext (.t 10) 1⟩, ⟨(some 6), none, .mv (.t 13)⟩, ⟨(some 7), none, .mv (.t 14)⟩])
 (.seq (.seq (.ops [⟨(some 15), none, .mv (.t 6)⟩, ⟨(some 16), none, .len false (.t 15)⟩, ⟨(some 17), none, .mv (.c (.int .i64 0))⟩])
 (.block 0 (.loop (.seq (.ops [⟨(some 18), none, .bin 0 .lss (.t 17) (.t 16)⟩])
 (.seq (.cond (.t 18) (.skip) (.exit 0))
 (.seq (.block 1 (.seq (.ops [⟨(some 19), none, .mv (.t 17)⟩, ⟨(some 20), none, .iadr 1 (.t 15) (.t 17)⟩, ⟨(some 21), none, .load none (.t 20)⟩, ⟨(some 8), none, .mv (.t 19)⟩, ⟨(some 9), none, .mv (.t 21)⟩])
 (.seq (.ops [⟨(some 22), none, .mv (.t 7)⟩, ⟨(some 23), none, .un .not (.t 22)⟩, ⟨(some 24), none, .mv (.t 23)⟩, ⟨(some 25), (some (24, true)), .mv (.t 8)⟩, ⟨(some 26), (some (24, true)), .mv (.t 6)⟩, ⟨(some 27), (some (24, true)), .len false (.t 26)⟩, ⟨(some 28), (some (24, true)), .bin 0 .sub (.t 27) (.c (.int .i64 1))⟩, ⟨(some 29), (some (24, true)), .bin 0 .eql (.t 25) (.t 28)⟩, ⟨(some 30), none, .pick (.t 24) (.t 29) (.c (.bool false))⟩, ⟨(some 31), none, .mv (.t 30)⟩, ⟨(some 32), (some (31, false)), .mv (.t 1)⟩, ⟨(some 33), (some (31, false)), .mv (.t 9)⟩, ⟨(some 34), (some (31, false)), .callv (.t 32) [(.t 33)]⟩, ⟨(some 35), (some (31, false)), .un .not (.t 34)⟩, ⟨(some 36), none, .pick (.t 31) (.c (.bool true)) (.t 35)⟩])
 (.cond (.t 36) (.seq (.ops [⟨(some 37), none, .mv (.t 8)⟩, ⟨(some 4), none, .mv (.t 37)⟩, ⟨(some 5), none, .mv (.c (.bool false))⟩])
 (.ret)) (.skip)))))
 (.ops [⟨(some 38), none, .bin 0 .add (.t 17) (.c (.int .i64 1))⟩, ⟨(some 17), none, .mv (.t 38)⟩])))))))
 (.seq (.ops [⟨(some 4), none, .mv (.c (.int .i64 0))⟩, ⟨(some 5), none, .mv (.c (.bool true))⟩])
 (.ret))))⟩
def a173 : AFn := ⟨11, [], .seq (.ops [⟨(some 3), none, .mv (.t 0)⟩, ⟨(some 4), none, .len false (.t 3)⟩, ⟨(some 2), none, .mv (.t 4)⟩])
 (.ops [⟨(some 5), none, .mv (.t 0)⟩, ⟨(some 6), none, .mv (.t 2)⟩, ⟨(some 7), none, .mv (.t 2)⟩, ⟨(some 8), none, .conv .u64 (.t 7)⟩, ⟨(some 9), none, .call 225 [(.t 8)]⟩, ⟨(some 10), none, .call 224 [(.t 5), (.c (.int .i64 0)), (.t 6), (.t 9)]⟩])⟩
def a178 : AFn := ⟨9, [.t 4], .seq (.ops [⟨(some 4), none, .mv (.c (.bool false))⟩])
 (.seq (.ops [⟨(some 5), none, .mv (.t 0)⟩, ⟨(some 6), none, .mv (.t 1)⟩, ⟨(some 7), none, .call 229 [(.t 5), (.t 6)]⟩, ⟨(some 8), none, .bin 0 .geq (.t 7) (.c (.int .i64 0))⟩, ⟨(some 4), none, .mv (.t 8)⟩])
 (.ret))⟩
theorem c178 : compF Go.Proofs.Tryz.prog 178 = some a178 := by kernel_rfl
def a179 : AFn := ⟨9, [.t 2], .seq (.ops [⟨(some 2), none, .mv (.c (.bool false))⟩])
 (.seq (.ops [⟨(some 3), none, .mv (.t 0)⟩, ⟨(some 4), none, .bin 0 .lss (.t 3) (.c (.int .u8 33))⟩, ⟨(some 5), none, .mv (.t 4)⟩, ⟨(some 6), (some (5, false)), .mv (.t 0)⟩, ⟨(some 7), (some (5, false)), .bin 0 .gtr (.t 6) (.c (.int .u8 126))⟩, ⟨(some 8), none, .pick (.t 5) (.c (.bool true)) (.t 7)⟩, ⟨(some 2), none, .mv (.t 8)⟩])
 (.ret))⟩
theorem c179 : compF Go.Proofs.Tryz.prog 179 = some a179 := by kernel_rfl
def a181 : AFn := ⟨8, [.t 4], .seq (.ops [⟨(some 4), none, .mv (.c (.int .i64 0))⟩])
 (.seq (.ops [⟨(some 5), none, .mv (.t 0)⟩, ⟨(some 6), none, .mv (.t 1)⟩, ⟨(some 7), none, .call 237 [(.t 5), (.t 6)]⟩, ⟨(some 4), none, .mv (.t 7)⟩])
 (.ret))⟩
theorem c181 : compF Go.Proofs.Tryz.prog 181 = some a181 := by kernel_rfl
def a184 : AFn := ⟨12, [.t 4], .seq (.ops [⟨(some 4), none, .mv (.c (.int .i64 0))⟩])
 (.seq (.block 0 (.loop (.seq (.seq (.ops [⟨(some 5), none, .mv (.t 1)⟩, ⟨(some 6), none, .bin 0 .neq (.t 5) (.c (.int .i64 0))⟩])
 (.cond (.t 6) (.skip) (.exit 0)))
 (.block 1 (.any [(⟨(some 7), none, .mv (.t 1)⟩, []), (⟨(some 8), none, .mv (.t 0)⟩, [0]), (⟨(some 9), none, .mv (.t 1)⟩, [0, 1]), (⟨(some 10), none, .bin 0 .rem (.t 8) (.t 9)⟩, [0]), (⟨(some 0), none, .mv (.t 7)⟩, [2, 3]), (⟨(some 1), none, .mv (.t 10)⟩, [])])))))
 (.seq (.ops [⟨(some 11), none, .mv (.t 0)⟩, ⟨(some 4), none, .mv (.t 11)⟩])
 (.ret)))⟩
theorem c184 : compF Go.Proofs.Tryz.prog 184 = some a184 := by kernel_rfl
def a190 : AFn := ⟨13, [.t 3], .seq (.ops [⟨(some 2), none, .box 69 (.t 0)⟩, ⟨(some 3), none, .mv (.c (.bool false))⟩])
 (.seq (.any [(⟨(some 4), none, .fadr 1 (.t 1)⟩, []), (⟨(some 5), none, .load none (.t 4)⟩, []), (⟨(some 6), none, .fadr 0 (.t 2)⟩, [0, 1]), (⟨(some 7), none, .load none (.t 6)⟩, [0, 1]), (⟨(some 8), none, .iadr 1 (.t 5) (.t 7)⟩, []), (⟨(some 9), none, .load none (.t 8)⟩, []), (⟨(some 10), none, .fadr 1 (.t 2)⟩, [0, 1, 2, 3, 4, 5]), (⟨(some 11), none, .load none (.t 10)⟩, [0, 1, 2, 3, 4, 5]), (⟨(some 12), none, .bin 1 .neq (.t 9) (.t 11)⟩, []), (⟨(some 3), none, .mv (.t 12)⟩, [])])
 (.ret))⟩
theorem c190 : compF Go.Proofs.Tryz.prog 190 = some a190 := by kernel_rfl
def a195 : AFn := ⟨6, [.t 2], .seq (.ops [⟨(some 2), none, .mv (.c (.bool false))⟩])
 (.seq (.ops [⟨(some 3), none, .mv (.t 0)⟩, ⟨(some 4), none, .call 155 [(.t 3), (.c (.int .i64 0)), (.c (.int .i64 15))]⟩, ⟨(some 5), none, .un .not (.t 4)⟩, ⟨(some 2), none, .mv (.t 5)⟩])
 (.ret))⟩
theorem c195 : compF Go.Proofs.Tryz.prog 195 = some a195 := by kernel_rfl
def a196 : AFn := ⟨57, [.t 4], .seq (.ops [⟨(some 4), none, .mv (.c (.str []))⟩])
 (.seq (.ops [⟨(some 12), none, .mmk (.i .i64) (.str [])⟩, ⟨(some 13), none, .mv (.t 0)⟩, ⟨none, none, .mup (.i .i64) (.t 12) (.t 13) (.c (.str []))⟩, ⟨(some 14), none, .mv (.t 12)⟩, ⟨(some 5), none, .mv (.t 14)⟩])
 (.seq (.ops [⟨(some 15), none, .mv (.t 0)⟩, ⟨(some 16), none, .bslice 3 1 1 [(.int .i64 0)] [(0, 1, (.t 15))]⟩, ⟨(some 6), none, .mv (.t 16)⟩])
 (.seq (.block 0 (.loop (.seq (.seq (.ops [⟨(some 17), none, .mv (.t 6)⟩, ⟨(some 18), none, .len false (.t 17)⟩, ⟨(some 19), none, .bin 0 .gtr (.t 18) (.c (.int .i64 0))⟩])
 (.cond (.t 19) (.skip) (.exit 0)))
 (.block 1 (.seq (.ops [⟨(some 20), none, .mv (.t 6)⟩, ⟨(some 21), none, .iadr 1 (.t 20) (.c (.int .i64 0))⟩, ⟨(some 22), none, .load none (.t 21)⟩, ⟨(some 7), none, .mv (.t 22)⟩])
 (.seq (.ops [⟨(some 23), none, .mv (.t 6)⟩, ⟨(some 24), none, .slc 1 (.t 23) (some (.c (.int .i64 1))) none⟩, ⟨(some 6), none, .mv (.t 24)⟩])
 (.seq (.ops [⟨(some 25), none, .mv (.c (.int .i64 0))⟩])
 (.block 2 (.loop (.seq (.ops [⟨(some 26), none, .bin 0 .lss (.t 25) (.c (.int .i64 2))⟩])
 (.seq (.cond (.t 26) (.skip) (.exit 2))
 (.seq (.block 3 (.seq (.ops [⟨(some 27), none, .mv (.t 25)⟩, ⟨(some 8), none, .mv (.t 27)⟩])
 (.seq (.ops [⟨(some 28), none, .mv (.t 7)⟩, ⟨(some 29), none, .mv (.t 8)⟩, ⟨(some 30), none, .call 244 [(.t 28), (.t 29)]⟩, ⟨(some 9), none, .mv (.t 30)⟩])
 (.seq (.ops [⟨(some 32), none, .mv (.t 5)⟩, ⟨(some 33), none, .mv (.t 9)⟩, ⟨(some 34), none, .mlk true (.i .i64) (.str []) (.t 32) (.t 33)⟩, ⟨(some 31), none, .mv (.t 34)⟩, ⟨(some 35), none, .ext (.t 31) 0⟩, ⟨(some 36), none, .ext (.t 31) 1⟩, ⟨(some 10), none, .mv (.t 35)⟩, ⟨(some 11), none, .mv (.t 36)⟩])
 (.seq (.ops [⟨(some 37), none, .mv (.t 11)⟩, ⟨(some 38), none, .un .not (.t 37)⟩])
 (.cond (.t 38) (.seq (.ops [⟨(some 39), none, .mv (.t 5)⟩, ⟨(some 40), none, .mv (.t 9)⟩, ⟨(some 41), none, .mv (.t 5)⟩, ⟨(some 42), none, .mv (.t 7)⟩, ⟨(some 43), none, .mlk false (.i .i64) (.str []) (.t 41) (.t 42)⟩, ⟨(some 44), none, .mv (.t 8)⟩, ⟨(some 45), none, .bin 0 .add (.c (.int .i64 48)) (.t 44)⟩, ⟨(some 46), none, .conv .i32 (.t 45)⟩, ⟨(some 47), none, .i2s (.t 46)⟩, ⟨(some 48), none, .bin 1 .add (.t 43) (.t 47)⟩, ⟨none, none, .mup (.i .i64) (.t 39) (.t 40) (.t 48)⟩])
 (.ops [⟨(some 49), none, .mv (.t 6)⟩, ⟨(some 50), none, .mv (.t 9)⟩, ⟨(some 51), none, .bslice 3 1 1 [(.int .i64 0)] [(0, 1, (.t 50))]⟩, ⟨(some 52), none, .app 3 1 8 (.t 49) (.t 51)⟩, ⟨(some 6), none, .mv (.t 52)⟩])) (.skip)))))))
 (.ops [⟨(some 53), none, .bin 0 .add (.t 25) (.c (.int .i64 1))⟩, ⟨(some 25), none, .mv (.t 53)⟩])))))))))))))
 (.seq (.ops [⟨(some 54), none, .mv (.t 5)⟩, ⟨(some 55), none, .mv (.t 1)⟩, ⟨(some 56), none, .mlk false (.i .i64) (.str []) (.t 54) (.t 55)⟩, ⟨(some 4), none, .mv (.t 56)⟩])
 (.ret)))))⟩
theorem c196 : compF Go.Proofs.Tryz.prog 196 = some a196 := by kernel_rfl
def a197 : AFn := ⟨5, [.t 2], .seq (.ops [⟨(some 2), none, .mv (.c (.int .i64 0))⟩])
 (.seq (.seq (.ops [⟨(some 3), none, .mv (.t 0)⟩, ⟨(some 4), none, .call 155 [(.t 3), (.c (.int .i64 1)), (.c (.int .i64 100))]⟩])
 (.cond (.t 4) (.seq (.ops [⟨(some 2), none, .mv (.c (.int .i64 1))⟩])
 (.ret)) (.skip)))
 (.seq (.ops [⟨(some 2), none, .mv (.c (.int .i64 0))⟩])
 (.ret)))⟩
theorem c197 : compF Go.Proofs.Tryz.prog 197 = some a197 := by kernel_rfl
def a198 : AFn := ⟨12, [.t 4], .seq (.ops [⟨(some 4), none, .mv (.c (.int .i64 0))⟩])
 (.seq (.block 0 (.loop (.seq (.seq (.ops [⟨(some 5), none, .mv (.t 1)⟩, ⟨(some 6), none, .mv (.t 0)⟩, ⟨(some 7), none, .callv (.t 5) [(.t 6)]⟩, ⟨(some 8), none, .un .not (.t 7)⟩])
 (.cond (.t 8) (.skip) (.exit 0)))
 (.block 1 (.ops [⟨(some 9), none, .mv (.t 0)⟩, ⟨(some 10), none, .bin 0 .add (.t 9) (.c (.int .i64 1))⟩, ⟨(some 0), none, .mv (.t 10)⟩])))))
 (.seq (.ops [⟨(some 11), none, .mv (.t 0)⟩, ⟨(some 4), none, .mv (.t 11)⟩])
 (.ret)))⟩
theorem c198 : compF Go.Proofs.Tryz.prog 198 = some a198 := by kernel_rfl
def a199 : AFn := ⟨9, [.t 3], .seq (.ops [⟨(some 3), none, .mv (.c (.bool false))⟩])
 (.seq (.any [(⟨(some 4), none, .mv (.t 0)⟩, []), (⟨(some 5), none, .bin 0 .shl (.c (.int .i64 1)) (.t 4)⟩, []), (⟨(some 6), none, .bin 0 .sub (.t 5) (.c (.int .i64 2))⟩, []), (⟨(some 7), none, .load none (.t 1)⟩, [0, 1, 2]), (⟨(some 8), none, .bin 0 .geq (.t 6) (.t 7)⟩, []), (⟨(some 3), none, .mv (.t 8)⟩, [])])
 (.ret))⟩
theorem c199 : compF Go.Proofs.Tryz.prog 199 = some a199 := by kernel_rfl
def a200 : AFn := ⟨24, [.t 4], .seq (.ops [⟨(some 4), none, .mv (.c (.str []))⟩])
 (.seq (.ops [⟨(some 5), none, .mv (.c (.lit true 0 []))⟩])
 (.seq (.seq (.ops [⟨(some 7), none, .mv (.t 1)⟩, ⟨(some 8), none, .bin 0 .sub (.t 7) (.c (.int .i64 1))⟩, ⟨(some 6), none, .mv (.t 8)⟩])
 (.block 0 (.loop (.seq (.seq (.ops [⟨(some 9), none, .mv (.t 6)⟩, ⟨(some 10), none, .bin 0 .geq (.t 9) (.c (.int .i64 0))⟩])
 (.cond (.t 10) (.skip) (.exit 0)))
 (.seq (.block 1 (.ops [⟨(some 13), none, .mv (.t 5)⟩, ⟨(some 14), none, .mv (.t 0)⟩, ⟨(some 15), none, .mv (.t 6)⟩, ⟨(some 16), none, .bin 0 .shr (.t 14) (.t 15)⟩, ⟨(some 17), none, .bin 0 .and (.t 16) (.c (.int .i64 1))⟩, ⟨(some 18), none, .bin 0 .add (.c (.int .i64 48)) (.t 17)⟩, ⟨(some 19), none, .conv .u8 (.t 18)⟩, ⟨(some 20), none, .bslice 5 1 1 [(.int .u8 0)] [(0, 1, (.t 19))]⟩, ⟨(some 21), none, .app 5 1 1 (.t 13) (.t 20)⟩, ⟨(some 5), none, .mv (.t 21)⟩]))
 (.ops [⟨(some 11), none, .mv (.t 6)⟩, ⟨(some 12), none, .bin 0 .sub (.t 11) (.c (.int .i64 1))⟩, ⟨(some 6), none, .mv (.t 12)⟩]))))))
 (.seq (.ops [⟨(some 22), none, .mv (.t 5)⟩, ⟨(some 23), none, .b2s (.t 22)⟩, ⟨(some 4), none, .mv (.t 23)⟩])
 (.ret))))⟩
theorem c200 : compF Go.Proofs.Tryz.prog 200 = some a200 := by kernel_rfl
def a201 : AFn := ⟨38, [.t 4], .seq (.ops [⟨(some 4), none, .mv (.c (.lit true 0 []))⟩])
 (.seq (.ops [⟨(some 5), none, .mv (.c (.lit true 0 []))⟩])
 (.seq (.seq (.ops [⟨(some 10), none, .mv (.t 1)⟩, ⟨(some 11), none, .mv (.c (.int .i64 0))⟩])
 (.block 0 (.loop (.seq (.ops [⟨(some 12), none, .bin 0 .lss (.t 11) (.t 10)⟩])
 (.seq (.cond (.t 12) (.skip) (.exit 0))
 (.seq (.block 1 (.seq (.ops [⟨(some 13), none, .mv (.t 11)⟩, ⟨(some 6), none, .mv (.t 13)⟩])
 (.seq (.ops [⟨(some 14), none, .mv (.t 0)⟩, ⟨(some 15), none, .len false (.t 14)⟩, ⟨(some 16), none, .mks 5 1 1 [(.int .u8 0)] (.t 15)⟩, ⟨(some 7), none, .mv (.t 16)⟩])
 (.seq (.seq (.ops [⟨(some 17), none, .mv (.t 0)⟩, ⟨(some 18), none, .len false (.t 17)⟩, ⟨(some 19), none, .mv (.c (.int .i64 0))⟩])
 (.block 2 (.loop (.seq (.ops [⟨(some 20), none, .bin 0 .lss (.t 19) (.t 18)⟩])
 (.seq (.cond (.t 20) (.skip) (.exit 2))
 (.seq (.block 3 (.seq (.ops [⟨(some 21), none, .mv (.t 19)⟩, ⟨(some 22), none, .iadr 1 (.t 17) (.t 19)⟩, ⟨(some 23), none, .load none (.t 22)⟩, ⟨(some 8), none, .mv (.t 21)⟩, ⟨(some 9), none, .mv (.t 23)⟩])
 (.ops [⟨(some 24), none, .mv (.t 7)⟩, ⟨(some 25), none, .mv (.t 8)⟩, ⟨(some 26), none, .mv (.t 9)⟩, ⟨(some 27), none, .mv (.t 6)⟩, ⟨(some 28), none, .idxs (.t 26) (.t 27)⟩, ⟨(some 29), none, .iadr 1 (.t 24) (.t 25)⟩, ⟨none, none, .store 1 (.t 29) (.t 28)⟩])))
 (.ops [⟨(some 30), none, .bin 0 .add (.t 19) (.c (.int .i64 1))⟩, ⟨(some 19), none, .mv (.t 30)⟩])))))))
 (.ops [⟨(some 31), none, .mv (.t 5)⟩, ⟨(some 32), none, .mv (.t 7)⟩, ⟨(some 33), none, .b2s (.t 32)⟩, ⟨(some 34), none, .bslice 9 1 1 [(.str [])] [(0, 1, (.t 33))]⟩, ⟨(some 35), none, .app 9 1 16 (.t 31) (.t 34)⟩, ⟨(some 5), none, .mv (.t 35)⟩])))))
 (.ops [⟨(some 36), none, .bin 0 .add (.t 11) (.c (.int .i64 1))⟩, ⟨(some 11), none, .mv (.t 36)⟩])))))))
 (.seq (.ops [⟨(some 37), none, .mv (.t 5)⟩, ⟨(some 4), none, .mv (.t 37)⟩])
 (.ret))))⟩
theorem c201 : compF Go.Proofs.Tryz.prog 201 = some a201 := by kernel_rfl
def a202 : AFn := ⟨72, [.t 2], .seq (.ops [⟨(some 1), none, .box 157 (.t 0)⟩, ⟨(some 2), none, .mv (.c (.int .i64 0))⟩])
 (.seq (.block 0 (.seq (.ops [⟨(some 7), none, .fadr 0 (.t 1)⟩, ⟨(some 8), none, .load none (.t 7)⟩, ⟨(some 9), none, .len false (.t 8)⟩, ⟨(some 10), none, .bin 0 .eql (.t 9) (.c (.int .i64 0))⟩, ⟨(some 6), none, .mv (.t 10)⟩])
 (.cond (.t 6) (.seq (.ops [⟨(some 2), none, .mv (.c (.int .i64 8))⟩])
 (.ret)) (.seq (.ops [⟨(some 12), none, .fadr 0 (.t 1)⟩, ⟨(some 13), none, .load none (.t 12)⟩, ⟨(some 14), none, .len false (.t 13)⟩, ⟨(some 15), none, .bin 0 .gtr (.t 14) (.c (.int .i64 60))⟩, ⟨(some 11), none, .mv (.t 15)⟩])
 (.cond (.t 11) (.seq (.ops [⟨(some 2), none, .mv (.c (.int .i64 2))⟩])
 (.ret)) (.skip))))))
 (.seq (.seq (.ops [⟨(some 16), none, .fadr 0 (.t 1)⟩, ⟨(some 17), none, .load none (.t 16)⟩, ⟨(some 18), none, .len false (.t 17)⟩, ⟨(some 19), none, .mv (.c (.int .i64 0))⟩])
 (.block 1 (.loop (.seq (.ops [⟨(some 20), none, .bin 0 .lss (.t 19) (.t 18)⟩])
 (.seq (.cond (.t 20) (.skip) (.exit 1))
 (.seq (.block 2 (.seq (.ops [⟨(some 21), none, .iadr 1 (.t 17) (.t 19)⟩, ⟨(some 22), none, .load none (.t 21)⟩, ⟨(some 4), none, .mv (.t 22)⟩])
 (.block 3 (.seq (.ops [⟨(some 24), none, .mv (.t 4)⟩, ⟨(some 25), none, .bin 1 .eql (.t 24) (.c (.str []))⟩, ⟨(some 23), none, .mv (.t 25)⟩])
 (.cond (.t 23) (.seq (.ops [⟨(some 2), none, .mv (.c (.int .i64 8))⟩])
 (.ret)) (.seq (.ops [⟨(some 27), none, .mv (.t 4)⟩, ⟨(some 28), none, .len true (.t 27)⟩, ⟨(some 29), none, .bin 0 .gtr (.t 28) (.c (.int .i64 60))⟩, ⟨(some 26), none, .mv (.t 29)⟩])
 (.cond (.t 26) (.seq (.ops [⟨(some 2), none, .mv (.c (.int .i64 2))⟩])
 (.ret)) (.seq (.ops [⟨(some 31), none, .mv (.t 4)⟩, ⟨(some 32), none, .len true (.t 31)⟩, ⟨(some 33), none, .fadr 0 (.t 1)⟩, ⟨(some 34), none, .load none (.t 33)⟩, ⟨(some 35), none, .iadr 1 (.t 34) (.c (.int .i64 0))⟩, ⟨(some 36), none, .load none (.t 35)⟩, ⟨(some 37), none, .len true (.t 36)⟩, ⟨(some 38), none, .bin 0 .neq (.t 32) (.t 37)⟩, ⟨(some 30), none, .mv (.t 38)⟩])
 (.cond (.t 30) (.seq (.ops [⟨(some 2), none, .mv (.c (.int .i64 3))⟩])
 (.ret)) (.seq (.ops [⟨(some 40), none, .mv (.t 4)⟩, ⟨(some 41), none, .call 245 [(.t 40)]⟩, ⟨(some 39), none, .mv (.t 41)⟩])
 (.cond (.t 39) (.seq (.ops [⟨(some 2), none, .mv (.c (.int .i64 9))⟩])
 (.ret)) (.skip))))))))))))
 (.ops [⟨(some 42), none, .bin 0 .add (.t 19) (.c (.int .i64 1))⟩, ⟨(some 19), none, .mv (.t 42)⟩])))))))
 (.seq (.seq (.ops [⟨(some 43), none, .fadr 1 (.t 1)⟩, ⟨(some 44), none, .load none (.t 43)⟩, ⟨(some 45), none, .len true (.t 44)⟩, ⟨(some 46), none, .mv (.c (.int .i64 0))⟩])
 (.block 4 (.loop (.seq (.ops [⟨(some 47), none, .bin 0 .lss (.t 46) (.t 45)⟩])
 (.seq (.cond (.t 47) (.skip) (.exit 4))
 (.seq (.block 5 (.seq (.ops [⟨(some 48), none, .mv (.t 46)⟩, ⟨(some 5), none, .mv (.t 48)⟩])
 (.block 6 (.seq (.ops [⟨(some 50), none, .fadr 1 (.t 1)⟩, ⟨(some 51), none, .load none (.t 50)⟩, ⟨(some 52), none, .mv (.t 5)⟩, ⟨(some 53), none, .idxs (.t 51) (.t 52)⟩, ⟨(some 54), none, .call 246 [(.t 53)]⟩, ⟨(some 55), none, .un .not (.t 54)⟩, ⟨(some 49), none, .mv (.t 55)⟩])
 (.cond (.t 49) (.seq (.ops [⟨(some 2), none, .mv (.c (.int .i64 9))⟩])
 (.ret)) (.seq (.any [(⟨(some 57), none, .mv (.t 5)⟩, []), (⟨(some 58), none, .bin 0 .gtr (.t 57) (.c (.int .i64 0))⟩, []), (⟨(some 59), none, .mv (.t 58)⟩, []), (⟨(some 60), (some (59, true)), .fadr 1 (.t 1)⟩, []), (⟨(some 61), (some (59, true)), .load none (.t 60)⟩, []), (⟨(some 62), (some (59, true)), .mv (.t 5)⟩, [3, 4]), (⟨(some 63), (some (59, true)), .idxs (.t 61) (.t 62)⟩, []), (⟨(some 64), (some (59, true)), .fadr 1 (.t 1)⟩, [3, 4, 5, 6]), (⟨(some 65), (some (59, true)), .load none (.t 64)⟩, [3, 4, 5, 6]), (⟨(some 66), (some (59, true)), .mv (.t 5)⟩, [3, 4, 5, 6, 7, 8]), (⟨(some 67), (some (59, true)), .bin 0 .sub (.t 66) (.c (.int .i64 1))⟩, [3, 4, 5, 6, 7, 8]), (⟨(some 68), (some (59, true)), .idxs (.t 65) (.t 67)⟩, [3, 4, 5, 6]), (⟨(some 69), (some (59, true)), .bin 0 .leq (.t 63) (.t 68)⟩, []), (⟨(some 70), none, .pick (.t 59) (.t 69) (.c (.bool false))⟩, []), (⟨(some 56), none, .mv (.t 70)⟩, [])])
 (.cond (.t 56) (.seq (.ops [⟨(some 2), none, .mv (.c (.int .i64 7))⟩])
 (.ret)) (.skip))))))))
 (.ops [⟨(some 71), none, .bin 0 .add (.t 46) (.c (.int .i64 1))⟩, ⟨(some 46), none, .mv (.t 71)⟩])))))))
 (.seq (.ops [⟨(some 2), none, .mv (.c (.int .i64 0))⟩])
 (.ret)))))⟩
theorem c202 : compF Go.Proofs.Tryz.prog 202 = some a202 := by kernel_rfl
def a203 : AFn := ⟨30, [.t 4, .t 5], .seq (.ops [⟨(some 2), none, .box 157 (.t 0)⟩, ⟨(some 4), none, .mv (.c (.int .i64 0))⟩, ⟨(some 5), none, .mv (.c (.int .i64 0))⟩])
 (.seq (.seq (.ops [⟨(some 9), none, .mv (.t 1)⟩, ⟨(some 10), none, .len false (.t 9)⟩, ⟨(some 11), none, .mv (.c (.int .i64 0))⟩])
 (.block 0 (.loop (.seq (.ops [⟨(some 12), none, .bin 0 .lss (.t 11) (.t 10)⟩])
 (.seq (.cond (.t 12) (.skip) (.exit 0))
 (.seq (.block 1 (.seq (.ops [⟨(some 13), none, .iadr 2 (.t 9) (.t 11)⟩, ⟨(some 14), none, .load (some 2) (.t 13)⟩, ⟨(some 7), none, .alloc 258 [(.int .i64 0), (.int .i64 0)]⟩, ⟨none, none, .store 2 (.t 7) (.t 14)⟩])
 (.seq (.ops [⟨(some 15), none, .load (some 2) (.t 2)⟩, ⟨(some 16), none, .load (some 2) (.t 7)⟩, ⟨(some 17), none, .call 247 [(.t 15), (.t 16)]⟩, ⟨(some 8), none, .mv (.t 17)⟩])
 (.seq (.seq (.ops [⟨(some 18), none, .mv (.t 8)⟩, ⟨(some 19), none, .call 248 [(.t 18)]⟩])
 (.cond (.t 19) (.ops [⟨(some 20), none, .mv (.t 5)⟩, ⟨(some 21), none, .bin 0 .add (.t 20) (.c (.int .i64 1))⟩, ⟨(some 5), none, .mv (.t 21)⟩]) (.skip)))
 (.seq (.ops [⟨(some 22), none, .load (some 2) (.t 2)⟩, ⟨(some 23), none, .mv (.t 8)⟩, ⟨(some 24), none, .call 249 [(.t 22), (.t 23)]⟩])
 (.cond (.t 24) (.ops [⟨(some 25), none, .mv (.t 4)⟩, ⟨(some 26), none, .bin 0 .add (.t 25) (.c (.int .i64 1))⟩, ⟨(some 4), none, .mv (.t 26)⟩]) (.skip)))))))
 (.ops [⟨(some 27), none, .bin 0 .add (.t 11) (.c (.int .i64 1))⟩, ⟨(some 11), none, .mv (.t 27)⟩])))))))
 (.seq (.ops [⟨(some 28), none, .mv (.t 4)⟩, ⟨(some 29), none, .mv (.t 5)⟩, ⟨(some 4), none, .mv (.t 28)⟩, ⟨(some 5), none, .mv (.t 29)⟩])
 (.ret)))⟩
theorem c203 : compF Go.Proofs.Tryz.prog 203 = some a203 := by kernel_rfl
def a204 : AFn := ⟨29, [.t 2], .seq (.ops [⟨(some 1), none, .box 157 (.t 0)⟩, ⟨(some 2), none, .mv (.c (.lit true 0 []))⟩])
 (.seq (.ops [⟨(some 3), none, .mv (.c (.lit true 0 []))⟩])
 (.seq (.seq (.ops [⟨(some 7), none, .fadr 0 (.t 1)⟩, ⟨(some 8), none, .load none (.t 7)⟩, ⟨(some 9), none, .len false (.t 8)⟩, ⟨(some 10), none, .mv (.c (.int .i64 0))⟩])
 (.block 0 (.loop (.seq (.ops [⟨(some 11), none, .bin 0 .lss (.t 10) (.t 9)⟩])
 (.seq (.cond (.t 11) (.skip) (.exit 0))
 (.seq (.block 1 (.seq (.ops [⟨(some 12), none, .mv (.t 10)⟩, ⟨(some 13), none, .iadr 1 (.t 8) (.t 10)⟩, ⟨(some 14), none, .load none (.t 13)⟩, ⟨(some 4), none, .mv (.t 12)⟩, ⟨(some 5), none, .mv (.t 14)⟩])
 (.seq (.ops [⟨(some 15), none, .mv (.t 5)⟩, ⟨(some 16), none, .len true (.t 15)⟩, ⟨(some 17), none, .mv (.c (.int .i64 0))⟩])
 (.block 2 (.loop (.seq (.ops [⟨(some 18), none, .bin 0 .lss (.t 17) (.t 16)⟩])
 (.seq (.cond (.t 18) (.skip) (.exit 2))
 (.seq (.block 3 (.seq (.ops [⟨(some 19), none, .mv (.t 17)⟩, ⟨(some 6), none, .mv (.t 19)⟩])
 (.ops [⟨(some 20), none, .mv (.t 3)⟩, ⟨(some 21), none, .mv (.t 6)⟩, ⟨(some 22), none, .mv (.t 4)⟩, ⟨(some 23), none, .build [(.int .i64 0), (.int .i64 0)] [(0, 1, (.t 21)), (1, 1, (.t 22))]⟩, ⟨(some 24), none, .bslice 258 2 1 [(.int .i64 0), (.int .i64 0)] [(0, 2, (.t 23))]⟩, ⟨(some 25), none, .app 258 2 16 (.t 20) (.t 24)⟩, ⟨(some 3), none, .mv (.t 25)⟩])))
 (.ops [⟨(some 26), none, .bin 0 .add (.t 17) (.c (.int .i64 1))⟩, ⟨(some 17), none, .mv (.t 26)⟩])))))))))
 (.ops [⟨(some 27), none, .bin 0 .add (.t 10) (.c (.int .i64 1))⟩, ⟨(some 10), none, .mv (.t 27)⟩])))))))
 (.seq (.ops [⟨(some 28), none, .mv (.t 3)⟩, ⟨(some 2), none, .mv (.t 28)⟩])
 (.ret))))⟩
theorem c204 : compF Go.Proofs.Tryz.prog 204 = some a204 := by kernel_rfl
def a205 : AFn := ⟨19, [.t 4], .seq (.ops [⟨(some 4), none, .mv (.c (.int .i64 0))⟩])
 (.seq (.seq (.ops [⟨(some 6), none, .mv (.t 0)⟩, ⟨(some 7), none, .len false (.t 6)⟩, ⟨(some 8), none, .mv (.c (.int .i64 0))⟩])
 (.block 0 (.loop (.seq (.ops [⟨(some 9), none, .bin 0 .lss (.t 8) (.t 7)⟩])
 (.seq (.cond (.t 9) (.skip) (.exit 0))
 (.seq (.block 1 (.seq (.ops [⟨(some 10), none, .mv (.t 8)⟩, ⟨(some 5), none, .mv (.t 10)⟩])
 (.seq (.ops [⟨(some 11), none, .mv (.t 1)⟩, ⟨(some 12), none, .mv (.t 0)⟩, ⟨(some 13), none, .mv (.t 5)⟩, ⟨(some 14), none, .iadr 2 (.t 12) (.t 13)⟩, ⟨(some 15), none, .load (some 2) (.t 14)⟩, ⟨(some 16), none, .callv (.t 11) [(.t 15)]⟩])
 (.cond (.t 16) (.seq (.ops [⟨(some 17), none, .mv (.t 5)⟩, ⟨(some 4), none, .mv (.t 17)⟩])
 (.ret)) (.skip)))))
 (.ops [⟨(some 18), none, .bin 0 .add (.t 8) (.c (.int .i64 1))⟩, ⟨(some 8), none, .mv (.t 18)⟩])))))))
 (.seq (.ops [⟨(some 4), none, .mv (.c (.int .i64 (-1)))⟩])
 (.ret)))⟩
theorem c205 : compF Go.Proofs.Tryz.prog 205 = some a205 := by kernel_rfl
def a212 : AFn := ⟨42, [.t 4], .seq (.ops [⟨(some 4), none, .mv (.c (.lit true 0 []))⟩])
 (.seq (.ops [⟨(some 8), none, .mv (.t 0)⟩, ⟨(some 9), none, .mv (.t 1)⟩, ⟨(some 10), none, .call 182 [(.t 8), (.t 9)]⟩, ⟨(some 5), none, .mv (.t 10)⟩])
 (.seq (.seq (.ops [⟨(some 11), none, .mv (.t 5)⟩, ⟨(some 12), none, .bin 0 .eql (.t 11) (.c (.int .i64 (-1)))⟩])
 (.cond (.t 12) (.seq (.ops [⟨(some 13), none, .mv (.t 0)⟩, ⟨(some 4), none, .mv (.t 13)⟩])
 (.ret)) (.skip)))
 (.seq (.seq (.ops [⟨(some 14), none, .mv (.t 5)⟩, ⟨(some 15), none, .bin 0 .add (.t 14) (.c (.int .i64 1))⟩, ⟨(some 6), none, .mv (.t 15)⟩])
 (.block 0 (.loop (.seq (.seq (.ops [⟨(some 16), none, .mv (.t 6)⟩, ⟨(some 17), none, .mv (.t 0)⟩, ⟨(some 18), none, .len false (.t 17)⟩, ⟨(some 19), none, .bin 0 .lss (.t 16) (.t 18)⟩])
 (.cond (.t 19) (.skip) (.exit 0)))
 (.seq (.block 1 (.seq (.ops [⟨(some 22), none, .mv (.t 0)⟩, ⟨(some 23), none, .mv (.t 6)⟩, ⟨(some 24), none, .iadr 1 (.t 22) (.t 23)⟩, ⟨(some 25), none, .load none (.t 24)⟩, ⟨(some 7), none, .mv (.t 25)⟩])
 (.seq (.ops [⟨(some 26), none, .mv (.t 1)⟩, ⟨(some 27), none, .mv (.t 7)⟩, ⟨(some 28), none, .callv (.t 26) [(.t 27)]⟩, ⟨(some 29), none, .un .not (.t 28)⟩])
 (.cond (.t 29) (.seq (.ops [⟨(some 30), none, .mv (.t 0)⟩, ⟨(some 31), none, .mv (.t 5)⟩, ⟨(some 32), none, .mv (.t 7)⟩, ⟨(some 33), none, .iadr 1 (.t 30) (.t 31)⟩, ⟨none, none, .store 1 (.t 33) (.t 32)⟩])
 (.ops [⟨(some 34), none, .mv (.t 5)⟩, ⟨(some 35), none, .bin 0 .add (.t 34) (.c (.int .i64 1))⟩, ⟨(some 5), none, .mv (.t 35)⟩])) (.skip)))))
 (.ops [⟨(some 20), none, .mv (.t 6)⟩, ⟨(some 21), none, .bin 0 .add (.t 20) (.c (.int .i64 1))⟩, ⟨(some 6), none, .mv (.t 21)⟩]))))))
 (.seq (.ops [⟨(some 36), none, .mv (.t 0)⟩, ⟨(some 37), none, .mv (.t 5)⟩, ⟨(some 38), none, .slc 1 (.t 36) (some (.t 37)) none⟩, ⟨none, none, .clr [(.int .i64 0)] (.t 38)⟩])
 (.seq (.ops [⟨(some 39), none, .mv (.t 0)⟩, ⟨(some 40), none, .mv (.t 5)⟩, ⟨(some 41), none, .slc 1 (.t 39) none (some (.t 40))⟩, ⟨(some 4), none, .mv (.t 41)⟩])
 (.ret))))))⟩
def a213 : AFn := ⟨9, [.t 3], .seq (.ops [⟨(some 3), none, .mv (.c (.bool false))⟩])
 (.seq (.ops [⟨(some 4), none, .load none (.t 1)⟩, ⟨(some 5), none, .mv (.t 0)⟩, ⟨(some 6), none, .bin 0 .shr (.t 4) (.t 5)⟩, ⟨(some 7), none, .bin 0 .and (.t 6) (.c (.int .u64 1))⟩, ⟨(some 8), none, .bin 0 .eql (.t 7) (.c (.int .u64 0))⟩, ⟨(some 3), none, .mv (.t 8)⟩])
 (.ret))⟩
def a229 : AFn := ⟨19, [.t 4], .seq (.ops [⟨(some 4), none, .mv (.c (.int .i64 0))⟩])
 (.seq (.seq (.ops [⟨(some 6), none, .mv (.t 0)⟩, ⟨(some 7), none, .len false (.t 6)⟩, ⟨(some 8), none, .mv (.c (.int .i64 0))⟩])
 (.block 0 (.loop (.seq (.ops [⟨(some 9), none, .bin 0 .lss (.t 8) (.t 7)⟩])
 (.seq (.cond (.t 9) (.skip) (.exit 0))
 (.seq (.block 1 (.seq (.ops [⟨(some 10), none, .mv (.t 8)⟩, ⟨(some 5), none, .mv (.t 10)⟩])
 (.seq (.ops [⟨(some 11), none, .mv (.t 1)⟩, ⟨(some 12), none, .mv (.t 0)⟩, ⟨(some 13), none, .mv (.t 5)⟩, ⟨(some 14), none, .iadr 1 (.t 12) (.t 13)⟩, ⟨(some 15), none, .load none (.t 14)⟩, ⟨(some 16), none, .callv (.t 11) [(.t 15)]⟩])
 (.cond (.t 16) (.seq (.ops [⟨(some 17), none, .mv (.t 5)⟩, ⟨(some 4), none, .mv (.t 17)⟩])
 (.ret)) (.skip)))))
 (.ops [⟨(some 18), none, .bin 0 .add (.t 8) (.c (.int .i64 1))⟩, ⟨(some 8), none, .mv (.t 18)⟩])))))))
 (.seq (.ops [⟨(some 4), none, .mv (.c (.int .i64 (-1)))⟩])
 (.ret)))⟩
theorem c229 : compF Go.Proofs.Tryz.prog 229 = some a229 := by kernel_rfl
def a232 : AFn := ⟨21, [.c 2 (some 256), .t 3], .seq (.ops [⟨(some 2), none, .alloc 246 [(.bool false), (.bool false), (.bool false), (.bool false), (.bool false), (.bool false), (.bool false), (.bool false), (.bool false), (.bool false), (.bool false), (.bool false), (.bool false), (.bool false), (.bool false), (.bool false), (.bool false), (.bool false), (.bool false), (.bool false), (.bool false), (.bool false), (.bool false), (.bool false), (.bool false), (.bool false), (.bool false), (.bool false), (.bool false), (.bool false), (.bool false), (.bool false), (.bool false), (.bool false), (.bool false), (.bool false), (.bool false), (.bool false), (.bool false), (.bool false), (.bool false), (.bool false), (.bool false), (.bool false), (.bool false), (.bool false), (.bool false), (.bool false), (.bool false), (.bool false), (.bool false), (.bool false), (.bool false), (.bool false), (.bool false), (.bool false), (.bool false), (.bool false), (.bool false), (.bool false), (.bool false), (.bool false), (.bool false), (.bool false), (.bool false), (.bool false), (.bool false), (.bool false), (.bool false), (.bool false), (.bool false), (.bool false), (.bool false), (.bool false), (.bool false), (.bool false), (.bool false), (.bool false), (.bool false), (.bool false), (.bool false), (.bool false), (.bool false), (.bool false), (.bool false), (.bool false), (.bool false), (.bool false), (.bool false), (.bool false), (.bool false), (.bool false), (.bool false), (.bool false), (.bool false), (.bool false), (.bool false), (.bool false), (.bool false), (.bool false), (.bool false), (.bool false), (.bool false), (.bool false), (.bool false), (.bool false), (.bool false), (.bool false), (.bool false), (.bool false), (.bool false), (.bool false), (.bool false), (.bool false), (.bool false), (.bool false), (.bool false), (.bool false), (.bool false), (.bool false), (.bool false), (.bool false), (.bool false), (.bool false), (.bool false), (.bool false), (.bool false), (.bool false), (.bool false), (.bool false), (.bool false), (.bool false), (.bool false), (.bool false), (.bool false), (.bool false), (.bool false), (.bool false), (.bool false), (.bool false), (.bool false), (.bool false), (.bool false), (.bool false), (.bool false), (.bool false), (.bool false), (.bool false), (.bool false), (.bool false), (.bool false), (.bool false), (.bool false), (.bool false), (.bool false), (.bool false), (.bool false), (.bool false), (.bool false), (.bool false), (.bool false), (.bool false), (.bool false), (.bool false), (.bool false), (.bool false), (.bool false), (.bool false), (.bool false), (.bool false), (.bool false), (.bool false), (.bool false), (.bool false), (.bool false), (.bool false), (.bool false), (.bool false), (.bool false), (.bool false), (.bool false), (.bool false), (.bool false), (.bool false), (.bool false), (.bool false), (.bool false), (.bool false), (.bool false), (.bool false), (.bool false), (.bool false), (.bool false), (.bool false), (.bool false), (.bool false), (.bool false), (.bool false), (.bool false), (.bool false), (.bool false), (.bool false), (.bool false), (.bool false), (.bool false), (.bool false), (.bool false), (.bool false), (.bool false), (.bool false), (.bool false), (.bool false), (.bool false), (.bool false), (.bool false), (.bool false), (.bool false), (.bool false), (.bool false), (.bool false), (.bool false), (.bool false), (.bool false), (.bool false), (.bool false), (.bool false), (.bool false), (.bool false), (.bool false), (.bool false), (.bool false), (.bool false), (.bool false), (.bool false), (.bool false), (.bool false), (.bool false), (.bool false), (.bool false), (.bool false), (.bool false), (.bool false), (.bool false), (.bool false), (.bool false), (.bool false), (.bool false), (.bool false), (.bool false), (.bool false), (.bool false), (.bool false), (.bool false), (.bool false), (.bool false), (.bool false)]⟩, ⟨(some 3), none, .mv (.c (.bool false))⟩])
 (.seq (.seq (.ops [⟨(some 4), none, .mv (.c (.int .i64 0))⟩])
 (.block 0 (.loop (.seq (.seq (.ops [⟨(some 6), none, .mv (.t 4)⟩, ⟨(some 7), none, .mv (.t 0)⟩, ⟨(some 8), none, .len true (.t 7)⟩, ⟨(some 9), none, .bin 0 .lss (.t 6) (.t 8)⟩])
 (.cond (.t 9) (.skip) (.exit 0)))
 (.seq (.block 1 (.seq (.ops [⟨(some 12), none, .mv (.t 0)⟩, ⟨(some 13), none, .mv (.t 4)⟩, ⟨(some 14), none, .idxs (.t 12) (.t 13)⟩, ⟨(some 5), none, .mv (.t 14)⟩])
 (.seq (.seq (.ops [⟨(some 15), none, .mv (.t 5)⟩, ⟨(some 16), none, .bin 0 .geq (.t 15) (.c (.int .u8 128))⟩])
 (.cond (.t 16) (.seq (.ops [⟨(some 17), none, .load (some 256) (.t 2)⟩, ⟨none, none, .store 256 (.t 2) (.t 17)⟩, ⟨(some 3), none, .mv (.c (.bool false))⟩])
 (.ret)) (.skip)))
 (.ops [⟨(some 18), none, .mv (.t 5)⟩, ⟨(some 19), none, .aadr 256 1 (.t 2) (.t 18)⟩, ⟨none, none, .store 1 (.t 19) (.c (.bool true))⟩]))))
 (.ops [⟨(some 10), none, .mv (.t 4)⟩, ⟨(some 11), none, .bin 0 .add (.t 10) (.c (.int .i64 1))⟩, ⟨(some 4), none, .mv (.t 11)⟩]))))))
 (.seq (.ops [⟨(some 20), none, .load (some 256) (.t 2)⟩, ⟨none, none, .store 256 (.t 2) (.t 20)⟩, ⟨(some 3), none, .mv (.c (.bool true))⟩])
 (.ret)))⟩
def a233 : AFn := ⟨16, [.t 4], .seq (.ops [⟨(some 4), none, .mv (.c (.str []))⟩])
 (.seq (.block 0 (.loop (.seq (.seq (.ops [⟨(some 5), none, .mv (.t 0)⟩, ⟨(some 6), none, .len true (.t 5)⟩, ⟨(some 7), none, .bin 0 .gtr (.t 6) (.c (.int .i64 0))⟩])
 (.cond (.t 7) (.skip) (.exit 0)))
 (.block 1 (.seq (.seq (.ops [⟨(some 8), none, .mv (.t 1)⟩, ⟨(some 9), none, .mv (.t 0)⟩, ⟨(some 10), none, .idxs (.t 9) (.c (.int .i64 0))⟩, ⟨(some 11), none, .call 275 [(.t 8), (.t 10)]⟩, ⟨(some 12), none, .un .not (.t 11)⟩])
 (.cond (.t 12) (.exit 0) (.skip)))
 (.ops [⟨(some 13), none, .mv (.t 0)⟩, ⟨(some 14), none, .sls (.t 13) (some (.c (.int .i64 1))) none⟩, ⟨(some 0), none, .mv (.t 14)⟩]))))))
 (.seq (.ops [⟨(some 15), none, .mv (.t 0)⟩, ⟨(some 4), none, .mv (.t 15)⟩])
 (.ret)))⟩
def a237 : AFn := ⟨8, [.t 4], .seq (.ops [⟨(some 4), none, .mv (.c (.int .i64 0))⟩])
 (.seq (.ops [⟨(some 5), none, .mv (.t 0)⟩, ⟨(some 6), none, .mv (.t 1)⟩, ⟨(some 7), none, .call 279 [(.t 5), (.t 6)]⟩, ⟨(some 4), none, .mv (.t 7)⟩])
 (.ret))⟩
theorem c237 : compF Go.Proofs.Tryz.prog 237 = some a237 := by kernel_rfl
def a244 : AFn := ⟨28, [.t 4], .seq (.ops [⟨(some 4), none, .mv (.c (.int .i64 0))⟩])
 (.seq (.ops [⟨(some 6), none, .build [(.int .i64 0), (.int .i64 0)] [(0, 1, (.c (.int .i64 1))), (1, 1, (.c (.int .i64 0)))]⟩, ⟨(some 7), none, .build [(.int .i64 0), (.int .i64 0)] [(0, 1, (.c (.int .i64 1))), (1, 1, (.c (.int .i64 2)))]⟩, ⟨(some 8), none, .build [(.int .i64 0), (.int .i64 0)] [(0, 1, (.c (.int .i64 3))), (1, 1, (.c (.int .i64 9)))]⟩, ⟨(some 9), none, .build [(.int .i64 0), (.int .i64 0)] [(0, 1, (.c (.int .i64 4))), (1, 1, (.c (.int .i64 5)))]⟩, ⟨(some 10), none, .build [(.int .i64 0), (.int .i64 0)] [(0, 1, (.c (.int .i64 4))), (1, 1, (.c (.int .i64 5)))]⟩, ⟨(some 11), none, .build [(.int .i64 0), (.int .i64 0)] [(0, 1, (.c (.int .i64 6))), (1, 1, (.c (.int .i64 8)))]⟩, ⟨(some 12), none, .build [(.int .i64 0), (.int .i64 0)] [(0, 1, (.c (.int .i64 6))), (1, 1, (.c (.int .i64 7)))]⟩, ⟨(some 13), none, .build [(.int .i64 0), (.int .i64 0)] [(0, 1, (.c (.int .i64 4))), (1, 1, (.c (.int .i64 8)))]⟩, ⟨(some 14), none, .build [(.int .i64 0), (.int .i64 0)] [(0, 1, (.c (.int .i64 1))), (1, 1, (.c (.int .i64 2)))]⟩, ⟨(some 15), none, .build [(.int .i64 0), (.int .i64 0)] [(0, 1, (.c (.int .i64 10))), (1, 1, (.c (.int .i64 0)))]⟩, ⟨(some 16), none, .build [(.int .i64 0), (.int .i64 0)] [(0, 1, (.c (.int .i64 11))), (1, 1, (.c (.int .i64 12)))]⟩, ⟨(some 17), none, .build [(.int .i64 0), (.int .i64 0)] [(0, 1, (.c (.int .i64 11))), (1, 1, (.c (.int .i64 12)))]⟩, ⟨(some 18), none, .build [(.int .i64 0), (.int .i64 0)] [(0, 1, (.c (.int .i64 13))), (1, 1, (.c (.int .i64 15)))]⟩, ⟨(some 19), none, .build [(.int .i64 0), (.int .i64 0)] [(0, 1, (.c (.int .i64 13))), (1, 1, (.c (.int .i64 14)))]⟩, ⟨(some 20), none, .build [(.int .i64 0), (.int .i64 0)] [(0, 1, (.c (.int .i64 11))), (1, 1, (.c (.int .i64 15)))]⟩, ⟨(some 21), none, .build [(.int .i64 0), (.int .i64 0)] [(0, 1, (.c (.int .i64 1))), (1, 1, (.c (.int .i64 2)))]⟩, ⟨(some 22), none, .build [(.int .i64 0), (.int .i64 0), (.int .i64 0), (.int .i64 0), (.int .i64 0), (.int .i64 0), (.int .i64 0), (.int .i64 0), (.int .i64 0), (.int .i64 0), (.int .i64 0), (.int .i64 0), (.int .i64 0), (.int .i64 0), (.int .i64 0), (.int .i64 0), (.int .i64 0), (.int .i64 0), (.int .i64 0), (.int .i64 0), (.int .i64 0), (.int .i64 0), (.int .i64 0), (.int .i64 0), (.int .i64 0), (.int .i64 0), (.int .i64 0), (.int .i64 0), (.int .i64 0), (.int .i64 0), (.int .i64 0), (.int .i64 0)] [(0, 2, (.t 6)), (2, 2, (.t 7)), (4, 2, (.t 8)), (6, 2, (.t 9)), (8, 2, (.t 10)), (10, 2, (.t 11)), (12, 2, (.t 12)), (14, 2, (.t 13)), (16, 2, (.t 14)), (18, 2, (.t 15)), (20, 2, (.t 16)), (22, 2, (.t 17)), (24, 2, (.t 18)), (26, 2, (.t 19)), (28, 2, (.t 20)), (30, 2, (.t 21))]⟩, ⟨(some 5), none, .alloc 285 [(.int .i64 0), (.int .i64 0), (.int .i64 0), (.int .i64 0), (.int .i64 0), (.int .i64 0), (.int .i64 0), (.int .i64 0), (.int .i64 0), (.int .i64 0), (.int .i64 0), (.int .i64 0), (.int .i64 0), (.int .i64 0), (.int .i64 0), (.int .i64 0), (.int .i64 0), (.int .i64 0), (.int .i64 0), (.int .i64 0), (.int .i64 0), (.int .i64 0), (.int .i64 0), (.int .i64 0), (.int .i64 0), (.int .i64 0), (.int .i64 0), (.int .i64 0), (.int .i64 0), (.int .i64 0), (.int .i64 0), (.int .i64 0)]⟩, ⟨none, none, .store 32 (.t 5) (.t 22)⟩])
 (.seq (.ops [⟨(some 23), none, .mv (.t 0)⟩, ⟨(some 24), none, .mv (.t 1)⟩, ⟨(some 25), none, .aadr 16 2 (.t 5) (.t 23)⟩, ⟨(some 26), none, .aadr 2 1 (.t 25) (.t 24)⟩, ⟨(some 27), none, .load none (.t 26)⟩, ⟨(some 4), none, .mv (.t 27)⟩])
 (.ret)))⟩
theorem c244 : compF Go.Proofs.Tryz.prog 244 = some a244 := by kernel_rfl
def a245 : AFn := ⟨6, [.t 2], .seq (.ops [⟨(some 2), none, .mv (.c (.bool false))⟩])
 (.seq (.ops [⟨(some 3), none, .mv (.t 0)⟩, ⟨(some 4), none, .s2b (.t 3)⟩, ⟨(some 5), none, .call 178 [(.t 4), (.c (.fn 280 []))]⟩, ⟨(some 2), none, .mv (.t 5)⟩])
 (.ret))⟩
theorem c245 : compF Go.Proofs.Tryz.prog 245 = some a245 := by kernel_rfl
def a246 : AFn := ⟨17, [.t 2], .seq (.ops [⟨(some 2), none, .mv (.c (.bool false))⟩])
 (.seq (.ops [⟨(some 3), none, .mv (.t 0)⟩, ⟨(some 4), none, .bin 0 .geq (.t 3) (.c (.int .u8 48))⟩, ⟨(some 5), none, .mv (.t 4)⟩, ⟨(some 6), (some (5, true)), .mv (.t 0)⟩, ⟨(some 7), (some (5, true)), .bin 0 .leq (.t 6) (.c (.int .u8 57))⟩, ⟨(some 8), none, .pick (.t 5) (.t 7) (.c (.bool false))⟩, ⟨(some 9), none, .mv (.t 8)⟩, ⟨(some 10), (some (9, false)), .mv (.t 0)⟩, ⟨(some 11), (some (9, false)), .bin 0 .geq (.t 10) (.c (.int .u8 97))⟩, ⟨(some 12), (some (9, false)), .mv (.t 11)⟩, ⟨(some 13), (some (12, true)), .mv (.t 0)⟩, ⟨(some 14), (some (12, true)), .bin 0 .leq (.t 13) (.c (.int .u8 122))⟩, ⟨(some 15), (some (9, false)), .pick (.t 12) (.t 14) (.c (.bool false))⟩, ⟨(some 16), none, .pick (.t 9) (.c (.bool true)) (.t 15)⟩, ⟨(some 2), none, .mv (.t 16)⟩])
 (.ret))⟩
theorem c246 : compF Go.Proofs.Tryz.prog 246 = some a246 := by kernel_rfl
def a247 : AFn := ⟨32, [.t 4], .seq (.ops [⟨(some 2), none, .box 157 (.t 0)⟩, ⟨(some 3), none, .box 258 (.t 1)⟩, ⟨(some 4), none, .mv (.c (.int .u8 0))⟩])
 (.seq (.seq (.any [(⟨(some 5), none, .fadr 1 (.t 3)⟩, []), (⟨(some 6), none, .load none (.t 5)⟩, []), (⟨(some 7), none, .fadr 0 (.t 2)⟩, [0, 1]), (⟨(some 8), none, .load none (.t 7)⟩, [0, 1]), (⟨(some 9), none, .len false (.t 8)⟩, [0, 1]), (⟨(some 10), none, .bin 0 .sub (.t 9) (.c (.int .i64 1))⟩, [0, 1]), (⟨(some 11), none, .call 155 [(.t 6), (.c (.int .i64 0)), (.t 10)]⟩, []), (⟨(some 12), none, .mv (.t 11)⟩, []), (⟨(some 13), (some (12, false)), .fadr 0 (.t 3)⟩, []), (⟨(some 14), (some (12, false)), .load none (.t 13)⟩, []), (⟨(some 15), (some (12, false)), .fadr 0 (.t 2)⟩, [8, 9]), (⟨(some 16), (some (12, false)), .load none (.t 15)⟩, [8, 9]), (⟨(some 17), (some (12, false)), .iadr 1 (.t 16) (.c (.int .i64 0))⟩, [8, 9]), (⟨(some 18), (some (12, false)), .load none (.t 17)⟩, [8, 9]), (⟨(some 19), (some (12, false)), .len true (.t 18)⟩, [8, 9]), (⟨(some 20), (some (12, false)), .bin 0 .sub (.t 19) (.c (.int .i64 1))⟩, [8, 9]), (⟨(some 21), (some (12, false)), .call 155 [(.t 14), (.c (.int .i64 0)), (.t 20)]⟩, []), (⟨(some 22), none, .pick (.t 12) (.c (.bool true)) (.t 21)⟩, [])])
 (.cond (.t 22) (.seq (.ops [⟨(some 4), none, .mv (.c (.int .u8 46))⟩])
 (.ret)) (.skip)))
 (.seq (.any [(⟨(some 23), none, .fadr 0 (.t 2)⟩, []), (⟨(some 24), none, .load none (.t 23)⟩, []), (⟨(some 25), none, .fadr 1 (.t 3)⟩, [0, 1]), (⟨(some 26), none, .load none (.t 25)⟩, [0, 1]), (⟨(some 27), none, .iadr 1 (.t 24) (.t 26)⟩, []), (⟨(some 28), none, .load none (.t 27)⟩, []), (⟨(some 29), none, .fadr 0 (.t 3)⟩, [0, 1, 2, 3, 4, 5]), (⟨(some 30), none, .load none (.t 29)⟩, [0, 1, 2, 3, 4, 5]), (⟨(some 31), none, .idxs (.t 28) (.t 30)⟩, []), (⟨(some 4), none, .mv (.t 31)⟩, [])])
 (.ret)))⟩
theorem c247 : compF Go.Proofs.Tryz.prog 247 = some a247 := by kernel_rfl
def a248 : AFn := ⟨9, [.t 2], .seq (.ops [⟨(some 2), none, .mv (.c (.bool false))⟩])
 (.seq (.ops [⟨(some 3), none, .mv (.t 0)⟩, ⟨(some 4), none, .call 246 [(.t 3)]⟩, ⟨(some 5), none, .mv (.t 4)⟩, ⟨(some 6), (some (5, false)), .mv (.t 0)⟩, ⟨(some 7), (some (5, false)), .bin 0 .eql (.t 6) (.c (.int .u8 42))⟩, ⟨(some 8), none, .pick (.t 5) (.c (.bool true)) (.t 7)⟩, ⟨(some 2), none, .mv (.t 8)⟩])
 (.ret))⟩
theorem c248 : compF Go.Proofs.Tryz.prog 248 = some a248 := by kernel_rfl
def a249 : AFn := ⟨14, [.t 4], .seq (.ops [⟨(some 2), none, .box 157 (.t 0)⟩, ⟨(some 4), none, .mv (.c (.bool false))⟩])
 (.seq (.ops [⟨(some 5), none, .mv (.t 1)⟩, ⟨(some 6), none, .call 246 [(.t 5)]⟩, ⟨(some 7), none, .mv (.t 6)⟩, ⟨(some 8), (some (7, true)), .fadr 1 (.t 2)⟩, ⟨(some 9), (some (7, true)), .load none (.t 8)⟩, ⟨(some 10), (some (7, true)), .mv (.t 1)⟩, ⟨(some 11), (some (7, true)), .call 181 [(.t 9), (.t 10)]⟩, ⟨(some 12), (some (7, true)), .bin 0 .geq (.t 11) (.c (.int .i64 0))⟩, ⟨(some 13), none, .pick (.t 7) (.t 12) (.c (.bool false))⟩, ⟨(some 4), none, .mv (.t 13)⟩])
 (.ret))⟩
theorem c249 : compF Go.Proofs.Tryz.prog 249 = some a249 := by kernel_rfl
def a280 : AFn := ⟨6, [.t 2], .seq (.ops [⟨(some 2), none, .mv (.c (.bool false))⟩])
 (.seq (.ops [⟨(some 3), none, .mv (.t 0)⟩, ⟨(some 4), none, .call 281 [(.t 3)]⟩, ⟨(some 5), none, .un .not (.t 4)⟩, ⟨(some 2), none, .mv (.t 5)⟩])
 (.ret))⟩
theorem c280 : compF Go.Proofs.Tryz.prog 280 = some a280 := by kernel_rfl
def a281 : AFn := ⟨17, [.t 2], .seq (.ops [⟨(some 2), none, .mv (.c (.bool false))⟩])
 (.seq (.ops [⟨(some 3), none, .mv (.t 0)⟩, ⟨(some 4), none, .call 246 [(.t 3)]⟩, ⟨(some 5), none, .mv (.t 4)⟩, ⟨(some 6), (some (5, false)), .mv (.t 0)⟩, ⟨(some 7), (some (5, false)), .bin 0 .eql (.t 6) (.c (.int .u8 46))⟩, ⟨(some 8), none, .pick (.t 5) (.c (.bool true)) (.t 7)⟩, ⟨(some 9), none, .mv (.t 8)⟩, ⟨(some 10), (some (9, false)), .mv (.t 0)⟩, ⟨(some 11), (some (9, false)), .bin 0 .eql (.t 10) (.c (.int .u8 63))⟩, ⟨(some 12), none, .pick (.t 9) (.c (.bool true)) (.t 11)⟩, ⟨(some 13), none, .mv (.t 12)⟩, ⟨(some 14), (some (13, false)), .mv (.t 0)⟩, ⟨(some 15), (some (13, false)), .bin 0 .eql (.t 14) (.c (.int .u8 42))⟩, ⟨(some 16), none, .pick (.t 13) (.c (.bool true)) (.t 15)⟩, ⟨(some 2), none, .mv (.t 16)⟩])
 (.ret))⟩
theorem c281 : compF Go.Proofs.Tryz.prog 281 = some a281 := by kernel_rfl
end Go.Proofs.YtpifoghhaohhaaaGreatDoor
namespace Go.Proofs.YtpifoghhaohhaaaGreatDoor
open Go.RowKit
theorem below_c (x n : Int) (nid : Nat) (hn : n ≤ 9223372036854775807) : ACall Tryz.prog 110 [.int .i64 x, .int .i64 n] [] nid (.int .i64 (below x n)) [] := by
  refine acall_run c110 (by simp [a110]) ?_
  simp -dsimp only [a110, aqT, aqU, aqN, ↓seqK, ↓blkK, ↓loopK, step, stepBin, Nat.reduceBEq, Nat.reduceBeqDiff, Nat.add_assoc nid, Nat.reduceAdd, reduceCtorEq, ↓reduceIte, Nat.reduceLeDiff, Nat.reduceBneDiff, Option.toList, ← Int.ofNat_tmod, ← Int.ofNat_tdiv, Nat.reduceLT]
  refine S2.dec (fun h => ?_) (fun h => ?_)
  · simp -dsimp only [aqT, aqU, aqN, ↓seqK, ↓blkK, ↓loopK, step, stepBin, Nat.reduceBEq, Nat.reduceBeqDiff, Nat.add_assoc nid, Nat.reduceAdd, reduceCtorEq, ↓reduceIte, Nat.reduceLeDiff, Nat.reduceBneDiff, Option.toList, ← Int.ofNat_tmod, ← Int.ofNat_tdiv, Nat.reduceLT]
    refine RetOK.pure (.inl rfl) rfl ?_
    simp [retPV, PVCov, getS, below, h]
  simp -dsimp only [aqT, aqU, aqN, ↓seqK, ↓blkK, ↓loopK, step, stepBin, Nat.reduceBEq, Nat.reduceBeqDiff, Nat.add_assoc nid, Nat.reduceAdd, reduceCtorEq, ↓reduceIte, Nat.reduceLeDiff, Nat.reduceBneDiff, Option.toList, ← Int.ofNat_tmod, ← Int.ofNat_tdiv, Nat.reduceLT]
  refine ⟨by omega, S2.dec (fun h2 => ?_) (fun h2 => ?_)⟩
  · simp -dsimp only [aqT, aqU, aqN, ↓seqK, ↓blkK, ↓loopK, step, stepBin, Nat.reduceBEq, Nat.reduceBeqDiff, Nat.add_assoc nid, Nat.reduceAdd, reduceCtorEq, ↓reduceIte, Nat.reduceLeDiff, Nat.reduceBneDiff, Option.toList, ← Int.ofNat_tmod, ← Int.ofNat_tdiv, Nat.reduceLT]
    have := Int.lt_tmod_of_pos x (show 0 < n by omega)
    refine ⟨by unfold inI64; omega, RetOK.pure (.inl rfl) rfl ?_⟩
    have h3 : x.tmod n + n = x % n := by rw [Int.tmod_eq_emod]; split <;> rw [Int.tmod_eq_emod] at h2 <;> rename_i h6 <;> simp only [h6, if_true, if_false, not_false_eq_true] at h2 <;> have := Int.emod_nonneg x (show n ≠ 0 by omega) <;> omega
    simp [cvT, step, res, below, h, h3]
  · simp -dsimp only [aqT, aqU, aqN, ↓seqK, ↓blkK, ↓loopK, step, stepBin, Nat.reduceBEq, Nat.reduceBeqDiff, Nat.add_assoc nid, Nat.reduceAdd, reduceCtorEq, ↓reduceIte, Nat.reduceLeDiff, Nat.reduceBneDiff, Option.toList, ← Int.ofNat_tmod, ← Int.ofNat_tdiv, Nat.reduceLT]
    refine RetOK.pure (.inl rfl) rfl ?_
    have h3 : x.tmod n = x % n := by rw [Int.tmod_eq_emod]; split <;> rw [Int.tmod_eq_emod] at h2 <;> rename_i h6 <;> simp only [h6, if_true, if_false, not_false_eq_true] at h2 <;> have := Int.emod_lt_of_pos x (show 0 < n by omega) <;> omega
    simp [cvT, step, res, below, h, h3]
def strmC (nl : Bool) (A : List Int) (p : Nat) : Option ABlk := some (.box 25 [.lit nl A.length [.i .i64 fun i => A.getD i 0], .int .i64 p])
theorem strmC_low (n : Nat) (nl : Bool) (A : List Int) (p : Nat) : lowBlk n (strmC nl A p) = true := rfl
theorem next_c (s nid : Nat) (nl : Bool) (A : List Int) (p : Nat) (n : Int) (h : s < nid) (hp : p ≤ 1099511627775) (hA : A.length ≤ 17592186044416) (hn : n ≤ 9223372036854775807) :
    ACall Tryz.prog 35 [.ptr s 0, .int .i64 n] [(s, strmC nl A p)] nid (.int .i64 (nextV A p n)) [(s, strmC nl A (p + 1))] := by
  obtain ⟨e1, e2, e3, e4, e5, e6, e7, e8, e9⟩ := id_all h
  refine acall_run c35 (by simp [a35]) ?_
  simp -dsimp only [a35, strmC, aqT, aqU, aqN, ↓seqK, ↓blkK, ↓loopK, step, stepBin, Nat.reduceBEq, Nat.reduceBeqDiff, Nat.add_assoc nid, Nat.reduceAdd, reduceCtorEq, ↓reduceIte, Nat.reduceLeDiff, Nat.reduceBneDiff, Option.toList, ← Int.ofNat_tmod, ← Int.ofNat_tdiv, Nat.reduceLT, e1, e2, e3, e4, e5, e6, e7, e8, e9]
  refine ⟨by unfold inI64; omega, S2.intro (fun h2 => ?_) (fun h2 => ?_)⟩
  · simp -dsimp only [aqT, aqU, aqN, ↓seqK, ↓blkK, ↓loopK, step, stepBin, Nat.reduceBEq, Nat.reduceBeqDiff, Nat.add_assoc nid, Nat.reduceAdd, reduceCtorEq, ↓reduceIte, Nat.reduceLeDiff, Nat.reduceBneDiff, Option.toList, ← Int.ofNat_tmod, ← Int.ofNat_tdiv, Nat.reduceLT, e1, e2, e3, e4, e5, e6, e7, e8, e9]
    refine ⟨by unfold inI64; omega, CallO.pure (below_c _ _ _ hn) ?_⟩
    simp -dsimp only [aqT, aqU, aqN, ↓seqK, ↓blkK, ↓loopK, step, stepBin, Nat.reduceBEq, Nat.reduceBeqDiff, Nat.add_assoc nid, Nat.reduceAdd, reduceCtorEq, ↓reduceIte, Nat.reduceLeDiff, Nat.reduceBneDiff, Option.toList, ← Int.ofNat_tmod, ← Int.ofNat_tdiv, Nat.reduceLT, e1, e2, e3, e4, e5, e6, e7, e8, e9]
    have h3 : A.length = 0 := by simpa using h2
    refine RetOK.same (.inl rfl) rfl (by simp [strmC, liveIds]; omega) ?_ ?_
    · simp [cvT, step, res, strmC]
    · simp [cvT, step, res, nextV, h3]
  · simp -dsimp only [aqT, aqU, aqN, ↓seqK, ↓blkK, ↓loopK, step, stepBin, Nat.reduceBEq, Nat.reduceBeqDiff, Nat.add_assoc nid, Nat.reduceAdd, reduceCtorEq, ↓reduceIte, Nat.reduceLeDiff, Nat.reduceBneDiff, Option.toList, ← Int.ofNat_tmod, ← Int.ofNat_tdiv, Nat.reduceLT, e1, e2, e3, e4, e5, e6, e7, e8, e9]
    have h3 : 0 < A.length := by have : ¬ A.length = 0 := by simpa using h2
                                 omega
    have h4 : ∀ z : Nat, z ≤ 1099511627776 → IntKind.i64.wrap (z : Int) = z := fun z hz => IntWalk.i64_in _ (by omega)
    have h5 : p / A.length ≤ p := Nat.div_le_self _ _
    have h6 : p % A.length < A.length := Nat.mod_lt _ h3
    have h11 := h4 _ (show p / A.length ≤ 1099511627776 by omega)
    refine ⟨by unfold inI64; omega, by omega, by unfold inI64; omega, by omega, by omega, CallO.pure (below_c _ _ _ (by omega)) ?_⟩
    simp -dsimp only [aqT, aqU, aqN, ↓seqK, ↓blkK, ↓loopK, step, stepBin, Nat.reduceBEq, Nat.reduceBeqDiff, Nat.add_assoc nid, Nat.reduceAdd, reduceCtorEq, ↓reduceIte, Nat.reduceLeDiff, Nat.reduceBneDiff, Option.toList, ← Int.ofNat_tmod, ← Int.ofNat_tdiv, Nat.reduceLT, h11, e1, e2, e3, e4, e5, e6, e7, e8, e9]
    have h7 := round_bd p A.length h3 (by omega)
    have h8 := below_bd (A.getD (p % A.length) 0) (n := 1073741824) (by omega)
    rw [← Int.natCast_emod, ← Int.natCast_ediv] at h7
    generalize h9 : ((p / A.length : Nat) : Int) * (7919 + ((p % A.length : Nat) : Int)) = z at h7 ⊢
    refine ⟨by unfold inI64; omega, by unfold inI64; omega, by unfold inI64; omega, CallO.pure (below_c _ _ _ hn) ?_⟩
    simp -dsimp only [aqT, aqU, aqN, ↓seqK, ↓blkK, ↓loopK, step, stepBin, Nat.reduceBEq, Nat.reduceBeqDiff, Nat.add_assoc nid, Nat.reduceAdd, reduceCtorEq, ↓reduceIte, Nat.reduceLeDiff, Nat.reduceBneDiff, Option.toList, ← Int.ofNat_tmod, ← Int.ofNat_tdiv, Nat.reduceLT, e1, e2, e3, e4, e5, e6, e7, e8, e9]
    refine RetOK.same (.inl rfl) rfl (by simp [strmC, liveIds]; omega) ?_ ?_
    · simp [cvT, step, res, strmC]
    · have h10 : A.length ≠ 0 := by omega
      simp [cvT, step, res, nextV, h10, ← h9]
theorem range_c (s nid : Nat) (nl : Bool) (A : List Int) (p : Nat) (lo hi : Int) (h : s < nid) (hp : p ≤ 1099511627775) (hA : A.length ≤ 17592186044416) (h1 : lo ≤ hi) (hl : -1099511627776 ≤ lo) (hh : hi ≤ 1099511627776) :
    ACall Tryz.prog 31 [.ptr s 0, .int .i64 lo, .int .i64 hi] [(s, strmC nl A p)] nid (.int .i64 (rangeV A p lo hi)) [(s, strmC nl A (p + 1))] := by
  obtain ⟨e1, e2, e3, e4, e5, e6, e7, e8, e9⟩ := id_all h
  refine acall_run c31 (by simp [a31]) ?_
  simp -dsimp only [a31, aqT, aqU, aqN, ↓seqK, ↓blkK, ↓loopK, step, stepBin, Nat.reduceBEq, Nat.reduceBeqDiff, Nat.add_assoc nid, Nat.reduceAdd, reduceCtorEq, ↓reduceIte, Nat.reduceLeDiff, Nat.reduceBneDiff, Option.toList, ← Int.ofNat_tmod, ← Int.ofNat_tdiv, Nat.reduceLT, e1, e2, e3, e4, e5, e6, e7, e8, e9]
  refine S2.dec (fun h => absurd h (by omega)) (fun h => ?_)
  simp -dsimp only [aqT, aqU, aqN, ↓seqK, ↓blkK, ↓loopK, step, stepBin, Nat.reduceBEq, Nat.reduceBeqDiff, Nat.add_assoc nid, Nat.reduceAdd, reduceCtorEq, ↓reduceIte, Nat.reduceLeDiff, Nat.reduceBneDiff, Option.toList, ← Int.ofNat_tmod, ← Int.ofNat_tdiv, Nat.reduceLT, e1, e2, e3, e4, e5, e6, e7, e8, e9]
  refine ⟨by unfold inI64; omega, by unfold inI64; omega, CallO.on (next_c _ _ _ _ _ _ (by omega) hp hA (by omega)) (subH_hit _ _ _) ?_⟩
  simp -dsimp only [aqT, aqU, aqN, ↓seqK, ↓blkK, ↓loopK, step, stepBin, Nat.reduceBEq, Nat.reduceBeqDiff, Nat.add_assoc nid, Nat.reduceAdd, reduceCtorEq, ↓reduceIte, Nat.reduceLeDiff, Nat.reduceBneDiff, Option.toList, ← Int.ofNat_tmod, ← Int.ofNat_tdiv, Nat.reduceLT, e1, e2, e3, e4, e5, e6, e7, e8, e9]
  have := nextV_bd A p (n := hi - lo + 1) (by omega)
  refine ⟨by unfold inI64; omega, RetOK.same (.inl rfl) rfl (by simp [strmC, liveIds]; omega) ?_ ?_⟩
  · simp [cvT, step, res, strmC]
  · simp [cvT, step, res, rangeV]
theorem flip_c (s nid : Nat) (nl : Bool) (A : List Int) (p : Nat) (n : Int) (h : s < nid) (hp : p ≤ 1099511627775) (hA : A.length ≤ 17592186044416) (hn : n ≤ 9223372036854775807) :
    ACall Tryz.prog 44 [.ptr s 0, .int .i64 n] [(s, strmC nl A p)] nid (.bool (flipV A p n)) [(s, strmC nl A (p + 1))] := by
  obtain ⟨e1, e2, e3, e4, e5, e6, e7, e8, e9⟩ := id_all h
  refine acall_run c44 (by simp [a44]) ?_
  simp -dsimp only [a44, aqT, aqU, aqN, ↓seqK, ↓blkK, ↓loopK, step, stepBin, Nat.reduceBEq, Nat.reduceBeqDiff, Nat.add_assoc nid, Nat.reduceAdd, reduceCtorEq, ↓reduceIte, Nat.reduceLeDiff, Nat.reduceBneDiff, Option.toList, ← Int.ofNat_tmod, ← Int.ofNat_tdiv, Nat.reduceLT, e1, e2, e3, e4, e5, e6, e7, e8, e9]
  refine CallO.on (next_c _ _ _ _ _ _ (by omega) hp hA hn) (subH_hit _ _ _) ?_
  simp -dsimp only [aqT, aqU, aqN, ↓seqK, ↓blkK, ↓loopK, step, stepBin, Nat.reduceBEq, Nat.reduceBeqDiff, Nat.add_assoc nid, Nat.reduceAdd, reduceCtorEq, ↓reduceIte, Nat.reduceLeDiff, Nat.reduceBneDiff, Option.toList, ← Int.ofNat_tmod, ← Int.ofNat_tdiv, Nat.reduceLT, e1, e2, e3, e4, e5, e6, e7, e8, e9]
  refine RetOK.same (.inl rfl) rfl (by simp [strmC, liveIds]; omega) ?_ ?_
  · simp [cvT, step, res, strmC]
  · simp [cvT, step, res, flipV]
end Go.Proofs.YtpifoghhaohhaaaGreatDoor
namespace Go.Proofs.YtpifoghhaohhaaaGreatDoor
open Go.RowKit
theorem some_c (s nid : Nat) (nl nl' : Bool) (A : List Int) (p : Nat) (n : Nat) (g : Nat → List UInt8) (h : s < nid) (hp : p ≤ 1099511627775) (hA : A.length ≤ 17592186044416) (h1 : 0 < n) (hn : n ≤ 1099511627776) :
    ACall Tryz.prog 83 [.ptr s 0, .lit nl' n [.s g]] [(s, strmC nl A p)] nid (.str (g (pickI A p n))) [(s, strmC nl A (p + 1))] := by
  obtain ⟨e1, e2, e3, e4, e5, e6, e7, e8, e9⟩ := id_all h
  refine acall_run c83 (by simp [a83]) ?_
  simp -dsimp only [aqT, aqU, aqN, ↓seqK, ↓blkK, ↓loopK, step, stepBin, Nat.reduceBEq, Nat.reduceBeqDiff, Nat.add_assoc nid, Nat.reduceAdd, reduceCtorEq, ↓reduceIte, Nat.reduceLeDiff, Nat.reduceBneDiff, Option.toList, ← Int.ofNat_tmod, ← Int.ofNat_tdiv, Nat.reduceLT, e1, e2, e3, e4, e5, e6, e7, e8, e9, a83]
  refine CallO.on (next_c _ _ _ _ _ _ (by omega) hp hA (by omega)) (subH_hit _ _ _) ?_
  simp -dsimp only [aqT, aqU, aqN, ↓seqK, ↓blkK, ↓loopK, step, stepBin, Nat.reduceBEq, Nat.reduceBeqDiff, Nat.add_assoc nid, Nat.reduceAdd, reduceCtorEq, ↓reduceIte, Nat.reduceLeDiff, Nat.reduceBneDiff, Option.toList, ← Int.ofNat_tmod, ← Int.ofNat_tdiv, Nat.reduceLT, e1, e2, e3, e4, e5, e6, e7, e8, e9]
  have := nextV_bd A p (n := (n : Int)) (by omega)
  refine ⟨this, RetOK.same (.inl rfl) rfl (by simp [strmC, liveIds]; omega) ?_ ?_⟩
  · simp [cvT, step, res, strmC]
  · simp [cvT, step, res, pickI]
theorem CallX.some_go {s id nid : Nat} {nl : Bool} {A : List Int} {p : Nat} {n T : Nat} {g : Nat → List UInt8} {H : Heap} {K : PV → Heap → List Nat → Prop} (hs : getH H s = strmC nl A p) (hid : getH H id = some (.arr T n [.s g])) (hne : (s == id) = false) (h : s < nid) (hp : p ≤ 1099511627775) (hA : A.length ≤ 17592186044416) (h1 : 0 < n) (hn : n ≤ 1099511627776)
    (hK : K (.str (g (pickI A p n))) [(s, strmC nl A (p + 1)), (id, none)] [s, id]) : CallX Tryz.prog 83 [.ptr s 0, .sl id 0 n] H nid K := by
  refine CallX.given [id] (u := [(s, strmC nl A (p + 1))]) (fun nl' => ?_) (subH_get hs) (by simp [getH, hne]) hK
  have e : lends H [id] nl' [.ptr s 0, .sl id 0 n] = [.ptr s 0, .lit (nl' id) n [.s g]] := by simp [lends, lend, hid, noOs]
  rw [e]
  exact some_c s _ nl _ A p n _ h hp hA h1 hn
theorem CallO.some_go {s id nid : Nat} {nl : Bool} {A : List Int} {p : Nat} {n T : Nat} {g : Nat → List UInt8} {H : Heap} {K : PV → Heap → Prop} (hs : getH H s = strmC nl A p) (hid : getH H id = some (.arr T n [.s g])) (hne : (s == id) = false) (h : s < nid) (hp : p ≤ 1099511627775) (hA : A.length ≤ 17592186044416) (h1 : 0 < n) (hn : n ≤ 1099511627776)
    (hK : K (.str (g (pickI A p n))) [(s, strmC nl A (p + 1)), (id, none)]) : CallOK Tryz.prog 83 [.ptr s 0, .sl id 0 n] H nid K :=
  CallO.x (CallX.some_go hs hid hne h hp hA h1 hn hK)
theorem getD_all {α : Type} {P : α → Prop} {l : List α} {d : α} (h : ∀ x ∈ l, P x) {i : Nat} (hi : i < l.length) : P (l.getD i d) := by
  rw [List.getD_eq_getElem?_getD, List.getElem?_eq_getElem hi]
  exact h _ (List.getElem_mem _)
end Go.Proofs.YtpifoghhaohhaaaGreatDoor
namespace Go.Proofs.YtpifoghhaohhaaaGreatDoor
open Go.RowKit
def arrS (l : List (List UInt8)) : Option ABlk := some (.arr 9 l.length [.s fun i => l.getD i []])
theorem getD_app1 (l : List (List UInt8)) (x : List UInt8) {n : Nat} (hn : l.length = n) : (fun i => if i < n then l.getD i [] else [x].getD (i - n) []) = fun i => (l ++ [x]).getD i [] := by
  subst hn
  funext i
  simp only [List.getD_eq_getElem?_getD, List.getElem?_append]
  split <;> rfl
theorem getD_setS (l : List (List UInt8)) (x : List UInt8) {I : Nat} (hI : I < l.length) : (fun j => if j = I then x else l.getD j []) = fun j => (l.set I x).getD j [] := by
  funext j
  simp only [List.getD_eq_getElem?_getD, List.getElem?_set]
  by_cases h : j = I
  · subst h; simp [hI]
  · rw [if_neg h, if_neg (fun e => h e.symm)]
def ShortRows (m : Nat) (l : List (List UInt8)) : Prop := ∀ r ∈ l, r.length ≤ m
theorem ShortRows.at {m : Nat} {l : List (List UInt8)} (h : ShortRows m l) (i : Nat) : (l.getD i []).length ≤ m := by
  rw [List.getD_eq_getElem?_getD]
  cases hg : l[i]? with
  | none => simp
  | some x => exact h x (List.mem_of_getElem? hg)
theorem ShortRows.set {m : Nat} {l : List (List UInt8)} (h : ShortRows m l) (i : Nat) {x : List UInt8} (hx : x.length ≤ m) : ShortRows m (l.set i x) := fun r hr => by
  rcases List.mem_or_eq_of_mem_set hr with h1 | h1
  · exact h r h1
  · rw [h1]; exact hx
theorem ShortRows.snoc {m : Nat} {l : List (List UInt8)} (h : ShortRows m l) {x : List UInt8} (hx : x.length ≤ m) : ShortRows m (l ++ [x]) := fun r hr => by
  rcases List.mem_append.1 hr with h1 | h1
  · exact h r h1
  · rw [List.mem_singleton.1 h1]; exact hx
theorem ShortRows.mono {m n : Nat} {l : List (List UInt8)} (h : ShortRows m l) (hn : m ≤ n) : ShortRows n l := fun r hr => Nat.le_trans (h r hr) hn
def litS (nl : Bool) (l : List (List UInt8)) : PV := .lit nl l.length [.s fun i => l.getD i []]
theorem take_eqL {l m : List (List UInt8)} {k : Nat} (hl : k < l.length) (hm : k < m.length) (h : l.take k = m.take k) (hx : l.getD k [] = m.getD k []) : l.take (k + 1) = m.take (k + 1) := by
  rw [take_snoc (x := l.getD k []) (by rw [List.getD_eq_getElem?_getD, List.getElem?_eq_getElem hl]; rfl), take_snoc (x := m.getD k []) (by rw [List.getD_eq_getElem?_getD, List.getElem?_eq_getElem hm]; rfl), h, hx]
theorem equalS_c (nl nl' : Bool) (l m : List (List UInt8)) (nid : Nat) (hl : l.length ≤ 1000000000000) (hm : m.length ≤ 1000000000000) : ACall Tryz.prog 28 [litS nl l, litS nl' m] [] nid (.bool (l == m)) [] := by
  refine acall_run c28 (by simp [a28]) ?_
  unfold litS
  simp -dsimp only [aqT, aqU, aqN, ↓seqK, ↓blkK, ↓loopK, step, stepBin, Nat.reduceBEq, Nat.reduceBeqDiff, Nat.add_assoc nid, Nat.reduceAdd, reduceCtorEq, ↓reduceIte, Nat.reduceLeDiff, Nat.reduceBneDiff, Option.toList, ← Int.ofNat_tmod, ← Int.ofNat_tdiv, Nat.reduceLT, a28]
  refine S2.intro (fun h => ?_) (fun h => ?_) <;> simp -dsimp only [aqT, aqU, aqN, ↓seqK, ↓blkK, ↓loopK, step, stepBin, Nat.reduceBEq, Nat.reduceBeqDiff, Nat.add_assoc nid, Nat.reduceAdd, reduceCtorEq, ↓reduceIte, Nat.reduceLeDiff, Nat.reduceBneDiff, Option.toList, ← Int.ofNat_tmod, ← Int.ofNat_tdiv, Nat.reduceLT]
  · refine RetOK.pure (.inl rfl) rfl ?_
    have h1 : l ≠ m := fun e => by subst e; simp at h
    have h2 : (l == m) = false := by simpa using h1
    simp [cvT, step, res, h1]
  have hlm : l.length = m.length := by have : (l.length : Int) = m.length := by simpa using h
                                       omega
  refine LP.mkP (fun k : Nat => k ≤ l.length ∧ l.take k = m.take k) (fun k : Nat => ⟨[(13, .int .i64 k), (12, .int .i64 l.length), (0, litS nl l), (1, litS nl' m)], [], nid + 36, nid⟩) (fun k => l.length + 1 - k) 0 ⟨by omega, rfl⟩ (Cov.go [] [] ?_) (fun k hk => ?_)
  · simp [cvT, step, res, litS]
  unfold litS
  obtain ⟨hk, ht⟩ := hk
  simp -dsimp only [aqT, aqU, aqN, ↓seqK, ↓blkK, ↓loopK, step, stepBin, Nat.reduceBEq, Nat.reduceBeqDiff, Nat.add_assoc nid, Nat.reduceAdd, reduceCtorEq, ↓reduceIte, Nat.reduceLeDiff, Nat.reduceBneDiff, Option.toList, ← Int.ofNat_tmod, ← Int.ofNat_tdiv, Nat.reduceLT]
  refine S2.dec (fun h3 => ?_) (fun h3 => ?_) <;> simp -dsimp only [aqT, aqU, aqN, ↓seqK, ↓blkK, ↓loopK, step, stepBin, Nat.reduceBEq, Nat.reduceBeqDiff, Nat.add_assoc nid, Nat.reduceAdd, reduceCtorEq, ↓reduceIte, Nat.reduceLeDiff, Nat.reduceBneDiff, Option.toList, ← Int.ofNat_tmod, ← Int.ofNat_tdiv, Nat.reduceLT]
  · refine ⟨by omega, by omega, S2.intro (fun h4 => ?_) (fun h4 => ?_)⟩ <;> simp -dsimp only [aqT, aqU, aqN, ↓seqK, ↓blkK, ↓loopK, step, stepBin, Nat.reduceBEq, Nat.reduceBeqDiff, Nat.add_assoc nid, Nat.reduceAdd, reduceCtorEq, ↓reduceIte, Nat.reduceLeDiff, Nat.reduceBneDiff, Option.toList, ← Int.ofNat_tmod, ← Int.ofNat_tdiv, Nat.reduceLT]
    · refine RetOK.pure (.inl rfl) rfl ?_
      have h1 : l ≠ m := fun e => by subst e; simp at h4
      simp [cvT, step, res, h1]
    · have h5 : l.getD k [] = m.getD k [] := by simpa only [Bool.not_eq_false', beq_iff_eq] using h4
      refine ⟨by unfold inI64; omega, k + 1, ⟨⟨by omega, take_eqL (by omega) (by omega) ht h5⟩, by omega⟩, Cov.go [] [] ?_⟩
      simp [cvT, step, res, litS]
  · have hkl : k = l.length := by omega
    have h1 : l = m := by rw [hkl] at ht; rw [List.take_length, hlm, List.take_length] at ht; exact ht
    refine RetOK.pure (.inl rfl) rfl ?_
    simp [cvT, step, res, h1]
end Go.Proofs.YtpifoghhaohhaaaGreatDoor
namespace Go.Proofs
open Go.Shelf
def Tryz.lays160_ren : Go.Shelf.Ren := ⟨fun | 160 => 180 | 232 => 231 | 231 => 230 | 227 => 232 | 234 => 234 | 233 => 233 | 236 => 236 | 235 => 235 | 228 => 275 | 271 => 278 | 151 => 277 | 197 => 276 | 120 => 299 | 152 => 298 | 260 => 297 | 137 => 181 | 119 => 307 | 224 => 302 | 225 => 301 | 217 => 237 | 266 => 279 | n => n, fun | 9 => 9 | 4 => 4 | 3 => 3 | 5 => 5 | 117 => 247 | 116 => 246 | 0 => 0 | 124 => 250 | 21 => 21 | 105 => 281 | 46 => 163 | 119 => 299 | 139 => 302 | 138 => 301 | n => n, fun | 3 => 2 | 4 => 3 | n => n⟩
theorem Tryz.lays160 : Go.Proofs.Lays.n160 Tryz.prog Tryz.lays160_ren := {
  mixed := by kernel_rfl
  f119 := Tryz.func307.trans (congrArg some (by kernel_rfl))
  f120 := Tryz.func299.trans (congrArg some (by kernel_rfl))
  f137 := Tryz.func181.trans (congrArg some (by kernel_rfl))
  f151 := Tryz.func277.trans (congrArg some (by kernel_rfl))
  f152 := Tryz.func298.trans (congrArg some (by kernel_rfl))
  f160 := Tryz.func180.trans (congrArg some (by kernel_rfl))
  f197 := Tryz.func276.trans (congrArg some (by kernel_rfl))
  f217 := Tryz.func237.trans (congrArg some (by kernel_rfl))
  f224 := Tryz.func302.trans (congrArg some (by kernel_rfl))
  f225 := Tryz.func301.trans (congrArg some (by kernel_rfl))
  f227 := Tryz.func232.trans (congrArg some (by kernel_rfl))
  f228 := Tryz.func275.trans (congrArg some (by kernel_rfl))
  f231 := Tryz.func230.trans (congrArg some (by kernel_rfl))
  f232 := Tryz.func231.trans (congrArg some (by kernel_rfl))
  f233 := Tryz.func233.trans (congrArg some (by kernel_rfl))
  f234 := Tryz.func234.trans (congrArg some (by kernel_rfl))
  f235 := Tryz.func235.trans (congrArg some (by kernel_rfl))
  f236 := Tryz.func236.trans (congrArg some (by kernel_rfl))
  f260 := Tryz.func297.trans (congrArg some (by kernel_rfl))
  f266 := Tryz.func279.trans (congrArg some (by kernel_rfl))
  f271 := Tryz.func278.trans (congrArg some (by kernel_rfl))
  t0 := Tryz.underlying0
  a0 := Tryz.isAgg0
  z0 := Tryz.sizeOf0
  v0 := Tryz.zeroValue0
  t3 := Tryz.underlying3
  a3 := Tryz.isAgg3
  z3 := Tryz.sizeOf3
  v3 := Tryz.zeroValue3
  t4 := Tryz.underlying4
  a4 := Tryz.isAgg4
  z4 := Tryz.sizeOf4
  v4 := Tryz.zeroValue4
  t5 := Tryz.underlying5
  a5 := Tryz.isAgg5
  z5 := Tryz.sizeOf5
  v5 := Tryz.zeroValue5
  t9 := Tryz.underlying9
  a9 := Tryz.isAgg9
  z9 := Tryz.sizeOf9
  v9 := Tryz.zeroValue9
  t21 := Tryz.underlying21
  a21 := Tryz.isAgg21
  z21 := Tryz.sizeOf21
  v21 := Tryz.zeroValue21
  t46 := Tryz.underlying163
  a46 := Tryz.isAgg163
  z46 := Tryz.sizeOf163
  v46 := Tryz.zeroValue163
  t105 := Tryz.underlying281
  a105 := Tryz.isAgg281
  z105 := Tryz.sizeOf281
  v105 := Tryz.zeroValue281
  t116 := Tryz.underlying246
  a116 := Tryz.isAgg246
  z116 := Tryz.sizeOf246
  t117 := Tryz.underlying247
  a117 := Tryz.isAgg247
  z117 := Tryz.sizeOf247
  v117 := Tryz.zeroValue247
  t119 := Tryz.underlying299
  a119 := Tryz.isAgg299
  z119 := Tryz.sizeOf299
  t124 := Tryz.underlying250
  a124 := Tryz.isAgg250
  z124 := Tryz.sizeOf250
  v124 := Tryz.zeroValue250
  t138 := Tryz.underlying301
  a138 := Tryz.isAgg301
  z138 := Tryz.sizeOf301
  v138 := Tryz.zeroValue301
  t139 := Tryz.underlying302
  a139 := Tryz.isAgg302
  z139 := Tryz.sizeOf302
  v139 := Tryz.zeroValue302
  g3 := by kernel_rfl
  g4 := by kernel_rfl }
def Tryz.lays105_ren : Go.Shelf.Ren := ⟨fun | 105 => 177 | 212 => 227 | 99 => 228 | 165 => 219 | 166 => 159 | 170 => 161 | 169 => 162 | 263 => 272 | 264 => 273 | 206 => 274 | 240 => 218 | 241 => 251 | 276 => 250 | 277 => 282 | n => n, fun | 9 => 9 | 3 => 3 | 4 => 4 | 20 => 20 | 0 => 0 | 46 => 163 | 109 => 240 | 5 => 5 | 72 => 186 | 76 => 189 | 51 => 223 | 146 => 277 | 53 => 146 | 148 => 279 | 70 => 183 | 37 => 184 | 75 => 188 | 127 => 232 | 164 => 261 | 80 => 32 | n => n, fun | n => n⟩
theorem Tryz.lays105 : Go.Proofs.Lays.n105 Tryz.prog Tryz.lays105_ren := {
  mixed := by kernel_rfl
  f99 := Tryz.func228.trans (congrArg some (by kernel_rfl))
  f105 := Tryz.func177.trans (congrArg some (by kernel_rfl))
  f165 := Tryz.func219.trans (congrArg some (by kernel_rfl))
  f166 := Tryz.func159.trans (congrArg some (by kernel_rfl))
  f169 := Tryz.func162.trans (congrArg some (by kernel_rfl))
  f170 := Tryz.func161.trans (congrArg some (by kernel_rfl))
  f206 := Tryz.func274.trans (congrArg some (by kernel_rfl))
  f212 := Tryz.func227.trans (congrArg some (by kernel_rfl))
  f240 := Tryz.func218.trans (congrArg some (by kernel_rfl))
  f241 := Tryz.func251.trans (congrArg some (by kernel_rfl))
  f263 := Tryz.func272.trans (congrArg some (by kernel_rfl))
  f264 := Tryz.func273.trans (congrArg some (by kernel_rfl))
  f276 := Tryz.func250.trans (congrArg some (by kernel_rfl))
  f277 := Tryz.func282.trans (congrArg some (by kernel_rfl))
  t0 := Tryz.underlying0
  a0 := Tryz.isAgg0
  z0 := Tryz.sizeOf0
  v0 := Tryz.zeroValue0
  t3 := Tryz.underlying3
  a3 := Tryz.isAgg3
  z3 := Tryz.sizeOf3
  v3 := Tryz.zeroValue3
  t4 := Tryz.underlying4
  a4 := Tryz.isAgg4
  z4 := Tryz.sizeOf4
  v4 := Tryz.zeroValue4
  t5 := Tryz.underlying5
  a5 := Tryz.isAgg5
  z5 := Tryz.sizeOf5
  v5 := Tryz.zeroValue5
  t9 := Tryz.underlying9
  a9 := Tryz.isAgg9
  z9 := Tryz.sizeOf9
  v9 := Tryz.zeroValue9
  t20 := Tryz.underlying20
  a20 := Tryz.isAgg20
  z20 := Tryz.sizeOf20
  v20 := Tryz.zeroValue20
  t37 := Tryz.underlying184
  a37 := Tryz.isAgg184
  z37 := Tryz.sizeOf184
  v37 := Tryz.zeroValue184
  t46 := Tryz.underlying163
  a46 := Tryz.isAgg163
  z46 := Tryz.sizeOf163
  v46 := Tryz.zeroValue163
  t51 := Tryz.underlying223
  a51 := Tryz.isAgg223
  z51 := Tryz.sizeOf223
  v51 := Tryz.zeroValue223
  t53 := Tryz.underlying146
  a53 := Tryz.isAgg146
  z53 := Tryz.sizeOf146
  v53 := Tryz.zeroValue146
  t70 := Tryz.underlying183
  a70 := Tryz.isAgg183
  z70 := Tryz.sizeOf183
  v70 := Tryz.zeroValue183
  t72 := Tryz.underlying186
  a72 := Tryz.isAgg186
  z72 := Tryz.sizeOf186
  v72 := Tryz.zeroValue186
  t75 := Tryz.underlying188
  a75 := Tryz.isAgg188
  z75 := Tryz.sizeOf188
  v75 := Tryz.zeroValue188
  t76 := Tryz.underlying189
  a76 := Tryz.isAgg189
  z76 := Tryz.sizeOf189
  v76 := Tryz.zeroValue189
  t109 := Tryz.underlying240
  a109 := Tryz.isAgg240
  z109 := Tryz.sizeOf240
  v109 := Tryz.zeroValue240
  t127 := Tryz.underlying232
  a127 := Tryz.isAgg232
  z127 := Tryz.sizeOf232
  v127 := Tryz.zeroValue232
  t146 := Tryz.underlying277
  a146 := Tryz.isAgg277
  z146 := Tryz.sizeOf277
  v146 := Tryz.zeroValue277
  t148 := Tryz.underlying279
  a148 := Tryz.isAgg279
  z148 := Tryz.sizeOf279
  v148 := Tryz.zeroValue279
  t164 := Tryz.underlying261
  a164 := Tryz.isAgg261
  z164 := Tryz.sizeOf261
  v164 := Tryz.zeroValue261 }
def Tryz.lays171_ren : Go.Shelf.Ren := ⟨fun | 171 => 84 | 243 => 176 | 246 => 226 | 283 => 268 | 284 => 269 | 285 => 270 | 286 => 271 | 129 => 267 | 317 => 293 | 318 => 294 | 319 => 295 | 320 => 296 | 337 => 305 | 338 => 306 | n => n, fun | 3 => 3 | 9 => 9 | 2 => 2 | 4 => 4 | 171 => 273 | 0 => 0 | 53 => 146 | 37 => 184 | 5 => 5 | 173 => 275 | 212 => 294 | 51 => 223 | 20 => 20 | 213 => 295 | 46 => 163 | 232 => 305 | 233 => 306 | n => n, fun | 17 => 0 | 18 => 4 | 19 => 5 | n => n⟩
theorem Tryz.lays171 : Go.Proofs.Lays.n171 Tryz.prog Tryz.lays171_ren := {
  mixed := by kernel_rfl
  f129 := Tryz.func267.trans (congrArg some (by kernel_rfl))
  f171 := Tryz.func84.trans (congrArg some (by kernel_rfl))
  f243 := Tryz.func176.trans (congrArg some (by kernel_rfl))
  f246 := Tryz.func226.trans (congrArg some (by kernel_rfl))
  f283 := Tryz.func268.trans (congrArg some (by kernel_rfl))
  f284 := Tryz.func269.trans (congrArg some (by kernel_rfl))
  f285 := Tryz.func270.trans (congrArg some (by kernel_rfl))
  f286 := Tryz.func271.trans (congrArg some (by kernel_rfl))
  f317 := Tryz.func293.trans (congrArg some (by kernel_rfl))
  f318 := Tryz.func294.trans (congrArg some (by kernel_rfl))
  f319 := Tryz.func295.trans (congrArg some (by kernel_rfl))
  f320 := Tryz.func296.trans (congrArg some (by kernel_rfl))
  f337 := Tryz.func305.trans (congrArg some (by kernel_rfl))
  f338 := Tryz.func306.trans (congrArg some (by kernel_rfl))
  t0 := Tryz.underlying0
  a0 := Tryz.isAgg0
  z0 := Tryz.sizeOf0
  v0 := Tryz.zeroValue0
  t2 := Tryz.underlying2
  a2 := Tryz.isAgg2
  z2 := Tryz.sizeOf2
  v2 := Tryz.zeroValue2
  t3 := Tryz.underlying3
  a3 := Tryz.isAgg3
  z3 := Tryz.sizeOf3
  v3 := Tryz.zeroValue3
  t4 := Tryz.underlying4
  a4 := Tryz.isAgg4
  z4 := Tryz.sizeOf4
  v4 := Tryz.zeroValue4
  t5 := Tryz.underlying5
  a5 := Tryz.isAgg5
  z5 := Tryz.sizeOf5
  v5 := Tryz.zeroValue5
  t9 := Tryz.underlying9
  a9 := Tryz.isAgg9
  z9 := Tryz.sizeOf9
  v9 := Tryz.zeroValue9
  t20 := Tryz.underlying20
  a20 := Tryz.isAgg20
  z20 := Tryz.sizeOf20
  v20 := Tryz.zeroValue20
  t37 := Tryz.underlying184
  a37 := Tryz.isAgg184
  z37 := Tryz.sizeOf184
  v37 := Tryz.zeroValue184
  t46 := Tryz.underlying163
  a46 := Tryz.isAgg163
  z46 := Tryz.sizeOf163
  v46 := Tryz.zeroValue163
  t51 := Tryz.underlying223
  a51 := Tryz.isAgg223
  z51 := Tryz.sizeOf223
  v51 := Tryz.zeroValue223
  t53 := Tryz.underlying146
  a53 := Tryz.isAgg146
  z53 := Tryz.sizeOf146
  v53 := Tryz.zeroValue146
  t171 := Tryz.underlying273
  a171 := Tryz.isAgg273
  z171 := Tryz.sizeOf273
  v171 := Tryz.zeroValue273
  t173 := Tryz.underlying275
  a173 := Tryz.isAgg275
  z173 := Tryz.sizeOf275
  v173 := Tryz.zeroValue275
  t212 := Tryz.underlying294
  a212 := Tryz.isAgg294
  z212 := Tryz.sizeOf294
  v212 := Tryz.zeroValue294
  t213 := Tryz.underlying295
  a213 := Tryz.isAgg295
  z213 := Tryz.sizeOf295
  t232 := Tryz.underlying305
  a232 := Tryz.isAgg305
  z232 := Tryz.sizeOf305
  v232 := Tryz.zeroValue305
  t233 := Tryz.underlying306
  a233 := Tryz.isAgg306
  z233 := Tryz.sizeOf306
  v233 := Tryz.zeroValue306
  g17 := by kernel_rfl
  g18 := by kernel_rfl
  g19 := by kernel_rfl }
end Go.Proofs
namespace Go.Proofs.YtpifoghhaohhaaaGreatDoor
open Go.RowKit Go.Shelf Go.Lib
theorem extra105 : Builder.Extra Tryz.prog Tryz.lays105_ren where
  sizeBuilder := by kernel_rfl
  liesBuilder := by kernel_rfl
  t5 := Tryz.lays105.t5
  a5 := Tryz.lays105.a5
  z5 := Tryz.lays105.z5
  v5 := Tryz.lays105.v5
  infoByte := by kernel_rfl
  cellsByte := by kernel_rfl
  sizeByte := by kernel_rfl
  neB5 := by decide
theorem repeat_cc (s : List UInt8) (c : Nat) (nid : Nat) (hc : c ≤ 9223372036854775807) (hlen : s.length * c ≤ 140737488355328) : ACall Tryz.prog 177 [.str s, .int .i64 c] [] nid (.str (Lib.repeatL s c)) [] :=
  acall_below (us := [.string ⟨s.toArray⟩, .int .i64 c]) nid Tryz.func177 (by kernel_rfl) (by kernel_rfl) rfl rfl (fun w => by
    have h := Any.strings_Repeat Tryz.lays105 extra105 ⟨s.toArray⟩ c w hc (by simpa [ByteArray.size] using hlen)
    have hf : Tryz.lays105_ren.f 105 = 177 := by kernel_rfl
    rw [hf] at h
    simpa using h)
theorem trim_cc (s cs : List UInt8) (nid : Nat) (hs : s.length ≤ 9223372036854775807) (hcs : cs.length < 4294967281) (ha : cs.all (fun b => decide (b.toNat < 128)) = true) : ACall Tryz.prog 180 [.str s, .str cs] [] nid (.str (Lib.trimS s cs)) [] :=
  acall_below (us := [.string ⟨s.toArray⟩, .string ⟨cs.toArray⟩]) nid Tryz.func180 (by kernel_rfl) (by kernel_rfl) rfl rfl (fun w => by
    have h := Any.strings_Trim_laid Tryz.lays160 (by kernel_rfl) ⟨s.toArray⟩ ⟨cs.toArray⟩ w (by simpa [ByteArray.size] using hs) (by simpa [ByteArray.size] using hcs) (ascii_of_all (by simpa using ha))
    have hf : Tryz.lays160_ren.f 160 = 180 := by kernel_rfl
    rw [hf] at h
    simpa using h)
end Go.Proofs.YtpifoghhaohhaaaGreatDoor
