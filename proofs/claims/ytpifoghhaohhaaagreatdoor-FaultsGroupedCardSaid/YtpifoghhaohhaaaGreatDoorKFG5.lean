/-
  The functions' forms for the abstract machine, each checked against the program's form.
-/
import Derived.Test.YtpifoghhaohhaaaGreatDoorKFG4
import Derived.Test.YtpifoghhaohhaaaGreatDoorKFG1
import Derived.Test.YtpifoghhaohhaaaGreatDoorProg
import Derived.Test.YtpifoghhaohhaaaGreatDoorKFG3
import Derived.Ground.NamesProg
import Derived.Shelf.Strings.SlTrimAscii
import Derived.Shelf.Strings.Repeat
import Derived.Shelf.Strconv.Itoa3
import Derived.Shelf.Strings.Split
import Derived.Shelf.Strings.Cut
import Derived.Shelf.Strings.OnBuilder
import Derived.Shelf.Sort.Plain
import Derived.WalkKit
import Derived.Lib.Agree
set_option linter.unusedVariables false
set_option linter.unusedSimpArgs false
set_option maxRecDepth 100000
namespace Go.Proofs.YtpifoghhaohhaaaGreatDoor
def a3 : AFn := ⟨182, [.t 2], .seq (.ops [⟨(some 2), none, .mv (.c (.bool false))⟩])
 (.seq (.ops [⟨(some 26), none, .mv (.t 0)⟩, ⟨(some 27), none, .build [(.lit true 0 []), (.int .i64 0)] [(0, 1, (.t 26))]⟩, ⟨(some 28), none, .box 25 (.t 27)⟩, ⟨(some 3), none, .mv (.t 28)⟩])
 (.seq (.ops [⟨(some 29), none, .mv (.t 3)⟩, ⟨(some 30), none, .call 14 [(.t 29), (.c (.int .i64 7)), (.c (.int .i64 4))]⟩, ⟨(some 4), none, .alloc 29 [(.lit true 0 []), (.lit true 0 [])]⟩, ⟨none, none, .store 2 (.t 4) (.t 30)⟩])
 (.seq (.ops [⟨(some 31), none, .mv (.t 3)⟩, ⟨(some 32), none, .load (some 2) (.t 4)⟩, ⟨(some 33), none, .call 15 [(.t 31), (.t 32)]⟩, ⟨(some 34), none, .mv (.t 3)⟩, ⟨(some 35), none, .call 16 [(.t 34)]⟩, ⟨(some 36), none, .mv (.t 3)⟩, ⟨(some 37), none, .call 16 [(.t 36)]⟩, ⟨(some 5), none, .mv (.t 33)⟩, ⟨(some 6), none, .mv (.t 35)⟩, ⟨(some 7), none, .mv (.t 37)⟩])
 (.seq (.ops [⟨(some 38), none, .load (some 2) (.t 4)⟩, ⟨(some 39), none, .call 17 [(.t 38)]⟩, ⟨(some 8), none, .mv (.t 39)⟩])
 (.seq (.ops [⟨(some 41), none, .load (some 2) (.t 4)⟩, ⟨(some 42), none, .mv (.t 5)⟩, ⟨(some 43), none, .call 18 [(.t 41), (.t 42)]⟩, ⟨(some 40), none, .mv (.t 43)⟩, ⟨(some 44), none, .ext (.t 40) 0⟩, ⟨(some 45), none, .ext (.t 40) 1⟩, ⟨(some 46), none, .ext (.t 40) 2⟩, ⟨(some 9), none, .mv (.t 44)⟩, ⟨(some 10), none, .mv (.t 45)⟩, ⟨(some 11), none, .mv (.t 46)⟩])
 (.seq (.ops [⟨(some 48), none, .load (some 2) (.t 4)⟩, ⟨(some 49), none, .mv (.t 5)⟩, ⟨(some 50), none, .call 19 [(.t 48), (.t 49)]⟩, ⟨(some 47), none, .mv (.t 50)⟩, ⟨(some 51), none, .ext (.t 47) 0⟩, ⟨(some 52), none, .ext (.t 47) 1⟩, ⟨(some 12), none, .mv (.t 51)⟩, ⟨(some 13), none, .mv (.t 52)⟩])
 (.seq (.ops [⟨(some 54), none, .load (some 2) (.t 4)⟩, ⟨(some 55), none, .mv (.t 5)⟩, ⟨(some 56), none, .call 20 [(.t 54), (.t 55)]⟩, ⟨(some 53), none, .mv (.t 56)⟩, ⟨(some 57), none, .ext (.t 53) 0⟩, ⟨(some 58), none, .ext (.t 53) 1⟩, ⟨(some 59), none, .ext (.t 53) 2⟩, ⟨(some 14), none, .alloc 41 [(.int .i64 0), (.int .i64 0)]⟩, ⟨none, none, .store 2 (.t 14) (.t 57)⟩, ⟨(some 15), none, .mv (.t 58)⟩, ⟨(some 16), none, .mv (.t 59)⟩])
 (.seq (.ops [⟨(some 61), none, .load (some 2) (.t 4)⟩, ⟨(some 62), none, .mv (.t 6)⟩, ⟨(some 63), none, .mv (.t 7)⟩, ⟨(some 64), none, .call 21 [(.t 61), (.t 62), (.t 63)]⟩, ⟨(some 60), none, .mv (.t 64)⟩, ⟨(some 65), none, .ext (.t 60) 0⟩, ⟨(some 66), none, .ext (.t 60) 1⟩, ⟨(some 17), none, .mv (.t 65)⟩, ⟨(some 18), none, .mv (.t 66)⟩])
 (.seq (.ops [⟨(some 67), none, .mv (.t 8)⟩, ⟨(some 19), none, .mv (.t 67)⟩])
 (.seq (.ops [⟨(some 20), none, .mv (.c (.lit true 0 []))⟩])
 (.seq (.seq (.ops [⟨(some 68), none, .mv (.t 19)⟩, ⟨(some 69), none, .bin 0 .eql (.t 68) (.c (.int .i64 0))⟩])
 (.cond (.t 69) (.ops [⟨(some 71), none, .load (some 2) (.t 4)⟩, ⟨(some 72), none, .mv (.t 6)⟩, ⟨(some 73), none, .mv (.t 7)⟩, ⟨(some 74), none, .call 22 [(.t 71), (.t 72), (.t 73)]⟩, ⟨(some 70), none, .mv (.t 74)⟩, ⟨(some 75), none, .ext (.t 70) 0⟩, ⟨(some 76), none, .ext (.t 70) 1⟩, ⟨(some 20), none, .mv (.t 75)⟩, ⟨(some 19), none, .mv (.t 76)⟩]) (.skip)))
 (.seq (.seq (.ops [⟨(some 77), none, .mv (.t 18)⟩, ⟨(some 78), none, .mv (.t 19)⟩, ⟨(some 79), none, .bin 0 .neq (.t 77) (.t 78)⟩, ⟨(some 80), none, .mv (.t 79)⟩, ⟨(some 81), (some (80, false)), .mv (.t 17)⟩, ⟨(some 82), (some (80, false)), .mv (.t 20)⟩, ⟨(some 83), (some (80, false)), .call 23 [(.t 81), (.t 82)]⟩, ⟨(some 84), (some (80, false)), .un .not (.t 83)⟩, ⟨(some 85), none, .pick (.t 80) (.c (.bool true)) (.t 84)⟩])
 (.cond (.t 85) (.seq (.ops [⟨(some 2), none, .mv (.c (.bool false))⟩])
 (.ret)) (.skip)))
 (.seq (.ops [⟨(some 86), none, .mv (.t 8)⟩, ⟨(some 21), none, .mv (.t 86)⟩])
 (.seq (.seq (.ops [⟨(some 87), none, .mv (.t 21)⟩, ⟨(some 88), none, .bin 0 .eql (.t 87) (.c (.int .i64 0))⟩])
 (.cond (.t 88) (.ops [⟨(some 89), none, .load (some 2) (.t 4)⟩, ⟨(some 90), none, .mv (.t 5)⟩, ⟨(some 91), none, .call 24 [(.t 89), (.t 90)]⟩, ⟨(some 21), none, .mv (.t 91)⟩]) (.skip)))
 (.seq (.seq (.ops [⟨(some 92), none, .mv (.t 21)⟩, ⟨(some 93), none, .bin 0 .neq (.t 92) (.c (.int .i64 0))⟩])
 (.cond (.t 93) (.seq (.ops [⟨(some 94), none, .mv (.t 11)⟩, ⟨(some 95), none, .mv (.t 21)⟩, ⟨(some 96), none, .bin 0 .eql (.t 94) (.t 95)⟩, ⟨(some 97), none, .mv (.t 96)⟩, ⟨(some 98), (some (97, true)), .mv (.t 13)⟩, ⟨(some 99), (some (97, true)), .mv (.t 21)⟩, ⟨(some 100), (some (97, true)), .bin 0 .eql (.t 98) (.t 99)⟩, ⟨(some 101), none, .pick (.t 97) (.t 100) (.c (.bool false))⟩, ⟨(some 102), none, .mv (.t 101)⟩, ⟨(some 103), (some (102, true)), .mv (.t 16)⟩, ⟨(some 104), (some (102, true)), .mv (.t 21)⟩, ⟨(some 105), (some (102, true)), .bin 0 .eql (.t 103) (.t 104)⟩, ⟨(some 106), none, .pick (.t 102) (.t 105) (.c (.bool false))⟩, ⟨(some 107), none, .mv (.t 106)⟩, ⟨(some 108), (some (107, true)), .mv (.t 9)⟩, ⟨(some 109), (some (107, true)), .len false (.t 108)⟩, ⟨(some 110), (some (107, true)), .mv (.t 10)⟩, ⟨(some 111), (some (107, true)), .len false (.t 110)⟩, ⟨(some 112), (some (107, true)), .bin 0 .add (.t 109) (.t 111)⟩, ⟨(some 113), (some (107, true)), .mv (.t 12)⟩, ⟨(some 114), (some (107, true)), .len false (.t 113)⟩, ⟨(some 115), (some (107, true)), .bin 0 .add (.t 112) (.t 114)⟩, ⟨(some 116), (some (107, true)), .bin 0 .eql (.t 115) (.c (.int .i64 0))⟩, ⟨(some 117), none, .pick (.t 107) (.t 116) (.c (.bool false))⟩, ⟨(some 118), none, .mv (.t 117)⟩, ⟨(some 119), (some (118, true)), .load (some 2) (.t 14)⟩, ⟨(some 120), (some (118, true)), .build [(.int .i64 0), (.int .i64 0)] []⟩, ⟨(some 121), (some (118, true)), .eqs false [0, 0] (.t 119) (.t 120)⟩, ⟨(some 122), none, .pick (.t 118) (.t 121) (.c (.bool false))⟩, ⟨(some 123), none, .mv (.t 122)⟩, ⟨(some 124), (some (123, true)), .mv (.t 15)⟩, ⟨(some 125), (some (123, true)), .un .not (.t 124)⟩, ⟨(some 126), none, .pick (.t 123) (.t 125) (.c (.bool false))⟩, ⟨(some 127), none, .mv (.t 126)⟩, ⟨(some 128), (some (127, true)), .call 25 []⟩, ⟨(some 129), none, .pick (.t 127) (.t 128) (.c (.bool false))⟩, ⟨(some 2), none, .mv (.t 129)⟩])
 (.ret)) (.skip)))
 (.seq (.ops [⟨(some 131), none, .load (some 2) (.t 4)⟩, ⟨(some 132), none, .mv (.t 5)⟩, ⟨(some 133), none, .call 26 [(.t 131), (.t 132)]⟩, ⟨(some 130), none, .mv (.t 133)⟩, ⟨(some 134), none, .ext (.t 130) 0⟩, ⟨(some 135), none, .ext (.t 130) 1⟩, ⟨(some 22), none, .mv (.t 134)⟩, ⟨(some 23), none, .mv (.t 135)⟩])
 (.seq (.ops [⟨(some 137), none, .load (some 2) (.t 4)⟩, ⟨(some 138), none, .mv (.t 5)⟩, ⟨(some 139), none, .call 27 [(.t 137), (.t 138)]⟩, ⟨(some 136), none, .mv (.t 139)⟩, ⟨(some 140), none, .ext (.t 136) 0⟩, ⟨(some 141), none, .ext (.t 136) 1⟩, ⟨(some 24), none, .alloc 41 [(.int .i64 0), (.int .i64 0)]⟩, ⟨none, none, .store 2 (.t 24) (.t 140)⟩, ⟨(some 25), none, .mv (.t 141)⟩])
 (.seq (.ops [⟨(some 142), none, .mv (.t 11)⟩, ⟨(some 143), none, .bin 0 .eql (.t 142) (.c (.int .i64 0))⟩, ⟨(some 144), none, .mv (.t 143)⟩, ⟨(some 145), (some (144, true)), .mv (.t 9)⟩, ⟨(some 146), (some (144, true)), .mv (.t 22)⟩, ⟨(some 147), (some (144, true)), .call 28 [(.t 145), (.t 146)]⟩, ⟨(some 148), none, .pick (.t 144) (.t 147) (.c (.bool false))⟩, ⟨(some 149), none, .mv (.t 148)⟩, ⟨(some 150), (some (149, true)), .mv (.t 10)⟩, ⟨(some 151), (some (149, true)), .mv (.t 23)⟩, ⟨(some 152), (some (149, true)), .call 28 [(.t 150), (.t 151)]⟩, ⟨(some 153), none, .pick (.t 149) (.t 152) (.c (.bool false))⟩, ⟨(some 154), none, .mv (.t 153)⟩, ⟨(some 155), (some (154, true)), .mv (.t 13)⟩, ⟨(some 156), (some (154, true)), .bin 0 .eql (.t 155) (.c (.int .i64 0))⟩, ⟨(some 157), none, .pick (.t 154) (.t 156) (.c (.bool false))⟩, ⟨(some 158), none, .mv (.t 157)⟩, ⟨(some 159), (some (158, true)), .mv (.t 12)⟩, ⟨(some 160), (some (158, true)), .load (some 2) (.t 4)⟩, ⟨(some 161), (some (158, true)), .mv (.t 5)⟩, ⟨(some 162), (some (158, true)), .call 30 [(.t 160), (.t 161)]⟩, ⟨(some 163), (some (158, true)), .call 29 [(.t 159), (.t 162), (.c (.fn 28 []))]⟩, ⟨(some 164), none, .pick (.t 158) (.t 163) (.c (.bool false))⟩, ⟨(some 165), none, .mv (.t 164)⟩, ⟨(some 166), (some (165, true)), .mv (.t 16)⟩, ⟨(some 167), (some (165, true)), .bin 0 .eql (.t 166) (.c (.int .i64 0))⟩, ⟨(some 168), none, .pick (.t 165) (.t 167) (.c (.bool false))⟩, ⟨(some 169), none, .mv (.t 168)⟩, ⟨(some 170), (some (169, true)), .load (some 2) (.t 14)⟩, ⟨(some 171), (some (169, true)), .load (some 2) (.t 24)⟩, ⟨(some 172), (some (169, true)), .eqs false [0, 0] (.t 170) (.t 171)⟩, ⟨(some 173), none, .pick (.t 169) (.t 172) (.c (.bool false))⟩, ⟨(some 174), none, .mv (.t 173)⟩, ⟨(some 175), (some (174, true)), .mv (.t 15)⟩, ⟨(some 176), (some (174, true)), .mv (.t 25)⟩, ⟨(some 177), (some (174, true)), .bin 2 .eql (.t 175) (.t 176)⟩, ⟨(some 178), none, .pick (.t 174) (.t 177) (.c (.bool false))⟩, ⟨(some 179), none, .mv (.t 178)⟩, ⟨(some 180), (some (179, true)), .call 25 []⟩, ⟨(some 181), none, .pick (.t 179) (.t 180) (.c (.bool false))⟩, ⟨(some 2), none, .mv (.t 181)⟩])
 (.ret)))))))))))))))))))⟩
theorem c3 : compF Go.Proofs.Tryz.prog 3 = some a3 := by kernel_rfl
def a14 : AFn := ⟨69, [.c 6 (some 2)], .seq (.ops [⟨(some 3), none, .box 23 (.t 0)⟩, ⟨(some 6), none, .alloc 29 [(.lit true 0 []), (.lit true 0 [])]⟩])
 (.seq (.ops [⟨(some 7), none, .alloc 29 [(.lit true 0 []), (.lit true 0 [])]⟩])
 (.seq (.ops [⟨(some 13), none, .mkfn 82 [(.t 3)]⟩, ⟨(some 8), none, .mv (.t 13)⟩])
 (.seq (.seq (.ops [⟨(some 14), none, .load none (.t 3)⟩, ⟨(some 15), none, .mv (.t 2)⟩, ⟨(some 16), none, .call 31 [(.t 14), (.c (.int .i64 1)), (.t 15)]⟩, ⟨(some 17), none, .mv (.c (.int .i64 0))⟩])
 (.block 0 (.loop (.seq (.ops [⟨(some 18), none, .bin 0 .lss (.t 17) (.t 16)⟩])
 (.seq (.cond (.t 18) (.skip) (.exit 0))
 (.seq (.block 1 (.any [(⟨(some 19), none, .fadr 0 (.t 7)⟩, []), (⟨(some 20), none, .load none (.t 19)⟩, []), (⟨(some 21), none, .mv (.t 8)⟩, [0, 1]), (⟨(some 22), none, .callv (.t 21) []⟩, [0, 1]), (⟨(some 23), none, .bslice 9 1 1 [(.str [])] [(0, 1, (.t 22))]⟩, [0, 1]), (⟨(some 24), none, .app 9 1 16 (.t 20) (.t 23)⟩, []), (⟨(some 25), none, .fadr 0 (.t 7)⟩, []), (⟨none, none, .store 1 (.t 25) (.t 24)⟩, [])]))
 (.ops [⟨(some 26), none, .bin 0 .add (.t 17) (.c (.int .i64 1))⟩, ⟨(some 17), none, .mv (.t 26)⟩])))))))
 (.seq (.seq (.ops [⟨(some 27), none, .load none (.t 3)⟩, ⟨(some 28), none, .mv (.t 1)⟩, ⟨(some 29), none, .call 31 [(.t 27), (.c (.int .i64 0)), (.t 28)]⟩, ⟨(some 30), none, .mv (.c (.int .i64 0))⟩])
 (.block 2 (.loop (.seq (.ops [⟨(some 31), none, .bin 0 .lss (.t 30) (.t 29)⟩])
 (.seq (.cond (.t 31) (.skip) (.exit 2))
 (.seq (.block 3 (.seq (.ops [⟨(some 32), none, .mv (.t 30)⟩, ⟨(some 9), none, .mv (.t 32)⟩])
 (.seq (.ops [⟨(some 33), none, .mv (.t 9)⟩, ⟨(some 34), none, .call 84 [(.t 33)]⟩, ⟨(some 35), none, .bin 1 .add (.c (.str [102])) (.t 34)⟩, ⟨(some 36), none, .build [(.str []), (.lit true 0 [])] [(0, 1, (.t 35))]⟩, ⟨(some 10), none, .alloc 67 [(.str []), (.lit true 0 [])]⟩, ⟨none, none, .store 2 (.t 10) (.t 36)⟩])
 (.seq (.seq (.ops [⟨(some 37), none, .fadr 0 (.t 7)⟩, ⟨(some 38), none, .load none (.t 37)⟩, ⟨(some 39), none, .len false (.t 38)⟩, ⟨(some 40), none, .mv (.c (.int .i64 0))⟩])
 (.block 4 (.loop (.seq (.ops [⟨(some 41), none, .bin 0 .lss (.t 40) (.t 39)⟩])
 (.seq (.cond (.t 41) (.skip) (.exit 4))
 (.seq (.block 5 (.seq (.ops [⟨(some 42), none, .iadr 1 (.t 38) (.t 40)⟩, ⟨(some 43), none, .load none (.t 42)⟩, ⟨(some 12), none, .mv (.t 43)⟩])
 (.any [(⟨(some 44), none, .fadr 1 (.t 10)⟩, []), (⟨(some 45), none, .load none (.t 44)⟩, []), (⟨(some 46), none, .load none (.t 3)⟩, [0, 1]), (⟨(some 47), none, .mv (.t 12)⟩, [0, 1, 2]), (⟨(some 48), none, .mv (.t 12)⟩, [0, 1, 2, 3]), (⟨(some 49), none, .mv (.t 8)⟩, [0, 1, 2, 3, 4]), (⟨(some 50), none, .callv (.t 49) []⟩, [0, 1, 2, 3, 4]), (⟨(some 51), none, .bslice 9 1 3 [(.str [])] [(0, 1, (.t 47)), (1, 1, (.t 48)), (2, 1, (.t 50))]⟩, [0, 1, 2]), (⟨(some 52), none, .call 83 [(.t 46), (.t 51)]⟩, [0, 1]), (⟨(some 53), none, .bslice 9 1 1 [(.str [])] [(0, 1, (.t 52))]⟩, [0, 1]), (⟨(some 54), none, .app 9 1 16 (.t 45) (.t 53)⟩, []), (⟨(some 55), none, .fadr 1 (.t 10)⟩, []), (⟨none, none, .store 1 (.t 55) (.t 54)⟩, [])])))
 (.ops [⟨(some 56), none, .bin 0 .add (.t 40) (.c (.int .i64 1))⟩, ⟨(some 40), none, .mv (.t 56)⟩])))))))
 (.ops [⟨(some 57), none, .fadr 1 (.t 7)⟩, ⟨(some 58), none, .load none (.t 57)⟩, ⟨(some 59), none, .load (some 2) (.t 10)⟩, ⟨(some 60), none, .bslice 67 2 1 [(.str []), (.lit true 0 [])] [(0, 2, (.t 59))]⟩, ⟨(some 61), none, .app 67 2 40 (.t 58) (.t 60)⟩, ⟨(some 62), none, .fadr 1 (.t 7)⟩, ⟨none, none, .store 1 (.t 62) (.t 61)⟩])))))
 (.ops [⟨(some 63), none, .bin 0 .add (.t 30) (.c (.int .i64 1))⟩, ⟨(some 30), none, .mv (.t 63)⟩])))))))
 (.seq (.seq (.ops [⟨(some 64), none, .load none (.t 3)⟩, ⟨(some 65), none, .call 44 [(.t 64), (.c (.int .i64 12))]⟩])
 (.cond (.t 65) (.ops [⟨(some 66), none, .load none (.t 3)⟩, ⟨(some 67), none, .call 85 [(.t 66), (.t 7)]⟩]) (.skip)))
 (.seq (.ops [⟨(some 68), none, .load (some 2) (.t 7)⟩, ⟨none, none, .store 2 (.t 6) (.t 68)⟩])
 (.ret)))))))⟩
theorem c14 : compF Go.Proofs.Tryz.prog 14 = some a14 := by kernel_rfl
def a15 : AFn := ⟨38, [.t 4], .seq (.ops [⟨(some 3), none, .box 29 (.t 1)⟩, ⟨(some 4), none, .mv (.c (.lit true 0 []))⟩])
 (.seq (.ops [⟨(some 5), none, .mv (.c (.lit true 0 []))⟩])
 (.seq (.seq (.ops [⟨(some 8), none, .mv (.t 0)⟩, ⟨(some 9), none, .fadr 0 (.t 3)⟩, ⟨(some 10), none, .load none (.t 9)⟩, ⟨(some 11), none, .len false (.t 10)⟩, ⟨(some 12), none, .call 74 [(.t 8), (.t 11)]⟩, ⟨(some 13), none, .len false (.t 12)⟩, ⟨(some 14), none, .mv (.c (.int .i64 0))⟩])
 (.block 0 (.loop (.seq (.ops [⟨(some 15), none, .bin 0 .lss (.t 14) (.t 13)⟩])
 (.seq (.cond (.t 15) (.skip) (.exit 0))
 (.seq (.block 1 (.seq (.ops [⟨(some 16), none, .iadr 1 (.t 12) (.t 14)⟩, ⟨(some 17), none, .load none (.t 16)⟩, ⟨(some 7), none, .mv (.t 17)⟩])
 (.seq (.ops [⟨(some 18), none, .mv (.t 0)⟩, ⟨(some 19), none, .call 44 [(.t 18), (.c (.int .i64 3))]⟩, ⟨(some 20), none, .un .not (.t 19)⟩])
 (.cond (.t 20) (.ops [⟨(some 21), none, .mv (.t 5)⟩, ⟨(some 22), none, .mv (.t 7)⟩, ⟨(some 23), none, .bslice 3 1 1 [(.int .i64 0)] [(0, 1, (.t 22))]⟩, ⟨(some 24), none, .app 3 1 8 (.t 21) (.t 23)⟩, ⟨(some 5), none, .mv (.t 24)⟩]) (.skip)))))
 (.ops [⟨(some 25), none, .bin 0 .add (.t 14) (.c (.int .i64 1))⟩, ⟨(some 14), none, .mv (.t 25)⟩])))))))
 (.seq (.seq (.ops [⟨(some 26), none, .mv (.t 0)⟩, ⟨(some 27), none, .call 44 [(.t 26), (.c (.int .i64 15))]⟩])
 (.cond (.t 27) (.ops [⟨(some 28), none, .mv (.t 5)⟩, ⟨(some 29), none, .mv (.t 0)⟩, ⟨(some 30), none, .fadr 0 (.t 3)⟩, ⟨(some 31), none, .load none (.t 30)⟩, ⟨(some 32), none, .len false (.t 31)⟩, ⟨(some 33), none, .bslice 3 1 3 [(.int .i64 0)] [(0, 1, (.c (.int .i64 0))), (1, 1, (.c (.int .i64 (-1)))), (2, 1, (.t 32))]⟩, ⟨(some 34), none, .call 54 [(.t 29), (.t 33)]⟩, ⟨(some 35), none, .bslice 3 1 1 [(.int .i64 0)] [(0, 1, (.t 34))]⟩, ⟨(some 36), none, .app 3 1 8 (.t 28) (.t 35)⟩, ⟨(some 5), none, .mv (.t 36)⟩]) (.skip)))
 (.seq (.ops [⟨(some 37), none, .mv (.t 5)⟩, ⟨(some 4), none, .mv (.t 37)⟩])
 (.ret)))))⟩
theorem c15 : compF Go.Proofs.Tryz.prog 15 = some a15 := by kernel_rfl
def a16 : AFn := ⟨6, [.t 2], .seq (.ops [⟨(some 2), none, .mv (.c (.str []))⟩])
 (.seq (.ops [⟨(some 3), none, .mv (.t 0)⟩, ⟨(some 4), none, .bslice 9 1 6 [(.str [])] [(0, 1, (.c (.str [102, 48]))), (1, 1, (.c (.str [102, 49]))), (2, 1, (.c (.str [102, 50]))), (3, 1, (.c (.str [102, 51]))), (4, 1, (.c (.str [122, 122]))), (5, 1, (.c (.str [])))]⟩, ⟨(some 5), none, .call 83 [(.t 3), (.t 4)]⟩, ⟨(some 2), none, .mv (.t 5)⟩])
 (.ret))⟩
theorem c16 : compF Go.Proofs.Tryz.prog 16 = some a16 := by kernel_rfl
def a17 : AFn := ⟨69, [.t 2], .seq (.ops [⟨(some 1), none, .box 29 (.t 0)⟩, ⟨(some 2), none, .mv (.c (.int .i64 0))⟩])
 (.seq (.ops [⟨(some 3), none, .mv (.c (.fn 86 []))⟩])
 (.seq (.block 0 (.seq (.ops [⟨(some 7), none, .fadr 0 (.t 1)⟩, ⟨(some 8), none, .load none (.t 7)⟩, ⟨(some 9), none, .len false (.t 8)⟩, ⟨(some 10), none, .bin 0 .eql (.t 9) (.c (.int .i64 0))⟩, ⟨(some 6), none, .mv (.t 10)⟩])
 (.cond (.t 6) (.seq (.ops [⟨(some 2), none, .mv (.c (.int .i64 8))⟩])
 (.ret)) (.seq (.ops [⟨(some 12), none, .fadr 0 (.t 1)⟩, ⟨(some 13), none, .load none (.t 12)⟩, ⟨(some 14), none, .len false (.t 13)⟩, ⟨(some 15), none, .bin 0 .gtr (.t 14) (.c (.int .i64 100))⟩, ⟨(some 16), none, .mv (.t 15)⟩, ⟨(some 17), (some (16, false)), .fadr 1 (.t 1)⟩, ⟨(some 18), (some (16, false)), .load none (.t 17)⟩, ⟨(some 19), (some (16, false)), .len false (.t 18)⟩, ⟨(some 20), (some (16, false)), .bin 0 .gtr (.t 19) (.c (.int .i64 300))⟩, ⟨(some 21), none, .pick (.t 16) (.c (.bool true)) (.t 20)⟩, ⟨(some 11), none, .mv (.t 21)⟩])
 (.cond (.t 11) (.seq (.ops [⟨(some 2), none, .mv (.c (.int .i64 2))⟩])
 (.ret)) (.seq (.ops [⟨(some 23), none, .fadr 0 (.t 1)⟩, ⟨(some 24), none, .load none (.t 23)⟩, ⟨(some 25), none, .mv (.t 3)⟩, ⟨(some 26), none, .call 61 [(.t 24), (.t 25)]⟩, ⟨(some 22), none, .mv (.t 26)⟩])
 (.cond (.t 22) (.seq (.ops [⟨(some 2), none, .mv (.c (.int .i64 9))⟩])
 (.ret)) (.skip))))))))
 (.seq (.seq (.ops [⟨(some 27), none, .fadr 1 (.t 1)⟩, ⟨(some 28), none, .load none (.t 27)⟩, ⟨(some 29), none, .len false (.t 28)⟩, ⟨(some 30), none, .mv (.c (.int .i64 0))⟩])
 (.block 1 (.loop (.seq (.ops [⟨(some 31), none, .bin 0 .lss (.t 30) (.t 29)⟩])
 (.seq (.cond (.t 31) (.skip) (.exit 1))
 (.seq (.block 2 (.seq (.ops [⟨(some 32), none, .mv (.t 30)⟩, ⟨(some 33), none, .iadr 2 (.t 28) (.t 30)⟩, ⟨(some 34), none, .load (some 2) (.t 33)⟩, ⟨(some 5), none, .alloc 67 [(.str []), (.lit true 0 [])]⟩, ⟨(some 4), none, .mv (.t 32)⟩, ⟨none, none, .store 2 (.t 5) (.t 34)⟩])
 (.block 3 (.seq (.ops [⟨(some 36), none, .fadr 0 (.t 5)⟩, ⟨(some 37), none, .load none (.t 36)⟩, ⟨(some 38), none, .call 88 [(.t 37)]⟩, ⟨(some 39), none, .un .not (.t 38)⟩, ⟨(some 35), none, .mv (.t 39)⟩])
 (.cond (.t 35) (.seq (.ops [⟨(some 2), none, .mv (.c (.int .i64 5))⟩])
 (.ret)) (.seq (.ops [⟨(some 41), none, .fadr 1 (.t 5)⟩, ⟨(some 42), none, .load none (.t 41)⟩, ⟨(some 43), none, .len false (.t 42)⟩, ⟨(some 44), none, .fadr 0 (.t 1)⟩, ⟨(some 45), none, .load none (.t 44)⟩, ⟨(some 46), none, .len false (.t 45)⟩, ⟨(some 47), none, .bin 0 .neq (.t 43) (.t 46)⟩, ⟨(some 40), none, .mv (.t 47)⟩])
 (.cond (.t 40) (.seq (.ops [⟨(some 2), none, .mv (.c (.int .i64 3))⟩])
 (.ret)) (.seq (.ops [⟨(some 49), none, .fadr 1 (.t 5)⟩, ⟨(some 50), none, .load none (.t 49)⟩, ⟨(some 51), none, .mv (.t 3)⟩, ⟨(some 52), none, .call 61 [(.t 50), (.t 51)]⟩, ⟨(some 48), none, .mv (.t 52)⟩])
 (.cond (.t 48) (.seq (.ops [⟨(some 2), none, .mv (.c (.int .i64 9))⟩])
 (.ret)) (.seq (.any [(⟨(some 54), none, .mv (.t 4)⟩, []), (⟨(some 55), none, .bin 0 .gtr (.t 54) (.c (.int .i64 0))⟩, []), (⟨(some 56), none, .mv (.t 55)⟩, []), (⟨(some 57), (some (56, true)), .fadr 0 (.t 5)⟩, []), (⟨(some 58), (some (56, true)), .load none (.t 57)⟩, []), (⟨(some 59), (some (56, true)), .fadr 1 (.t 1)⟩, [3, 4]), (⟨(some 60), (some (56, true)), .load none (.t 59)⟩, [3, 4]), (⟨(some 61), (some (56, true)), .mv (.t 4)⟩, [3, 4, 5, 6]), (⟨(some 62), (some (56, true)), .bin 0 .sub (.t 61) (.c (.int .i64 1))⟩, [3, 4, 5, 6]), (⟨(some 63), (some (56, true)), .iadr 2 (.t 60) (.t 62)⟩, [3, 4]), (⟨(some 64), (some (56, true)), .fadr 0 (.t 63)⟩, [3, 4]), (⟨(some 65), (some (56, true)), .load none (.t 64)⟩, [3, 4]), (⟨(some 66), (some (56, true)), .bin 1 .leq (.t 58) (.t 65)⟩, []), (⟨(some 67), none, .pick (.t 56) (.t 66) (.c (.bool false))⟩, []), (⟨(some 53), none, .mv (.t 67)⟩, [])])
 (.cond (.t 53) (.seq (.ops [⟨(some 2), none, .mv (.c (.int .i64 7))⟩])
 (.ret)) (.skip))))))))))))
 (.ops [⟨(some 68), none, .bin 0 .add (.t 30) (.c (.int .i64 1))⟩, ⟨(some 30), none, .mv (.t 68)⟩])))))))
 (.seq (.ops [⟨(some 2), none, .mv (.c (.int .i64 0))⟩])
 (.ret)))))⟩
theorem c17 : compF Go.Proofs.Tryz.prog 17 = some a17 := by kernel_rfl
def a18 : AFn := ⟨41, [.t 4, .t 5, .t 6], .seq (.ops [⟨(some 2), none, .box 29 (.t 0)⟩, ⟨(some 4), none, .mv (.c (.lit true 0 []))⟩, ⟨(some 5), none, .mv (.c (.lit true 0 []))⟩, ⟨(some 6), none, .mv (.c (.int .i64 0))⟩])
 (.seq (.seq (.ops [⟨(some 12), none, .load (some 2) (.t 2)⟩, ⟨(some 13), none, .mv (.t 1)⟩, ⟨(some 14), none, .call 89 [(.t 12), (.t 13)]⟩, ⟨(some 7), none, .mv (.t 14)⟩])
 (.seq (.ops [⟨(some 15), none, .mv (.t 7)⟩, ⟨(some 16), none, .bin 0 .neq (.t 15) (.c (.int .i64 0))⟩])
 (.cond (.t 16) (.seq (.ops [⟨(some 17), none, .mv (.t 7)⟩, ⟨(some 4), none, .mv (.c (.lit true 0 []))⟩, ⟨(some 5), none, .mv (.c (.lit true 0 []))⟩, ⟨(some 6), none, .mv (.t 17)⟩])
 (.ret)) (.skip))))
 (.seq (.ops [⟨(some 8), none, .mv (.c (.lit true 0 []))⟩, ⟨(some 9), none, .mv (.c (.lit true 0 []))⟩])
 (.seq (.seq (.ops [⟨(some 18), none, .fadr 1 (.t 2)⟩, ⟨(some 19), none, .load none (.t 18)⟩, ⟨(some 20), none, .len false (.t 19)⟩, ⟨(some 21), none, .mv (.c (.int .i64 0))⟩])
 (.block 0 (.loop (.seq (.ops [⟨(some 22), none, .bin 0 .lss (.t 21) (.t 20)⟩])
 (.seq (.cond (.t 22) (.skip) (.exit 0))
 (.seq (.block 1 (.seq (.ops [⟨(some 23), none, .iadr 2 (.t 19) (.t 21)⟩, ⟨(some 24), none, .load (some 2) (.t 23)⟩, ⟨(some 11), none, .alloc 67 [(.str []), (.lit true 0 [])]⟩, ⟨none, none, .store 2 (.t 11) (.t 24)⟩])
 (.seq (.ops [⟨(some 25), none, .mv (.t 1)⟩, ⟨(some 26), none, .mkfn 91 [(.t 2), (.t 11)]⟩, ⟨(some 27), none, .call 90 [(.t 25), (.t 26)]⟩])
 (.cond (.t 27) (.ops [⟨(some 28), none, .mv (.t 8)⟩, ⟨(some 29), none, .fadr 0 (.t 11)⟩, ⟨(some 30), none, .load none (.t 29)⟩, ⟨(some 31), none, .bslice 9 1 1 [(.str [])] [(0, 1, (.t 30))]⟩, ⟨(some 32), none, .app 9 1 16 (.t 28) (.t 31)⟩, ⟨(some 8), none, .mv (.t 32)⟩]) (.ops [⟨(some 33), none, .mv (.t 9)⟩, ⟨(some 34), none, .fadr 0 (.t 11)⟩, ⟨(some 35), none, .load none (.t 34)⟩, ⟨(some 36), none, .bslice 9 1 1 [(.str [])] [(0, 1, (.t 35))]⟩, ⟨(some 37), none, .app 9 1 16 (.t 33) (.t 36)⟩, ⟨(some 9), none, .mv (.t 37)⟩])))))
 (.ops [⟨(some 38), none, .bin 0 .add (.t 21) (.c (.int .i64 1))⟩, ⟨(some 21), none, .mv (.t 38)⟩])))))))
 (.seq (.ops [⟨(some 39), none, .mv (.t 8)⟩, ⟨(some 40), none, .mv (.t 9)⟩, ⟨(some 4), none, .mv (.t 39)⟩, ⟨(some 5), none, .mv (.t 40)⟩, ⟨(some 6), none, .mv (.c (.int .i64 0))⟩])
 (.ret)))))⟩
theorem c18 : compF Go.Proofs.Tryz.prog 18 = some a18 := by kernel_rfl
def a19 : AFn := ⟨16, [.t 4, .t 5], .seq (.ops [⟨(some 2), none, .box 29 (.t 0)⟩, ⟨(some 4), none, .mv (.c (.lit true 0 []))⟩, ⟨(some 5), none, .mv (.c (.int .i64 0))⟩])
 (.seq (.seq (.ops [⟨(some 7), none, .load (some 2) (.t 2)⟩, ⟨(some 8), none, .mv (.t 1)⟩, ⟨(some 9), none, .call 89 [(.t 7), (.t 8)]⟩, ⟨(some 6), none, .mv (.t 9)⟩])
 (.seq (.ops [⟨(some 10), none, .mv (.t 6)⟩, ⟨(some 11), none, .bin 0 .neq (.t 10) (.c (.int .i64 0))⟩])
 (.cond (.t 11) (.seq (.ops [⟨(some 12), none, .mv (.t 6)⟩, ⟨(some 4), none, .mv (.c (.lit true 0 []))⟩, ⟨(some 5), none, .mv (.t 12)⟩])
 (.ret)) (.skip))))
 (.seq (.ops [⟨(some 13), none, .load (some 2) (.t 2)⟩, ⟨(some 14), none, .mv (.t 1)⟩, ⟨(some 15), none, .call 93 [(.t 13), (.t 14)]⟩, ⟨(some 4), none, .mv (.t 15)⟩, ⟨(some 5), none, .mv (.c (.int .i64 0))⟩])
 (.ret)))⟩
theorem c19 : compF Go.Proofs.Tryz.prog 19 = some a19 := by kernel_rfl
def a20 : AFn := ⟨29, [.c 4 (some 2), .t 5, .t 6], .seq (.ops [⟨(some 2), none, .box 29 (.t 0)⟩, ⟨(some 4), none, .alloc 41 [(.int .i64 0), (.int .i64 0)]⟩, ⟨(some 5), none, .mv (.c (.bool false))⟩, ⟨(some 6), none, .mv (.c (.int .i64 0))⟩])
 (.seq (.seq (.ops [⟨(some 8), none, .load (some 2) (.t 2)⟩, ⟨(some 9), none, .mv (.t 1)⟩, ⟨(some 10), none, .call 89 [(.t 8), (.t 9)]⟩, ⟨(some 7), none, .mv (.t 10)⟩])
 (.seq (.ops [⟨(some 11), none, .mv (.t 7)⟩, ⟨(some 12), none, .bin 0 .neq (.t 11) (.c (.int .i64 0))⟩])
 (.cond (.t 12) (.seq (.ops [⟨(some 13), none, .build [(.int .i64 0), (.int .i64 0)] []⟩, ⟨(some 14), none, .mv (.t 7)⟩, ⟨none, none, .store 2 (.t 4) (.t 13)⟩, ⟨(some 5), none, .mv (.c (.bool false))⟩, ⟨(some 6), none, .mv (.t 14)⟩])
 (.ret)) (.skip))))
 (.seq (.seq (.ops [⟨(some 15), none, .fadr 1 (.t 2)⟩, ⟨(some 16), none, .load none (.t 15)⟩, ⟨(some 17), none, .len false (.t 16)⟩, ⟨(some 18), none, .bin 0 .eql (.t 17) (.c (.int .i64 0))⟩])
 (.cond (.t 18) (.seq (.ops [⟨(some 19), none, .build [(.int .i64 0), (.int .i64 0)] []⟩, ⟨none, none, .store 2 (.t 4) (.t 19)⟩, ⟨(some 5), none, .mv (.c (.bool false))⟩, ⟨(some 6), none, .mv (.c (.int .i64 0))⟩])
 (.ret)) (.skip)))
 (.seq (.any [(⟨(some 20), none, .load (some 2) (.t 2)⟩, []), (⟨(some 21), none, .mv (.t 1)⟩, [0]), (⟨(some 22), none, .call 93 [(.t 20), (.t 21)]⟩, []), (⟨(some 23), none, .len false (.t 22)⟩, []), (⟨(some 24), none, .bin 0 .sub (.t 23) (.c (.int .i64 1))⟩, []), (⟨(some 25), none, .fadr 1 (.t 2)⟩, [0, 1, 2, 3, 4]), (⟨(some 26), none, .load none (.t 25)⟩, [0, 1, 2, 3, 4]), (⟨(some 27), none, .len false (.t 26)⟩, [0, 1, 2, 3, 4]), (⟨(some 28), none, .call 94 [(.t 24), (.t 27)]⟩, []), (⟨none, none, .store 2 (.t 4) (.t 28)⟩, []), (⟨(some 5), none, .mv (.c (.bool true))⟩, []), (⟨(some 6), none, .mv (.c (.int .i64 0))⟩, [])])
 (.ret))))⟩
theorem c20 : compF Go.Proofs.Tryz.prog 20 = some a20 := by kernel_rfl
def a21 : AFn := ⟨50, [.t 6, .t 7], .seq (.ops [⟨(some 3), none, .box 29 (.t 0)⟩, ⟨(some 6), none, .mv (.c (.lit true 0 []))⟩, ⟨(some 7), none, .mv (.c (.int .i64 0))⟩])
 (.seq (.seq (.ops [⟨(some 13), none, .load (some 2) (.t 3)⟩, ⟨(some 14), none, .call 63 [(.t 13)]⟩, ⟨(some 8), none, .mv (.t 14)⟩])
 (.seq (.ops [⟨(some 15), none, .mv (.t 8)⟩, ⟨(some 16), none, .bin 0 .neq (.t 15) (.c (.int .i64 0))⟩])
 (.cond (.t 16) (.seq (.ops [⟨(some 17), none, .mv (.t 8)⟩, ⟨(some 6), none, .mv (.c (.lit true 0 []))⟩, ⟨(some 7), none, .mv (.t 17)⟩])
 (.ret)) (.skip))))
 (.seq (.any [(⟨(some 18), none, .load (some 2) (.t 3)⟩, []), (⟨(some 19), none, .mv (.t 1)⟩, [0]), (⟨(some 20), none, .call 95 [(.t 18), (.t 19)]⟩, []), (⟨(some 21), none, .load (some 2) (.t 3)⟩, [0, 1, 2]), (⟨(some 22), none, .mv (.t 2)⟩, [0, 1, 2, 3]), (⟨(some 23), none, .call 95 [(.t 21), (.t 22)]⟩, []), (⟨(some 9), none, .mv (.t 20)⟩, []), (⟨(some 10), none, .mv (.t 23)⟩, [])])
 (.seq (.seq (.ops [⟨(some 24), none, .mv (.t 9)⟩, ⟨(some 25), none, .bin 3 .eql (.t 24) (.c (.lit true 0 []))⟩, ⟨(some 26), none, .mv (.t 25)⟩, ⟨(some 27), (some (26, false)), .mv (.t 10)⟩, ⟨(some 28), (some (26, false)), .bin 3 .eql (.t 27) (.c (.lit true 0 []))⟩, ⟨(some 29), none, .pick (.t 26) (.c (.bool true)) (.t 28)⟩])
 (.cond (.t 29) (.seq (.ops [⟨(some 6), none, .mv (.c (.lit true 0 []))⟩, ⟨(some 7), none, .mv (.c (.int .i64 8))⟩])
 (.ret)) (.skip)))
 (.seq (.ops [⟨(some 11), none, .mv (.c (.lit true 0 []))⟩])
 (.seq (.seq (.ops [⟨(some 30), none, .mv (.t 9)⟩, ⟨(some 31), none, .len false (.t 30)⟩, ⟨(some 32), none, .mv (.c (.int .i64 0))⟩])
 (.block 0 (.loop (.seq (.ops [⟨(some 33), none, .bin 0 .lss (.t 32) (.t 31)⟩])
 (.seq (.cond (.t 33) (.skip) (.exit 0))
 (.seq (.block 1 (.seq (.ops [⟨(some 34), none, .mv (.t 32)⟩, ⟨(some 12), none, .mv (.t 34)⟩])
 (.seq (.any [(⟨(some 35), none, .mv (.t 9)⟩, []), (⟨(some 36), none, .mv (.t 12)⟩, [0]), (⟨(some 37), none, .iadr 1 (.t 35) (.t 36)⟩, []), (⟨(some 38), none, .load none (.t 37)⟩, []), (⟨(some 39), none, .mv (.t 10)⟩, [0, 1, 2, 3]), (⟨(some 40), none, .mv (.t 12)⟩, [0, 1, 2, 3, 4]), (⟨(some 41), none, .iadr 1 (.t 39) (.t 40)⟩, [0, 1, 2, 3]), (⟨(some 42), none, .load none (.t 41)⟩, [0, 1, 2, 3]), (⟨(some 43), none, .bin 1 .neq (.t 38) (.t 42)⟩, [])])
 (.cond (.t 43) (.ops [⟨(some 44), none, .mv (.t 11)⟩, ⟨(some 45), none, .mv (.t 12)⟩, ⟨(some 46), none, .bslice 3 1 1 [(.int .i64 0)] [(0, 1, (.t 45))]⟩, ⟨(some 47), none, .app 3 1 8 (.t 44) (.t 46)⟩, ⟨(some 11), none, .mv (.t 47)⟩]) (.skip)))))
 (.ops [⟨(some 48), none, .bin 0 .add (.t 32) (.c (.int .i64 1))⟩, ⟨(some 32), none, .mv (.t 48)⟩])))))))
 (.seq (.ops [⟨(some 49), none, .mv (.t 11)⟩, ⟨(some 6), none, .mv (.t 49)⟩, ⟨(some 7), none, .mv (.c (.int .i64 0))⟩])
 (.ret)))))))⟩
theorem c21 : compF Go.Proofs.Tryz.prog 21 = some a21 := by kernel_rfl
def a22 : AFn := ⟨49, [.t 6, .t 7], .seq (.ops [⟨(some 3), none, .box 29 (.t 0)⟩, ⟨(some 6), none, .mv (.c (.lit true 0 []))⟩, ⟨(some 7), none, .mv (.c (.int .i64 0))⟩])
 (.seq (.ops [⟨(some 15), none, .load (some 2) (.t 3)⟩, ⟨(some 16), none, .mv (.t 1)⟩, ⟨(some 17), none, .call 96 [(.t 15), (.t 16)]⟩, ⟨(some 14), none, .mv (.t 17)⟩, ⟨(some 18), none, .ext (.t 14) 0⟩, ⟨(some 19), none, .ext (.t 14) 1⟩, ⟨(some 8), none, .alloc 67 [(.str []), (.lit true 0 [])]⟩, ⟨none, none, .store 2 (.t 8) (.t 18)⟩, ⟨(some 9), none, .mv (.t 19)⟩])
 (.seq (.ops [⟨(some 21), none, .load (some 2) (.t 3)⟩, ⟨(some 22), none, .mv (.t 2)⟩, ⟨(some 23), none, .call 96 [(.t 21), (.t 22)]⟩, ⟨(some 20), none, .mv (.t 23)⟩, ⟨(some 24), none, .ext (.t 20) 0⟩, ⟨(some 25), none, .ext (.t 20) 1⟩, ⟨(some 10), none, .alloc 67 [(.str []), (.lit true 0 [])]⟩, ⟨none, none, .store 2 (.t 10) (.t 24)⟩, ⟨(some 11), none, .mv (.t 25)⟩])
 (.seq (.seq (.ops [⟨(some 26), none, .mv (.t 9)⟩, ⟨(some 27), none, .un .not (.t 26)⟩, ⟨(some 28), none, .mv (.t 27)⟩, ⟨(some 29), (some (28, false)), .mv (.t 11)⟩, ⟨(some 30), (some (28, false)), .un .not (.t 29)⟩, ⟨(some 31), none, .pick (.t 28) (.c (.bool true)) (.t 30)⟩])
 (.cond (.t 31) (.seq (.ops [⟨(some 6), none, .mv (.c (.lit true 0 []))⟩, ⟨(some 7), none, .mv (.c (.int .i64 8))⟩])
 (.ret)) (.skip)))
 (.seq (.ops [⟨(some 12), none, .mv (.c (.lit true 0 []))⟩])
 (.seq (.seq (.ops [⟨(some 32), none, .fadr 0 (.t 3)⟩, ⟨(some 33), none, .load none (.t 32)⟩, ⟨(some 34), none, .len false (.t 33)⟩, ⟨(some 35), none, .mv (.c (.int .i64 0))⟩])
 (.block 0 (.loop (.seq (.ops [⟨(some 36), none, .bin 0 .lss (.t 35) (.t 34)⟩])
 (.seq (.cond (.t 36) (.skip) (.exit 0))
 (.seq (.block 1 (.seq (.ops [⟨(some 37), none, .mv (.t 35)⟩, ⟨(some 13), none, .mv (.t 37)⟩])
 (.seq (.ops [⟨(some 38), none, .load (some 2) (.t 8)⟩, ⟨(some 39), none, .load (some 2) (.t 10)⟩, ⟨(some 40), none, .mv (.t 13)⟩, ⟨(some 41), none, .bslice 3 1 1 [(.int .i64 0)] [(0, 1, (.t 40))]⟩, ⟨(some 42), none, .call 97 [(.t 38), (.t 39), (.t 41)]⟩])
 (.cond (.t 42) (.ops [⟨(some 43), none, .mv (.t 12)⟩, ⟨(some 44), none, .mv (.t 13)⟩, ⟨(some 45), none, .bslice 3 1 1 [(.int .i64 0)] [(0, 1, (.t 44))]⟩, ⟨(some 46), none, .app 3 1 8 (.t 43) (.t 45)⟩, ⟨(some 12), none, .mv (.t 46)⟩]) (.skip)))))
 (.ops [⟨(some 47), none, .bin 0 .add (.t 35) (.c (.int .i64 1))⟩, ⟨(some 35), none, .mv (.t 47)⟩])))))))
 (.seq (.ops [⟨(some 48), none, .mv (.t 12)⟩, ⟨(some 6), none, .mv (.t 48)⟩, ⟨(some 7), none, .mv (.c (.int .i64 0))⟩])
 (.ret)))))))⟩
theorem c22 : compF Go.Proofs.Tryz.prog 22 = some a22 := by kernel_rfl
def a23 : AFn := ⟨26, [.t 4], .seq (.ops [⟨(some 4), none, .mv (.c (.bool false))⟩])
 (.seq (.seq (.ops [⟨(some 6), none, .mv (.t 0)⟩, ⟨(some 7), none, .len false (.t 6)⟩, ⟨(some 8), none, .mv (.t 1)⟩, ⟨(some 9), none, .len false (.t 8)⟩, ⟨(some 10), none, .bin 0 .neq (.t 7) (.t 9)⟩])
 (.cond (.t 10) (.seq (.ops [⟨(some 4), none, .mv (.c (.bool false))⟩])
 (.ret)) (.skip)))
 (.seq (.seq (.ops [⟨(some 11), none, .mv (.t 0)⟩, ⟨(some 12), none, .len false (.t 11)⟩, ⟨(some 13), none, .mv (.c (.int .i64 0))⟩])
 (.block 0 (.loop (.seq (.ops [⟨(some 14), none, .bin 0 .lss (.t 13) (.t 12)⟩])
 (.seq (.cond (.t 14) (.skip) (.exit 0))
 (.seq (.block 1 (.seq (.ops [⟨(some 15), none, .mv (.t 13)⟩, ⟨(some 5), none, .mv (.t 15)⟩])
 (.seq (.any [(⟨(some 16), none, .mv (.t 0)⟩, []), (⟨(some 17), none, .mv (.t 5)⟩, [0]), (⟨(some 18), none, .iadr 1 (.t 16) (.t 17)⟩, []), (⟨(some 19), none, .load none (.t 18)⟩, []), (⟨(some 20), none, .mv (.t 1)⟩, [0, 1, 2, 3]), (⟨(some 21), none, .mv (.t 5)⟩, [0, 1, 2, 3, 4]), (⟨(some 22), none, .iadr 1 (.t 20) (.t 21)⟩, [0, 1, 2, 3]), (⟨(some 23), none, .load none (.t 22)⟩, [0, 1, 2, 3]), (⟨(some 24), none, .bin 0 .neq (.t 19) (.t 23)⟩, [])])
 (.cond (.t 24) (.seq (.ops [⟨(some 4), none, .mv (.c (.bool false))⟩])
 (.ret)) (.skip)))))
 (.ops [⟨(some 25), none, .bin 0 .add (.t 13) (.c (.int .i64 1))⟩, ⟨(some 13), none, .mv (.t 25)⟩])))))))
 (.seq (.ops [⟨(some 4), none, .mv (.c (.bool true))⟩])
 (.ret))))⟩
theorem c23 : compF Go.Proofs.Tryz.prog 23 = some a23 := by kernel_rfl
def a24 : AFn := ⟨32, [.t 4], .seq (.ops [⟨(some 2), none, .box 29 (.t 0)⟩, ⟨(some 4), none, .mv (.c (.int .i64 0))⟩])
 (.seq (.seq (.ops [⟨(some 7), none, .mv (.t 1)⟩, ⟨(some 8), none, .len false (.t 7)⟩, ⟨(some 9), none, .bin 0 .gtr (.t 8) (.c (.int .i64 100))⟩])
 (.cond (.t 9) (.seq (.ops [⟨(some 4), none, .mv (.c (.int .i64 2))⟩])
 (.ret)) (.skip)))
 (.seq (.seq (.ops [⟨(some 10), none, .mv (.t 1)⟩, ⟨(some 11), none, .len false (.t 10)⟩, ⟨(some 12), none, .mv (.c (.int .i64 0))⟩])
 (.block 0 (.loop (.seq (.ops [⟨(some 13), none, .bin 0 .lss (.t 12) (.t 11)⟩])
 (.seq (.cond (.t 13) (.skip) (.exit 0))
 (.seq (.block 1 (.seq (.ops [⟨(some 14), none, .mv (.t 12)⟩, ⟨(some 15), none, .iadr 1 (.t 10) (.t 12)⟩, ⟨(some 16), none, .load none (.t 15)⟩, ⟨(some 5), none, .mv (.t 14)⟩, ⟨(some 6), none, .mv (.t 16)⟩])
 (.block 2 (.seq (.ops [⟨(some 18), none, .mv (.t 6)⟩, ⟨(some 19), none, .fadr 0 (.t 2)⟩, ⟨(some 20), none, .load none (.t 19)⟩, ⟨(some 21), none, .len false (.t 20)⟩, ⟨(some 22), none, .bin 0 .sub (.t 21) (.c (.int .i64 1))⟩, ⟨(some 23), none, .call 98 [(.t 18), (.c (.int .i64 0)), (.t 22)]⟩, ⟨(some 24), none, .un .not (.t 23)⟩, ⟨(some 17), none, .mv (.t 24)⟩])
 (.cond (.t 17) (.seq (.ops [⟨(some 4), none, .mv (.c (.int .i64 1))⟩])
 (.ret)) (.seq (.ops [⟨(some 26), none, .mv (.t 1)⟩, ⟨(some 27), none, .mv (.t 5)⟩, ⟨(some 28), none, .slc 1 (.t 26) none (some (.t 27))⟩, ⟨(some 29), none, .mv (.t 6)⟩, ⟨(some 30), none, .call 99 [(.t 28), (.t 29)]⟩, ⟨(some 25), none, .mv (.t 30)⟩])
 (.cond (.t 25) (.seq (.ops [⟨(some 4), none, .mv (.c (.int .i64 6))⟩])
 (.ret)) (.skip))))))))
 (.ops [⟨(some 31), none, .bin 0 .add (.t 12) (.c (.int .i64 1))⟩, ⟨(some 12), none, .mv (.t 31)⟩])))))))
 (.seq (.ops [⟨(some 4), none, .mv (.c (.int .i64 0))⟩])
 (.ret))))⟩
theorem c24 : compF Go.Proofs.Tryz.prog 24 = some a24 := by kernel_rfl
def a25 : AFn := ⟨29, [.t 0], .seq (.ops [⟨(some 0), none, .mv (.c (.bool false))⟩])
 (.seq (.ops [⟨(some 5), none, .bslit 1 1 [(.str [])] [(0, 1, (.c (.str [48])))]⟩, ⟨(some 6), none, .bslit 1 1 [(.str [])] [(0, 1, (.c (.str [49])))]⟩, ⟨(some 7), none, .build [(.str []), (.lit true 0 [])] [(0, 1, (.c (.str [97]))), (1, 1, (.t 6))]⟩, ⟨(some 8), none, .bslit 2 1 [(.str []), (.lit true 0 [])] [(0, 2, (.t 7))]⟩, ⟨(some 9), none, .build [(.lit true 0 []), (.lit true 0 [])] [(0, 1, (.t 5)), (1, 1, (.t 8))]⟩, ⟨(some 1), none, .alloc 29 [(.lit true 0 []), (.lit true 0 [])]⟩, ⟨none, none, .store 2 (.t 1) (.t 9)⟩])
 (.seq (.ops [⟨(some 11), none, .load (some 2) (.t 1)⟩, ⟨(some 12), none, .build [(.int .i64 0), (.str [])] [(0, 1, (.c (.int .i64 0))), (1, 1, (.c (.str [49])))]⟩, ⟨(some 13), none, .bslice 69 2 1 [(.int .i64 0), (.str [])] [(0, 2, (.t 12))]⟩, ⟨(some 14), none, .call 36 [(.t 11), (.t 13)]⟩, ⟨(some 10), none, .mv (.t 14)⟩, ⟨(some 15), none, .ext (.t 10) 0⟩, ⟨(some 16), none, .ext (.t 10) 1⟩, ⟨(some 17), none, .ext (.t 10) 2⟩, ⟨(some 2), none, .mv (.t 15)⟩, ⟨(some 3), none, .mv (.t 16)⟩, ⟨(some 4), none, .mv (.t 17)⟩])
 (.seq (.ops [⟨(some 18), none, .mv (.t 4)⟩, ⟨(some 19), none, .bin 0 .eql (.t 18) (.c (.int .i64 0))⟩, ⟨(some 20), none, .mv (.t 19)⟩, ⟨(some 21), (some (20, true)), .mv (.t 3)⟩, ⟨(some 22), (some (20, true)), .un .not (.t 21)⟩, ⟨(some 23), none, .pick (.t 20) (.t 22) (.c (.bool false))⟩, ⟨(some 24), none, .mv (.t 23)⟩, ⟨(some 25), (some (24, true)), .mv (.t 2)⟩, ⟨(some 26), (some (24, true)), .bslice 9 1 1 [(.str [])] [(0, 1, (.c (.str [97])))]⟩, ⟨(some 27), (some (24, true)), .call 28 [(.t 25), (.t 26)]⟩, ⟨(some 28), none, .pick (.t 24) (.t 27) (.c (.bool false))⟩, ⟨(some 0), none, .mv (.t 28)⟩])
 (.ret))))⟩
theorem c25 : compF Go.Proofs.Tryz.prog 25 = some a25 := by kernel_rfl
def a26 : AFn := ⟨35, [.t 4, .t 5], .seq (.ops [⟨(some 2), none, .box 29 (.t 0)⟩, ⟨(some 4), none, .mv (.c (.lit true 0 []))⟩, ⟨(some 5), none, .mv (.c (.lit true 0 []))⟩])
 (.seq (.seq (.ops [⟨(some 8), none, .fadr 1 (.t 2)⟩, ⟨(some 9), none, .load none (.t 8)⟩, ⟨(some 10), none, .len false (.t 9)⟩, ⟨(some 11), none, .mv (.c (.int .i64 0))⟩])
 (.block 0 (.loop (.seq (.ops [⟨(some 12), none, .bin 0 .lss (.t 11) (.t 10)⟩])
 (.seq (.cond (.t 12) (.skip) (.exit 0))
 (.seq (.block 1 (.seq (.ops [⟨(some 13), none, .iadr 2 (.t 9) (.t 11)⟩, ⟨(some 14), none, .load (some 2) (.t 13)⟩, ⟨(some 7), none, .alloc 67 [(.str []), (.lit true 0 [])]⟩, ⟨none, none, .store 2 (.t 7) (.t 14)⟩])
 (.seq (.any [(⟨(some 15), none, .load (some 2) (.t 7)⟩, []), (⟨(some 16), none, .fadr 0 (.t 2)⟩, [0]), (⟨(some 17), none, .load none (.t 16)⟩, [0]), (⟨(some 18), none, .call 100 [(.t 17)]⟩, [0]), (⟨(some 19), none, .build [(.str []), (.lit true 0 [])] [(1, 1, (.t 18))]⟩, [0]), (⟨(some 20), none, .mv (.t 1)⟩, [0, 1, 2, 3, 4]), (⟨(some 21), none, .call 97 [(.t 15), (.t 19), (.t 20)]⟩, [])])
 (.cond (.t 21) (.ops [⟨(some 22), none, .mv (.t 4)⟩, ⟨(some 23), none, .fadr 0 (.t 7)⟩, ⟨(some 24), none, .load none (.t 23)⟩, ⟨(some 25), none, .bslice 9 1 1 [(.str [])] [(0, 1, (.t 24))]⟩, ⟨(some 26), none, .app 9 1 16 (.t 22) (.t 25)⟩, ⟨(some 4), none, .mv (.t 26)⟩]) (.ops [⟨(some 27), none, .mv (.t 5)⟩, ⟨(some 28), none, .fadr 0 (.t 7)⟩, ⟨(some 29), none, .load none (.t 28)⟩, ⟨(some 30), none, .bslice 9 1 1 [(.str [])] [(0, 1, (.t 29))]⟩, ⟨(some 31), none, .app 9 1 16 (.t 27) (.t 30)⟩, ⟨(some 5), none, .mv (.t 31)⟩])))))
 (.ops [⟨(some 32), none, .bin 0 .add (.t 11) (.c (.int .i64 1))⟩, ⟨(some 11), none, .mv (.t 32)⟩])))))))
 (.seq (.ops [⟨(some 33), none, .mv (.t 4)⟩, ⟨(some 34), none, .mv (.t 5)⟩, ⟨(some 4), none, .mv (.t 33)⟩, ⟨(some 5), none, .mv (.t 34)⟩])
 (.ret)))⟩
theorem c26 : compF Go.Proofs.Tryz.prog 26 = some a26 := by kernel_rfl
def a27 : AFn := ⟨20, [.c 4 (some 2), .t 5], .seq (.ops [⟨(some 2), none, .box 29 (.t 0)⟩, ⟨(some 4), none, .alloc 41 [(.int .i64 0), (.int .i64 0)]⟩, ⟨(some 5), none, .mv (.c (.bool false))⟩])
 (.seq (.seq (.ops [⟨(some 6), none, .fadr 1 (.t 2)⟩, ⟨(some 7), none, .load none (.t 6)⟩, ⟨(some 8), none, .len false (.t 7)⟩, ⟨(some 9), none, .bin 0 .eql (.t 8) (.c (.int .i64 0))⟩])
 (.cond (.t 9) (.seq (.ops [⟨(some 10), none, .build [(.int .i64 0), (.int .i64 0)] []⟩, ⟨none, none, .store 2 (.t 4) (.t 10)⟩, ⟨(some 5), none, .mv (.c (.bool false))⟩])
 (.ret)) (.skip)))
 (.seq (.any [(⟨(some 11), none, .load (some 2) (.t 2)⟩, []), (⟨(some 12), none, .mv (.t 1)⟩, [0]), (⟨(some 13), none, .call 30 [(.t 11), (.t 12)]⟩, []), (⟨(some 14), none, .len false (.t 13)⟩, []), (⟨(some 15), none, .bin 0 .sub (.t 14) (.c (.int .i64 1))⟩, []), (⟨(some 16), none, .fadr 1 (.t 2)⟩, [0, 1, 2, 3, 4]), (⟨(some 17), none, .load none (.t 16)⟩, [0, 1, 2, 3, 4]), (⟨(some 18), none, .len false (.t 17)⟩, [0, 1, 2, 3, 4]), (⟨(some 19), none, .call 101 [(.t 15), (.t 18)]⟩, []), (⟨none, none, .store 2 (.t 4) (.t 19)⟩, []), (⟨(some 5), none, .mv (.c (.bool true))⟩, [])])
 (.ret)))⟩
theorem c27 : compF Go.Proofs.Tryz.prog 27 = some a27 := by kernel_rfl
def a28 : AFn := ⟨26, [.t 4], .seq (.ops [⟨(some 4), none, .mv (.c (.bool false))⟩])
 (.seq (.seq (.ops [⟨(some 6), none, .mv (.t 0)⟩, ⟨(some 7), none, .len false (.t 6)⟩, ⟨(some 8), none, .mv (.t 1)⟩, ⟨(some 9), none, .len false (.t 8)⟩, ⟨(some 10), none, .bin 0 .neq (.t 7) (.t 9)⟩])
 (.cond (.t 10) (.seq (.ops [⟨(some 4), none, .mv (.c (.bool false))⟩])
 (.ret)) (.skip)))
 (.seq (.seq (.ops [⟨(some 11), none, .mv (.t 0)⟩, ⟨(some 12), none, .len false (.t 11)⟩, ⟨(some 13), none, .mv (.c (.int .i64 0))⟩])
 (.block 0 (.loop (.seq (.ops [⟨(some 14), none, .bin 0 .lss (.t 13) (.t 12)⟩])
 (.seq (.cond (.t 14) (.skip) (.exit 0))
 (.seq (.block 1 (.seq (.ops [⟨(some 15), none, .mv (.t 13)⟩, ⟨(some 5), none, .mv (.t 15)⟩])
 (.seq (.any [(⟨(some 16), none, .mv (.t 0)⟩, []), (⟨(some 17), none, .mv (.t 5)⟩, [0]), (⟨(some 18), none, .iadr 1 (.t 16) (.t 17)⟩, []), (⟨(some 19), none, .load none (.t 18)⟩, []), (⟨(some 20), none, .mv (.t 1)⟩, [0, 1, 2, 3]), (⟨(some 21), none, .mv (.t 5)⟩, [0, 1, 2, 3, 4]), (⟨(some 22), none, .iadr 1 (.t 20) (.t 21)⟩, [0, 1, 2, 3]), (⟨(some 23), none, .load none (.t 22)⟩, [0, 1, 2, 3]), (⟨(some 24), none, .bin 1 .neq (.t 19) (.t 23)⟩, [])])
 (.cond (.t 24) (.seq (.ops [⟨(some 4), none, .mv (.c (.bool false))⟩])
 (.ret)) (.skip)))))
 (.ops [⟨(some 25), none, .bin 0 .add (.t 13) (.c (.int .i64 1))⟩, ⟨(some 13), none, .mv (.t 25)⟩])))))))
 (.seq (.ops [⟨(some 4), none, .mv (.c (.bool true))⟩])
 (.ret))))⟩
theorem c28 : compF Go.Proofs.Tryz.prog 28 = some a28 := by kernel_rfl
def a29 : AFn := ⟨32, [.t 6], .seq (.ops [⟨(some 6), none, .mv (.c (.bool false))⟩])
 (.seq (.seq (.ops [⟨(some 10), none, .mv (.t 0)⟩, ⟨(some 11), none, .len false (.t 10)⟩, ⟨(some 12), none, .mv (.t 1)⟩, ⟨(some 13), none, .len false (.t 12)⟩, ⟨(some 14), none, .bin 0 .neq (.t 11) (.t 13)⟩])
 (.cond (.t 14) (.seq (.ops [⟨(some 6), none, .mv (.c (.bool false))⟩])
 (.ret)) (.skip)))
 (.seq (.seq (.ops [⟨(some 15), none, .mv (.t 0)⟩, ⟨(some 16), none, .len false (.t 15)⟩, ⟨(some 17), none, .mv (.c (.int .i64 0))⟩])
 (.block 0 (.loop (.seq (.ops [⟨(some 18), none, .bin 0 .lss (.t 17) (.t 16)⟩])
 (.seq (.cond (.t 18) (.skip) (.exit 0))
 (.seq (.block 1 (.seq (.ops [⟨(some 19), none, .mv (.t 17)⟩, ⟨(some 20), none, .iadr 1 (.t 15) (.t 17)⟩, ⟨(some 21), none, .load none (.t 20)⟩, ⟨(some 7), none, .mv (.t 19)⟩, ⟨(some 8), none, .mv (.t 21)⟩])
 (.seq (.ops [⟨(some 22), none, .mv (.t 1)⟩, ⟨(some 23), none, .mv (.t 7)⟩, ⟨(some 24), none, .iadr 1 (.t 22) (.t 23)⟩, ⟨(some 25), none, .load none (.t 24)⟩, ⟨(some 9), none, .mv (.t 25)⟩])
 (.seq (.ops [⟨(some 26), none, .mv (.t 2)⟩, ⟨(some 27), none, .mv (.t 8)⟩, ⟨(some 28), none, .mv (.t 9)⟩, ⟨(some 29), none, .callv (.t 26) [(.t 27), (.t 28)]⟩, ⟨(some 30), none, .un .not (.t 29)⟩])
 (.cond (.t 30) (.seq (.ops [⟨(some 6), none, .mv (.c (.bool false))⟩])
 (.ret)) (.skip))))))
 (.ops [⟨(some 31), none, .bin 0 .add (.t 17) (.c (.int .i64 1))⟩, ⟨(some 17), none, .mv (.t 31)⟩])))))))
 (.seq (.ops [⟨(some 6), none, .mv (.c (.bool true))⟩])
 (.ret))))⟩
theorem c29 : compF Go.Proofs.Tryz.prog 29 = some a29 := by kernel_rfl
def a30 : AFn := ⟨49, [.t 4], .seq (.ops [⟨(some 2), none, .box 29 (.t 0)⟩, ⟨(some 3), none, .box 22 (.t 1)⟩, ⟨(some 4), none, .mv (.c (.lit true 0 []))⟩])
 (.seq (.ops [⟨(some 5), none, .mv (.c (.lit true 0 []))⟩])
 (.seq (.ops [⟨(some 13), none, .load (some 2) (.t 2)⟩, ⟨(some 14), none, .call 102 [(.t 13)]⟩, ⟨(some 6), none, .mv (.t 14)⟩])
 (.seq (.seq (.ops [⟨(some 15), none, .mv (.t 6)⟩, ⟨(some 16), none, .len false (.t 15)⟩, ⟨(some 17), none, .mv (.c (.int .i64 0))⟩])
 (.block 0 (.loop (.seq (.ops [⟨(some 18), none, .bin 0 .lss (.t 17) (.t 16)⟩])
 (.seq (.cond (.t 18) (.skip) (.exit 0))
 (.seq (.block 1 (.seq (.ops [⟨(some 19), none, .mv (.t 17)⟩, ⟨(some 20), none, .iadr 2 (.t 15) (.t 17)⟩, ⟨(some 21), none, .load (some 2) (.t 20)⟩, ⟨(some 8), none, .alloc 67 [(.str []), (.lit true 0 [])]⟩, ⟨(some 7), none, .mv (.t 19)⟩, ⟨none, none, .store 2 (.t 8) (.t 21)⟩])
 (.seq (.ops [⟨(some 22), none, .mkfn 103 [(.t 8), (.t 3)]⟩, ⟨(some 9), none, .mv (.t 22)⟩])
 (.seq (.seq (.ops [⟨(some 23), none, .mv (.t 6)⟩, ⟨(some 24), none, .mv (.t 7)⟩, ⟨(some 25), none, .slc 2 (.t 23) none (some (.t 24))⟩, ⟨(some 26), none, .mv (.t 9)⟩, ⟨(some 27), none, .call 104 [(.t 25), (.t 26)]⟩])
 (.cond (.t 27) (.exit 1) (.skip)))
 (.seq (.ops [⟨(some 10), none, .mv (.c (.lit true 0 []))⟩])
 (.seq (.seq (.ops [⟨(some 28), none, .mv (.t 6)⟩, ⟨(some 29), none, .len false (.t 28)⟩, ⟨(some 30), none, .mv (.c (.int .i64 0))⟩])
 (.block 2 (.loop (.seq (.ops [⟨(some 31), none, .bin 0 .lss (.t 30) (.t 29)⟩])
 (.seq (.cond (.t 31) (.skip) (.exit 2))
 (.seq (.block 3 (.seq (.ops [⟨(some 32), none, .iadr 2 (.t 28) (.t 30)⟩, ⟨(some 33), none, .load (some 2) (.t 32)⟩, ⟨(some 12), none, .alloc 67 [(.str []), (.lit true 0 [])]⟩, ⟨none, none, .store 2 (.t 12) (.t 33)⟩])
 (.seq (.ops [⟨(some 34), none, .mv (.t 9)⟩, ⟨(some 35), none, .load (some 2) (.t 12)⟩, ⟨(some 36), none, .callv (.t 34) [(.t 35)]⟩])
 (.cond (.t 36) (.ops [⟨(some 37), none, .mv (.t 10)⟩, ⟨(some 38), none, .fadr 0 (.t 12)⟩, ⟨(some 39), none, .load none (.t 38)⟩, ⟨(some 40), none, .bslice 9 1 1 [(.str [])] [(0, 1, (.t 39))]⟩, ⟨(some 41), none, .app 9 1 16 (.t 37) (.t 40)⟩, ⟨(some 10), none, .mv (.t 41)⟩]) (.skip)))))
 (.ops [⟨(some 42), none, .bin 0 .add (.t 30) (.c (.int .i64 1))⟩, ⟨(some 30), none, .mv (.t 42)⟩])))))))
 (.ops [⟨(some 43), none, .mv (.t 5)⟩, ⟨(some 44), none, .mv (.t 10)⟩, ⟨(some 45), none, .bslice 26 1 1 [(.lit true 0 [])] [(0, 1, (.t 44))]⟩, ⟨(some 46), none, .app 26 1 24 (.t 43) (.t 45)⟩, ⟨(some 5), none, .mv (.t 46)⟩])))))))
 (.ops [⟨(some 47), none, .bin 0 .add (.t 17) (.c (.int .i64 1))⟩, ⟨(some 17), none, .mv (.t 47)⟩])))))))
 (.seq (.ops [⟨(some 48), none, .mv (.t 5)⟩, ⟨(some 4), none, .mv (.t 48)⟩])
 (.ret)))))⟩
theorem c30 : compF Go.Proofs.Tryz.prog 30 = some a30 := by kernel_rfl
def a31 : AFn := ⟨19, [.t 6], .seq (.ops [⟨(some 6), none, .mv (.c (.int .i64 0))⟩])
 (.seq (.seq (.ops [⟨(some 7), none, .mv (.t 2)⟩, ⟨(some 8), none, .mv (.t 1)⟩, ⟨(some 9), none, .bin 0 .lss (.t 7) (.t 8)⟩])
 (.cond (.t 9) (.seq (.ops [⟨(some 10), none, .mv (.t 1)⟩, ⟨(some 6), none, .mv (.t 10)⟩])
 (.ret)) (.skip)))
 (.seq (.ops [⟨(some 11), none, .mv (.t 1)⟩, ⟨(some 12), none, .mv (.t 0)⟩, ⟨(some 13), none, .mv (.t 2)⟩, ⟨(some 14), none, .mv (.t 1)⟩, ⟨(some 15), none, .bin 0 .sub (.t 13) (.t 14)⟩, ⟨(some 16), none, .bin 0 .add (.t 15) (.c (.int .i64 1))⟩, ⟨(some 17), none, .call 35 [(.t 12), (.t 16)]⟩, ⟨(some 18), none, .bin 0 .add (.t 11) (.t 17)⟩, ⟨(some 6), none, .mv (.t 18)⟩])
 (.ret)))⟩
theorem c31 : compF Go.Proofs.Tryz.prog 31 = some a31 := by kernel_rfl
def a35 : AFn := ⟨64, [.t 4], .seq (.ops [⟨(some 4), none, .mv (.c (.int .i64 0))⟩])
 (.seq (.ops [⟨(some 7), none, .mv (.t 0)⟩, ⟨(some 8), none, .nilchk (.t 7)⟩, ⟨(some 9), none, .fadr 1 (.t 8)⟩, ⟨(some 10), none, .load none (.t 9)⟩, ⟨(some 11), none, .bin 0 .add (.t 10) (.c (.int .i64 1))⟩, ⟨(some 12), none, .nilchk (.t 7)⟩, ⟨(some 13), none, .fadr 1 (.t 12)⟩, ⟨none, none, .store 1 (.t 13) (.t 11)⟩])
 (.seq (.seq (.ops [⟨(some 14), none, .mv (.t 0)⟩, ⟨(some 15), none, .nilchk (.t 14)⟩, ⟨(some 16), none, .fadr 0 (.t 15)⟩, ⟨(some 17), none, .load none (.t 16)⟩, ⟨(some 18), none, .len false (.t 17)⟩, ⟨(some 19), none, .bin 0 .eql (.t 18) (.c (.int .i64 0))⟩])
 (.cond (.t 19) (.seq (.ops [⟨(some 20), none, .mv (.t 0)⟩, ⟨(some 21), none, .nilchk (.t 20)⟩, ⟨(some 22), none, .fadr 1 (.t 21)⟩, ⟨(some 23), none, .load none (.t 22)⟩, ⟨(some 24), none, .bin 0 .mul (.t 23) (.c (.int .i64 7919))⟩, ⟨(some 25), none, .mv (.t 1)⟩, ⟨(some 26), none, .call 110 [(.t 24), (.t 25)]⟩, ⟨(some 4), none, .mv (.t 26)⟩])
 (.ret)) (.skip)))
 (.seq (.any [(⟨(some 27), none, .mv (.t 0)⟩, []), (⟨(some 28), none, .nilchk (.t 27)⟩, []), (⟨(some 29), none, .fadr 1 (.t 28)⟩, []), (⟨(some 30), none, .load none (.t 29)⟩, []), (⟨(some 31), none, .bin 0 .sub (.t 30) (.c (.int .i64 1))⟩, []), (⟨(some 32), none, .mv (.t 0)⟩, [0, 1, 2, 3, 4]), (⟨(some 33), none, .nilchk (.t 32)⟩, [0, 1, 2, 3, 4]), (⟨(some 34), none, .fadr 0 (.t 33)⟩, [0, 1, 2, 3, 4]), (⟨(some 35), none, .load none (.t 34)⟩, [0, 1, 2, 3, 4]), (⟨(some 36), none, .len false (.t 35)⟩, [0, 1, 2, 3, 4]), (⟨(some 37), none, .bin 0 .rem (.t 31) (.t 36)⟩, []), (⟨(some 5), none, .mv (.t 37)⟩, [])])
 (.seq (.any [(⟨(some 38), none, .mv (.t 0)⟩, []), (⟨(some 39), none, .nilchk (.t 38)⟩, []), (⟨(some 40), none, .fadr 1 (.t 39)⟩, []), (⟨(some 41), none, .load none (.t 40)⟩, []), (⟨(some 42), none, .bin 0 .sub (.t 41) (.c (.int .i64 1))⟩, []), (⟨(some 43), none, .mv (.t 0)⟩, [0, 1, 2, 3, 4]), (⟨(some 44), none, .nilchk (.t 43)⟩, [0, 1, 2, 3, 4]), (⟨(some 45), none, .fadr 0 (.t 44)⟩, [0, 1, 2, 3, 4]), (⟨(some 46), none, .load none (.t 45)⟩, [0, 1, 2, 3, 4]), (⟨(some 47), none, .len false (.t 46)⟩, [0, 1, 2, 3, 4]), (⟨(some 48), none, .bin 0 .quo (.t 42) (.t 47)⟩, []), (⟨(some 6), none, .mv (.t 48)⟩, [])])
 (.seq (.ops [⟨(some 49), none, .mv (.t 0)⟩, ⟨(some 50), none, .nilchk (.t 49)⟩, ⟨(some 51), none, .fadr 0 (.t 50)⟩, ⟨(some 52), none, .load none (.t 51)⟩, ⟨(some 53), none, .mv (.t 5)⟩, ⟨(some 54), none, .iadr 1 (.t 52) (.t 53)⟩, ⟨(some 55), none, .load none (.t 54)⟩, ⟨(some 56), none, .call 110 [(.t 55), (.c (.int .i64 1073741824))]⟩, ⟨(some 57), none, .mv (.t 6)⟩, ⟨(some 58), none, .mv (.t 5)⟩, ⟨(some 59), none, .bin 0 .add (.c (.int .i64 7919)) (.t 58)⟩, ⟨(some 60), none, .bin 0 .mul (.t 57) (.t 59)⟩, ⟨(some 61), none, .bin 0 .add (.t 56) (.t 60)⟩, ⟨(some 62), none, .mv (.t 1)⟩, ⟨(some 63), none, .call 110 [(.t 61), (.t 62)]⟩, ⟨(some 4), none, .mv (.t 63)⟩])
 (.ret))))))⟩
theorem c35 : compF Go.Proofs.Tryz.prog 35 = some a35 := by kernel_rfl
def a36 : AFn := ⟨39, [.t 4, .t 5, .t 6], .seq (.ops [⟨(some 2), none, .box 29 (.t 0)⟩, ⟨(some 4), none, .mv (.c (.lit true 0 []))⟩, ⟨(some 5), none, .mv (.c (.bool false))⟩, ⟨(some 6), none, .mv (.c (.int .i64 0))⟩])
 (.seq (.seq (.ops [⟨(some 11), none, .load (some 2) (.t 2)⟩, ⟨(some 12), none, .mv (.t 1)⟩, ⟨(some 13), none, .call 64 [(.t 11), (.t 12)]⟩, ⟨(some 7), none, .mv (.t 13)⟩])
 (.seq (.ops [⟨(some 14), none, .mv (.t 7)⟩, ⟨(some 15), none, .bin 0 .neq (.t 14) (.c (.int .i64 0))⟩])
 (.cond (.t 15) (.seq (.ops [⟨(some 16), none, .mv (.t 7)⟩, ⟨(some 4), none, .mv (.c (.lit true 0 []))⟩, ⟨(some 5), none, .mv (.c (.bool false))⟩, ⟨(some 6), none, .mv (.t 16)⟩])
 (.ret)) (.skip))))
 (.seq (.ops [⟨(some 8), none, .mv (.c (.lit true 0 []))⟩])
 (.seq (.seq (.ops [⟨(some 17), none, .fadr 1 (.t 2)⟩, ⟨(some 18), none, .load none (.t 17)⟩, ⟨(some 19), none, .len false (.t 18)⟩, ⟨(some 20), none, .mv (.c (.int .i64 0))⟩])
 (.block 0 (.loop (.seq (.ops [⟨(some 21), none, .bin 0 .lss (.t 20) (.t 19)⟩])
 (.seq (.cond (.t 21) (.skip) (.exit 0))
 (.seq (.block 1 (.seq (.ops [⟨(some 22), none, .iadr 2 (.t 18) (.t 20)⟩, ⟨(some 23), none, .load (some 2) (.t 22)⟩, ⟨(some 10), none, .alloc 67 [(.str []), (.lit true 0 [])]⟩, ⟨none, none, .store 2 (.t 10) (.t 23)⟩])
 (.seq (.ops [⟨(some 24), none, .load (some 2) (.t 10)⟩, ⟨(some 25), none, .mv (.t 1)⟩, ⟨(some 26), none, .call 111 [(.t 24), (.t 25)]⟩])
 (.cond (.t 26) (.ops [⟨(some 27), none, .mv (.t 8)⟩, ⟨(some 28), none, .fadr 0 (.t 10)⟩, ⟨(some 29), none, .load none (.t 28)⟩, ⟨(some 30), none, .bslice 9 1 1 [(.str [])] [(0, 1, (.t 29))]⟩, ⟨(some 31), none, .app 9 1 16 (.t 27) (.t 30)⟩, ⟨(some 8), none, .mv (.t 31)⟩]) (.skip)))))
 (.ops [⟨(some 32), none, .bin 0 .add (.t 20) (.c (.int .i64 1))⟩, ⟨(some 20), none, .mv (.t 32)⟩])))))))
 (.seq (.ops [⟨(some 33), none, .mv (.t 8)⟩, ⟨(some 34), none, .fadr 0 (.t 2)⟩, ⟨(some 35), none, .load none (.t 34)⟩, ⟨(some 36), none, .build [(.str []), (.lit true 0 [])] [(1, 1, (.t 35))]⟩, ⟨(some 37), none, .mv (.t 1)⟩, ⟨(some 38), none, .call 111 [(.t 36), (.t 37)]⟩, ⟨(some 4), none, .mv (.t 33)⟩, ⟨(some 5), none, .mv (.t 38)⟩, ⟨(some 6), none, .mv (.c (.int .i64 0))⟩])
 (.ret)))))⟩
theorem c36 : compF Go.Proofs.Tryz.prog 36 = some a36 := by kernel_rfl
def a44 : AFn := ⟨9, [.t 4], .seq (.ops [⟨(some 4), none, .mv (.c (.bool false))⟩])
 (.seq (.ops [⟨(some 5), none, .mv (.t 0)⟩, ⟨(some 6), none, .mv (.t 1)⟩, ⟨(some 7), none, .call 35 [(.t 5), (.t 6)]⟩, ⟨(some 8), none, .bin 0 .eql (.t 7) (.c (.int .i64 0))⟩, ⟨(some 4), none, .mv (.t 8)⟩])
 (.ret))⟩
theorem c44 : compF Go.Proofs.Tryz.prog 44 = some a44 := by kernel_rfl
def a46 : AFn := ⟨103, [.t 4], .seq (.ops [⟨(some 3), none, .box 29 (.t 1)⟩, ⟨(some 4), none, .mv (.c (.lit true 0 []))⟩])
 (.seq (.ops [⟨(some 5), none, .mv (.c (.lit true 0 []))⟩])
 (.seq (.ops [⟨(some 9), none, .fadr 0 (.t 3)⟩, ⟨(some 10), none, .load none (.t 9)⟩, ⟨(some 6), none, .mv (.t 10)⟩])
 (.seq (.seq (.ops [⟨(some 11), none, .fadr 1 (.t 3)⟩, ⟨(some 12), none, .load none (.t 11)⟩, ⟨(some 13), none, .len false (.t 12)⟩, ⟨(some 14), none, .bin 0 .gtr (.t 13) (.c (.int .i64 0))⟩, ⟨(some 15), none, .mv (.t 14)⟩, ⟨(some 16), (some (15, true)), .mv (.t 0)⟩, ⟨(some 17), (some (15, true)), .call 44 [(.t 16), (.c (.int .i64 4))]⟩, ⟨(some 18), (some (15, true)), .un .not (.t 17)⟩, ⟨(some 19), none, .pick (.t 15) (.t 18) (.c (.bool false))⟩])
 (.cond (.t 19) (.any [(⟨(some 20), none, .fadr 1 (.t 3)⟩, []), (⟨(some 21), none, .load none (.t 20)⟩, []), (⟨(some 22), none, .mv (.t 0)⟩, [0, 1]), (⟨(some 23), none, .fadr 1 (.t 3)⟩, [0, 1, 2]), (⟨(some 24), none, .load none (.t 23)⟩, [0, 1, 2]), (⟨(some 25), none, .len false (.t 24)⟩, [0, 1, 2]), (⟨(some 26), none, .call 35 [(.t 22), (.t 25)]⟩, [0, 1]), (⟨(some 27), none, .iadr 2 (.t 21) (.t 26)⟩, []), (⟨(some 28), none, .fadr 1 (.t 27)⟩, []), (⟨(some 29), none, .load none (.t 28)⟩, []), (⟨(some 6), none, .mv (.t 29)⟩, [])]) (.skip)))
 (.seq (.seq (.ops [⟨(some 30), none, .fadr 0 (.t 3)⟩, ⟨(some 31), none, .load none (.t 30)⟩, ⟨(some 32), none, .len false (.t 31)⟩, ⟨(some 33), none, .mv (.c (.int .i64 0))⟩])
 (.block 0 (.loop (.seq (.ops [⟨(some 34), none, .bin 0 .lss (.t 33) (.t 32)⟩])
 (.seq (.cond (.t 34) (.skip) (.exit 0))
 (.seq (.block 1 (.seq (.ops [⟨(some 35), none, .mv (.t 33)⟩, ⟨(some 7), none, .mv (.t 35)⟩])
 (.seq (.ops [⟨(some 36), none, .mv (.t 0)⟩, ⟨(some 37), none, .call 44 [(.t 36), (.c (.int .i64 3))]⟩, ⟨(some 38), none, .un .not (.t 37)⟩, ⟨(some 39), none, .mv (.t 38)⟩, ⟨(some 40), (some (39, true)), .mv (.t 7)⟩, ⟨(some 41), (some (39, true)), .mv (.t 6)⟩, ⟨(some 42), (some (39, true)), .len false (.t 41)⟩, ⟨(some 43), (some (39, true)), .bin 0 .lss (.t 40) (.t 42)⟩, ⟨(some 44), none, .pick (.t 39) (.t 43) (.c (.bool false))⟩])
 (.cond (.t 44) (.any [(⟨(some 45), none, .mv (.t 5)⟩, []), (⟨(some 46), none, .mv (.t 7)⟩, [0]), (⟨(some 47), none, .mv (.t 0)⟩, [0, 1]), (⟨(some 48), none, .mv (.t 6)⟩, [0, 1, 2]), (⟨(some 49), none, .mv (.t 7)⟩, [0, 1, 2, 3]), (⟨(some 50), none, .iadr 1 (.t 48) (.t 49)⟩, [0, 1, 2]), (⟨(some 51), none, .load none (.t 50)⟩, [0, 1, 2]), (⟨(some 52), none, .mv (.t 6)⟩, [0, 1, 2, 3, 4, 5, 6]), (⟨(some 53), none, .mv (.t 7)⟩, [0, 1, 2, 3, 4, 5, 6, 7]), (⟨(some 54), none, .iadr 1 (.t 52) (.t 53)⟩, [0, 1, 2, 3, 4, 5, 6]), (⟨(some 55), none, .load none (.t 54)⟩, [0, 1, 2, 3, 4, 5, 6]), (⟨(some 56), none, .mv (.t 6)⟩, [0, 1, 2, 3, 4, 5, 6, 7, 8, 9, 10]), (⟨(some 57), none, .mv (.t 7)⟩, [0, 1, 2, 3, 4, 5, 6, 7, 8, 9, 10, 11]), (⟨(some 58), none, .iadr 1 (.t 56) (.t 57)⟩, [0, 1, 2, 3, 4, 5, 6, 7, 8, 9, 10]), (⟨(some 59), none, .load none (.t 58)⟩, [0, 1, 2, 3, 4, 5, 6, 7, 8, 9, 10]), (⟨(some 60), none, .bslice 9 1 5 [(.str [])] [(0, 1, (.t 51)), (1, 1, (.t 55)), (2, 1, (.t 59)), (3, 1, (.c (.str [48]))), (4, 1, (.c (.str [49])))]⟩, [0, 1, 2]), (⟨(some 61), none, .call 83 [(.t 47), (.t 60)]⟩, [0, 1]), (⟨(some 62), none, .build [(.int .i64 0), (.str [])] [(0, 1, (.t 46)), (1, 1, (.t 61))]⟩, [0]), (⟨(some 63), none, .bslice 69 2 1 [(.int .i64 0), (.str [])] [(0, 2, (.t 62))]⟩, [0]), (⟨(some 64), none, .app 69 2 24 (.t 45) (.t 63)⟩, []), (⟨(some 5), none, .mv (.t 64)⟩, [])]) (.skip)))))
 (.ops [⟨(some 65), none, .bin 0 .add (.t 33) (.c (.int .i64 1))⟩, ⟨(some 33), none, .mv (.t 65)⟩])))))))
 (.seq (.seq (.ops [⟨(some 66), none, .mv (.t 5)⟩, ⟨(some 67), none, .len false (.t 66)⟩, ⟨(some 68), none, .bin 0 .gtr (.t 67) (.c (.int .i64 0))⟩, ⟨(some 69), none, .mv (.t 68)⟩, ⟨(some 70), (some (69, true)), .mv (.t 0)⟩, ⟨(some 71), (some (69, true)), .call 44 [(.t 70), (.c (.int .i64 15))]⟩, ⟨(some 72), none, .pick (.t 69) (.t 71) (.c (.bool false))⟩])
 (.cond (.t 72) (.seq (.ops [⟨(some 73), none, .mv (.t 5)⟩, ⟨(some 74), none, .mv (.t 0)⟩, ⟨(some 75), none, .mv (.t 5)⟩, ⟨(some 76), none, .len false (.t 75)⟩, ⟨(some 77), none, .call 35 [(.t 74), (.t 76)]⟩, ⟨(some 78), none, .iadr 2 (.t 73) (.t 77)⟩, ⟨(some 8), none, .mv (.t 78)⟩])
 (.any [(⟨(some 79), none, .mv (.t 8)⟩, []), (⟨(some 80), none, .mv (.t 8)⟩, [0]), (⟨(some 81), none, .mv (.t 0)⟩, [0, 1]), (⟨(some 82), none, .mv (.t 8)⟩, [0, 1, 2]), (⟨(some 83), none, .nilchk (.t 82)⟩, [0, 1, 2]), (⟨(some 84), none, .fadr 0 (.t 83)⟩, [0, 1, 2]), (⟨(some 85), none, .load none (.t 84)⟩, [0, 1, 2]), (⟨(some 86), none, .fadr 0 (.t 3)⟩, [0, 1, 2, 3, 4, 5, 6]), (⟨(some 87), none, .load none (.t 86)⟩, [0, 1, 2, 3, 4, 5, 6]), (⟨(some 88), none, .len false (.t 87)⟩, [0, 1, 2, 3, 4, 5, 6]), (⟨(some 89), none, .bslice 3 1 4 [(.int .i64 0)] [(0, 1, (.t 85)), (1, 1, (.c (.int .i64 (-1)))), (2, 1, (.t 88)), (3, 1, (.c (.int .i64 0)))]⟩, [0, 1, 2]), (⟨(some 90), none, .call 54 [(.t 81), (.t 89)]⟩, [0, 1]), (⟨(some 91), none, .mv (.t 0)⟩, [0, 1, 2, 3, 4, 5, 6, 7, 8, 9, 10, 11]), (⟨(some 92), none, .mv (.t 8)⟩, [0, 1, 2, 3, 4, 5, 6, 7, 8, 9, 10, 11, 12]), (⟨(some 93), none, .nilchk (.t 92)⟩, [0, 1, 2, 3, 4, 5, 6, 7, 8, 9, 10, 11, 12]), (⟨(some 94), none, .fadr 1 (.t 93)⟩, [0, 1, 2, 3, 4, 5, 6, 7, 8, 9, 10, 11, 12]), (⟨(some 95), none, .load none (.t 94)⟩, [0, 1, 2, 3, 4, 5, 6, 7, 8, 9, 10, 11, 12]), (⟨(some 96), none, .bslice 9 1 3 [(.str [])] [(0, 1, (.t 95)), (1, 1, (.c (.str []))), (2, 1, (.c (.str [32])))]⟩, [0, 1, 2, 3, 4, 5, 6, 7, 8, 9, 10, 11, 12]), (⟨(some 97), none, .call 83 [(.t 91), (.t 96)]⟩, [0, 1]), (⟨(some 98), none, .nilchk (.t 79)⟩, [1]), (⟨(some 99), none, .fadr 0 (.t 98)⟩, [1]), (⟨none, none, .store 1 (.t 99) (.t 90)⟩, [1]), (⟨(some 100), none, .nilchk (.t 80)⟩, []), (⟨(some 101), none, .fadr 1 (.t 100)⟩, []), (⟨none, none, .store 1 (.t 101) (.t 97)⟩, [])])) (.skip)))
 (.seq (.ops [⟨(some 102), none, .mv (.t 5)⟩, ⟨(some 4), none, .mv (.t 102)⟩])
 (.ret)))))))⟩
def a51 : AFn := ⟨59, [.t 4, .t 5], .seq (.ops [⟨(some 2), none, .box 29 (.t 0)⟩, ⟨(some 4), none, .mv (.c (.lit true 0 []))⟩, ⟨(some 5), none, .mv (.c (.int .i64 0))⟩])
 (.seq (.ops [⟨(some 6), none, .mv (.c (.lit true 0 []))⟩])
 (.seq (.ops [⟨(some 7), none, .mv (.c (.int .i64 0))⟩])
 (.seq (.seq (.ops [⟨(some 13), none, .fadr 1 (.t 2)⟩, ⟨(some 14), none, .load none (.t 13)⟩, ⟨(some 15), none, .len false (.t 14)⟩, ⟨(some 16), none, .mv (.c (.int .i64 0))⟩])
 (.block 0 (.loop (.seq (.ops [⟨(some 17), none, .bin 0 .lss (.t 16) (.t 15)⟩])
 (.seq (.cond (.t 17) (.skip) (.exit 0))
 (.seq (.block 1 (.seq (.ops [⟨(some 18), none, .iadr 2 (.t 14) (.t 16)⟩, ⟨(some 19), none, .load (some 2) (.t 18)⟩, ⟨(some 9), none, .alloc 67 [(.str []), (.lit true 0 [])]⟩, ⟨none, none, .store 2 (.t 9) (.t 19)⟩])
 (.seq (.ops [⟨(some 10), none, .mv (.c (.int .i64 0))⟩])
 (.seq (.seq (.ops [⟨(some 20), none, .mv (.t 1)⟩, ⟨(some 21), none, .len false (.t 20)⟩, ⟨(some 22), none, .mv (.c (.int .i64 0))⟩])
 (.block 2 (.loop (.seq (.ops [⟨(some 23), none, .bin 0 .lss (.t 22) (.t 21)⟩])
 (.seq (.cond (.t 23) (.skip) (.exit 2))
 (.seq (.block 3 (.seq (.ops [⟨(some 24), none, .iadr 2 (.t 20) (.t 22)⟩, ⟨(some 25), none, .load (some 2) (.t 24)⟩, ⟨(some 12), none, .alloc 69 [(.int .i64 0), (.str [])]⟩, ⟨none, none, .store 2 (.t 12) (.t 25)⟩])
 (.any [(⟨(some 26), none, .mv (.t 10)⟩, []), (⟨(some 27), none, .fadr 1 (.t 9)⟩, [0]), (⟨(some 28), none, .load none (.t 27)⟩, [0]), (⟨(some 29), none, .fadr 0 (.t 12)⟩, [0, 1, 2]), (⟨(some 30), none, .load none (.t 29)⟩, [0, 1, 2]), (⟨(some 31), none, .iadr 1 (.t 28) (.t 30)⟩, [0]), (⟨(some 32), none, .load none (.t 31)⟩, [0]), (⟨(some 33), none, .fadr 1 (.t 12)⟩, [0, 1, 2, 3, 4, 5, 6]), (⟨(some 34), none, .load none (.t 33)⟩, [0, 1, 2, 3, 4, 5, 6]), (⟨(some 35), none, .bin 1 .neq (.t 32) (.t 34)⟩, [0]), (⟨(some 36), none, .call 133 [(.t 35)]⟩, [0]), (⟨(some 37), none, .bin 0 .add (.t 26) (.t 36)⟩, []), (⟨(some 10), none, .mv (.t 37)⟩, [])])))
 (.ops [⟨(some 38), none, .bin 0 .add (.t 22) (.c (.int .i64 1))⟩, ⟨(some 22), none, .mv (.t 38)⟩])))))))
 (.seq (.seq (.ops [⟨(some 39), none, .mv (.t 6)⟩, ⟨(some 40), none, .len false (.t 39)⟩, ⟨(some 41), none, .bin 0 .eql (.t 40) (.c (.int .i64 0))⟩, ⟨(some 42), none, .mv (.t 41)⟩, ⟨(some 43), (some (42, false)), .mv (.t 10)⟩, ⟨(some 44), (some (42, false)), .mv (.t 7)⟩, ⟨(some 45), (some (42, false)), .bin 0 .lss (.t 43) (.t 44)⟩, ⟨(some 46), none, .pick (.t 42) (.c (.bool true)) (.t 45)⟩])
 (.cond (.t 46) (.ops [⟨(some 47), none, .mv (.t 10)⟩, ⟨(some 6), none, .mv (.c (.lit true 0 []))⟩, ⟨(some 7), none, .mv (.t 47)⟩]) (.skip)))
 (.seq (.ops [⟨(some 48), none, .mv (.t 10)⟩, ⟨(some 49), none, .mv (.t 7)⟩, ⟨(some 50), none, .bin 0 .eql (.t 48) (.t 49)⟩])
 (.cond (.t 50) (.ops [⟨(some 51), none, .mv (.t 6)⟩, ⟨(some 52), none, .fadr 0 (.t 9)⟩, ⟨(some 53), none, .load none (.t 52)⟩, ⟨(some 54), none, .bslice 9 1 1 [(.str [])] [(0, 1, (.t 53))]⟩, ⟨(some 55), none, .app 9 1 16 (.t 51) (.t 54)⟩, ⟨(some 6), none, .mv (.t 55)⟩]) (.skip))))))))
 (.ops [⟨(some 56), none, .bin 0 .add (.t 16) (.c (.int .i64 1))⟩, ⟨(some 16), none, .mv (.t 56)⟩])))))))
 (.seq (.ops [⟨(some 57), none, .mv (.t 6)⟩, ⟨(some 58), none, .mv (.t 7)⟩, ⟨(some 4), none, .mv (.t 57)⟩, ⟨(some 5), none, .mv (.t 58)⟩])
 (.ret)))))⟩
def a53 : AFn := ⟨82, [.t 4, .t 5, .t 6], .seq (.ops [⟨(some 2), none, .box 29 (.t 0)⟩, ⟨(some 3), none, .box 65 (.t 1)⟩, ⟨(some 4), none, .mv (.c (.int .i64 0))⟩, ⟨(some 5), none, .mv (.c (.int .i64 0))⟩, ⟨(some 6), none, .mv (.c (.bool false))⟩])
 (.seq (.ops [⟨(some 16), none, .load (some 2) (.t 2)⟩, ⟨(some 17), none, .call 102 [(.t 16)]⟩, ⟨(some 18), none, .mkfn 140 [(.t 3)]⟩, ⟨(some 19), none, .call 122 [(.t 17), (.t 18)]⟩, ⟨(some 7), none, .mv (.t 19)⟩])
 (.seq (.ops [⟨(some 8), none, .mv (.c (.int .i64 (-1)))⟩, ⟨(some 9), none, .mv (.c (.int .i64 0))⟩, ⟨(some 10), none, .mv (.c (.int .i64 0))⟩])
 (.seq (.seq (.ops [⟨(some 20), none, .fadr 0 (.t 2)⟩, ⟨(some 21), none, .load none (.t 20)⟩, ⟨(some 22), none, .len false (.t 21)⟩, ⟨(some 23), none, .mv (.c (.int .i64 0))⟩])
 (.block 0 (.loop (.seq (.ops [⟨(some 24), none, .bin 0 .lss (.t 23) (.t 22)⟩])
 (.seq (.cond (.t 24) (.skip) (.exit 0))
 (.seq (.block 1 (.seq (.ops [⟨(some 25), none, .mv (.t 23)⟩, ⟨(some 11), none, .alloc 3 [(.int .i64 0)]⟩, ⟨none, none, .store 1 (.t 11) (.t 25)⟩])
 (.seq (.seq (.ops [⟨(some 26), none, .load none (.t 3)⟩, ⟨(some 27), none, .mkfn 141 [(.t 11)]⟩, ⟨(some 28), none, .call 125 [(.t 26), (.t 27)]⟩])
 (.cond (.t 28) (.exit 1) (.skip)))
 (.seq (.ops [⟨(some 29), none, .mmk .s (.int .i64 0)⟩, ⟨(some 12), none, .mv (.t 29)⟩])
 (.seq (.ops [⟨(some 13), none, .mv (.c (.int .i64 0))⟩])
 (.seq (.seq (.ops [⟨(some 30), none, .mv (.t 7)⟩, ⟨(some 31), none, .len false (.t 30)⟩, ⟨(some 32), none, .mv (.c (.int .i64 0))⟩])
 (.block 2 (.loop (.seq (.ops [⟨(some 33), none, .bin 0 .lss (.t 32) (.t 31)⟩])
 (.seq (.cond (.t 33) (.skip) (.exit 2))
 (.seq (.block 3 (.seq (.ops [⟨(some 34), none, .iadr 2 (.t 30) (.t 32)⟩, ⟨(some 35), none, .load (some 2) (.t 34)⟩, ⟨(some 15), none, .alloc 67 [(.str []), (.lit true 0 [])]⟩, ⟨none, none, .store 2 (.t 15) (.t 35)⟩])
 (.seq (.ops [⟨(some 36), none, .mv (.t 12)⟩, ⟨(some 37), none, .fadr 1 (.t 15)⟩, ⟨(some 38), none, .load none (.t 37)⟩, ⟨(some 39), none, .load none (.t 11)⟩, ⟨(some 40), none, .iadr 1 (.t 38) (.t 39)⟩, ⟨(some 41), none, .load none (.t 40)⟩, ⟨(some 42), none, .mlk false .s (.int .i64 0) (.t 36) (.t 41)⟩, ⟨(some 43), none, .bin 0 .add (.t 42) (.c (.int .i64 1))⟩, ⟨none, none, .mup .s (.t 36) (.t 41) (.t 43)⟩])
 (.ops [⟨(some 44), none, .mv (.t 13)⟩, ⟨(some 45), none, .mv (.t 12)⟩, ⟨(some 46), none, .fadr 1 (.t 15)⟩, ⟨(some 47), none, .load none (.t 46)⟩, ⟨(some 48), none, .load none (.t 11)⟩, ⟨(some 49), none, .iadr 1 (.t 47) (.t 48)⟩, ⟨(some 50), none, .load none (.t 49)⟩, ⟨(some 51), none, .mlk false .s (.int .i64 0) (.t 45) (.t 50)⟩, ⟨(some 52), none, .mm true (.t 44) [(.t 51)]⟩, ⟨(some 13), none, .mv (.t 52)⟩]))))
 (.ops [⟨(some 53), none, .bin 0 .add (.t 32) (.c (.int .i64 1))⟩, ⟨(some 32), none, .mv (.t 53)⟩])))))))
 (.seq (.ops [⟨(some 54), none, .mv (.t 8)⟩, ⟨(some 55), none, .bin 0 .lss (.t 54) (.c (.int .i64 0))⟩, ⟨(some 56), none, .mv (.t 55)⟩, ⟨(some 57), (some (56, false)), .mv (.t 13)⟩, ⟨(some 58), (some (56, false)), .mv (.t 9)⟩, ⟨(some 59), (some (56, false)), .call 143 [(.t 57), (.t 58)]⟩, ⟨(some 60), (some (56, false)), .mv (.t 10)⟩, ⟨(some 61), (some (56, false)), .mv (.t 12)⟩, ⟨(some 62), (some (56, false)), .mlen (.t 61)⟩, ⟨(some 63), (some (56, false)), .call 143 [(.t 60), (.t 62)]⟩, ⟨(some 64), (some (56, false)), .bslice 3 1 2 [(.int .i64 0)] [(0, 1, (.t 59)), (1, 1, (.t 63))]⟩, ⟨(some 65), (some (56, false)), .call 142 [(.t 64)]⟩, ⟨(some 66), (some (56, false)), .bin 0 .lss (.t 65) (.c (.int .i64 0))⟩, ⟨(some 67), none, .pick (.t 56) (.c (.bool true)) (.t 66)⟩])
 (.cond (.t 67) (.ops [⟨(some 68), none, .load none (.t 11)⟩, ⟨(some 69), none, .mv (.t 13)⟩, ⟨(some 70), none, .mv (.t 12)⟩, ⟨(some 71), none, .mlen (.t 70)⟩, ⟨(some 8), none, .mv (.t 68)⟩, ⟨(some 9), none, .mv (.t 69)⟩, ⟨(some 10), none, .mv (.t 71)⟩]) (.skip)))))))))
 (.ops [⟨(some 72), none, .bin 0 .add (.t 23) (.c (.int .i64 1))⟩, ⟨(some 23), none, .mv (.t 72)⟩])))))))
 (.seq (.seq (.ops [⟨(some 73), none, .mv (.t 8)⟩, ⟨(some 74), none, .bin 0 .lss (.t 73) (.c (.int .i64 0))⟩, ⟨(some 75), none, .mv (.t 74)⟩, ⟨(some 76), (some (75, false)), .mv (.t 7)⟩, ⟨(some 77), (some (75, false)), .len false (.t 76)⟩, ⟨(some 78), (some (75, false)), .bin 0 .lss (.t 77) (.c (.int .i64 2))⟩, ⟨(some 79), none, .pick (.t 75) (.c (.bool true)) (.t 78)⟩])
 (.cond (.t 79) (.seq (.ops [⟨(some 4), none, .mv (.c (.int .i64 0))⟩, ⟨(some 5), none, .mv (.c (.int .i64 0))⟩, ⟨(some 6), none, .mv (.c (.bool false))⟩])
 (.ret)) (.skip)))
 (.seq (.ops [⟨(some 80), none, .mv (.t 8)⟩, ⟨(some 81), none, .mv (.t 9)⟩, ⟨(some 4), none, .mv (.t 80)⟩, ⟨(some 5), none, .mv (.t 81)⟩, ⟨(some 6), none, .mv (.c (.bool true))⟩])
 (.ret))))))⟩
def a54 : AFn := ⟨12, [.t 4], .seq (.ops [⟨(some 4), none, .mv (.c (.int .i64 0))⟩])
 (.seq (.ops [⟨(some 5), none, .mv (.t 1)⟩, ⟨(some 6), none, .mv (.t 0)⟩, ⟨(some 7), none, .mv (.t 1)⟩, ⟨(some 8), none, .len false (.t 7)⟩, ⟨(some 9), none, .call 35 [(.t 6), (.t 8)]⟩, ⟨(some 10), none, .iadr 1 (.t 5) (.t 9)⟩, ⟨(some 11), none, .load none (.t 10)⟩, ⟨(some 4), none, .mv (.t 11)⟩])
 (.ret))⟩
theorem c54 : compF Go.Proofs.Tryz.prog 54 = some a54 := by kernel_rfl
def a61 : AFn := ⟨9, [.t 4], .seq (.ops [⟨(some 4), none, .mv (.c (.bool false))⟩])
 (.seq (.ops [⟨(some 5), none, .mv (.t 0)⟩, ⟨(some 6), none, .mv (.t 1)⟩, ⟨(some 7), none, .call 151 [(.t 5), (.t 6)]⟩, ⟨(some 8), none, .bin 0 .geq (.t 7) (.c (.int .i64 0))⟩, ⟨(some 4), none, .mv (.t 8)⟩])
 (.ret))⟩
theorem c61 : compF Go.Proofs.Tryz.prog 61 = some a61 := by kernel_rfl
def a63 : AFn := ⟨68, [.t 2], .seq (.ops [⟨(some 1), none, .box 29 (.t 0)⟩, ⟨(some 2), none, .mv (.c (.int .i64 0))⟩])
 (.seq (.block 0 (.seq (.ops [⟨(some 7), none, .fadr 0 (.t 1)⟩, ⟨(some 8), none, .load none (.t 7)⟩, ⟨(some 9), none, .len false (.t 8)⟩, ⟨(some 10), none, .bin 0 .eql (.t 9) (.c (.int .i64 0))⟩, ⟨(some 6), none, .mv (.t 10)⟩])
 (.cond (.t 6) (.seq (.ops [⟨(some 2), none, .mv (.c (.int .i64 8))⟩])
 (.ret)) (.seq (.ops [⟨(some 12), none, .fadr 0 (.t 1)⟩, ⟨(some 13), none, .load none (.t 12)⟩, ⟨(some 14), none, .len false (.t 13)⟩, ⟨(some 15), none, .bin 0 .gtr (.t 14) (.c (.int .i64 100))⟩, ⟨(some 16), none, .mv (.t 15)⟩, ⟨(some 17), (some (16, false)), .fadr 1 (.t 1)⟩, ⟨(some 18), (some (16, false)), .load none (.t 17)⟩, ⟨(some 19), (some (16, false)), .len false (.t 18)⟩, ⟨(some 20), (some (16, false)), .bin 0 .gtr (.t 19) (.c (.int .i64 300))⟩, ⟨(some 21), none, .pick (.t 16) (.c (.bool true)) (.t 20)⟩, ⟨(some 11), none, .mv (.t 21)⟩])
 (.cond (.t 11) (.seq (.ops [⟨(some 2), none, .mv (.c (.int .i64 2))⟩])
 (.ret)) (.skip))))))
 (.seq (.ops [⟨(some 3), none, .mv (.c (.fn 152 []))⟩])
 (.seq (.seq (.ops [⟨(some 22), none, .fadr 0 (.t 1)⟩, ⟨(some 23), none, .load none (.t 22)⟩, ⟨(some 24), none, .mv (.t 3)⟩, ⟨(some 25), none, .call 61 [(.t 23), (.t 24)]⟩])
 (.cond (.t 25) (.seq (.ops [⟨(some 2), none, .mv (.c (.int .i64 9))⟩])
 (.ret)) (.skip)))
 (.seq (.seq (.ops [⟨(some 26), none, .fadr 1 (.t 1)⟩, ⟨(some 27), none, .load none (.t 26)⟩, ⟨(some 28), none, .len false (.t 27)⟩, ⟨(some 29), none, .mv (.c (.int .i64 0))⟩])
 (.block 1 (.loop (.seq (.ops [⟨(some 30), none, .bin 0 .lss (.t 29) (.t 28)⟩])
 (.seq (.cond (.t 30) (.skip) (.exit 1))
 (.seq (.block 2 (.seq (.ops [⟨(some 31), none, .mv (.t 29)⟩, ⟨(some 32), none, .iadr 2 (.t 27) (.t 29)⟩, ⟨(some 33), none, .load (some 2) (.t 32)⟩, ⟨(some 5), none, .alloc 67 [(.str []), (.lit true 0 [])]⟩, ⟨(some 4), none, .mv (.t 31)⟩, ⟨none, none, .store 2 (.t 5) (.t 33)⟩])
 (.block 3 (.seq (.ops [⟨(some 35), none, .fadr 0 (.t 5)⟩, ⟨(some 36), none, .load none (.t 35)⟩, ⟨(some 37), none, .call 154 [(.t 36)]⟩, ⟨(some 38), none, .un .not (.t 37)⟩, ⟨(some 34), none, .mv (.t 38)⟩])
 (.cond (.t 34) (.seq (.ops [⟨(some 2), none, .mv (.c (.int .i64 5))⟩])
 (.ret)) (.seq (.ops [⟨(some 40), none, .fadr 1 (.t 5)⟩, ⟨(some 41), none, .load none (.t 40)⟩, ⟨(some 42), none, .len false (.t 41)⟩, ⟨(some 43), none, .fadr 0 (.t 1)⟩, ⟨(some 44), none, .load none (.t 43)⟩, ⟨(some 45), none, .len false (.t 44)⟩, ⟨(some 46), none, .bin 0 .neq (.t 42) (.t 45)⟩, ⟨(some 39), none, .mv (.t 46)⟩])
 (.cond (.t 39) (.seq (.ops [⟨(some 2), none, .mv (.c (.int .i64 3))⟩])
 (.ret)) (.seq (.ops [⟨(some 48), none, .fadr 1 (.t 5)⟩, ⟨(some 49), none, .load none (.t 48)⟩, ⟨(some 50), none, .mv (.t 3)⟩, ⟨(some 51), none, .call 61 [(.t 49), (.t 50)]⟩, ⟨(some 47), none, .mv (.t 51)⟩])
 (.cond (.t 47) (.seq (.ops [⟨(some 2), none, .mv (.c (.int .i64 9))⟩])
 (.ret)) (.seq (.any [(⟨(some 53), none, .mv (.t 4)⟩, []), (⟨(some 54), none, .bin 0 .gtr (.t 53) (.c (.int .i64 0))⟩, []), (⟨(some 55), none, .mv (.t 54)⟩, []), (⟨(some 56), (some (55, true)), .fadr 0 (.t 5)⟩, []), (⟨(some 57), (some (55, true)), .load none (.t 56)⟩, []), (⟨(some 58), (some (55, true)), .fadr 1 (.t 1)⟩, [3, 4]), (⟨(some 59), (some (55, true)), .load none (.t 58)⟩, [3, 4]), (⟨(some 60), (some (55, true)), .mv (.t 4)⟩, [3, 4, 5, 6]), (⟨(some 61), (some (55, true)), .bin 0 .sub (.t 60) (.c (.int .i64 1))⟩, [3, 4, 5, 6]), (⟨(some 62), (some (55, true)), .iadr 2 (.t 59) (.t 61)⟩, [3, 4]), (⟨(some 63), (some (55, true)), .fadr 0 (.t 62)⟩, [3, 4]), (⟨(some 64), (some (55, true)), .load none (.t 63)⟩, [3, 4]), (⟨(some 65), (some (55, true)), .bin 1 .leq (.t 57) (.t 64)⟩, []), (⟨(some 66), none, .pick (.t 55) (.t 65) (.c (.bool false))⟩, []), (⟨(some 52), none, .mv (.t 66)⟩, [])])
 (.cond (.t 52) (.seq (.ops [⟨(some 2), none, .mv (.c (.int .i64 7))⟩])
 (.ret)) (.skip))))))))))))
 (.ops [⟨(some 67), none, .bin 0 .add (.t 29) (.c (.int .i64 1))⟩, ⟨(some 29), none, .mv (.t 67)⟩])))))))
 (.seq (.ops [⟨(some 2), none, .mv (.c (.int .i64 0))⟩])
 (.ret))))))⟩
theorem c63 : compF Go.Proofs.Tryz.prog 63 = some a63 := by kernel_rfl
def a64 : AFn := ⟨51, [.t 4], .seq (.ops [⟨(some 2), none, .box 29 (.t 0)⟩, ⟨(some 4), none, .mv (.c (.int .i64 0))⟩])
 (.seq (.seq (.ops [⟨(some 8), none, .load (some 2) (.t 2)⟩, ⟨(some 9), none, .call 63 [(.t 8)]⟩, ⟨(some 5), none, .mv (.t 9)⟩])
 (.seq (.ops [⟨(some 10), none, .mv (.t 5)⟩, ⟨(some 11), none, .bin 0 .neq (.t 10) (.c (.int .i64 0))⟩])
 (.cond (.t 11) (.seq (.ops [⟨(some 12), none, .mv (.t 5)⟩, ⟨(some 4), none, .mv (.t 12)⟩])
 (.ret)) (.skip))))
 (.seq (.seq (.ops [⟨(some 13), none, .mv (.t 1)⟩, ⟨(some 14), none, .len false (.t 13)⟩, ⟨(some 15), none, .bin 0 .gtr (.t 14) (.c (.int .i64 100))⟩])
 (.cond (.t 15) (.seq (.ops [⟨(some 4), none, .mv (.c (.int .i64 2))⟩])
 (.ret)) (.skip)))
 (.seq (.seq (.ops [⟨(some 16), none, .mv (.t 1)⟩, ⟨(some 17), none, .len false (.t 16)⟩, ⟨(some 18), none, .mv (.c (.int .i64 0))⟩])
 (.block 0 (.loop (.seq (.ops [⟨(some 19), none, .bin 0 .lss (.t 18) (.t 17)⟩])
 (.seq (.cond (.t 19) (.skip) (.exit 0))
 (.seq (.block 1 (.seq (.ops [⟨(some 20), none, .mv (.t 18)⟩, ⟨(some 21), none, .iadr 2 (.t 16) (.t 18)⟩, ⟨(some 22), none, .load (some 2) (.t 21)⟩, ⟨(some 7), none, .alloc 69 [(.int .i64 0), (.str [])]⟩, ⟨(some 6), none, .mv (.t 20)⟩, ⟨none, none, .store 2 (.t 7) (.t 22)⟩])
 (.block 2 (.seq (.ops [⟨(some 24), none, .fadr 0 (.t 7)⟩, ⟨(some 25), none, .load none (.t 24)⟩, ⟨(some 26), none, .fadr 0 (.t 2)⟩, ⟨(some 27), none, .load none (.t 26)⟩, ⟨(some 28), none, .len false (.t 27)⟩, ⟨(some 29), none, .bin 0 .sub (.t 28) (.c (.int .i64 1))⟩, ⟨(some 30), none, .call 155 [(.t 25), (.c (.int .i64 0)), (.t 29)]⟩, ⟨(some 23), none, .mv (.t 30)⟩])
 (.cond (.t 23) (.seq (.ops [⟨(some 4), none, .mv (.c (.int .i64 1))⟩])
 (.ret)) (.seq (.ops [⟨(some 32), none, .fadr 1 (.t 7)⟩, ⟨(some 33), none, .load none (.t 32)⟩, ⟨(some 34), none, .call 153 [(.t 33)]⟩, ⟨(some 35), none, .un .not (.t 34)⟩, ⟨(some 31), none, .mv (.t 35)⟩])
 (.cond (.t 31) (.seq (.ops [⟨(some 4), none, .mv (.c (.int .i64 9))⟩])
 (.ret)) (.seq (.any [(⟨(some 37), none, .mv (.t 6)⟩, []), (⟨(some 38), none, .bin 0 .gtr (.t 37) (.c (.int .i64 0))⟩, []), (⟨(some 39), none, .mv (.t 38)⟩, []), (⟨(some 40), (some (39, true)), .fadr 0 (.t 7)⟩, []), (⟨(some 41), (some (39, true)), .load none (.t 40)⟩, []), (⟨(some 42), (some (39, true)), .mv (.t 1)⟩, [3, 4]), (⟨(some 43), (some (39, true)), .mv (.t 6)⟩, [3, 4, 5]), (⟨(some 44), (some (39, true)), .bin 0 .sub (.t 43) (.c (.int .i64 1))⟩, [3, 4, 5]), (⟨(some 45), (some (39, true)), .iadr 2 (.t 42) (.t 44)⟩, [3, 4]), (⟨(some 46), (some (39, true)), .fadr 0 (.t 45)⟩, [3, 4]), (⟨(some 47), (some (39, true)), .load none (.t 46)⟩, [3, 4]), (⟨(some 48), (some (39, true)), .bin 0 .leq (.t 41) (.t 47)⟩, []), (⟨(some 49), none, .pick (.t 39) (.t 48) (.c (.bool false))⟩, []), (⟨(some 36), none, .mv (.t 49)⟩, [])])
 (.cond (.t 36) (.seq (.ops [⟨(some 4), none, .mv (.c (.int .i64 7))⟩])
 (.ret)) (.skip))))))))))
 (.ops [⟨(some 50), none, .bin 0 .add (.t 18) (.c (.int .i64 1))⟩, ⟨(some 18), none, .mv (.t 50)⟩])))))))
 (.seq (.ops [⟨(some 4), none, .mv (.c (.int .i64 0))⟩])
 (.ret)))))⟩
theorem c64 : compF Go.Proofs.Tryz.prog 64 = some a64 := by kernel_rfl
def a72 : AFn := ⟨36, [.c 2 (some 2), .t 3, .t 4], .seq (.ops [⟨(some 2), none, .alloc 29 [(.lit true 0 []), (.lit true 0 [])]⟩, ⟨(some 3), none, .mv (.c (.int .i64 0))⟩, ⟨(some 4), none, .mv (.c (.int .i64 0))⟩])
 (.seq (.ops [⟨(some 11), none, .build [(.lit true 0 []), (.lit true 0 [])] []⟩, ⟨(some 5), none, .alloc 29 [(.lit true 0 []), (.lit true 0 [])]⟩, ⟨none, none, .store 2 (.t 5) (.t 11)⟩])
 (.seq (.seq (.ops [⟨(some 12), none, .mv (.t 0)⟩, ⟨(some 13), none, .len true (.t 12)⟩, ⟨(some 14), none, .bin 0 .gtr (.t 13) (.c (.int .i64 200000))⟩])
 (.cond (.t 14) (.seq (.ops [⟨(some 15), none, .load (some 2) (.t 5)⟩, ⟨none, none, .store 2 (.t 2) (.t 15)⟩, ⟨(some 3), none, .mv (.c (.int .i64 0))⟩, ⟨(some 4), none, .mv (.c (.int .i64 2))⟩])
 (.ret)) (.skip)))
 (.seq (.seq (.ops [⟨(some 16), none, .mv (.t 0)⟩, ⟨(some 17), none, .bin 1 .eql (.t 16) (.c (.str []))⟩])
 (.cond (.t 17) (.seq (.ops [⟨(some 18), none, .load (some 2) (.t 5)⟩, ⟨none, none, .store 2 (.t 2) (.t 18)⟩, ⟨(some 3), none, .mv (.c (.int .i64 0))⟩, ⟨(some 4), none, .mv (.c (.int .i64 9))⟩])
 (.ret)) (.skip)))
 (.seq (.ops [⟨(some 6), none, .alloc 29 [(.lit true 0 []), (.lit true 0 [])]⟩])
 (.seq (.ops [⟨(some 7), none, .alloc 4 [(.bool false)]⟩, ⟨none, none, .store 1 (.t 7) (.c (.bool true))⟩])
 (.seq (.ops [⟨(some 20), none, .mv (.t 0)⟩, ⟨(some 21), none, .mkfn 168 [(.t 7), (.t 6)]⟩, ⟨(some 22), none, .call 167 [(.t 20), (.t 21)]⟩, ⟨(some 19), none, .mv (.t 22)⟩, ⟨(some 23), none, .ext (.t 19) 0⟩, ⟨(some 24), none, .ext (.t 19) 1⟩, ⟨(some 8), none, .mv (.t 23)⟩, ⟨(some 9), none, .mv (.t 24)⟩])
 (.seq (.seq (.ops [⟨(some 25), none, .mv (.t 9)⟩, ⟨(some 26), none, .un .not (.t 25)⟩])
 (.cond (.t 26) (.seq (.ops [⟨(some 27), none, .load (some 2) (.t 5)⟩, ⟨(some 28), none, .mv (.t 8)⟩, ⟨none, none, .store 2 (.t 2) (.t 27)⟩, ⟨(some 3), none, .mv (.t 28)⟩, ⟨(some 4), none, .mv (.c (.int .i64 9))⟩])
 (.ret)) (.skip)))
 (.seq (.seq (.ops [⟨(some 29), none, .load (some 2) (.t 6)⟩, ⟨(some 30), none, .call 17 [(.t 29)]⟩, ⟨(some 10), none, .mv (.t 30)⟩])
 (.seq (.ops [⟨(some 31), none, .mv (.t 10)⟩, ⟨(some 32), none, .bin 0 .neq (.t 31) (.c (.int .i64 0))⟩])
 (.cond (.t 32) (.seq (.ops [⟨(some 33), none, .load (some 2) (.t 5)⟩, ⟨(some 34), none, .mv (.t 10)⟩, ⟨none, none, .store 2 (.t 2) (.t 33)⟩, ⟨(some 3), none, .mv (.c (.int .i64 0))⟩, ⟨(some 4), none, .mv (.t 34)⟩])
 (.ret)) (.skip))))
 (.seq (.ops [⟨(some 35), none, .load (some 2) (.t 6)⟩, ⟨none, none, .store 2 (.t 2) (.t 35)⟩, ⟨(some 3), none, .mv (.c (.int .i64 0))⟩, ⟨(some 4), none, .mv (.c (.int .i64 0))⟩])
 (.ret))))))))))⟩
def a74 : AFn := ⟨43, [.t 4], .seq (.ops [⟨(some 4), none, .mv (.c (.lit true 0 []))⟩])
 (.seq (.ops [⟨(some 5), none, .mv (.c (.lit true 0 []))⟩])
 (.seq (.seq (.ops [⟨(some 9), none, .mv (.t 1)⟩, ⟨(some 10), none, .mv (.c (.int .i64 0))⟩])
 (.block 0 (.loop (.seq (.ops [⟨(some 11), none, .bin 0 .lss (.t 10) (.t 9)⟩])
 (.seq (.cond (.t 11) (.skip) (.exit 0))
 (.seq (.block 1 (.seq (.ops [⟨(some 12), none, .mv (.t 10)⟩, ⟨(some 6), none, .mv (.t 12)⟩])
 (.ops [⟨(some 13), none, .mv (.t 5)⟩, ⟨(some 14), none, .mv (.t 6)⟩, ⟨(some 15), none, .bslice 3 1 1 [(.int .i64 0)] [(0, 1, (.t 14))]⟩, ⟨(some 16), none, .app 3 1 8 (.t 13) (.t 15)⟩, ⟨(some 5), none, .mv (.t 16)⟩])))
 (.ops [⟨(some 17), none, .bin 0 .add (.t 10) (.c (.int .i64 1))⟩, ⟨(some 10), none, .mv (.t 17)⟩])))))))
 (.seq (.seq (.ops [⟨(some 18), none, .mv (.t 1)⟩, ⟨(some 19), none, .bin 0 .sub (.t 18) (.c (.int .i64 1))⟩, ⟨(some 7), none, .mv (.t 19)⟩])
 (.block 2 (.loop (.seq (.seq (.ops [⟨(some 20), none, .mv (.t 7)⟩, ⟨(some 21), none, .bin 0 .gtr (.t 20) (.c (.int .i64 0))⟩])
 (.cond (.t 21) (.skip) (.exit 2)))
 (.seq (.block 3 (.seq (.ops [⟨(some 24), none, .mv (.t 0)⟩, ⟨(some 25), none, .mv (.t 7)⟩, ⟨(some 26), none, .bin 0 .add (.t 25) (.c (.int .i64 1))⟩, ⟨(some 27), none, .call 35 [(.t 24), (.t 26)]⟩, ⟨(some 8), none, .mv (.t 27)⟩])
 (.any [(⟨(some 28), none, .mv (.t 5)⟩, []), (⟨(some 29), none, .mv (.t 7)⟩, [0]), (⟨(some 30), none, .mv (.t 5)⟩, [0, 1]), (⟨(some 31), none, .mv (.t 8)⟩, [0, 1, 2]), (⟨(some 32), none, .mv (.t 5)⟩, [0, 1, 2, 3]), (⟨(some 33), none, .mv (.t 8)⟩, [0, 1, 2, 3, 4]), (⟨(some 34), none, .iadr 1 (.t 32) (.t 33)⟩, [0, 1, 2, 3]), (⟨(some 35), none, .load none (.t 34)⟩, [0, 1, 2, 3]), (⟨(some 36), none, .mv (.t 5)⟩, [0, 1, 2, 3, 4, 5, 6, 7]), (⟨(some 37), none, .mv (.t 7)⟩, [0, 1, 2, 3, 4, 5, 6, 7, 8]), (⟨(some 38), none, .iadr 1 (.t 36) (.t 37)⟩, [0, 1, 2, 3, 4, 5, 6, 7]), (⟨(some 39), none, .load none (.t 38)⟩, [0, 1, 2, 3, 4, 5, 6, 7]), (⟨(some 40), none, .iadr 1 (.t 28) (.t 29)⟩, [2, 3]), (⟨none, none, .store 1 (.t 40) (.t 35)⟩, [2, 3]), (⟨(some 41), none, .iadr 1 (.t 30) (.t 31)⟩, []), (⟨none, none, .store 1 (.t 41) (.t 39)⟩, [])])))
 (.ops [⟨(some 22), none, .mv (.t 7)⟩, ⟨(some 23), none, .bin 0 .sub (.t 22) (.c (.int .i64 1))⟩, ⟨(some 7), none, .mv (.t 23)⟩]))))))
 (.seq (.ops [⟨(some 42), none, .mv (.t 5)⟩, ⟨(some 4), none, .mv (.t 42)⟩])
 (.ret)))))⟩
theorem c74 : compF Go.Proofs.Tryz.prog 74 = some a74 := by kernel_rfl
def a82 : AFn := ⟨5, [.t 1], .seq (.ops [⟨(some 1), none, .mv (.c (.str []))⟩])
 (.seq (.ops [⟨(some 2), none, .load none (.t 0)⟩, ⟨(some 3), none, .bslice 9 1 5 [(.str [])] [(0, 1, (.c (.str [48]))), (1, 1, (.c (.str [48]))), (2, 1, (.c (.str [49]))), (3, 1, (.c (.str [49]))), (4, 1, (.c (.str [120, 126])))]⟩, ⟨(some 4), none, .call 83 [(.t 2), (.t 3)]⟩, ⟨(some 1), none, .mv (.t 4)⟩])
 (.ret))⟩
theorem c82 : compF Go.Proofs.Tryz.prog 82 = some a82 := by kernel_rfl
def a83 : AFn := ⟨12, [.t 4], .seq (.ops [⟨(some 4), none, .mv (.c (.str []))⟩])
 (.seq (.ops [⟨(some 5), none, .mv (.t 1)⟩, ⟨(some 6), none, .mv (.t 0)⟩, ⟨(some 7), none, .mv (.t 1)⟩, ⟨(some 8), none, .len false (.t 7)⟩, ⟨(some 9), none, .call 35 [(.t 6), (.t 8)]⟩, ⟨(some 10), none, .iadr 1 (.t 5) (.t 9)⟩, ⟨(some 11), none, .load none (.t 10)⟩, ⟨(some 4), none, .mv (.t 11)⟩])
 (.ret))⟩
theorem c83 : compF Go.Proofs.Tryz.prog 83 = some a83 := by kernel_rfl
def a85 : AFn := ⟨80, [], .seq (.seq (.ops [⟨(some 5), none, .mv (.t 1)⟩, ⟨(some 6), none, .nilchk (.t 5)⟩, ⟨(some 7), none, .fadr 1 (.t 6)⟩, ⟨(some 8), none, .load none (.t 7)⟩, ⟨(some 9), none, .len false (.t 8)⟩, ⟨(some 10), none, .bin 0 .eql (.t 9) (.c (.int .i64 0))⟩, ⟨(some 11), none, .mv (.t 10)⟩, ⟨(some 12), (some (11, false)), .mv (.t 0)⟩, ⟨(some 13), (some (11, false)), .call 44 [(.t 12), (.c (.int .i64 4))]⟩, ⟨(some 14), none, .pick (.t 11) (.c (.bool true)) (.t 13)⟩])
 (.cond (.t 14) (.seq (.any [(⟨(some 15), none, .mv (.t 1)⟩, []), (⟨(some 16), none, .nilchk (.t 15)⟩, []), (⟨(some 17), none, .fadr 0 (.t 16)⟩, []), (⟨(some 18), none, .load none (.t 17)⟩, []), (⟨(some 19), none, .mv (.t 0)⟩, [0, 1, 2, 3]), (⟨(some 20), none, .mv (.t 1)⟩, [0, 1, 2, 3, 4]), (⟨(some 21), none, .nilchk (.t 20)⟩, [0, 1, 2, 3, 4]), (⟨(some 22), none, .fadr 0 (.t 21)⟩, [0, 1, 2, 3, 4]), (⟨(some 23), none, .load none (.t 22)⟩, [0, 1, 2, 3, 4]), (⟨(some 24), none, .len false (.t 23)⟩, [0, 1, 2, 3, 4]), (⟨(some 25), none, .call 35 [(.t 19), (.t 24)]⟩, [0, 1, 2, 3]), (⟨(some 26), none, .mv (.t 0)⟩, [0, 1, 2, 3, 4, 5, 6, 7, 8, 9, 10]), (⟨(some 27), none, .call 177 [(.c (.str [48])), (.c (.int .i64 101))]⟩, [0, 1, 2, 3, 11]), (⟨(some 28), none, .bslice 9 1 4 [(.str [])] [(0, 1, (.c (.str []))), (1, 1, (.c (.str [32]))), (2, 1, (.c (.str [195, 169]))), (3, 1, (.t 27))]⟩, [0, 1, 2, 3, 11]), (⟨(some 29), none, .call 83 [(.t 26), (.t 28)]⟩, [0, 1, 2, 3]), (⟨(some 30), none, .iadr 1 (.t 18) (.t 25)⟩, []), (⟨none, none, .store 1 (.t 30) (.t 29)⟩, [])])
 (.ret)) (.skip)))
 (.seq (.any [(⟨(some 31), none, .mv (.t 1)⟩, []), (⟨(some 32), none, .nilchk (.t 31)⟩, []), (⟨(some 33), none, .fadr 1 (.t 32)⟩, []), (⟨(some 34), none, .load none (.t 33)⟩, []), (⟨(some 35), none, .mv (.t 0)⟩, [0, 1, 2, 3]), (⟨(some 36), none, .mv (.t 1)⟩, [0, 1, 2, 3, 4]), (⟨(some 37), none, .nilchk (.t 36)⟩, [0, 1, 2, 3, 4]), (⟨(some 38), none, .fadr 1 (.t 37)⟩, [0, 1, 2, 3, 4]), (⟨(some 39), none, .load none (.t 38)⟩, [0, 1, 2, 3, 4]), (⟨(some 40), none, .len false (.t 39)⟩, [0, 1, 2, 3, 4]), (⟨(some 41), none, .call 35 [(.t 35), (.t 40)]⟩, [0, 1, 2, 3]), (⟨(some 42), none, .iadr 2 (.t 34) (.t 41)⟩, []), (⟨(some 4), none, .mv (.t 42)⟩, [])])
 (.seq (.ops [⟨(some 43), none, .mv (.t 0)⟩, ⟨(some 44), none, .call 35 [(.t 43), (.c (.int .i64 3))]⟩])
 (.block 0 (.seq (.ops [⟨(some 61), none, .bin 0 .eql (.t 44) (.c (.int .i64 0))⟩, ⟨(some 60), none, .mv (.t 61)⟩])
 (.cond (.t 60) (.ops [⟨(some 62), none, .mv (.t 4)⟩, ⟨(some 63), none, .mv (.t 0)⟩, ⟨(some 64), none, .bslice 9 1 3 [(.str [])] [(0, 1, (.c (.str []))), (1, 1, (.c (.str [102, 48]))), (2, 1, (.c (.str [70])))]⟩, ⟨(some 65), none, .call 83 [(.t 63), (.t 64)]⟩, ⟨(some 66), none, .nilchk (.t 62)⟩, ⟨(some 67), none, .fadr 0 (.t 66)⟩, ⟨none, none, .store 1 (.t 67) (.t 65)⟩]) (.seq (.ops [⟨(some 69), none, .bin 0 .eql (.t 44) (.c (.int .i64 1))⟩, ⟨(some 68), none, .mv (.t 69)⟩])
 (.cond (.t 68) (.ops [⟨(some 70), none, .mv (.t 4)⟩, ⟨(some 71), none, .mv (.t 4)⟩, ⟨(some 72), none, .nilchk (.t 71)⟩, ⟨(some 73), none, .fadr 1 (.t 72)⟩, ⟨(some 74), none, .load none (.t 73)⟩, ⟨(some 75), none, .call 100 [(.t 74)]⟩, ⟨(some 76), none, .bslice 9 1 1 [(.str [])] [(0, 1, (.c (.str [48])))]⟩, ⟨(some 77), none, .app 9 1 16 (.t 75) (.t 76)⟩, ⟨(some 78), none, .nilchk (.t 70)⟩, ⟨(some 79), none, .fadr 1 (.t 78)⟩, ⟨none, none, .store 1 (.t 79) (.t 77)⟩]) (.any [(⟨(some 45), none, .mv (.t 4)⟩, []), (⟨(some 46), none, .nilchk (.t 45)⟩, []), (⟨(some 47), none, .fadr 1 (.t 46)⟩, []), (⟨(some 48), none, .load none (.t 47)⟩, []), (⟨(some 49), none, .mv (.t 0)⟩, [0, 1, 2, 3]), (⟨(some 50), none, .mv (.t 4)⟩, [0, 1, 2, 3, 4]), (⟨(some 51), none, .nilchk (.t 50)⟩, [0, 1, 2, 3, 4]), (⟨(some 52), none, .fadr 1 (.t 51)⟩, [0, 1, 2, 3, 4]), (⟨(some 53), none, .load none (.t 52)⟩, [0, 1, 2, 3, 4]), (⟨(some 54), none, .len false (.t 53)⟩, [0, 1, 2, 3, 4]), (⟨(some 55), none, .call 35 [(.t 49), (.t 54)]⟩, [0, 1, 2, 3]), (⟨(some 56), none, .mv (.t 0)⟩, [0, 1, 2, 3, 4, 5, 6, 7, 8, 9, 10]), (⟨(some 57), none, .bslice 9 1 3 [(.str [])] [(0, 1, (.c (.str []))), (1, 1, (.c (.str [97, 32, 98]))), (2, 1, (.c (.str [49])))]⟩, [0, 1, 2, 3, 4, 5, 6, 7, 8, 9, 10, 11]), (⟨(some 58), none, .call 83 [(.t 56), (.t 57)]⟩, [0, 1, 2, 3]), (⟨(some 59), none, .iadr 1 (.t 48) (.t 55)⟩, []), (⟨none, none, .store 1 (.t 59) (.t 58)⟩, [])]))))))))⟩
theorem c85 : compF Go.Proofs.Tryz.prog 85 = some a85 := by kernel_rfl
def a86 : AFn := ⟨6, [.t 2], .seq (.ops [⟨(some 2), none, .mv (.c (.bool false))⟩])
 (.seq (.ops [⟨(some 3), none, .mv (.t 0)⟩, ⟨(some 4), none, .call 87 [(.t 3)]⟩, ⟨(some 5), none, .un .not (.t 4)⟩, ⟨(some 2), none, .mv (.t 5)⟩])
 (.ret))⟩
theorem c86 : compF Go.Proofs.Tryz.prog 86 = some a86 := by kernel_rfl
def a87 : AFn := ⟨12, [.t 2], .seq (.ops [⟨(some 2), none, .mv (.c (.bool false))⟩])
 (.seq (.ops [⟨(some 3), none, .mv (.t 0)⟩, ⟨(some 4), none, .len true (.t 3)⟩, ⟨(some 5), none, .call 98 [(.t 4), (.c (.int .i64 1)), (.c (.int .i64 100))]⟩, ⟨(some 6), none, .mv (.t 5)⟩, ⟨(some 7), (some (6, true)), .mv (.t 0)⟩, ⟨(some 8), (some (6, true)), .s2b (.t 7)⟩, ⟨(some 9), (some (6, true)), .call 178 [(.t 8), (.c (.fn 179 []))]⟩, ⟨(some 10), (some (6, true)), .un .not (.t 9)⟩, ⟨(some 11), none, .pick (.t 6) (.t 10) (.c (.bool false))⟩, ⟨(some 2), none, .mv (.t 11)⟩])
 (.ret))⟩
theorem c87 : compF Go.Proofs.Tryz.prog 87 = some a87 := by kernel_rfl
def a88 : AFn := ⟨17, [.t 2], .seq (.ops [⟨(some 2), none, .mv (.c (.bool false))⟩])
 (.seq (.ops [⟨(some 3), none, .mv (.t 0)⟩, ⟨(some 4), none, .len true (.t 3)⟩, ⟨(some 5), none, .call 98 [(.t 4), (.c (.int .i64 1)), (.c (.int .i64 40))]⟩, ⟨(some 6), none, .mv (.t 5)⟩, ⟨(some 7), (some (6, true)), .mv (.t 0)⟩, ⟨(some 8), (some (6, true)), .call 180 [(.t 7), (.c (.str [97, 98, 99, 100, 101, 102, 103, 104, 105, 106, 107, 108, 109, 110, 111, 112, 113, 114, 115, 116, 117, 118, 119, 120, 121, 122, 48, 49, 50, 51, 52, 53, 54, 55, 56, 57, 45, 95]))]⟩, ⟨(some 9), (some (6, true)), .bin 1 .eql (.t 8) (.c (.str []))⟩, ⟨(some 10), none, .pick (.t 6) (.t 9) (.c (.bool false))⟩, ⟨(some 11), none, .mv (.t 10)⟩, ⟨(some 12), (some (11, true)), .mv (.t 0)⟩, ⟨(some 13), (some (11, true)), .idxs (.t 12) (.c (.int .i64 0))⟩, ⟨(some 14), (some (11, true)), .call 181 [(.c (.str [97, 98, 99, 100, 101, 102, 103, 104, 105, 106, 107, 108, 109, 110, 111, 112, 113, 114, 115, 116, 117, 118, 119, 120, 121, 122])), (.t 13)]⟩, ⟨(some 15), (some (11, true)), .bin 0 .geq (.t 14) (.c (.int .i64 0))⟩, ⟨(some 16), none, .pick (.t 11) (.t 15) (.c (.bool false))⟩, ⟨(some 2), none, .mv (.t 16)⟩])
 (.ret))⟩
theorem c88 : compF Go.Proofs.Tryz.prog 88 = some a88 := by kernel_rfl
def a89 : AFn := ⟨37, [.t 4], .seq (.ops [⟨(some 2), none, .box 29 (.t 0)⟩, ⟨(some 4), none, .mv (.c (.int .i64 0))⟩])
 (.seq (.seq (.ops [⟨(some 8), none, .load (some 2) (.t 2)⟩, ⟨(some 9), none, .call 63 [(.t 8)]⟩, ⟨(some 5), none, .mv (.t 9)⟩])
 (.seq (.ops [⟨(some 10), none, .mv (.t 5)⟩, ⟨(some 11), none, .bin 0 .neq (.t 10) (.c (.int .i64 0))⟩])
 (.cond (.t 11) (.seq (.ops [⟨(some 12), none, .mv (.t 5)⟩, ⟨(some 4), none, .mv (.t 12)⟩])
 (.ret)) (.skip))))
 (.seq (.seq (.ops [⟨(some 13), none, .mv (.t 1)⟩, ⟨(some 14), none, .len false (.t 13)⟩, ⟨(some 15), none, .bin 0 .gtr (.t 14) (.c (.int .i64 100))⟩])
 (.cond (.t 15) (.seq (.ops [⟨(some 4), none, .mv (.c (.int .i64 2))⟩])
 (.ret)) (.skip)))
 (.seq (.seq (.ops [⟨(some 16), none, .mv (.t 1)⟩, ⟨(some 17), none, .len false (.t 16)⟩, ⟨(some 18), none, .mv (.c (.int .i64 0))⟩])
 (.block 0 (.loop (.seq (.ops [⟨(some 19), none, .bin 0 .lss (.t 18) (.t 17)⟩])
 (.seq (.cond (.t 19) (.skip) (.exit 0))
 (.seq (.block 1 (.seq (.ops [⟨(some 20), none, .mv (.t 18)⟩, ⟨(some 21), none, .iadr 1 (.t 16) (.t 18)⟩, ⟨(some 22), none, .load none (.t 21)⟩, ⟨(some 6), none, .mv (.t 20)⟩, ⟨(some 7), none, .mv (.t 22)⟩])
 (.block 2 (.seq (.ops [⟨(some 24), none, .mv (.t 7)⟩, ⟨(some 25), none, .fadr 0 (.t 2)⟩, ⟨(some 26), none, .load none (.t 25)⟩, ⟨(some 27), none, .len false (.t 26)⟩, ⟨(some 28), none, .bin 0 .sub (.t 27) (.c (.int .i64 1))⟩, ⟨(some 29), none, .call 155 [(.t 24), (.c (.int .i64 0)), (.t 28)]⟩, ⟨(some 23), none, .mv (.t 29)⟩])
 (.cond (.t 23) (.seq (.ops [⟨(some 4), none, .mv (.c (.int .i64 1))⟩])
 (.ret)) (.seq (.ops [⟨(some 31), none, .mv (.t 1)⟩, ⟨(some 32), none, .mv (.t 6)⟩, ⟨(some 33), none, .slc 1 (.t 31) none (some (.t 32))⟩, ⟨(some 34), none, .mv (.t 7)⟩, ⟨(some 35), none, .call 99 [(.t 33), (.t 34)]⟩, ⟨(some 30), none, .mv (.t 35)⟩])
 (.cond (.t 30) (.seq (.ops [⟨(some 4), none, .mv (.c (.int .i64 6))⟩])
 (.ret)) (.skip))))))))
 (.ops [⟨(some 36), none, .bin 0 .add (.t 18) (.c (.int .i64 1))⟩, ⟨(some 18), none, .mv (.t 36)⟩])))))))
 (.seq (.ops [⟨(some 4), none, .mv (.c (.int .i64 0))⟩])
 (.ret)))))⟩
theorem c89 : compF Go.Proofs.Tryz.prog 89 = some a89 := by kernel_rfl
def a90 : AFn := ⟨9, [.t 4], .seq (.ops [⟨(some 4), none, .mv (.c (.bool false))⟩])
 (.seq (.ops [⟨(some 5), none, .mv (.t 0)⟩, ⟨(some 6), none, .mv (.t 1)⟩, ⟨(some 7), none, .call 182 [(.t 5), (.t 6)]⟩, ⟨(some 8), none, .bin 0 .geq (.t 7) (.c (.int .i64 0))⟩, ⟨(some 4), none, .mv (.t 8)⟩])
 (.ret))⟩
theorem c90 : compF Go.Proofs.Tryz.prog 90 = some a90 := by kernel_rfl
def a91 : AFn := ⟨9, [.t 4], .seq (.ops [⟨(some 4), none, .mv (.c (.bool false))⟩])
 (.seq (.ops [⟨(some 5), none, .load (some 2) (.t 1)⟩, ⟨(some 6), none, .load (some 2) (.t 2)⟩, ⟨(some 7), none, .mv (.t 0)⟩, ⟨(some 8), none, .call 92 [(.t 5), (.t 6), (.t 7)]⟩, ⟨(some 4), none, .mv (.t 8)⟩])
 (.ret))⟩
theorem c91 : compF Go.Proofs.Tryz.prog 91 = some a91 := by kernel_rfl
def a92 : AFn := ⟨18, [.t 6], .seq (.ops [⟨(some 3), none, .box 29 (.t 0)⟩, ⟨(some 4), none, .box 67 (.t 1)⟩, ⟨(some 6), none, .mv (.c (.bool false))⟩])
 (.seq (.any [(⟨(some 7), none, .fadr 1 (.t 4)⟩, []), (⟨(some 8), none, .load none (.t 7)⟩, []), (⟨(some 9), none, .mv (.t 2)⟩, [0, 1]), (⟨(some 10), none, .iadr 1 (.t 8) (.t 9)⟩, []), (⟨(some 11), none, .load none (.t 10)⟩, []), (⟨(some 12), none, .fadr 0 (.t 3)⟩, [0, 1, 2, 3, 4]), (⟨(some 13), none, .load none (.t 12)⟩, [0, 1, 2, 3, 4]), (⟨(some 14), none, .mv (.t 2)⟩, [0, 1, 2, 3, 4, 5, 6]), (⟨(some 15), none, .iadr 1 (.t 13) (.t 14)⟩, [0, 1, 2, 3, 4]), (⟨(some 16), none, .load none (.t 15)⟩, [0, 1, 2, 3, 4]), (⟨(some 17), none, .bin 1 .neq (.t 11) (.t 16)⟩, []), (⟨(some 6), none, .mv (.t 17)⟩, [])])
 (.ret))⟩
theorem c92 : compF Go.Proofs.Tryz.prog 92 = some a92 := by kernel_rfl
def a93 : AFn := ⟨52, [.t 4], .seq (.ops [⟨(some 2), none, .box 29 (.t 0)⟩, ⟨(some 4), none, .mv (.c (.lit true 0 []))⟩])
 (.seq (.ops [⟨(some 12), none, .mmk .s (.int .i64 0)⟩, ⟨(some 5), none, .mv (.t 12)⟩])
 (.seq (.ops [⟨(some 6), none, .mv (.c (.lit true 0 []))⟩])
 (.seq (.seq (.ops [⟨(some 13), none, .load (some 2) (.t 2)⟩, ⟨(some 14), none, .call 129 [(.t 13)]⟩, ⟨(some 15), none, .len false (.t 14)⟩, ⟨(some 16), none, .mv (.c (.int .i64 0))⟩])
 (.block 0 (.loop (.seq (.ops [⟨(some 17), none, .bin 0 .lss (.t 16) (.t 15)⟩])
 (.seq (.cond (.t 17) (.skip) (.exit 0))
 (.seq (.block 1 (.seq (.ops [⟨(some 18), none, .iadr 2 (.t 14) (.t 16)⟩, ⟨(some 19), none, .load (some 2) (.t 18)⟩, ⟨(some 8), none, .alloc 67 [(.str []), (.lit true 0 [])]⟩, ⟨none, none, .store 2 (.t 8) (.t 19)⟩])
 (.seq (.ops [⟨(some 20), none, .load (some 2) (.t 8)⟩, ⟨(some 21), none, .mv (.t 1)⟩, ⟨(some 22), none, .call 183 [(.t 20), (.t 21)]⟩, ⟨(some 9), none, .mv (.t 22)⟩])
 (.seq (.ops [⟨(some 24), none, .mv (.t 5)⟩, ⟨(some 25), none, .mv (.t 9)⟩, ⟨(some 26), none, .mlk true .s (.int .i64 0) (.t 24) (.t 25)⟩, ⟨(some 23), none, .mv (.t 26)⟩, ⟨(some 27), none, .ext (.t 23) 0⟩, ⟨(some 28), none, .ext (.t 23) 1⟩, ⟨(some 10), none, .mv (.t 27)⟩, ⟨(some 11), none, .mv (.t 28)⟩])
 (.seq (.seq (.ops [⟨(some 29), none, .mv (.t 11)⟩, ⟨(some 30), none, .un .not (.t 29)⟩])
 (.cond (.t 30) (.seq (.ops [⟨(some 31), none, .mv (.t 6)⟩, ⟨(some 32), none, .len false (.t 31)⟩, ⟨(some 10), none, .mv (.t 32)⟩])
 (.seq (.ops [⟨(some 33), none, .mv (.t 5)⟩, ⟨(some 34), none, .mv (.t 9)⟩, ⟨(some 35), none, .mv (.t 10)⟩, ⟨none, none, .mup .s (.t 33) (.t 34) (.t 35)⟩])
 (.ops [⟨(some 36), none, .mv (.t 6)⟩, ⟨(some 37), none, .bnil 26 9 1 1 [(.lit true 0 [])] [(.str [])] [(0, 1, (.c (.lit true 0 [])))]⟩, ⟨(some 38), none, .app 26 1 24 (.t 36) (.t 37)⟩, ⟨(some 6), none, .mv (.t 38)⟩]))) (.skip)))
 (.any [(⟨(some 39), none, .mv (.t 6)⟩, []), (⟨(some 40), none, .mv (.t 10)⟩, [0]), (⟨(some 41), none, .mv (.t 6)⟩, [0, 1]), (⟨(some 42), none, .mv (.t 10)⟩, [0, 1, 2]), (⟨(some 43), none, .iadr 1 (.t 41) (.t 42)⟩, [0, 1]), (⟨(some 44), none, .load none (.t 43)⟩, [0, 1]), (⟨(some 45), none, .fadr 0 (.t 8)⟩, [0, 1, 2, 3, 4, 5]), (⟨(some 46), none, .load none (.t 45)⟩, [0, 1, 2, 3, 4, 5]), (⟨(some 47), none, .bslice 9 1 1 [(.str [])] [(0, 1, (.t 46))]⟩, [0, 1, 2, 3, 4, 5]), (⟨(some 48), none, .app 9 1 16 (.t 44) (.t 47)⟩, [0, 1]), (⟨(some 49), none, .iadr 1 (.t 39) (.t 40)⟩, []), (⟨none, none, .store 1 (.t 49) (.t 48)⟩, [])]))))))
 (.ops [⟨(some 50), none, .bin 0 .add (.t 16) (.c (.int .i64 1))⟩, ⟨(some 16), none, .mv (.t 50)⟩])))))))
 (.seq (.ops [⟨(some 51), none, .mv (.t 6)⟩, ⟨(some 4), none, .mv (.t 51)⟩])
 (.ret)))))⟩
theorem c93 : compF Go.Proofs.Tryz.prog 93 = some a93 := by kernel_rfl
def a94 : AFn := ⟨19, [.c 4 (some 2)], .seq (.ops [⟨(some 4), none, .alloc 41 [(.int .i64 0), (.int .i64 0)]⟩])
 (.seq (.ops [⟨(some 6), none, .mv (.t 0)⟩, ⟨(some 7), none, .mv (.t 0)⟩, ⟨(some 8), none, .un .neg (.t 7)⟩, ⟨(some 9), none, .mm true (.t 6) [(.t 8)]⟩, ⟨(some 10), none, .mv (.t 1)⟩, ⟨(some 11), none, .call 184 [(.t 9), (.t 10)]⟩, ⟨(some 5), none, .mv (.t 11)⟩])
 (.seq (.any [(⟨(some 12), none, .mv (.t 0)⟩, []), (⟨(some 13), none, .mv (.t 5)⟩, [0]), (⟨(some 14), none, .bin 0 .quo (.t 12) (.t 13)⟩, []), (⟨(some 15), none, .mv (.t 1)⟩, [0, 1, 2]), (⟨(some 16), none, .mv (.t 5)⟩, [0, 1, 2, 3]), (⟨(some 17), none, .bin 0 .quo (.t 15) (.t 16)⟩, [0, 1, 2]), (⟨(some 18), none, .build [(.int .i64 0), (.int .i64 0)] [(0, 1, (.t 14)), (1, 1, (.t 17))]⟩, []), (⟨none, none, .store 2 (.t 4) (.t 18)⟩, [])])
 (.ret)))⟩
theorem c94 : compF Go.Proofs.Tryz.prog 94 = some a94 := by kernel_rfl
def a95 : AFn := ⟨21, [.t 4], .seq (.ops [⟨(some 2), none, .box 29 (.t 0)⟩, ⟨(some 4), none, .mv (.c (.lit true 0 []))⟩])
 (.seq (.seq (.ops [⟨(some 7), none, .fadr 1 (.t 2)⟩, ⟨(some 8), none, .load none (.t 7)⟩, ⟨(some 9), none, .len false (.t 8)⟩, ⟨(some 10), none, .mv (.c (.int .i64 0))⟩])
 (.block 0 (.loop (.seq (.ops [⟨(some 11), none, .bin 0 .lss (.t 10) (.t 9)⟩])
 (.seq (.cond (.t 11) (.skip) (.exit 0))
 (.seq (.block 1 (.seq (.ops [⟨(some 12), none, .iadr 2 (.t 8) (.t 10)⟩, ⟨(some 13), none, .load (some 2) (.t 12)⟩, ⟨(some 6), none, .alloc 67 [(.str []), (.lit true 0 [])]⟩, ⟨none, none, .store 2 (.t 6) (.t 13)⟩])
 (.seq (.ops [⟨(some 14), none, .fadr 0 (.t 6)⟩, ⟨(some 15), none, .load none (.t 14)⟩, ⟨(some 16), none, .mv (.t 1)⟩, ⟨(some 17), none, .bin 1 .eql (.t 15) (.t 16)⟩])
 (.cond (.t 17) (.seq (.ops [⟨(some 18), none, .fadr 1 (.t 6)⟩, ⟨(some 19), none, .load none (.t 18)⟩, ⟨(some 4), none, .mv (.t 19)⟩])
 (.ret)) (.skip)))))
 (.ops [⟨(some 20), none, .bin 0 .add (.t 10) (.c (.int .i64 1))⟩, ⟨(some 10), none, .mv (.t 20)⟩])))))))
 (.seq (.ops [⟨(some 4), none, .mv (.c (.lit true 0 []))⟩])
 (.ret)))⟩
theorem c95 : compF Go.Proofs.Tryz.prog 95 = some a95 := by kernel_rfl
def a96 : AFn := ⟨22, [.c 4 (some 2), .t 5], .seq (.ops [⟨(some 2), none, .box 29 (.t 0)⟩, ⟨(some 4), none, .alloc 67 [(.str []), (.lit true 0 [])]⟩, ⟨(some 5), none, .mv (.c (.bool false))⟩])
 (.seq (.seq (.ops [⟨(some 8), none, .fadr 1 (.t 2)⟩, ⟨(some 9), none, .load none (.t 8)⟩, ⟨(some 10), none, .len false (.t 9)⟩, ⟨(some 11), none, .mv (.c (.int .i64 0))⟩])
 (.block 0 (.loop (.seq (.ops [⟨(some 12), none, .bin 0 .lss (.t 11) (.t 10)⟩])
 (.seq (.cond (.t 12) (.skip) (.exit 0))
 (.seq (.block 1 (.seq (.ops [⟨(some 13), none, .iadr 2 (.t 9) (.t 11)⟩, ⟨(some 14), none, .load (some 2) (.t 13)⟩, ⟨(some 7), none, .alloc 67 [(.str []), (.lit true 0 [])]⟩, ⟨none, none, .store 2 (.t 7) (.t 14)⟩])
 (.seq (.ops [⟨(some 15), none, .fadr 0 (.t 7)⟩, ⟨(some 16), none, .load none (.t 15)⟩, ⟨(some 17), none, .mv (.t 1)⟩, ⟨(some 18), none, .bin 1 .eql (.t 16) (.t 17)⟩])
 (.cond (.t 18) (.seq (.ops [⟨(some 19), none, .load (some 2) (.t 7)⟩, ⟨none, none, .store 2 (.t 4) (.t 19)⟩, ⟨(some 5), none, .mv (.c (.bool true))⟩])
 (.ret)) (.skip)))))
 (.ops [⟨(some 20), none, .bin 0 .add (.t 11) (.c (.int .i64 1))⟩, ⟨(some 11), none, .mv (.t 20)⟩])))))))
 (.seq (.ops [⟨(some 21), none, .build [(.str []), (.lit true 0 [])] []⟩, ⟨none, none, .store 2 (.t 4) (.t 21)⟩, ⟨(some 5), none, .mv (.c (.bool false))⟩])
 (.ret)))⟩
theorem c96 : compF Go.Proofs.Tryz.prog 96 = some a96 := by kernel_rfl
def a97 : AFn := ⟨10, [.t 6], .seq (.ops [⟨(some 3), none, .box 67 (.t 0)⟩, ⟨(some 4), none, .box 67 (.t 1)⟩, ⟨(some 6), none, .mv (.c (.bool false))⟩])
 (.seq (.ops [⟨(some 7), none, .mv (.t 2)⟩, ⟨(some 8), none, .mkfn 185 [(.t 3), (.t 4)]⟩, ⟨(some 9), none, .call 90 [(.t 7), (.t 8)]⟩, ⟨(some 6), none, .mv (.t 9)⟩])
 (.ret))⟩
theorem c97 : compF Go.Proofs.Tryz.prog 97 = some a97 := by kernel_rfl
def a98 : AFn := ⟨15, [.t 6], .seq (.ops [⟨(some 6), none, .mv (.c (.bool false))⟩])
 (.seq (.ops [⟨(some 7), none, .mv (.t 1)⟩, ⟨(some 8), none, .mv (.t 0)⟩, ⟨(some 9), none, .bin 0 .leq (.t 7) (.t 8)⟩, ⟨(some 10), none, .mv (.t 9)⟩, ⟨(some 11), (some (10, true)), .mv (.t 0)⟩, ⟨(some 12), (some (10, true)), .mv (.t 2)⟩, ⟨(some 13), (some (10, true)), .bin 0 .leq (.t 11) (.t 12)⟩, ⟨(some 14), none, .pick (.t 10) (.t 13) (.c (.bool false))⟩, ⟨(some 6), none, .mv (.t 14)⟩])
 (.ret))⟩
theorem c98 : compF Go.Proofs.Tryz.prog 98 = some a98 := by kernel_rfl
def a99 : AFn := ⟨9, [.t 4], .seq (.ops [⟨(some 4), none, .mv (.c (.bool false))⟩])
 (.seq (.ops [⟨(some 5), none, .mv (.t 0)⟩, ⟨(some 6), none, .mv (.t 1)⟩, ⟨(some 7), none, .call 186 [(.t 5), (.t 6)]⟩, ⟨(some 8), none, .bin 0 .geq (.t 7) (.c (.int .i64 0))⟩, ⟨(some 4), none, .mv (.t 8)⟩])
 (.ret))⟩
theorem c99 : compF Go.Proofs.Tryz.prog 99 = some a99 := by kernel_rfl
def a100 : AFn := ⟨8, [.t 2], .seq (.ops [⟨(some 2), none, .mv (.c (.lit true 0 []))⟩])
 (.seq (.seq (.ops [⟨(some 3), none, .mv (.t 0)⟩, ⟨(some 4), none, .bin 3 .eql (.t 3) (.c (.lit true 0 []))⟩])
 (.cond (.t 4) (.seq (.ops [⟨(some 2), none, .mv (.c (.lit true 0 []))⟩])
 (.ret)) (.skip)))
 (.seq (.ops [⟨(some 5), none, .bslice 9 1 0 [(.str [])] []⟩, ⟨(some 6), none, .mv (.t 0)⟩, ⟨(some 7), none, .app 9 1 16 (.t 5) (.t 6)⟩, ⟨(some 2), none, .mv (.t 7)⟩])
 (.ret)))⟩
theorem c100 : compF Go.Proofs.Tryz.prog 100 = some a100 := by kernel_rfl
def a101 : AFn := ⟨19, [.c 4 (some 2)], .seq (.ops [⟨(some 4), none, .alloc 41 [(.int .i64 0), (.int .i64 0)]⟩])
 (.seq (.ops [⟨(some 6), none, .mv (.t 0)⟩, ⟨(some 7), none, .mv (.t 0)⟩, ⟨(some 8), none, .un .neg (.t 7)⟩, ⟨(some 9), none, .mm true (.t 6) [(.t 8)]⟩, ⟨(some 10), none, .mv (.t 1)⟩, ⟨(some 11), none, .call 187 [(.t 9), (.t 10)]⟩, ⟨(some 5), none, .mv (.t 11)⟩])
 (.seq (.any [(⟨(some 12), none, .mv (.t 0)⟩, []), (⟨(some 13), none, .mv (.t 5)⟩, [0]), (⟨(some 14), none, .bin 0 .quo (.t 12) (.t 13)⟩, []), (⟨(some 15), none, .mv (.t 1)⟩, [0, 1, 2]), (⟨(some 16), none, .mv (.t 5)⟩, [0, 1, 2, 3]), (⟨(some 17), none, .bin 0 .quo (.t 15) (.t 16)⟩, [0, 1, 2]), (⟨(some 18), none, .build [(.int .i64 0), (.int .i64 0)] [(0, 1, (.t 14)), (1, 1, (.t 17))]⟩, []), (⟨none, none, .store 2 (.t 4) (.t 18)⟩, [])])
 (.ret)))⟩
theorem c101 : compF Go.Proofs.Tryz.prog 101 = some a101 := by kernel_rfl
def a102 : AFn := ⟨11, [.t 2], .seq (.ops [⟨(some 1), none, .box 29 (.t 0)⟩, ⟨(some 2), none, .mv (.c (.lit true 0 []))⟩])
 (.seq (.any [(⟨(some 3), none, .fadr 0 (.t 1)⟩, []), (⟨(some 4), none, .load none (.t 3)⟩, []), (⟨(some 5), none, .call 100 [(.t 4)]⟩, []), (⟨(some 6), none, .build [(.str []), (.lit true 0 [])] [(1, 1, (.t 5))]⟩, []), (⟨(some 7), none, .bslice 67 2 1 [(.str []), (.lit true 0 [])] [(0, 2, (.t 6))]⟩, []), (⟨(some 8), none, .fadr 1 (.t 1)⟩, [0, 1, 2, 3, 4]), (⟨(some 9), none, .load none (.t 8)⟩, [0, 1, 2, 3, 4]), (⟨(some 10), none, .app 67 2 40 (.t 7) (.t 9)⟩, []), (⟨(some 2), none, .mv (.t 10)⟩, [])])
 (.ret))⟩
theorem c102 : compF Go.Proofs.Tryz.prog 102 = some a102 := by kernel_rfl
def a103 : AFn := ⟨10, [.t 4], .seq (.ops [⟨(some 3), none, .box 67 (.t 0)⟩, ⟨(some 4), none, .mv (.c (.bool false))⟩])
 (.seq (.ops [⟨(some 5), none, .load (some 2) (.t 1)⟩, ⟨(some 6), none, .load (some 2) (.t 3)⟩, ⟨(some 7), none, .load none (.t 2)⟩, ⟨(some 8), none, .call 97 [(.t 5), (.t 6), (.t 7)]⟩, ⟨(some 9), none, .un .not (.t 8)⟩, ⟨(some 4), none, .mv (.t 9)⟩])
 (.ret))⟩
theorem c103 : compF Go.Proofs.Tryz.prog 103 = some a103 := by kernel_rfl
def a104 : AFn := ⟨9, [.t 4], .seq (.ops [⟨(some 4), none, .mv (.c (.bool false))⟩])
 (.seq (.ops [⟨(some 5), none, .mv (.t 0)⟩, ⟨(some 6), none, .mv (.t 1)⟩, ⟨(some 7), none, .call 188 [(.t 5), (.t 6)]⟩, ⟨(some 8), none, .bin 0 .geq (.t 7) (.c (.int .i64 0))⟩, ⟨(some 4), none, .mv (.t 8)⟩])
 (.ret))⟩
theorem c104 : compF Go.Proofs.Tryz.prog 104 = some a104 := by kernel_rfl
def a110 : AFn := ⟨16, [.t 4], .seq (.ops [⟨(some 4), none, .mv (.c (.int .i64 0))⟩])
 (.seq (.seq (.ops [⟨(some 5), none, .mv (.t 1)⟩, ⟨(some 6), none, .bin 0 .lss (.t 5) (.c (.int .i64 1))⟩])
 (.cond (.t 6) (.seq (.ops [⟨(some 4), none, .mv (.c (.int .i64 0))⟩])
 (.ret)) (.skip)))
 (.seq (.ops [⟨(some 7), none, .mv (.t 0)⟩, ⟨(some 8), none, .mv (.t 1)⟩, ⟨(some 9), none, .bin 0 .rem (.t 7) (.t 8)⟩, ⟨(some 0), none, .mv (.t 9)⟩])
 (.seq (.seq (.ops [⟨(some 10), none, .mv (.t 0)⟩, ⟨(some 11), none, .bin 0 .lss (.t 10) (.c (.int .i64 0))⟩])
 (.cond (.t 11) (.ops [⟨(some 12), none, .mv (.t 0)⟩, ⟨(some 13), none, .mv (.t 1)⟩, ⟨(some 14), none, .bin 0 .add (.t 12) (.t 13)⟩, ⟨(some 0), none, .mv (.t 14)⟩]) (.skip)))
 (.seq (.ops [⟨(some 15), none, .mv (.t 0)⟩, ⟨(some 4), none, .mv (.t 15)⟩])
 (.ret)))))⟩
theorem c110 : compF Go.Proofs.Tryz.prog 110 = some a110 := by kernel_rfl
def a111 : AFn := ⟨9, [.t 4], .seq (.ops [⟨(some 2), none, .box 67 (.t 0)⟩, ⟨(some 4), none, .mv (.c (.bool false))⟩])
 (.seq (.ops [⟨(some 5), none, .mv (.t 1)⟩, ⟨(some 6), none, .mkfn 190 [(.t 2)]⟩, ⟨(some 7), none, .call 125 [(.t 5), (.t 6)]⟩, ⟨(some 8), none, .un .not (.t 7)⟩, ⟨(some 4), none, .mv (.t 8)⟩])
 (.ret))⟩
theorem c111 : compF Go.Proofs.Tryz.prog 111 = some a111 := by kernel_rfl
def a124 : AFn := ⟨9, [.t 5], .seq (.ops [⟨(some 4), none, .box 67 (.t 0)⟩, ⟨(some 5), none, .mv (.c (.bool false))⟩])
 (.seq (.ops [⟨(some 6), none, .load none (.t 1)⟩, ⟨(some 7), none, .mkfn 126 [(.t 2), (.t 4), (.t 3)]⟩, ⟨(some 8), none, .call 125 [(.t 6), (.t 7)]⟩, ⟨(some 5), none, .mv (.t 8)⟩])
 (.ret))⟩
def a125 : AFn := ⟨9, [.t 4], .seq (.ops [⟨(some 4), none, .mv (.c (.bool false))⟩])
 (.seq (.ops [⟨(some 5), none, .mv (.t 0)⟩, ⟨(some 6), none, .mv (.t 1)⟩, ⟨(some 7), none, .call 205 [(.t 5), (.t 6)]⟩, ⟨(some 8), none, .bin 0 .geq (.t 7) (.c (.int .i64 0))⟩, ⟨(some 4), none, .mv (.t 8)⟩])
 (.ret))⟩
theorem c125 : compF Go.Proofs.Tryz.prog 125 = some a125 := by kernel_rfl
def a127 : AFn := ⟨8, [.t 2], .seq (.ops [⟨(some 2), none, .mv (.c (.int .i64 0))⟩])
 (.seq (.cond (.c (.bool false)) (.seq (.ops [⟨(some 3), none, .mv (.t 0)⟩, ⟨(some 4), none, .conv .u32 (.t 3)⟩, ⟨(some 5), none, .call 206 [(.t 4)]⟩, ⟨(some 2), none, .mv (.t 5)⟩])
 (.ret)) (.skip))
 (.seq (.ops [⟨(some 6), none, .mv (.t 0)⟩, ⟨(some 7), none, .call 207 [(.t 6)]⟩, ⟨(some 2), none, .mv (.t 7)⟩])
 (.ret)))⟩
def a129 : AFn := ⟨10, [.t 2], .seq (.ops [⟨(some 1), none, .box 29 (.t 0)⟩, ⟨(some 2), none, .mv (.c (.lit true 0 []))⟩])
 (.seq (.ops [⟨(some 3), none, .fadr 0 (.t 1)⟩, ⟨(some 4), none, .load none (.t 3)⟩, ⟨(some 5), none, .build [(.str []), (.lit true 0 [])] [(0, 1, (.c (.str []))), (1, 1, (.t 4))]⟩, ⟨(some 6), none, .bslice 67 2 1 [(.str []), (.lit true 0 [])] [(0, 2, (.t 5))]⟩, ⟨(some 7), none, .fadr 1 (.t 1)⟩, ⟨(some 8), none, .load none (.t 7)⟩, ⟨(some 9), none, .app 67 2 40 (.t 6) (.t 8)⟩, ⟨(some 2), none, .mv (.t 9)⟩])
 (.ret))⟩
theorem c129 : compF Go.Proofs.Tryz.prog 129 = some a129 := by kernel_rfl
def a138 : AFn := ⟨22, [.t 4], .seq (.ops [⟨(some 4), none, .mv (.c (.lit true 0 []))⟩])
 (.seq (.ops [⟨(some 5), none, .mv (.c (.lit true 0 []))⟩])
 (.seq (.seq (.ops [⟨(some 7), none, .mv (.t 1)⟩, ⟨(some 8), none, .mv (.c (.int .i64 0))⟩])
 (.block 0 (.loop (.seq (.ops [⟨(some 9), none, .bin 0 .lss (.t 8) (.t 7)⟩])
 (.seq (.cond (.t 9) (.skip) (.exit 0))
 (.seq (.block 1 (.seq (.ops [⟨(some 10), none, .mv (.t 8)⟩, ⟨(some 6), none, .mv (.t 10)⟩])
 (.seq (.ops [⟨(some 11), none, .mv (.t 0)⟩, ⟨(some 12), none, .mv (.t 6)⟩, ⟨(some 13), none, .bin 0 .shr (.t 11) (.t 12)⟩, ⟨(some 14), none, .bin 0 .rem (.t 13) (.c (.int .i64 2))⟩, ⟨(some 15), none, .bin 0 .eql (.t 14) (.c (.int .i64 1))⟩])
 (.cond (.t 15) (.ops [⟨(some 16), none, .mv (.t 5)⟩, ⟨(some 17), none, .mv (.t 6)⟩, ⟨(some 18), none, .bslice 3 1 1 [(.int .i64 0)] [(0, 1, (.t 17))]⟩, ⟨(some 19), none, .app 3 1 8 (.t 16) (.t 18)⟩, ⟨(some 5), none, .mv (.t 19)⟩]) (.skip)))))
 (.ops [⟨(some 20), none, .bin 0 .add (.t 8) (.c (.int .i64 1))⟩, ⟨(some 8), none, .mv (.t 20)⟩])))))))
 (.seq (.ops [⟨(some 21), none, .mv (.t 5)⟩, ⟨(some 4), none, .mv (.t 21)⟩])
 (.ret))))⟩
def a139 : AFn := ⟨40, [.t 4], .seq (.ops [⟨(some 4), none, .mv (.c (.lit true 0 []))⟩])
 (.seq (.ops [⟨(some 8), none, .mv (.t 0)⟩, ⟨(some 9), none, .bin 0 .shl (.c (.int .i64 1)) (.t 8)⟩, ⟨(some 10), none, .bin 0 .sub (.t 9) (.c (.int .i64 1))⟩, ⟨(some 11), none, .mv (.t 0)⟩, ⟨(some 12), none, .call 138 [(.t 10), (.t 11)]⟩, ⟨(some 5), none, .mv (.t 12)⟩])
 (.seq (.seq (.ops [⟨(some 13), none, .mv (.t 0)⟩, ⟨(some 14), none, .bin 0 .shl (.c (.int .i64 1)) (.t 13)⟩, ⟨(some 15), none, .mv (.c (.int .i64 0))⟩])
 (.block 0 (.loop (.seq (.ops [⟨(some 16), none, .bin 0 .lss (.t 15) (.t 14)⟩])
 (.seq (.cond (.t 16) (.skip) (.exit 0))
 (.seq (.block 1 (.seq (.ops [⟨(some 17), none, .mv (.t 15)⟩, ⟨(some 6), none, .mv (.t 17)⟩])
 (.seq (.ops [⟨(some 18), none, .mv (.t 6)⟩, ⟨(some 19), none, .mv (.t 0)⟩, ⟨(some 20), none, .call 138 [(.t 18), (.t 19)]⟩, ⟨(some 7), none, .mv (.t 20)⟩])
 (.seq (.ops [⟨(some 21), none, .mv (.t 7)⟩, ⟨(some 22), none, .len false (.t 21)⟩, ⟨(some 23), none, .mv (.t 5)⟩, ⟨(some 24), none, .len false (.t 23)⟩, ⟨(some 25), none, .call 143 [(.t 22), (.t 24)]⟩, ⟨(some 26), none, .mv (.t 7)⟩, ⟨(some 27), none, .mv (.t 5)⟩, ⟨(some 28), none, .call 210 [(.t 26), (.t 27)]⟩, ⟨(some 29), none, .bslice 3 1 2 [(.int .i64 0)] [(0, 1, (.t 25)), (1, 1, (.t 28))]⟩, ⟨(some 30), none, .call 142 [(.t 29)]⟩, ⟨(some 31), none, .bin 0 .lss (.t 30) (.c (.int .i64 0))⟩, ⟨(some 32), none, .mv (.t 31)⟩, ⟨(some 33), (some (32, true)), .mv (.t 1)⟩, ⟨(some 34), (some (32, true)), .mv (.t 7)⟩, ⟨(some 35), (some (32, true)), .callv (.t 33) [(.t 34)]⟩, ⟨(some 36), none, .pick (.t 32) (.t 35) (.c (.bool false))⟩])
 (.cond (.t 36) (.ops [⟨(some 37), none, .mv (.t 7)⟩, ⟨(some 5), none, .mv (.t 37)⟩]) (.skip))))))
 (.ops [⟨(some 38), none, .bin 0 .add (.t 15) (.c (.int .i64 1))⟩, ⟨(some 15), none, .mv (.t 38)⟩])))))))
 (.seq (.ops [⟨(some 39), none, .mv (.t 5)⟩, ⟨(some 4), none, .mv (.t 39)⟩])
 (.ret))))⟩
def a151 : AFn := ⟨19, [.t 4], .seq (.ops [⟨(some 4), none, .mv (.c (.int .i64 0))⟩])
 (.seq (.seq (.ops [⟨(some 6), none, .mv (.t 0)⟩, ⟨(some 7), none, .len false (.t 6)⟩, ⟨(some 8), none, .mv (.c (.int .i64 0))⟩])
 (.block 0 (.loop (.seq (.ops [⟨(some 9), none, .bin 0 .lss (.t 8) (.t 7)⟩])
 (.seq (.cond (.t 9) (.skip) (.exit 0))
 (.seq (.block 1 (.seq (.ops [⟨(some 10), none, .mv (.t 8)⟩, ⟨(some 5), none, .mv (.t 10)⟩])
 (.seq (.ops [⟨(some 11), none, .mv (.t 1)⟩, ⟨(some 12), none, .mv (.t 0)⟩, ⟨(some 13), none, .mv (.t 5)⟩, ⟨(some 14), none, .iadr 1 (.t 12) (.t 13)⟩, ⟨(some 15), none, .load none (.t 14)⟩, ⟨(some 16), none, .callv (.t 11) [(.t 15)]⟩])
 (.cond (.t 16) (.seq (.ops [⟨(some 17), none, .mv (.t 5)⟩, ⟨(some 4), none, .mv (.t 17)⟩])
 (.ret)) (.skip)))))
 (.ops [⟨(some 18), none, .bin 0 .add (.t 8) (.c (.int .i64 1))⟩, ⟨(some 8), none, .mv (.t 18)⟩])))))))
 (.seq (.ops [⟨(some 4), none, .mv (.c (.int .i64 (-1)))⟩])
 (.ret)))⟩
theorem c151 : compF Go.Proofs.Tryz.prog 151 = some a151 := by kernel_rfl
def a152 : AFn := ⟨6, [.t 2], .seq (.ops [⟨(some 2), none, .mv (.c (.bool false))⟩])
 (.seq (.ops [⟨(some 3), none, .mv (.t 0)⟩, ⟨(some 4), none, .call 153 [(.t 3)]⟩, ⟨(some 5), none, .un .not (.t 4)⟩, ⟨(some 2), none, .mv (.t 5)⟩])
 (.ret))⟩
theorem c152 : compF Go.Proofs.Tryz.prog 152 = some a152 := by kernel_rfl
def a153 : AFn := ⟨19, [.t 2], .seq (.ops [⟨(some 2), none, .mv (.c (.bool false))⟩])
 (.seq (.seq (.ops [⟨(some 4), none, .mv (.t 0)⟩, ⟨(some 5), none, .len true (.t 4)⟩, ⟨(some 6), none, .mv (.c (.int .i64 0))⟩])
 (.block 0 (.loop (.seq (.ops [⟨(some 7), none, .bin 0 .lss (.t 6) (.t 5)⟩])
 (.seq (.cond (.t 7) (.skip) (.exit 0))
 (.seq (.block 1 (.seq (.ops [⟨(some 8), none, .mv (.t 6)⟩, ⟨(some 3), none, .mv (.t 8)⟩])
 (.seq (.ops [⟨(some 9), none, .mv (.t 0)⟩, ⟨(some 10), none, .mv (.t 3)⟩, ⟨(some 11), none, .idxs (.t 9) (.t 10)⟩, ⟨(some 12), none, .conv .i64 (.t 11)⟩, ⟨(some 13), none, .call 155 [(.t 12), (.c (.int .i64 33)), (.c (.int .i64 126))]⟩])
 (.cond (.t 13) (.seq (.ops [⟨(some 2), none, .mv (.c (.bool false))⟩])
 (.ret)) (.skip)))))
 (.ops [⟨(some 14), none, .bin 0 .add (.t 6) (.c (.int .i64 1))⟩, ⟨(some 6), none, .mv (.t 14)⟩])))))))
 (.seq (.ops [⟨(some 15), none, .mv (.t 0)⟩, ⟨(some 16), none, .len true (.t 15)⟩, ⟨(some 17), none, .call 155 [(.t 16), (.c (.int .i64 1)), (.c (.int .i64 100))]⟩, ⟨(some 18), none, .un .not (.t 17)⟩, ⟨(some 2), none, .mv (.t 18)⟩])
 (.ret)))⟩
theorem c153 : compF Go.Proofs.Tryz.prog 153 = some a153 := by kernel_rfl
def a154 : AFn := ⟨54, [.t 2], .seq (.ops [⟨(some 2), none, .mv (.c (.bool false))⟩])
 (.seq (.seq (.ops [⟨(some 5), none, .mv (.t 0)⟩, ⟨(some 6), none, .bin 1 .eql (.t 5) (.c (.str []))⟩, ⟨(some 7), none, .mv (.t 6)⟩, ⟨(some 8), (some (7, false)), .mv (.t 0)⟩, ⟨(some 9), (some (7, false)), .len true (.t 8)⟩, ⟨(some 10), (some (7, false)), .bin 0 .gtr (.t 9) (.c (.int .i64 40))⟩, ⟨(some 11), none, .pick (.t 7) (.c (.bool true)) (.t 10)⟩, ⟨(some 12), none, .mv (.t 11)⟩, ⟨(some 13), (some (12, false)), .mv (.t 0)⟩, ⟨(some 14), (some (12, false)), .idxs (.t 13) (.c (.int .i64 0))⟩, ⟨(some 15), (some (12, false)), .bin 0 .lss (.t 14) (.c (.int .u8 97))⟩, ⟨(some 16), none, .pick (.t 12) (.c (.bool true)) (.t 15)⟩, ⟨(some 17), none, .mv (.t 16)⟩, ⟨(some 18), (some (17, false)), .mv (.t 0)⟩, ⟨(some 19), (some (17, false)), .idxs (.t 18) (.c (.int .i64 0))⟩, ⟨(some 20), (some (17, false)), .bin 0 .gtr (.t 19) (.c (.int .u8 122))⟩, ⟨(some 21), none, .pick (.t 17) (.c (.bool true)) (.t 20)⟩])
 (.cond (.t 21) (.seq (.ops [⟨(some 2), none, .mv (.c (.bool false))⟩])
 (.ret)) (.skip)))
 (.seq (.seq (.ops [⟨(some 22), none, .mv (.t 0)⟩, ⟨(some 23), none, .len true (.t 22)⟩, ⟨(some 24), none, .mv (.c (.int .i64 0))⟩])
 (.block 0 (.loop (.seq (.ops [⟨(some 25), none, .bin 0 .lss (.t 24) (.t 23)⟩])
 (.seq (.cond (.t 25) (.skip) (.exit 0))
 (.seq (.block 1 (.seq (.ops [⟨(some 26), none, .mv (.t 24)⟩, ⟨(some 3), none, .mv (.t 26)⟩])
 (.seq (.ops [⟨(some 27), none, .mv (.t 0)⟩, ⟨(some 28), none, .mv (.t 3)⟩, ⟨(some 29), none, .idxs (.t 27) (.t 28)⟩, ⟨(some 4), none, .mv (.t 29)⟩])
 (.seq (.ops [⟨(some 30), none, .mv (.t 4)⟩, ⟨(some 31), none, .bin 0 .geq (.t 30) (.c (.int .u8 97))⟩, ⟨(some 32), none, .mv (.t 31)⟩, ⟨(some 33), (some (32, true)), .mv (.t 4)⟩, ⟨(some 34), (some (32, true)), .bin 0 .leq (.t 33) (.c (.int .u8 122))⟩, ⟨(some 35), none, .pick (.t 32) (.t 34) (.c (.bool false))⟩, ⟨(some 36), none, .mv (.t 35)⟩, ⟨(some 37), (some (36, false)), .mv (.t 4)⟩, ⟨(some 38), (some (36, false)), .bin 0 .geq (.t 37) (.c (.int .u8 48))⟩, ⟨(some 39), (some (36, false)), .mv (.t 38)⟩, ⟨(some 40), (some (39, true)), .mv (.t 4)⟩, ⟨(some 41), (some (39, true)), .bin 0 .leq (.t 40) (.c (.int .u8 57))⟩, ⟨(some 42), (some (36, false)), .pick (.t 39) (.t 41) (.c (.bool false))⟩, ⟨(some 43), none, .pick (.t 36) (.c (.bool true)) (.t 42)⟩, ⟨(some 44), none, .mv (.t 43)⟩, ⟨(some 45), (some (44, false)), .mv (.t 4)⟩, ⟨(some 46), (some (44, false)), .bin 0 .eql (.t 45) (.c (.int .u8 45))⟩, ⟨(some 47), none, .pick (.t 44) (.c (.bool true)) (.t 46)⟩, ⟨(some 48), none, .mv (.t 47)⟩, ⟨(some 49), (some (48, false)), .mv (.t 4)⟩, ⟨(some 50), (some (48, false)), .bin 0 .eql (.t 49) (.c (.int .u8 95))⟩, ⟨(some 51), none, .pick (.t 48) (.c (.bool true)) (.t 50)⟩, ⟨(some 52), none, .un .not (.t 51)⟩])
 (.cond (.t 52) (.seq (.ops [⟨(some 2), none, .mv (.c (.bool false))⟩])
 (.ret)) (.skip))))))
 (.ops [⟨(some 53), none, .bin 0 .add (.t 24) (.c (.int .i64 1))⟩, ⟨(some 24), none, .mv (.t 53)⟩])))))))
 (.seq (.ops [⟨(some 2), none, .mv (.c (.bool true))⟩])
 (.ret))))⟩
theorem c154 : compF Go.Proofs.Tryz.prog 154 = some a154 := by kernel_rfl
def a155 : AFn := ⟨15, [.t 6], .seq (.ops [⟨(some 6), none, .mv (.c (.bool false))⟩])
 (.seq (.ops [⟨(some 7), none, .mv (.t 0)⟩, ⟨(some 8), none, .mv (.t 1)⟩, ⟨(some 9), none, .bin 0 .lss (.t 7) (.t 8)⟩, ⟨(some 10), none, .mv (.t 9)⟩, ⟨(some 11), (some (10, false)), .mv (.t 0)⟩, ⟨(some 12), (some (10, false)), .mv (.t 2)⟩, ⟨(some 13), (some (10, false)), .bin 0 .gtr (.t 11) (.t 12)⟩, ⟨(some 14), none, .pick (.t 10) (.c (.bool true)) (.t 13)⟩, ⟨(some 6), none, .mv (.t 14)⟩])
 (.ret))⟩
theorem c155 : compF Go.Proofs.Tryz.prog 155 = some a155 := by kernel_rfl
def a164 : AFn := ⟨39, [.t 4, .t 5], .seq (.ops [⟨(some 4), none, .mv (.c (.int .i64 0))⟩, ⟨(some 5), none, .mv (.c (.bool false))⟩])
 (.seq (.ops [⟨(some 11), none, .mv (.t 0)⟩, ⟨(some 12), none, .call 220 [(.t 11)]⟩, ⟨(some 10), none, .mv (.t 12)⟩, ⟨(some 13), none, .ext (.t 10) 0⟩, ⟨(some 14), none, .ext (.t 10) 1⟩, ⟨(some 6), none, .mv (.t 13)⟩, ⟨(some 7), none, .mv (.t 14)⟩])
 (.seq (.seq (.ops [⟨(some 15), none, .mv (.t 6)⟩, ⟨(some 16), none, .len false (.t 15)⟩, ⟨(some 17), none, .mv (.c (.int .i64 0))⟩])
 (.block 0 (.loop (.seq (.ops [⟨(some 18), none, .bin 0 .lss (.t 17) (.t 16)⟩])
 (.seq (.cond (.t 18) (.skip) (.exit 0))
 (.seq (.block 1 (.seq (.ops [⟨(some 19), none, .mv (.t 17)⟩, ⟨(some 20), none, .iadr 1 (.t 15) (.t 17)⟩, ⟨(some 21), none, .load none (.t 20)⟩, ⟨(some 8), none, .mv (.t 19)⟩, ⟨(some 9), none, .mv (.t 21)⟩])
 (.seq (.ops [⟨(some 22), none, .mv (.t 7)⟩, ⟨(some 23), none, .un .not (.t 22)⟩, ⟨(some 24), none, .mv (.t 23)⟩, ⟨(some 25), (some (24, true)), .mv (.t 8)⟩, ⟨(some 26), (some (24, true)), .mv (.t 6)⟩, ⟨(some 27), (some (24, true)), .len false (.t 26)⟩, ⟨(some 28), (some (24, true)), .bin 0 .sub (.t 27) (.c (.int .i64 1))⟩, ⟨(some 29), (some (24, true)), .bin 0 .eql (.t 25) (.t 28)⟩, ⟨(some 30), none, .pick (.t 24) (.t 29) (.c (.bool false))⟩, ⟨(some 31), none, .mv (.t 30)⟩, ⟨(some 32), (some (31, false)), .mv (.t 1)⟩, ⟨(some 33), (some (31, false)), .mv (.t 9)⟩, ⟨(some 34), (some (31, false)), .callv (.t 32) [(.t 33)]⟩, ⟨(some 35), (some (31, false)), .un .not (.t 34)⟩, ⟨(some 36), none, .pick (.t 31) (.c (.bool true)) (.t 35)⟩])
 (.cond (.t 36) (.seq (.ops [⟨(some 37), none, .mv (.t 8)⟩, ⟨(some 4), none, .mv (.t 37)⟩, ⟨(some 5), none, .mv (.c (.bool false))⟩])
 (.ret)) (.skip)))))
 (.ops [⟨(some 38), none, .bin 0 .add (.t 17) (.c (.int .i64 1))⟩, ⟨(some 17), none, .mv (.t 38)⟩])))))))
 (.seq (.ops [⟨(some 4), none, .mv (.c (.int .i64 0))⟩, ⟨(some 5), none, .mv (.c (.bool true))⟩])
 (.ret))))⟩
def a178 : AFn := ⟨9, [.t 4], .seq (.ops [⟨(some 4), none, .mv (.c (.bool false))⟩])
 (.seq (.ops [⟨(some 5), none, .mv (.t 0)⟩, ⟨(some 6), none, .mv (.t 1)⟩, ⟨(some 7), none, .call 229 [(.t 5), (.t 6)]⟩, ⟨(some 8), none, .bin 0 .geq (.t 7) (.c (.int .i64 0))⟩, ⟨(some 4), none, .mv (.t 8)⟩])
 (.ret))⟩
theorem c178 : compF Go.Proofs.Tryz.prog 178 = some a178 := by kernel_rfl
def a179 : AFn := ⟨9, [.t 2], .seq (.ops [⟨(some 2), none, .mv (.c (.bool false))⟩])
 (.seq (.ops [⟨(some 3), none, .mv (.t 0)⟩, ⟨(some 4), none, .bin 0 .lss (.t 3) (.c (.int .u8 33))⟩, ⟨(some 5), none, .mv (.t 4)⟩, ⟨(some 6), (some (5, false)), .mv (.t 0)⟩, ⟨(some 7), (some (5, false)), .bin 0 .gtr (.t 6) (.c (.int .u8 126))⟩, ⟨(some 8), none, .pick (.t 5) (.c (.bool true)) (.t 7)⟩, ⟨(some 2), none, .mv (.t 8)⟩])
 (.ret))⟩
theorem c179 : compF Go.Proofs.Tryz.prog 179 = some a179 := by kernel_rfl
def a181 : AFn := ⟨8, [.t 4], .seq (.ops [⟨(some 4), none, .mv (.c (.int .i64 0))⟩])
 (.seq (.ops [⟨(some 5), none, .mv (.t 0)⟩, ⟨(some 6), none, .mv (.t 1)⟩, ⟨(some 7), none, .call 237 [(.t 5), (.t 6)]⟩, ⟨(some 4), none, .mv (.t 7)⟩])
 (.ret))⟩
theorem c181 : compF Go.Proofs.Tryz.prog 181 = some a181 := by kernel_rfl
def a182 : AFn := ⟨19, [.t 4], .seq (.ops [⟨(some 4), none, .mv (.c (.int .i64 0))⟩])
 (.seq (.seq (.ops [⟨(some 6), none, .mv (.t 0)⟩, ⟨(some 7), none, .len false (.t 6)⟩, ⟨(some 8), none, .mv (.c (.int .i64 0))⟩])
 (.block 0 (.loop (.seq (.ops [⟨(some 9), none, .bin 0 .lss (.t 8) (.t 7)⟩])
 (.seq (.cond (.t 9) (.skip) (.exit 0))
 (.seq (.block 1 (.seq (.ops [⟨(some 10), none, .mv (.t 8)⟩, ⟨(some 5), none, .mv (.t 10)⟩])
 (.seq (.ops [⟨(some 11), none, .mv (.t 1)⟩, ⟨(some 12), none, .mv (.t 0)⟩, ⟨(some 13), none, .mv (.t 5)⟩, ⟨(some 14), none, .iadr 1 (.t 12) (.t 13)⟩, ⟨(some 15), none, .load none (.t 14)⟩, ⟨(some 16), none, .callv (.t 11) [(.t 15)]⟩])
 (.cond (.t 16) (.seq (.ops [⟨(some 17), none, .mv (.t 5)⟩, ⟨(some 4), none, .mv (.t 17)⟩])
 (.ret)) (.skip)))))
 (.ops [⟨(some 18), none, .bin 0 .add (.t 8) (.c (.int .i64 1))⟩, ⟨(some 8), none, .mv (.t 18)⟩])))))))
 (.seq (.ops [⟨(some 4), none, .mv (.c (.int .i64 (-1)))⟩])
 (.ret)))⟩
theorem c182 : compF Go.Proofs.Tryz.prog 182 = some a182 := by kernel_rfl
def a183 : AFn := ⟨25, [.t 4], .seq (.ops [⟨(some 2), none, .box 67 (.t 0)⟩, ⟨(some 4), none, .mv (.c (.str []))⟩])
 (.seq (.ops [⟨(some 5), none, .mv (.c (.lit true 0 []))⟩])
 (.seq (.seq (.ops [⟨(some 8), none, .mv (.t 1)⟩, ⟨(some 9), none, .len false (.t 8)⟩, ⟨(some 10), none, .mv (.c (.int .i64 0))⟩])
 (.block 0 (.loop (.seq (.ops [⟨(some 11), none, .bin 0 .lss (.t 10) (.t 9)⟩])
 (.seq (.cond (.t 11) (.skip) (.exit 0))
 (.seq (.block 1 (.seq (.ops [⟨(some 12), none, .iadr 1 (.t 8) (.t 10)⟩, ⟨(some 13), none, .load none (.t 12)⟩, ⟨(some 7), none, .mv (.t 13)⟩])
 (.ops [⟨(some 14), none, .mv (.t 5)⟩, ⟨(some 15), none, .fadr 1 (.t 2)⟩, ⟨(some 16), none, .load none (.t 15)⟩, ⟨(some 17), none, .mv (.t 7)⟩, ⟨(some 18), none, .iadr 1 (.t 16) (.t 17)⟩, ⟨(some 19), none, .load none (.t 18)⟩, ⟨(some 20), none, .bslice 9 1 1 [(.str [])] [(0, 1, (.t 19))]⟩, ⟨(some 21), none, .app 9 1 16 (.t 14) (.t 20)⟩, ⟨(some 5), none, .mv (.t 21)⟩])))
 (.ops [⟨(some 22), none, .bin 0 .add (.t 10) (.c (.int .i64 1))⟩, ⟨(some 10), none, .mv (.t 22)⟩])))))))
 (.seq (.ops [⟨(some 23), none, .mv (.t 5)⟩, ⟨(some 24), none, .call 160 [(.t 23), (.c (.str [32]))]⟩, ⟨(some 4), none, .mv (.t 24)⟩])
 (.ret))))⟩
theorem c183 : compF Go.Proofs.Tryz.prog 183 = some a183 := by kernel_rfl
def a184 : AFn := ⟨12, [.t 4], .seq (.ops [⟨(some 4), none, .mv (.c (.int .i64 0))⟩])
 (.seq (.block 0 (.loop (.seq (.seq (.ops [⟨(some 5), none, .mv (.t 1)⟩, ⟨(some 6), none, .bin 0 .neq (.t 5) (.c (.int .i64 0))⟩])
 (.cond (.t 6) (.skip) (.exit 0)))
 (.block 1 (.any [(⟨(some 7), none, .mv (.t 1)⟩, []), (⟨(some 8), none, .mv (.t 0)⟩, [0]), (⟨(some 9), none, .mv (.t 1)⟩, [0, 1]), (⟨(some 10), none, .bin 0 .rem (.t 8) (.t 9)⟩, [0]), (⟨(some 0), none, .mv (.t 7)⟩, [2, 3]), (⟨(some 1), none, .mv (.t 10)⟩, [])])))))
 (.seq (.ops [⟨(some 11), none, .mv (.t 0)⟩, ⟨(some 4), none, .mv (.t 11)⟩])
 (.ret)))⟩
theorem c184 : compF Go.Proofs.Tryz.prog 184 = some a184 := by kernel_rfl
def a185 : AFn := ⟨16, [.t 4], .seq (.ops [⟨(some 4), none, .mv (.c (.bool false))⟩])
 (.seq (.any [(⟨(some 5), none, .fadr 1 (.t 1)⟩, []), (⟨(some 6), none, .load none (.t 5)⟩, []), (⟨(some 7), none, .mv (.t 0)⟩, [0, 1]), (⟨(some 8), none, .iadr 1 (.t 6) (.t 7)⟩, []), (⟨(some 9), none, .load none (.t 8)⟩, []), (⟨(some 10), none, .fadr 1 (.t 2)⟩, [0, 1, 2, 3, 4]), (⟨(some 11), none, .load none (.t 10)⟩, [0, 1, 2, 3, 4]), (⟨(some 12), none, .mv (.t 0)⟩, [0, 1, 2, 3, 4, 5, 6]), (⟨(some 13), none, .iadr 1 (.t 11) (.t 12)⟩, [0, 1, 2, 3, 4]), (⟨(some 14), none, .load none (.t 13)⟩, [0, 1, 2, 3, 4]), (⟨(some 15), none, .bin 1 .neq (.t 9) (.t 14)⟩, []), (⟨(some 4), none, .mv (.t 15)⟩, [])])
 (.ret))⟩
theorem c185 : compF Go.Proofs.Tryz.prog 185 = some a185 := by kernel_rfl
def a186 : AFn := ⟨19, [.t 4], .seq (.ops [⟨(some 4), none, .mv (.c (.int .i64 0))⟩])
 (.seq (.seq (.ops [⟨(some 6), none, .mv (.t 0)⟩, ⟨(some 7), none, .len false (.t 6)⟩, ⟨(some 8), none, .mv (.c (.int .i64 0))⟩])
 (.block 0 (.loop (.seq (.ops [⟨(some 9), none, .bin 0 .lss (.t 8) (.t 7)⟩])
 (.seq (.cond (.t 9) (.skip) (.exit 0))
 (.seq (.block 1 (.seq (.ops [⟨(some 10), none, .mv (.t 8)⟩, ⟨(some 5), none, .mv (.t 10)⟩])
 (.seq (.ops [⟨(some 11), none, .mv (.t 1)⟩, ⟨(some 12), none, .mv (.t 0)⟩, ⟨(some 13), none, .mv (.t 5)⟩, ⟨(some 14), none, .iadr 1 (.t 12) (.t 13)⟩, ⟨(some 15), none, .load none (.t 14)⟩, ⟨(some 16), none, .bin 0 .eql (.t 11) (.t 15)⟩])
 (.cond (.t 16) (.seq (.ops [⟨(some 17), none, .mv (.t 5)⟩, ⟨(some 4), none, .mv (.t 17)⟩])
 (.ret)) (.skip)))))
 (.ops [⟨(some 18), none, .bin 0 .add (.t 8) (.c (.int .i64 1))⟩, ⟨(some 8), none, .mv (.t 18)⟩])))))))
 (.seq (.ops [⟨(some 4), none, .mv (.c (.int .i64 (-1)))⟩])
 (.ret)))⟩
theorem c186 : compF Go.Proofs.Tryz.prog 186 = some a186 := by kernel_rfl
def a187 : AFn := ⟨12, [.t 4], .seq (.ops [⟨(some 4), none, .mv (.c (.int .i64 0))⟩])
 (.seq (.block 0 (.loop (.seq (.seq (.ops [⟨(some 5), none, .mv (.t 1)⟩, ⟨(some 6), none, .bin 0 .neq (.t 5) (.c (.int .i64 0))⟩])
 (.cond (.t 6) (.skip) (.exit 0)))
 (.block 1 (.any [(⟨(some 7), none, .mv (.t 1)⟩, []), (⟨(some 8), none, .mv (.t 0)⟩, [0]), (⟨(some 9), none, .mv (.t 1)⟩, [0, 1]), (⟨(some 10), none, .bin 0 .rem (.t 8) (.t 9)⟩, [0]), (⟨(some 0), none, .mv (.t 7)⟩, [2, 3]), (⟨(some 1), none, .mv (.t 10)⟩, [])])))))
 (.seq (.ops [⟨(some 11), none, .mv (.t 0)⟩, ⟨(some 4), none, .mv (.t 11)⟩])
 (.ret)))⟩
theorem c187 : compF Go.Proofs.Tryz.prog 187 = some a187 := by kernel_rfl
def a188 : AFn := ⟨19, [.t 4], .seq (.ops [⟨(some 4), none, .mv (.c (.int .i64 0))⟩])
 (.seq (.seq (.ops [⟨(some 6), none, .mv (.t 0)⟩, ⟨(some 7), none, .len false (.t 6)⟩, ⟨(some 8), none, .mv (.c (.int .i64 0))⟩])
 (.block 0 (.loop (.seq (.ops [⟨(some 9), none, .bin 0 .lss (.t 8) (.t 7)⟩])
 (.seq (.cond (.t 9) (.skip) (.exit 0))
 (.seq (.block 1 (.seq (.ops [⟨(some 10), none, .mv (.t 8)⟩, ⟨(some 5), none, .mv (.t 10)⟩])
 (.seq (.ops [⟨(some 11), none, .mv (.t 1)⟩, ⟨(some 12), none, .mv (.t 0)⟩, ⟨(some 13), none, .mv (.t 5)⟩, ⟨(some 14), none, .iadr 2 (.t 12) (.t 13)⟩, ⟨(some 15), none, .load (some 2) (.t 14)⟩, ⟨(some 16), none, .callv (.t 11) [(.t 15)]⟩])
 (.cond (.t 16) (.seq (.ops [⟨(some 17), none, .mv (.t 5)⟩, ⟨(some 4), none, .mv (.t 17)⟩])
 (.ret)) (.skip)))))
 (.ops [⟨(some 18), none, .bin 0 .add (.t 8) (.c (.int .i64 1))⟩, ⟨(some 8), none, .mv (.t 18)⟩])))))))
 (.seq (.ops [⟨(some 4), none, .mv (.c (.int .i64 (-1)))⟩])
 (.ret)))⟩
theorem c188 : compF Go.Proofs.Tryz.prog 188 = some a188 := by kernel_rfl
def a190 : AFn := ⟨13, [.t 3], .seq (.ops [⟨(some 2), none, .box 69 (.t 0)⟩, ⟨(some 3), none, .mv (.c (.bool false))⟩])
 (.seq (.any [(⟨(some 4), none, .fadr 1 (.t 1)⟩, []), (⟨(some 5), none, .load none (.t 4)⟩, []), (⟨(some 6), none, .fadr 0 (.t 2)⟩, [0, 1]), (⟨(some 7), none, .load none (.t 6)⟩, [0, 1]), (⟨(some 8), none, .iadr 1 (.t 5) (.t 7)⟩, []), (⟨(some 9), none, .load none (.t 8)⟩, []), (⟨(some 10), none, .fadr 1 (.t 2)⟩, [0, 1, 2, 3, 4, 5]), (⟨(some 11), none, .load none (.t 10)⟩, [0, 1, 2, 3, 4, 5]), (⟨(some 12), none, .bin 1 .neq (.t 9) (.t 11)⟩, []), (⟨(some 3), none, .mv (.t 12)⟩, [])])
 (.ret))⟩
theorem c190 : compF Go.Proofs.Tryz.prog 190 = some a190 := by kernel_rfl
def a205 : AFn := ⟨19, [.t 4], .seq (.ops [⟨(some 4), none, .mv (.c (.int .i64 0))⟩])
 (.seq (.seq (.ops [⟨(some 6), none, .mv (.t 0)⟩, ⟨(some 7), none, .len false (.t 6)⟩, ⟨(some 8), none, .mv (.c (.int .i64 0))⟩])
 (.block 0 (.loop (.seq (.ops [⟨(some 9), none, .bin 0 .lss (.t 8) (.t 7)⟩])
 (.seq (.cond (.t 9) (.skip) (.exit 0))
 (.seq (.block 1 (.seq (.ops [⟨(some 10), none, .mv (.t 8)⟩, ⟨(some 5), none, .mv (.t 10)⟩])
 (.seq (.ops [⟨(some 11), none, .mv (.t 1)⟩, ⟨(some 12), none, .mv (.t 0)⟩, ⟨(some 13), none, .mv (.t 5)⟩, ⟨(some 14), none, .iadr 2 (.t 12) (.t 13)⟩, ⟨(some 15), none, .load (some 2) (.t 14)⟩, ⟨(some 16), none, .callv (.t 11) [(.t 15)]⟩])
 (.cond (.t 16) (.seq (.ops [⟨(some 17), none, .mv (.t 5)⟩, ⟨(some 4), none, .mv (.t 17)⟩])
 (.ret)) (.skip)))))
 (.ops [⟨(some 18), none, .bin 0 .add (.t 8) (.c (.int .i64 1))⟩, ⟨(some 8), none, .mv (.t 18)⟩])))))))
 (.seq (.ops [⟨(some 4), none, .mv (.c (.int .i64 (-1)))⟩])
 (.ret)))⟩
theorem c205 : compF Go.Proofs.Tryz.prog 205 = some a205 := by kernel_rfl
def a229 : AFn := ⟨19, [.t 4], .seq (.ops [⟨(some 4), none, .mv (.c (.int .i64 0))⟩])
 (.seq (.seq (.ops [⟨(some 6), none, .mv (.t 0)⟩, ⟨(some 7), none, .len false (.t 6)⟩, ⟨(some 8), none, .mv (.c (.int .i64 0))⟩])
 (.block 0 (.loop (.seq (.ops [⟨(some 9), none, .bin 0 .lss (.t 8) (.t 7)⟩])
 (.seq (.cond (.t 9) (.skip) (.exit 0))
 (.seq (.block 1 (.seq (.ops [⟨(some 10), none, .mv (.t 8)⟩, ⟨(some 5), none, .mv (.t 10)⟩])
 (.seq (.ops [⟨(some 11), none, .mv (.t 1)⟩, ⟨(some 12), none, .mv (.t 0)⟩, ⟨(some 13), none, .mv (.t 5)⟩, ⟨(some 14), none, .iadr 1 (.t 12) (.t 13)⟩, ⟨(some 15), none, .load none (.t 14)⟩, ⟨(some 16), none, .callv (.t 11) [(.t 15)]⟩])
 (.cond (.t 16) (.seq (.ops [⟨(some 17), none, .mv (.t 5)⟩, ⟨(some 4), none, .mv (.t 17)⟩])
 (.ret)) (.skip)))))
 (.ops [⟨(some 18), none, .bin 0 .add (.t 8) (.c (.int .i64 1))⟩, ⟨(some 8), none, .mv (.t 18)⟩])))))))
 (.seq (.ops [⟨(some 4), none, .mv (.c (.int .i64 (-1)))⟩])
 (.ret)))⟩
theorem c229 : compF Go.Proofs.Tryz.prog 229 = some a229 := by kernel_rfl
def a237 : AFn := ⟨8, [.t 4], .seq (.ops [⟨(some 4), none, .mv (.c (.int .i64 0))⟩])
 (.seq (.ops [⟨(some 5), none, .mv (.t 0)⟩, ⟨(some 6), none, .mv (.t 1)⟩, ⟨(some 7), none, .call 279 [(.t 5), (.t 6)]⟩, ⟨(some 4), none, .mv (.t 7)⟩])
 (.ret))⟩
theorem c237 : compF Go.Proofs.Tryz.prog 237 = some a237 := by kernel_rfl
end Go.Proofs.YtpifoghhaohhaaaGreatDoor
namespace Go.Proofs.YtpifoghhaohhaaaGreatDoor
open Go.RowKit
theorem below_c (x n : Int) (nid : Nat) (hn : n ≤ 9223372036854775807) : ACall Tryz.prog 110 [.int .i64 x, .int .i64 n] [] nid (.int .i64 (below x n)) [] := by
  refine acall_run c110 (by simp [a110]) ?_
  simp -dsimp only [a110, aqT, aqU, aqN, ↓seqK, ↓blkK, ↓loopK, step, stepBin, Nat.reduceBEq, Nat.reduceBeqDiff, Nat.add_assoc nid, Nat.reduceAdd, reduceCtorEq, ↓reduceIte, Nat.reduceLeDiff, Nat.reduceBneDiff, Option.toList, ← Int.ofNat_tmod, ← Int.ofNat_tdiv, Nat.reduceLT]
  refine S2.dec (fun h => ?_) (fun h => ?_)
  · simp -dsimp only [aqT, aqU, aqN, ↓seqK, ↓blkK, ↓loopK, step, stepBin, Nat.reduceBEq, Nat.reduceBeqDiff, Nat.add_assoc nid, Nat.reduceAdd, reduceCtorEq, ↓reduceIte, Nat.reduceLeDiff, Nat.reduceBneDiff, Option.toList, ← Int.ofNat_tmod, ← Int.ofNat_tdiv, Nat.reduceLT]
    refine RetOK.pure (.inl rfl) rfl ?_
    simp [retPV, PVCov, getS, below, h]
  simp -dsimp only [aqT, aqU, aqN, ↓seqK, ↓blkK, ↓loopK, step, stepBin, Nat.reduceBEq, Nat.reduceBeqDiff, Nat.add_assoc nid, Nat.reduceAdd, reduceCtorEq, ↓reduceIte, Nat.reduceLeDiff, Nat.reduceBneDiff, Option.toList, ← Int.ofNat_tmod, ← Int.ofNat_tdiv, Nat.reduceLT]
  refine ⟨by omega, S2.dec (fun h2 => ?_) (fun h2 => ?_)⟩
  · simp -dsimp only [aqT, aqU, aqN, ↓seqK, ↓blkK, ↓loopK, step, stepBin, Nat.reduceBEq, Nat.reduceBeqDiff, Nat.add_assoc nid, Nat.reduceAdd, reduceCtorEq, ↓reduceIte, Nat.reduceLeDiff, Nat.reduceBneDiff, Option.toList, ← Int.ofNat_tmod, ← Int.ofNat_tdiv, Nat.reduceLT]
    have := Int.lt_tmod_of_pos x (show 0 < n by omega)
    refine ⟨by unfold inI64; omega, RetOK.pure (.inl rfl) rfl ?_⟩
    have h3 : x.tmod n + n = x % n := by rw [Int.tmod_eq_emod]; split <;> rw [Int.tmod_eq_emod] at h2 <;> rename_i h6 <;> simp only [h6, if_true, if_false, not_false_eq_true] at h2 <;> have := Int.emod_nonneg x (show n ≠ 0 by omega) <;> omega
    simp [cvT, step, res, below, h, h3]
  · simp -dsimp only [aqT, aqU, aqN, ↓seqK, ↓blkK, ↓loopK, step, stepBin, Nat.reduceBEq, Nat.reduceBeqDiff, Nat.add_assoc nid, Nat.reduceAdd, reduceCtorEq, ↓reduceIte, Nat.reduceLeDiff, Nat.reduceBneDiff, Option.toList, ← Int.ofNat_tmod, ← Int.ofNat_tdiv, Nat.reduceLT]
    refine RetOK.pure (.inl rfl) rfl ?_
    have h3 : x.tmod n = x % n := by rw [Int.tmod_eq_emod]; split <;> rw [Int.tmod_eq_emod] at h2 <;> rename_i h6 <;> simp only [h6, if_true, if_false, not_false_eq_true] at h2 <;> have := Int.emod_lt_of_pos x (show 0 < n by omega) <;> omega
    simp [cvT, step, res, below, h, h3]
def strmC (nl : Bool) (A : List Int) (p : Nat) : Option ABlk := some (.box 25 [.lit nl A.length [.i .i64 fun i => A.getD i 0], .int .i64 p])
theorem strmC_low (n : Nat) (nl : Bool) (A : List Int) (p : Nat) : lowBlk n (strmC nl A p) = true := rfl
theorem next_c (s nid : Nat) (nl : Bool) (A : List Int) (p : Nat) (n : Int) (h : s < nid) (hp : p ≤ 1099511627775) (hA : A.length ≤ 17592186044416) (hn : n ≤ 9223372036854775807) :
    ACall Tryz.prog 35 [.ptr s 0, .int .i64 n] [(s, strmC nl A p)] nid (.int .i64 (nextV A p n)) [(s, strmC nl A (p + 1))] := by
  obtain ⟨e1, e2, e3, e4, e5, e6, e7, e8, e9⟩ := id_all h
  refine acall_run c35 (by simp [a35]) ?_
  simp -dsimp only [a35, strmC, aqT, aqU, aqN, ↓seqK, ↓blkK, ↓loopK, step, stepBin, Nat.reduceBEq, Nat.reduceBeqDiff, Nat.add_assoc nid, Nat.reduceAdd, reduceCtorEq, ↓reduceIte, Nat.reduceLeDiff, Nat.reduceBneDiff, Option.toList, ← Int.ofNat_tmod, ← Int.ofNat_tdiv, Nat.reduceLT, e1, e2, e3, e4, e5, e6, e7, e8, e9]
  refine ⟨by unfold inI64; omega, S2.intro (fun h2 => ?_) (fun h2 => ?_)⟩
  · simp -dsimp only [aqT, aqU, aqN, ↓seqK, ↓blkK, ↓loopK, step, stepBin, Nat.reduceBEq, Nat.reduceBeqDiff, Nat.add_assoc nid, Nat.reduceAdd, reduceCtorEq, ↓reduceIte, Nat.reduceLeDiff, Nat.reduceBneDiff, Option.toList, ← Int.ofNat_tmod, ← Int.ofNat_tdiv, Nat.reduceLT, e1, e2, e3, e4, e5, e6, e7, e8, e9]
    refine ⟨by unfold inI64; omega, CallO.pure (below_c _ _ _ hn) ?_⟩
    simp -dsimp only [aqT, aqU, aqN, ↓seqK, ↓blkK, ↓loopK, step, stepBin, Nat.reduceBEq, Nat.reduceBeqDiff, Nat.add_assoc nid, Nat.reduceAdd, reduceCtorEq, ↓reduceIte, Nat.reduceLeDiff, Nat.reduceBneDiff, Option.toList, ← Int.ofNat_tmod, ← Int.ofNat_tdiv, Nat.reduceLT, e1, e2, e3, e4, e5, e6, e7, e8, e9]
    have h3 : A.length = 0 := by simpa using h2
    refine RetOK.same (.inl rfl) rfl (by simp [strmC, liveIds]; omega) ?_ ?_
    · simp [cvT, step, res, strmC]
    · simp [cvT, step, res, nextV, h3]
  · simp -dsimp only [aqT, aqU, aqN, ↓seqK, ↓blkK, ↓loopK, step, stepBin, Nat.reduceBEq, Nat.reduceBeqDiff, Nat.add_assoc nid, Nat.reduceAdd, reduceCtorEq, ↓reduceIte, Nat.reduceLeDiff, Nat.reduceBneDiff, Option.toList, ← Int.ofNat_tmod, ← Int.ofNat_tdiv, Nat.reduceLT, e1, e2, e3, e4, e5, e6, e7, e8, e9]
    have h3 : 0 < A.length := by have : ¬ A.length = 0 := by simpa using h2
                                 omega
    have h4 : ∀ z : Nat, z ≤ 1099511627776 → IntKind.i64.wrap (z : Int) = z := fun z hz => IntWalk.i64_in _ (by omega)
    have h5 : p / A.length ≤ p := Nat.div_le_self _ _
    have h6 : p % A.length < A.length := Nat.mod_lt _ h3
    have h11 := h4 _ (show p / A.length ≤ 1099511627776 by omega)
    refine ⟨by unfold inI64; omega, by omega, by unfold inI64; omega, by omega, by omega, CallO.pure (below_c _ _ _ (by omega)) ?_⟩
    simp -dsimp only [aqT, aqU, aqN, ↓seqK, ↓blkK, ↓loopK, step, stepBin, Nat.reduceBEq, Nat.reduceBeqDiff, Nat.add_assoc nid, Nat.reduceAdd, reduceCtorEq, ↓reduceIte, Nat.reduceLeDiff, Nat.reduceBneDiff, Option.toList, ← Int.ofNat_tmod, ← Int.ofNat_tdiv, Nat.reduceLT, h11, e1, e2, e3, e4, e5, e6, e7, e8, e9]
    have h7 := round_bd p A.length h3 (by omega)
    have h8 := below_bd (A.getD (p % A.length) 0) (n := 1073741824) (by omega)
    rw [← Int.natCast_emod, ← Int.natCast_ediv] at h7
    generalize h9 : ((p / A.length : Nat) : Int) * (7919 + ((p % A.length : Nat) : Int)) = z at h7 ⊢
    refine ⟨by unfold inI64; omega, by unfold inI64; omega, by unfold inI64; omega, CallO.pure (below_c _ _ _ hn) ?_⟩
    simp -dsimp only [aqT, aqU, aqN, ↓seqK, ↓blkK, ↓loopK, step, stepBin, Nat.reduceBEq, Nat.reduceBeqDiff, Nat.add_assoc nid, Nat.reduceAdd, reduceCtorEq, ↓reduceIte, Nat.reduceLeDiff, Nat.reduceBneDiff, Option.toList, ← Int.ofNat_tmod, ← Int.ofNat_tdiv, Nat.reduceLT, e1, e2, e3, e4, e5, e6, e7, e8, e9]
    refine RetOK.same (.inl rfl) rfl (by simp [strmC, liveIds]; omega) ?_ ?_
    · simp [cvT, step, res, strmC]
    · have h10 : A.length ≠ 0 := by omega
      simp [cvT, step, res, nextV, h10, ← h9]
theorem range_c (s nid : Nat) (nl : Bool) (A : List Int) (p : Nat) (lo hi : Int) (h : s < nid) (hp : p ≤ 1099511627775) (hA : A.length ≤ 17592186044416) (h1 : lo ≤ hi) (hl : -1099511627776 ≤ lo) (hh : hi ≤ 1099511627776) :
    ACall Tryz.prog 31 [.ptr s 0, .int .i64 lo, .int .i64 hi] [(s, strmC nl A p)] nid (.int .i64 (rangeV A p lo hi)) [(s, strmC nl A (p + 1))] := by
  obtain ⟨e1, e2, e3, e4, e5, e6, e7, e8, e9⟩ := id_all h
  refine acall_run c31 (by simp [a31]) ?_
  simp -dsimp only [a31, aqT, aqU, aqN, ↓seqK, ↓blkK, ↓loopK, step, stepBin, Nat.reduceBEq, Nat.reduceBeqDiff, Nat.add_assoc nid, Nat.reduceAdd, reduceCtorEq, ↓reduceIte, Nat.reduceLeDiff, Nat.reduceBneDiff, Option.toList, ← Int.ofNat_tmod, ← Int.ofNat_tdiv, Nat.reduceLT, e1, e2, e3, e4, e5, e6, e7, e8, e9]
  refine S2.dec (fun h => absurd h (by omega)) (fun h => ?_)
  simp -dsimp only [aqT, aqU, aqN, ↓seqK, ↓blkK, ↓loopK, step, stepBin, Nat.reduceBEq, Nat.reduceBeqDiff, Nat.add_assoc nid, Nat.reduceAdd, reduceCtorEq, ↓reduceIte, Nat.reduceLeDiff, Nat.reduceBneDiff, Option.toList, ← Int.ofNat_tmod, ← Int.ofNat_tdiv, Nat.reduceLT, e1, e2, e3, e4, e5, e6, e7, e8, e9]
  refine ⟨by unfold inI64; omega, by unfold inI64; omega, CallO.on (next_c _ _ _ _ _ _ (by omega) hp hA (by omega)) (subH_hit _ _ _) ?_⟩
  simp -dsimp only [aqT, aqU, aqN, ↓seqK, ↓blkK, ↓loopK, step, stepBin, Nat.reduceBEq, Nat.reduceBeqDiff, Nat.add_assoc nid, Nat.reduceAdd, reduceCtorEq, ↓reduceIte, Nat.reduceLeDiff, Nat.reduceBneDiff, Option.toList, ← Int.ofNat_tmod, ← Int.ofNat_tdiv, Nat.reduceLT, e1, e2, e3, e4, e5, e6, e7, e8, e9]
  have := nextV_bd A p (n := hi - lo + 1) (by omega)
  refine ⟨by unfold inI64; omega, RetOK.same (.inl rfl) rfl (by simp [strmC, liveIds]; omega) ?_ ?_⟩
  · simp [cvT, step, res, strmC]
  · simp [cvT, step, res, rangeV]
theorem flip_c (s nid : Nat) (nl : Bool) (A : List Int) (p : Nat) (n : Int) (h : s < nid) (hp : p ≤ 1099511627775) (hA : A.length ≤ 17592186044416) (hn : n ≤ 9223372036854775807) :
    ACall Tryz.prog 44 [.ptr s 0, .int .i64 n] [(s, strmC nl A p)] nid (.bool (flipV A p n)) [(s, strmC nl A (p + 1))] := by
  obtain ⟨e1, e2, e3, e4, e5, e6, e7, e8, e9⟩ := id_all h
  refine acall_run c44 (by simp [a44]) ?_
  simp -dsimp only [a44, aqT, aqU, aqN, ↓seqK, ↓blkK, ↓loopK, step, stepBin, Nat.reduceBEq, Nat.reduceBeqDiff, Nat.add_assoc nid, Nat.reduceAdd, reduceCtorEq, ↓reduceIte, Nat.reduceLeDiff, Nat.reduceBneDiff, Option.toList, ← Int.ofNat_tmod, ← Int.ofNat_tdiv, Nat.reduceLT, e1, e2, e3, e4, e5, e6, e7, e8, e9]
  refine CallO.on (next_c _ _ _ _ _ _ (by omega) hp hA hn) (subH_hit _ _ _) ?_
  simp -dsimp only [aqT, aqU, aqN, ↓seqK, ↓blkK, ↓loopK, step, stepBin, Nat.reduceBEq, Nat.reduceBeqDiff, Nat.add_assoc nid, Nat.reduceAdd, reduceCtorEq, ↓reduceIte, Nat.reduceLeDiff, Nat.reduceBneDiff, Option.toList, ← Int.ofNat_tmod, ← Int.ofNat_tdiv, Nat.reduceLT, e1, e2, e3, e4, e5, e6, e7, e8, e9]
  refine RetOK.same (.inl rfl) rfl (by simp [strmC, liveIds]; omega) ?_ ?_
  · simp [cvT, step, res, strmC]
  · simp [cvT, step, res, flipV]
theorem pick_c (s nid : Nat) (nl nl' : Bool) (A : List Int) (p : Nat) (n : Nat) (g : Nat → Int) (h : s < nid) (hp : p ≤ 1099511627775) (hA : A.length ≤ 17592186044416) (h1 : 0 < n) (hn : n ≤ 1099511627776) :
    ACall Tryz.prog 54 [.ptr s 0, .lit nl' n [.i .i64 g]] [(s, strmC nl A p)] nid (.int .i64 (g (pickI A p n))) [(s, strmC nl A (p + 1))] := by
  obtain ⟨e1, e2, e3, e4, e5, e6, e7, e8, e9⟩ := id_all h
  refine acall_run c54 (by simp [a54]) ?_
  simp -dsimp only [a54, aqT, aqU, aqN, ↓seqK, ↓blkK, ↓loopK, step, stepBin, Nat.reduceBEq, Nat.reduceBeqDiff, Nat.add_assoc nid, Nat.reduceAdd, reduceCtorEq, ↓reduceIte, Nat.reduceLeDiff, Nat.reduceBneDiff, Option.toList, ← Int.ofNat_tmod, ← Int.ofNat_tdiv, Nat.reduceLT, e1, e2, e3, e4, e5, e6, e7, e8, e9]
  refine CallO.on (next_c _ _ _ _ _ _ (by omega) hp hA (by omega)) (subH_hit _ _ _) ?_
  simp -dsimp only [aqT, aqU, aqN, ↓seqK, ↓blkK, ↓loopK, step, stepBin, Nat.reduceBEq, Nat.reduceBeqDiff, Nat.add_assoc nid, Nat.reduceAdd, reduceCtorEq, ↓reduceIte, Nat.reduceLeDiff, Nat.reduceBneDiff, Option.toList, ← Int.ofNat_tmod, ← Int.ofNat_tdiv, Nat.reduceLT, e1, e2, e3, e4, e5, e6, e7, e8, e9]
  have := nextV_bd A p (n := (n : Int)) (by omega)
  refine ⟨this, RetOK.same (.inl rfl) rfl (by simp [strmC, liveIds]; omega) ?_ ?_⟩
  · simp [cvT, step, res, strmC]
  · simp [cvT, step, res, pickI]
theorem CallX.pick_go {s id nid : Nat} {nl : Bool} {A : List Int} {p : Nat} {n T : Nat} {g : Nat → Int} {H : Heap} {K : PV → Heap → List Nat → Prop} (hs : getH H s = strmC nl A p) (hid : getH H id = some (.arr T n [.i .i64 g])) (hne : (s == id) = false) (h : s < nid) (hp : p ≤ 1099511627775) (hA : A.length ≤ 17592186044416) (h1 : 0 < n) (hn : n ≤ 1099511627776)
    (hK : K (.int .i64 (g (pickI A p n))) [(s, strmC nl A (p + 1)), (id, none)] [s, id]) : CallX Tryz.prog 54 [.ptr s 0, .sl id 0 n] H nid K := by
  refine CallX.given [id] (u := [(s, strmC nl A (p + 1))]) (fun nl' => ?_) (subH_get hs) (by simp [getH, hne]) hK
  have e : lends H [id] nl' [.ptr s 0, .sl id 0 n] = [.ptr s 0, .lit (nl' id) n [.i .i64 g]] := by simp [lends, lend, hid, noOs]
  rw [e]
  exact pick_c s _ nl _ A p n _ h hp hA h1 hn
theorem CallO.pick_go {s id nid : Nat} {nl : Bool} {A : List Int} {p : Nat} {n T : Nat} {g : Nat → Int} {H : Heap} {K : PV → Heap → Prop} (hs : getH H s = strmC nl A p) (hid : getH H id = some (.arr T n [.i .i64 g])) (hne : (s == id) = false) (h : s < nid) (hp : p ≤ 1099511627775) (hA : A.length ≤ 17592186044416) (h1 : 0 < n) (hn : n ≤ 1099511627776)
    (hK : K (.int .i64 (g (pickI A p n))) [(s, strmC nl A (p + 1)), (id, none)]) : CallOK Tryz.prog 54 [.ptr s 0, .sl id 0 n] H nid K :=
  CallO.x (CallX.pick_go hs hid hne h hp hA h1 hn hK)
end Go.Proofs.YtpifoghhaohhaaaGreatDoor
namespace Go.Proofs.YtpifoghhaohhaaaGreatDoor
open Go.RowKit
theorem some_c (s nid : Nat) (nl nl' : Bool) (A : List Int) (p : Nat) (n : Nat) (g : Nat → List UInt8) (h : s < nid) (hp : p ≤ 1099511627775) (hA : A.length ≤ 17592186044416) (h1 : 0 < n) (hn : n ≤ 1099511627776) :
    ACall Tryz.prog 83 [.ptr s 0, .lit nl' n [.s g]] [(s, strmC nl A p)] nid (.str (g (pickI A p n))) [(s, strmC nl A (p + 1))] := by
  obtain ⟨e1, e2, e3, e4, e5, e6, e7, e8, e9⟩ := id_all h
  refine acall_run c83 (by simp [a83]) ?_
  simp -dsimp only [aqT, aqU, aqN, ↓seqK, ↓blkK, ↓loopK, step, stepBin, Nat.reduceBEq, Nat.reduceBeqDiff, Nat.add_assoc nid, Nat.reduceAdd, reduceCtorEq, ↓reduceIte, Nat.reduceLeDiff, Nat.reduceBneDiff, Option.toList, ← Int.ofNat_tmod, ← Int.ofNat_tdiv, Nat.reduceLT, e1, e2, e3, e4, e5, e6, e7, e8, e9, a83]
  refine CallO.on (next_c _ _ _ _ _ _ (by omega) hp hA (by omega)) (subH_hit _ _ _) ?_
  simp -dsimp only [aqT, aqU, aqN, ↓seqK, ↓blkK, ↓loopK, step, stepBin, Nat.reduceBEq, Nat.reduceBeqDiff, Nat.add_assoc nid, Nat.reduceAdd, reduceCtorEq, ↓reduceIte, Nat.reduceLeDiff, Nat.reduceBneDiff, Option.toList, ← Int.ofNat_tmod, ← Int.ofNat_tdiv, Nat.reduceLT, e1, e2, e3, e4, e5, e6, e7, e8, e9]
  have := nextV_bd A p (n := (n : Int)) (by omega)
  refine ⟨this, RetOK.same (.inl rfl) rfl (by simp [strmC, liveIds]; omega) ?_ ?_⟩
  · simp [cvT, step, res, strmC]
  · simp [cvT, step, res, pickI]
theorem CallX.some_go {s id nid : Nat} {nl : Bool} {A : List Int} {p : Nat} {n T : Nat} {g : Nat → List UInt8} {H : Heap} {K : PV → Heap → List Nat → Prop} (hs : getH H s = strmC nl A p) (hid : getH H id = some (.arr T n [.s g])) (hne : (s == id) = false) (h : s < nid) (hp : p ≤ 1099511627775) (hA : A.length ≤ 17592186044416) (h1 : 0 < n) (hn : n ≤ 1099511627776)
    (hK : K (.str (g (pickI A p n))) [(s, strmC nl A (p + 1)), (id, none)] [s, id]) : CallX Tryz.prog 83 [.ptr s 0, .sl id 0 n] H nid K := by
  refine CallX.given [id] (u := [(s, strmC nl A (p + 1))]) (fun nl' => ?_) (subH_get hs) (by simp [getH, hne]) hK
  have e : lends H [id] nl' [.ptr s 0, .sl id 0 n] = [.ptr s 0, .lit (nl' id) n [.s g]] := by simp [lends, lend, hid, noOs]
  rw [e]
  exact some_c s _ nl _ A p n _ h hp hA h1 hn
theorem CallO.some_go {s id nid : Nat} {nl : Bool} {A : List Int} {p : Nat} {n T : Nat} {g : Nat → List UInt8} {H : Heap} {K : PV → Heap → Prop} (hs : getH H s = strmC nl A p) (hid : getH H id = some (.arr T n [.s g])) (hne : (s == id) = false) (h : s < nid) (hp : p ≤ 1099511627775) (hA : A.length ≤ 17592186044416) (h1 : 0 < n) (hn : n ≤ 1099511627776)
    (hK : K (.str (g (pickI A p n))) [(s, strmC nl A (p + 1)), (id, none)]) : CallOK Tryz.prog 83 [.ptr s 0, .sl id 0 n] H nid K :=
  CallO.x (CallX.some_go hs hid hne h hp hA h1 hn hK)
theorem getD_all {α : Type} {P : α → Prop} {l : List α} {d : α} (h : ∀ x ∈ l, P x) {i : Nat} (hi : i < l.length) : P (l.getD i d) := by
  rw [List.getD_eq_getElem?_getD, List.getElem?_eq_getElem hi]
  exact h _ (List.getElem_mem _)
end Go.Proofs.YtpifoghhaohhaaaGreatDoor
namespace Go.Proofs.YtpifoghhaohhaaaGreatDoor
open Go.RowKit
def arrS (l : List (List UInt8)) : Option ABlk := some (.arr 9 l.length [.s fun i => l.getD i []])
theorem getD_app1 (l : List (List UInt8)) (x : List UInt8) {n : Nat} (hn : l.length = n) : (fun i => if i < n then l.getD i [] else [x].getD (i - n) []) = fun i => (l ++ [x]).getD i [] := by
  subst hn
  funext i
  simp only [List.getD_eq_getElem?_getD, List.getElem?_append]
  split <;> rfl
theorem getD_setS (l : List (List UInt8)) (x : List UInt8) {I : Nat} (hI : I < l.length) : (fun j => if j = I then x else l.getD j []) = fun j => (l.set I x).getD j [] := by
  funext j
  simp only [List.getD_eq_getElem?_getD, List.getElem?_set]
  by_cases h : j = I
  · subst h; simp [hI]
  · rw [if_neg h, if_neg (fun e => h e.symm)]
def ShortRows (m : Nat) (l : List (List UInt8)) : Prop := ∀ r ∈ l, r.length ≤ m
theorem ShortRows.at {m : Nat} {l : List (List UInt8)} (h : ShortRows m l) (i : Nat) : (l.getD i []).length ≤ m := by
  rw [List.getD_eq_getElem?_getD]
  cases hg : l[i]? with
  | none => simp
  | some x => exact h x (List.mem_of_getElem? hg)
theorem ShortRows.set {m : Nat} {l : List (List UInt8)} (h : ShortRows m l) (i : Nat) {x : List UInt8} (hx : x.length ≤ m) : ShortRows m (l.set i x) := fun r hr => by
  rcases List.mem_or_eq_of_mem_set hr with h1 | h1
  · exact h r h1
  · rw [h1]; exact hx
theorem ShortRows.snoc {m : Nat} {l : List (List UInt8)} (h : ShortRows m l) {x : List UInt8} (hx : x.length ≤ m) : ShortRows m (l ++ [x]) := fun r hr => by
  rcases List.mem_append.1 hr with h1 | h1
  · exact h r h1
  · rw [List.mem_singleton.1 h1]; exact hx
theorem ShortRows.mono {m n : Nat} {l : List (List UInt8)} (h : ShortRows m l) (hn : m ≤ n) : ShortRows n l := fun r hr => Nat.le_trans (h r hr) hn
def litS (nl : Bool) (l : List (List UInt8)) : PV := .lit nl l.length [.s fun i => l.getD i []]
theorem take_eqL {l m : List (List UInt8)} {k : Nat} (hl : k < l.length) (hm : k < m.length) (h : l.take k = m.take k) (hx : l.getD k [] = m.getD k []) : l.take (k + 1) = m.take (k + 1) := by
  rw [take_snoc (x := l.getD k []) (by rw [List.getD_eq_getElem?_getD, List.getElem?_eq_getElem hl]; rfl), take_snoc (x := m.getD k []) (by rw [List.getD_eq_getElem?_getD, List.getElem?_eq_getElem hm]; rfl), h, hx]
theorem equalS_c (nl nl' : Bool) (l m : List (List UInt8)) (nid : Nat) (hl : l.length ≤ 1000000000000) (hm : m.length ≤ 1000000000000) : ACall Tryz.prog 28 [litS nl l, litS nl' m] [] nid (.bool (l == m)) [] := by
  refine acall_run c28 (by simp [a28]) ?_
  unfold litS
  simp -dsimp only [aqT, aqU, aqN, ↓seqK, ↓blkK, ↓loopK, step, stepBin, Nat.reduceBEq, Nat.reduceBeqDiff, Nat.add_assoc nid, Nat.reduceAdd, reduceCtorEq, ↓reduceIte, Nat.reduceLeDiff, Nat.reduceBneDiff, Option.toList, ← Int.ofNat_tmod, ← Int.ofNat_tdiv, Nat.reduceLT, a28]
  refine S2.intro (fun h => ?_) (fun h => ?_) <;> simp -dsimp only [aqT, aqU, aqN, ↓seqK, ↓blkK, ↓loopK, step, stepBin, Nat.reduceBEq, Nat.reduceBeqDiff, Nat.add_assoc nid, Nat.reduceAdd, reduceCtorEq, ↓reduceIte, Nat.reduceLeDiff, Nat.reduceBneDiff, Option.toList, ← Int.ofNat_tmod, ← Int.ofNat_tdiv, Nat.reduceLT]
  · refine RetOK.pure (.inl rfl) rfl ?_
    have h1 : l ≠ m := fun e => by subst e; simp at h
    have h2 : (l == m) = false := by simpa using h1
    simp [cvT, step, res, h1]
  have hlm : l.length = m.length := by have : (l.length : Int) = m.length := by simpa using h
                                       omega
  refine LP.mkP (fun k : Nat => k ≤ l.length ∧ l.take k = m.take k) (fun k : Nat => ⟨[(13, .int .i64 k), (12, .int .i64 l.length), (0, litS nl l), (1, litS nl' m)], [], nid + 36, nid⟩) (fun k => l.length + 1 - k) 0 ⟨by omega, rfl⟩ (Cov.go [] [] ?_) (fun k hk => ?_)
  · simp [cvT, step, res, litS]
  unfold litS
  obtain ⟨hk, ht⟩ := hk
  simp -dsimp only [aqT, aqU, aqN, ↓seqK, ↓blkK, ↓loopK, step, stepBin, Nat.reduceBEq, Nat.reduceBeqDiff, Nat.add_assoc nid, Nat.reduceAdd, reduceCtorEq, ↓reduceIte, Nat.reduceLeDiff, Nat.reduceBneDiff, Option.toList, ← Int.ofNat_tmod, ← Int.ofNat_tdiv, Nat.reduceLT]
  refine S2.dec (fun h3 => ?_) (fun h3 => ?_) <;> simp -dsimp only [aqT, aqU, aqN, ↓seqK, ↓blkK, ↓loopK, step, stepBin, Nat.reduceBEq, Nat.reduceBeqDiff, Nat.add_assoc nid, Nat.reduceAdd, reduceCtorEq, ↓reduceIte, Nat.reduceLeDiff, Nat.reduceBneDiff, Option.toList, ← Int.ofNat_tmod, ← Int.ofNat_tdiv, Nat.reduceLT]
  · refine ⟨by omega, by omega, S2.intro (fun h4 => ?_) (fun h4 => ?_)⟩ <;> simp -dsimp only [aqT, aqU, aqN, ↓seqK, ↓blkK, ↓loopK, step, stepBin, Nat.reduceBEq, Nat.reduceBeqDiff, Nat.add_assoc nid, Nat.reduceAdd, reduceCtorEq, ↓reduceIte, Nat.reduceLeDiff, Nat.reduceBneDiff, Option.toList, ← Int.ofNat_tmod, ← Int.ofNat_tdiv, Nat.reduceLT]
    · refine RetOK.pure (.inl rfl) rfl ?_
      have h1 : l ≠ m := fun e => by subst e; simp at h4
      simp [cvT, step, res, h1]
    · have h5 : l.getD k [] = m.getD k [] := by simpa only [Bool.not_eq_false', beq_iff_eq] using h4
      refine ⟨by unfold inI64; omega, k + 1, ⟨⟨by omega, take_eqL (by omega) (by omega) ht h5⟩, by omega⟩, Cov.go [] [] ?_⟩
      simp [cvT, step, res, litS]
  · have hkl : k = l.length := by omega
    have h1 : l = m := by rw [hkl] at ht; rw [List.take_length, hlm, List.take_length] at ht; exact ht
    refine RetOK.pure (.inl rfl) rfl ?_
    simp [cvT, step, res, h1]
end Go.Proofs.YtpifoghhaohhaaaGreatDoor
namespace Go.Proofs
open Go.Shelf
def Tryz.lays160_ren : Go.Shelf.Ren := ⟨fun | 160 => 180 | 232 => 231 | 231 => 230 | 227 => 232 | 234 => 234 | 233 => 233 | 236 => 236 | 235 => 235 | 228 => 275 | 271 => 278 | 151 => 277 | 197 => 276 | 120 => 299 | 152 => 298 | 260 => 297 | 137 => 181 | 119 => 307 | 224 => 302 | 225 => 301 | 217 => 237 | 266 => 279 | n => n, fun | 9 => 9 | 4 => 4 | 3 => 3 | 5 => 5 | 117 => 247 | 116 => 246 | 0 => 0 | 124 => 250 | 21 => 21 | 105 => 281 | 46 => 163 | 119 => 299 | 139 => 302 | 138 => 301 | n => n, fun | 3 => 2 | 4 => 3 | n => n⟩
theorem Tryz.lays160 : Go.Proofs.Lays.n160 Tryz.prog Tryz.lays160_ren := {
  mixed := by kernel_rfl
  f119 := Tryz.func307.trans (congrArg some (by kernel_rfl))
  f120 := Tryz.func299.trans (congrArg some (by kernel_rfl))
  f137 := Tryz.func181.trans (congrArg some (by kernel_rfl))
  f151 := Tryz.func277.trans (congrArg some (by kernel_rfl))
  f152 := Tryz.func298.trans (congrArg some (by kernel_rfl))
  f160 := Tryz.func180.trans (congrArg some (by kernel_rfl))
  f197 := Tryz.func276.trans (congrArg some (by kernel_rfl))
  f217 := Tryz.func237.trans (congrArg some (by kernel_rfl))
  f224 := Tryz.func302.trans (congrArg some (by kernel_rfl))
  f225 := Tryz.func301.trans (congrArg some (by kernel_rfl))
  f227 := Tryz.func232.trans (congrArg some (by kernel_rfl))
  f228 := Tryz.func275.trans (congrArg some (by kernel_rfl))
  f231 := Tryz.func230.trans (congrArg some (by kernel_rfl))
  f232 := Tryz.func231.trans (congrArg some (by kernel_rfl))
  f233 := Tryz.func233.trans (congrArg some (by kernel_rfl))
  f234 := Tryz.func234.trans (congrArg some (by kernel_rfl))
  f235 := Tryz.func235.trans (congrArg some (by kernel_rfl))
  f236 := Tryz.func236.trans (congrArg some (by kernel_rfl))
  f260 := Tryz.func297.trans (congrArg some (by kernel_rfl))
  f266 := Tryz.func279.trans (congrArg some (by kernel_rfl))
  f271 := Tryz.func278.trans (congrArg some (by kernel_rfl))
  t0 := Tryz.underlying0
  a0 := Tryz.isAgg0
  z0 := Tryz.sizeOf0
  v0 := Tryz.zeroValue0
  t3 := Tryz.underlying3
  a3 := Tryz.isAgg3
  z3 := Tryz.sizeOf3
  v3 := Tryz.zeroValue3
  t4 := Tryz.underlying4
  a4 := Tryz.isAgg4
  z4 := Tryz.sizeOf4
  v4 := Tryz.zeroValue4
  t5 := Tryz.underlying5
  a5 := Tryz.isAgg5
  z5 := Tryz.sizeOf5
  v5 := Tryz.zeroValue5
  t9 := Tryz.underlying9
  a9 := Tryz.isAgg9
  z9 := Tryz.sizeOf9
  v9 := Tryz.zeroValue9
  t21 := Tryz.underlying21
  a21 := Tryz.isAgg21
  z21 := Tryz.sizeOf21
  v21 := Tryz.zeroValue21
  t46 := Tryz.underlying163
  a46 := Tryz.isAgg163
  z46 := Tryz.sizeOf163
  v46 := Tryz.zeroValue163
  t105 := Tryz.underlying281
  a105 := Tryz.isAgg281
  z105 := Tryz.sizeOf281
  v105 := Tryz.zeroValue281
  t116 := Tryz.underlying246
  a116 := Tryz.isAgg246
  z116 := Tryz.sizeOf246
  t117 := Tryz.underlying247
  a117 := Tryz.isAgg247
  z117 := Tryz.sizeOf247
  v117 := Tryz.zeroValue247
  t119 := Tryz.underlying299
  a119 := Tryz.isAgg299
  z119 := Tryz.sizeOf299
  t124 := Tryz.underlying250
  a124 := Tryz.isAgg250
  z124 := Tryz.sizeOf250
  v124 := Tryz.zeroValue250
  t138 := Tryz.underlying301
  a138 := Tryz.isAgg301
  z138 := Tryz.sizeOf301
  v138 := Tryz.zeroValue301
  t139 := Tryz.underlying302
  a139 := Tryz.isAgg302
  z139 := Tryz.sizeOf302
  v139 := Tryz.zeroValue302
  g3 := by kernel_rfl
  g4 := by kernel_rfl }
def Tryz.lays105_ren : Go.Shelf.Ren := ⟨fun | 105 => 177 | 212 => 227 | 99 => 228 | 165 => 219 | 166 => 159 | 170 => 161 | 169 => 162 | 263 => 272 | 264 => 273 | 206 => 274 | 240 => 218 | 241 => 251 | 276 => 250 | 277 => 282 | n => n, fun | 9 => 9 | 3 => 3 | 4 => 4 | 20 => 20 | 0 => 0 | 46 => 163 | 109 => 240 | 5 => 5 | 72 => 186 | 76 => 189 | 51 => 223 | 146 => 277 | 53 => 146 | 148 => 279 | 70 => 183 | 37 => 184 | 75 => 188 | 127 => 232 | 164 => 261 | 80 => 32 | n => n, fun | n => n⟩
theorem Tryz.lays105 : Go.Proofs.Lays.n105 Tryz.prog Tryz.lays105_ren := {
  mixed := by kernel_rfl
  f99 := Tryz.func228.trans (congrArg some (by kernel_rfl))
  f105 := Tryz.func177.trans (congrArg some (by kernel_rfl))
  f165 := Tryz.func219.trans (congrArg some (by kernel_rfl))
  f166 := Tryz.func159.trans (congrArg some (by kernel_rfl))
  f169 := Tryz.func162.trans (congrArg some (by kernel_rfl))
  f170 := Tryz.func161.trans (congrArg some (by kernel_rfl))
  f206 := Tryz.func274.trans (congrArg some (by kernel_rfl))
  f212 := Tryz.func227.trans (congrArg some (by kernel_rfl))
  f240 := Tryz.func218.trans (congrArg some (by kernel_rfl))
  f241 := Tryz.func251.trans (congrArg some (by kernel_rfl))
  f263 := Tryz.func272.trans (congrArg some (by kernel_rfl))
  f264 := Tryz.func273.trans (congrArg some (by kernel_rfl))
  f276 := Tryz.func250.trans (congrArg some (by kernel_rfl))
  f277 := Tryz.func282.trans (congrArg some (by kernel_rfl))
  t0 := Tryz.underlying0
  a0 := Tryz.isAgg0
  z0 := Tryz.sizeOf0
  v0 := Tryz.zeroValue0
  t3 := Tryz.underlying3
  a3 := Tryz.isAgg3
  z3 := Tryz.sizeOf3
  v3 := Tryz.zeroValue3
  t4 := Tryz.underlying4
  a4 := Tryz.isAgg4
  z4 := Tryz.sizeOf4
  v4 := Tryz.zeroValue4
  t5 := Tryz.underlying5
  a5 := Tryz.isAgg5
  z5 := Tryz.sizeOf5
  v5 := Tryz.zeroValue5
  t9 := Tryz.underlying9
  a9 := Tryz.isAgg9
  z9 := Tryz.sizeOf9
  v9 := Tryz.zeroValue9
  t20 := Tryz.underlying20
  a20 := Tryz.isAgg20
  z20 := Tryz.sizeOf20
  v20 := Tryz.zeroValue20
  t37 := Tryz.underlying184
  a37 := Tryz.isAgg184
  z37 := Tryz.sizeOf184
  v37 := Tryz.zeroValue184
  t46 := Tryz.underlying163
  a46 := Tryz.isAgg163
  z46 := Tryz.sizeOf163
  v46 := Tryz.zeroValue163
  t51 := Tryz.underlying223
  a51 := Tryz.isAgg223
  z51 := Tryz.sizeOf223
  v51 := Tryz.zeroValue223
  t53 := Tryz.underlying146
  a53 := Tryz.isAgg146
  z53 := Tryz.sizeOf146
  v53 := Tryz.zeroValue146
  t70 := Tryz.underlying183
  a70 := Tryz.isAgg183
  z70 := Tryz.sizeOf183
  v70 := Tryz.zeroValue183
  t72 := Tryz.underlying186
  a72 := Tryz.isAgg186
  z72 := Tryz.sizeOf186
  v72 := Tryz.zeroValue186
  t75 := Tryz.underlying188
  a75 := Tryz.isAgg188
  z75 := Tryz.sizeOf188
  v75 := Tryz.zeroValue188
  t76 := Tryz.underlying189
  a76 := Tryz.isAgg189
  z76 := Tryz.sizeOf189
  v76 := Tryz.zeroValue189
  t109 := Tryz.underlying240
  a109 := Tryz.isAgg240
  z109 := Tryz.sizeOf240
  v109 := Tryz.zeroValue240
  t127 := Tryz.underlying232
  a127 := Tryz.isAgg232
  z127 := Tryz.sizeOf232
  v127 := Tryz.zeroValue232
  t146 := Tryz.underlying277
  a146 := Tryz.isAgg277
  z146 := Tryz.sizeOf277
  v146 := Tryz.zeroValue277
  t148 := Tryz.underlying279
  a148 := Tryz.isAgg279
  z148 := Tryz.sizeOf279
  v148 := Tryz.zeroValue279
  t164 := Tryz.underlying261
  a164 := Tryz.isAgg261
  z164 := Tryz.sizeOf261
  v164 := Tryz.zeroValue261 }
def Tryz.lays171_ren : Go.Shelf.Ren := ⟨fun | 171 => 84 | 243 => 176 | 246 => 226 | 283 => 268 | 284 => 269 | 285 => 270 | 286 => 271 | 129 => 267 | 317 => 293 | 318 => 294 | 319 => 295 | 320 => 296 | 337 => 305 | 338 => 306 | n => n, fun | 3 => 3 | 9 => 9 | 2 => 2 | 4 => 4 | 171 => 273 | 0 => 0 | 53 => 146 | 37 => 184 | 5 => 5 | 173 => 275 | 212 => 294 | 51 => 223 | 20 => 20 | 213 => 295 | 46 => 163 | 232 => 305 | 233 => 306 | n => n, fun | 17 => 0 | 18 => 4 | 19 => 5 | n => n⟩
theorem Tryz.lays171 : Go.Proofs.Lays.n171 Tryz.prog Tryz.lays171_ren := {
  mixed := by kernel_rfl
  f129 := Tryz.func267.trans (congrArg some (by kernel_rfl))
  f171 := Tryz.func84.trans (congrArg some (by kernel_rfl))
  f243 := Tryz.func176.trans (congrArg some (by kernel_rfl))
  f246 := Tryz.func226.trans (congrArg some (by kernel_rfl))
  f283 := Tryz.func268.trans (congrArg some (by kernel_rfl))
  f284 := Tryz.func269.trans (congrArg some (by kernel_rfl))
  f285 := Tryz.func270.trans (congrArg some (by kernel_rfl))
  f286 := Tryz.func271.trans (congrArg some (by kernel_rfl))
  f317 := Tryz.func293.trans (congrArg some (by kernel_rfl))
  f318 := Tryz.func294.trans (congrArg some (by kernel_rfl))
  f319 := Tryz.func295.trans (congrArg some (by kernel_rfl))
  f320 := Tryz.func296.trans (congrArg some (by kernel_rfl))
  f337 := Tryz.func305.trans (congrArg some (by kernel_rfl))
  f338 := Tryz.func306.trans (congrArg some (by kernel_rfl))
  t0 := Tryz.underlying0
  a0 := Tryz.isAgg0
  z0 := Tryz.sizeOf0
  v0 := Tryz.zeroValue0
  t2 := Tryz.underlying2
  a2 := Tryz.isAgg2
  z2 := Tryz.sizeOf2
  v2 := Tryz.zeroValue2
  t3 := Tryz.underlying3
  a3 := Tryz.isAgg3
  z3 := Tryz.sizeOf3
  v3 := Tryz.zeroValue3
  t4 := Tryz.underlying4
  a4 := Tryz.isAgg4
  z4 := Tryz.sizeOf4
  v4 := Tryz.zeroValue4
  t5 := Tryz.underlying5
  a5 := Tryz.isAgg5
  z5 := Tryz.sizeOf5
  v5 := Tryz.zeroValue5
  t9 := Tryz.underlying9
  a9 := Tryz.isAgg9
  z9 := Tryz.sizeOf9
  v9 := Tryz.zeroValue9
  t20 := Tryz.underlying20
  a20 := Tryz.isAgg20
  z20 := Tryz.sizeOf20
  v20 := Tryz.zeroValue20
  t37 := Tryz.underlying184
  a37 := Tryz.isAgg184
  z37 := Tryz.sizeOf184
  v37 := Tryz.zeroValue184
  t46 := Tryz.underlying163
  a46 := Tryz.isAgg163
  z46 := Tryz.sizeOf163
  v46 := Tryz.zeroValue163
  t51 := Tryz.underlying223
  a51 := Tryz.isAgg223
  z51 := Tryz.sizeOf223
  v51 := Tryz.zeroValue223
  t53 := Tryz.underlying146
  a53 := Tryz.isAgg146
  z53 := Tryz.sizeOf146
  v53 := Tryz.zeroValue146
  t171 := Tryz.underlying273
  a171 := Tryz.isAgg273
  z171 := Tryz.sizeOf273
  v171 := Tryz.zeroValue273
  t173 := Tryz.underlying275
  a173 := Tryz.isAgg275
  z173 := Tryz.sizeOf275
  v173 := Tryz.zeroValue275
  t212 := Tryz.underlying294
  a212 := Tryz.isAgg294
  z212 := Tryz.sizeOf294
  v212 := Tryz.zeroValue294
  t213 := Tryz.underlying295
  a213 := Tryz.isAgg295
  z213 := Tryz.sizeOf295
  t232 := Tryz.underlying305
  a232 := Tryz.isAgg305
  z232 := Tryz.sizeOf305
  v232 := Tryz.zeroValue305
  t233 := Tryz.underlying306
  a233 := Tryz.isAgg306
  z233 := Tryz.sizeOf306
  v233 := Tryz.zeroValue306
  g17 := by kernel_rfl
  g18 := by kernel_rfl
  g19 := by kernel_rfl }
def Tryz.lays156_ren : Go.Shelf.Ren := ⟨fun | 156 => 160 | 165 => 219 | 166 => 159 | 169 => 162 | 240 => 218 | 241 => 251 | 276 => 250 | 277 => 282 | n => n, fun | 31 => 26 | 9 => 9 | 3 => 3 | 4 => 4 | 0 => 0 | 20 => 20 | 72 => 186 | 76 => 189 | 70 => 183 | 37 => 184 | 75 => 188 | 127 => 232 | 164 => 261 | 5 => 5 | 80 => 32 | n => n, fun | n => n⟩
theorem Tryz.lays156 : Go.Proofs.Lays.n156 Tryz.prog Tryz.lays156_ren := {
  mixed := by kernel_rfl
  f156 := Tryz.func160.trans (congrArg some (by kernel_rfl))
  f165 := Tryz.func219.trans (congrArg some (by kernel_rfl))
  f166 := Tryz.func159.trans (congrArg some (by kernel_rfl))
  f169 := Tryz.func162.trans (congrArg some (by kernel_rfl))
  f240 := Tryz.func218.trans (congrArg some (by kernel_rfl))
  f241 := Tryz.func251.trans (congrArg some (by kernel_rfl))
  f276 := Tryz.func250.trans (congrArg some (by kernel_rfl))
  f277 := Tryz.func282.trans (congrArg some (by kernel_rfl))
  t0 := Tryz.underlying0
  a0 := Tryz.isAgg0
  z0 := Tryz.sizeOf0
  v0 := Tryz.zeroValue0
  t3 := Tryz.underlying3
  a3 := Tryz.isAgg3
  z3 := Tryz.sizeOf3
  v3 := Tryz.zeroValue3
  t4 := Tryz.underlying4
  a4 := Tryz.isAgg4
  z4 := Tryz.sizeOf4
  v4 := Tryz.zeroValue4
  t9 := Tryz.underlying9
  a9 := Tryz.isAgg9
  z9 := Tryz.sizeOf9
  v9 := Tryz.zeroValue9
  t20 := Tryz.underlying20
  a20 := Tryz.isAgg20
  z20 := Tryz.sizeOf20
  v20 := Tryz.zeroValue20
  t31 := Tryz.underlying26
  a31 := Tryz.isAgg26
  z31 := Tryz.sizeOf26
  v31 := Tryz.zeroValue26
  t37 := Tryz.underlying184
  a37 := Tryz.isAgg184
  z37 := Tryz.sizeOf184
  v37 := Tryz.zeroValue184
  t70 := Tryz.underlying183
  a70 := Tryz.isAgg183
  z70 := Tryz.sizeOf183
  v70 := Tryz.zeroValue183
  t72 := Tryz.underlying186
  a72 := Tryz.isAgg186
  z72 := Tryz.sizeOf186
  v72 := Tryz.zeroValue186
  t75 := Tryz.underlying188
  a75 := Tryz.isAgg188
  z75 := Tryz.sizeOf188
  v75 := Tryz.zeroValue188
  t76 := Tryz.underlying189
  a76 := Tryz.isAgg189
  z76 := Tryz.sizeOf189
  v76 := Tryz.zeroValue189
  t127 := Tryz.underlying232
  a127 := Tryz.isAgg232
  z127 := Tryz.sizeOf232
  v127 := Tryz.zeroValue232
  t164 := Tryz.underlying261
  a164 := Tryz.isAgg261
  z164 := Tryz.sizeOf261
  v164 := Tryz.zeroValue261 }
end Go.Proofs
namespace Go.Proofs.YtpifoghhaohhaaaGreatDoor
open Go.RowKit Go.Shelf Go.Lib
theorem extra105 : Builder.Extra Tryz.prog Tryz.lays105_ren where
  sizeBuilder := by kernel_rfl
  liesBuilder := by kernel_rfl
  t5 := Tryz.lays105.t5
  a5 := Tryz.lays105.a5
  z5 := Tryz.lays105.z5
  v5 := Tryz.lays105.v5
  infoByte := by kernel_rfl
  cellsByte := by kernel_rfl
  sizeByte := by kernel_rfl
  neB5 := by decide
theorem repeat_cc (s : List UInt8) (c : Nat) (nid : Nat) (hc : c ≤ 9223372036854775807) (hlen : s.length * c ≤ 140737488355328) : ACall Tryz.prog 177 [.str s, .int .i64 c] [] nid (.str (Lib.repeatL s c)) [] :=
  acall_below (us := [.string ⟨s.toArray⟩, .int .i64 c]) nid Tryz.func177 (by kernel_rfl) (by kernel_rfl) rfl rfl (fun w => by
    have h := Any.strings_Repeat Tryz.lays105 extra105 ⟨s.toArray⟩ c w hc (by simpa [ByteArray.size] using hlen)
    have hf : Tryz.lays105_ren.f 105 = 177 := by kernel_rfl
    rw [hf] at h
    simpa using h)
theorem trim_cc (s cs : List UInt8) (nid : Nat) (hs : s.length ≤ 9223372036854775807) (hcs : cs.length < 4294967281) (ha : cs.all (fun b => decide (b.toNat < 128)) = true) : ACall Tryz.prog 180 [.str s, .str cs] [] nid (.str (Lib.trimS s cs)) [] :=
  acall_below (us := [.string ⟨s.toArray⟩, .string ⟨cs.toArray⟩]) nid Tryz.func180 (by kernel_rfl) (by kernel_rfl) rfl rfl (fun w => by
    have h := Any.strings_Trim_laid Tryz.lays160 (by kernel_rfl) ⟨s.toArray⟩ ⟨cs.toArray⟩ w (by simpa [ByteArray.size] using hs) (by simpa [ByteArray.size] using hcs) (ascii_of_all (by simpa using ha))
    have hf : Tryz.lays160_ren.f 160 = 180 := by kernel_rfl
    rw [hf] at h
    simpa using h)
end Go.Proofs.YtpifoghhaohhaaaGreatDoor
namespace Go.Proofs.YtpifoghhaohhaaaGreatDoor
open Go.RowKit Go.Shelf Go.Lib
theorem itoa_cc (n : Nat) (nid : Nat) (hn : n < 100) : ACall Tryz.prog 84 [.int .i64 (n : Nat)] [] nid (.str (Lib.decDigits n)) [] :=
  acall_below (us := [.int .i64 (n : Nat)]) nid Tryz.func84 (by kernel_rfl) (by kernel_rfl) rfl rfl (fun w => by
    have h := Any.strconv_Itoa_small Tryz.lays171 n hn w
    have hf : Tryz.lays171_ren.f 171 = 84 := by kernel_rfl
    rw [hf] at h
    refine h.mono ?_
    rintro e w' ⟨rfl, rfl⟩
    exact ⟨rfl, Below.refl _ _⟩)
def ansL : List (List UInt8) := [[48], [48], [49], [49], [120, 126]]
def ansV (A : List Int) (p : Nat) : List UInt8 := ansL.getD (pickI A p 5) []
theorem ansV_len (A : List Int) (p : Nat) : (ansV A p).length ≤ 2 := by
  unfold ansV
  exact getD_all (P := fun x : List UInt8 => x.length ≤ 2) (by unfold ansL; simp) (pickI_lt A p (n := 5) (by omega))
def boxP (s : Nat) : Option ABlk := some (.box 23 [.ptr s 0])
theorem ans_c (s b nid : Nat) (nl : Bool) (A : List Int) (p : Nat) (hs : s < b) (hb : b < nid) (hp : p ≤ 1099511627775) (hA : A.length ≤ 17592186044416) :
    ACall Tryz.prog 82 [.ptr b 0] [(b, boxP s), (s, strmC nl A p)] nid (.str (ansV A p)) [(s, strmC nl A (p + 1))] := by
  have hs1 : s < nid := by omega
  have n1 : s ≠ b := by omega
  obtain ⟨a1, a2, a3, a4, a5, a6, a7, a8, a9⟩ := id_all hs1; obtain ⟨b1, b2, b3, b4, b5, b6, b7, b8, b9⟩ := id_all hb; have g1 : (s == b) = false := (by simpa using n1); have g2 : (b == s) = false := (by simpa using fun h => n1 h.symm); have m1 : ¬ b = s := fun h => n1 h.symm
  refine acall_run c82 (by simp [a82]) ?_
  unfold boxP
  simp -dsimp only [a82, aqT, aqU, aqN, aqS, ↓seqK, ↓blkK, ↓loopK, step, stepBin, Nat.add_assoc nid, ↓reduceIte, Option.toList, ← Int.ofNat_tmod, ← Int.ofNat_tdiv, simprocAttr, BEq.rfl, LN_succ, a1, a2, a3, a4, a5, a6, a7, a8, a9, b1, b2, b3, b4, b5, b6, b7, b8, b9, g1, g2, n1, m1, strmC_low]
  refine CallO.some_go (T := 9) (nl := nl) (A := A) (p := p) (g := fun i => ansL.getD i []) (by simp only [aqT, aqU, aqN, aqS, ↓seqK, ↓blkK, ↓loopK, step, stepBin, Nat.add_assoc nid, ↓reduceIte, Option.toList, ← Int.ofNat_tmod, ← Int.ofNat_tdiv, simprocAttr, BEq.rfl, LN_succ, a1, a2, a3, a4, a5, a6, a7, a8, a9, b1, b2, b3, b4, b5, b6, b7, b8, b9, g1, g2, n1, m1]) (by simp only [aqT, aqU, aqN, aqS, ↓seqK, ↓blkK, ↓loopK, step, stepBin, Nat.add_assoc nid, ↓reduceIte, Option.toList, ← Int.ofNat_tmod, ← Int.ofNat_tdiv, simprocAttr, BEq.rfl, LN_succ, a1, a2, a3, a4, a5, a6, a7, a8, a9, b1, b2, b3, b4, b5, b6, b7, b8, b9, g1, g2, n1, m1]; rfl) (by simp only [aqT, aqU, aqN, aqS, ↓seqK, ↓blkK, ↓loopK, step, stepBin, Nat.add_assoc nid, ↓reduceIte, Option.toList, ← Int.ofNat_tmod, ← Int.ofNat_tdiv, simprocAttr, BEq.rfl, LN_succ, a1, a2, a3, a4, a5, a6, a7, a8, a9, b1, b2, b3, b4, b5, b6, b7, b8, b9, g1, g2, n1, m1]) (by omega) (by omega) hA (by omega) (by omega) ?_
  simp -dsimp only [aqT, aqU, aqN, aqS, ↓seqK, ↓blkK, ↓loopK, step, stepBin, Nat.add_assoc nid, ↓reduceIte, Option.toList, ← Int.ofNat_tmod, ← Int.ofNat_tdiv, simprocAttr, BEq.rfl, LN_succ, a1, a2, a3, a4, a5, a6, a7, a8, a9, b1, b2, b3, b4, b5, b6, b7, b8, b9, g1, g2, n1, m1, strmC_low]
  refine RetOK.go [] [] (.inl rfl) ?_
  simp [a82, retPV, over, keys, List.map_nil, List.map_cons, List.contains_cons, List.contains_nil, Bool.or_false, Bool.or_true, Bool.true_or, Bool.false_or, beq_self_eq_true, cond_true, cond_false, HeapCov, orNil, nilSz, onBlk, srcOf, getH_hit, getH_miss, getH.eq_1, getS_hit, getS_miss, getS.eq_1, BlkCov, PVCovs, PVCov, ColsEq, AColsEq, ACEq, ColEq.refl, liveIds, SlotsCov, List.all_nil, List.all_cons, List.any_nil, List.any_cons, List.nil_append, List.cons_append, inRange, apart, nilBlk, idS1, idS2, readAll, readRes, onAll, step, res, AX.val, List.drop_zero, List.drop_succ_cons, List.take_succ_cons, List.take_zero, a1, a2, a3, a4, a5, a6, a7, a8, a9, b1, b2, b3, b4, b5, b6, b7, b8, b9, g1, g2, n1, m1, strmC, ansV]
abbrev RowL := List (List UInt8 × List (List UInt8))
def rowF (R : RowL) (k : Nat) : List UInt8 := (R.getD k ([], [])).1
def rowR (R : RowL) (k : Nat) : List (List UInt8) := (R.getD k ([], [])).2
def arrR (b : Nat) (R : RowL) : Option ABlk := some (.arr 67 R.length [.s fun k => rowF R k, .o (fun k => b + (100 + k)) (fun k => (rowR R k).length)])
def inR (R : RowL) (c k : Nat) : Option ABlk := if k < c then arrS (rowR R k) else none
def famC (b : Nat) (R : RowL) (c : Nat) : Heap := [(b + 100, inR R c 0), (b + 101, inR R c 1), (b + 102, inR R c 2), (b + 103, inR R c 3), (b + 104, inR R c 4), (b + 105, inR R c 5), (b + 106, inR R c 6)]
def famR (b : Nat) (R : RowL) : Heap := famC b R R.length
theorem famR_snoc (b : Nat) (R : RowL) (x : List UInt8 × List (List UInt8)) : famR b (R ++ [x]) = famC b (R ++ [x]) (R.length + 1) := by unfold famR; rw [List.length_append]; rfl
theorem rowF_old {R : RowL} {x : List UInt8 × List (List UInt8)} {k : Nat} (h : k < R.length) : rowF (R ++ [x]) k = rowF R k := by unfold rowF; rw [List.getD_eq_getElem?_getD, List.getElem?_append_left h, ← List.getD_eq_getElem?_getD]
theorem rowR_old {R : RowL} {x : List UInt8 × List (List UInt8)} {k : Nat} (h : k < R.length) : rowR (R ++ [x]) k = rowR R k := by unfold rowR; rw [List.getD_eq_getElem?_getD, List.getElem?_append_left h, ← List.getD_eq_getElem?_getD]
theorem rowF_new {R : RowL} {x : List UInt8 × List (List UInt8)} {k : Nat} (h : k = R.length) : rowF (R ++ [x]) k = x.1 := by unfold rowF; subst h; simp
theorem rowR_new {R : RowL} {x : List UInt8 × List (List UInt8)} {k : Nat} (h : k = R.length) : rowR (R ++ [x]) k = x.2 := by unfold rowR; subst h; simp
def boxD (g n r m : Nat) : Option ABlk := some (.box 29 [.sl g 0 n, .sl r 0 m])
def namesL : List (List UInt8) := [[], [70], [102, 48], [102, 49], [102, 50], [102, 51], [102, 52], [102, 53], [102, 54]]
structure DictB (most : Nat) (G : List (List UInt8)) (R : RowL) : Prop where
  gl : G.length ≤ most
  gs : ShortRows 101 G
  rl : R.length ≤ 7
  rs : ∀ x ∈ R, x.1 ∈ namesL ∧ x.2.length ≤ most + 1 ∧ ShortRows 101 x.2
def dictP (g0 r0 : Bool) (b : Nat → Bool) (G : List (List UInt8)) (R : RowL) : PV := .agg [.lit g0 G.length [.s fun k => G.getD k []], .lit r0 R.length [.s fun k => rowF R k, .l b (fun k => (rowR R k).length) (fun k => [.s fun j => (rowR R k).getD j []])]]
structure DictX where
  g0 : Bool
  r0 : Bool
  b : Nat → Bool
  G : List (List UInt8)
  R : RowL
  q : Nat
def dropV : Nat → ACode → ACode
  | 0, c => c
  | k + 1, .seq _ b => dropV k b
  | _ + 1, c => c
def headV : ACode → ACode
  | .seq a _ => a
  | c => c
def roundV : ACode → ACode
  | .seq _ (.block _ (.loop (.seq _ (.seq _ (.seq x _))))) => x
  | c => c
theorem decDigits_len {n : Nat} (h : n < 10) : (Lib.decDigits n).length = 1 := by
  unfold Lib.decDigits
  rw [dif_pos h]
  rfl
def faultN (i : Nat) : List UInt8 := [102] ++ Lib.decDigits i
theorem faultN_mem {i : Nat} (h : i < 7) : faultN i ∈ namesL := by
  have e : i = 0 ∨ i = 1 ∨ i = 2 ∨ i = 3 ∨ i = 4 ∨ i = 5 ∨ i = 6 := by omega
  rcases e with rfl | rfl | rfl | rfl | rfl | rfl | rfl <;> (unfold faultN Lib.decDigits; rw [dif_pos (by omega)]; decide)
set_option maxHeartbeats 8000000 in
theorem dict_round (s nid : Nat) (nl : Bool) (A : List Int) (q m n : Nat) (G : List (List UInt8)) (R : RowL) (h : s < nid) (hq : q ≤ 1099500001000) (hA : A.length ≤ 17592186044416) (hG : G.length = m) (hm0 : 1 ≤ m) (hm : m ≤ 6) (hG2 : ShortRows 2 G) (hi : R.length = 0 ∨ R.length = 1 ∨ R.length = 2 ∨ R.length = 3 ∨ R.length = 4 ∨ R.length = 5 ∨ R.length = 6) (Q : AEx → ST → Prop) :
    SR Tryz.prog (roundV (headV (dropV 4 a14.body))) ⟨[(31, .bool true), (30, .int .i64 R.length), (29, .int .i64 (n : Nat)), (8, .fn 82 [.ptr nid 0]), (7, .ptr (nid + 8) 0), (6, .ptr (nid + 4) 0), (3, .ptr nid 0)], [(nid, boxP s), (nid + 4, some (.box 29 [.lit true 0 [], .lit true 0 []])), (nid + 8, boxD (nid + 20) G.length (nid + 24) R.length), (nid + 20, arrS G), (s, strmC nl A q), (nid + 24, arrR nid R)] ++ famR nid R, nid + 1200, nid⟩
      (seqK (fun st => ∃ L : {L : List (List UInt8) // L.length = m ∧ ShortRows 2 L}, Cov st ⟨[(30, .int .i64 R.length), (29, .int .i64 (n : Nat)), (8, .fn 82 [.ptr nid 0]), (7, .ptr (nid + 8) 0), (6, .ptr (nid + 4) 0), (3, .ptr nid 0)], [(nid, boxP s), (nid + 4, some (.box 29 [.lit true 0 [], .lit true 0 []])), (nid + 8, boxD (nid + 20) G.length (nid + 24) (R.length + 1)), (nid + 20, arrS G), (s, strmC nl A (q + 2 * m)), (nid + 24, arrR nid (R ++ [(faultN R.length, L.1)]))] ++ famR nid (R ++ [(faultN R.length, L.1)]), nid + 1180, nid⟩) Q) .mk := by
  obtain ⟨e1, e2, e3, e4, e5, e6, e7, e8, e9⟩ := id_all h
  simp only [a14, dropV, headV, roundV]
  have hdl := decDigits_len (n := R.length) (by omega)
  have hf0 : ∀ c, R.length = c → famR nid R = famC nid R c := fun c hc => by rw [← hc]; rfl
  have hrl : R.length ≤ 6 := by omega
  refine SR.block ?_
  refine SR.seq ?_
  unfold boxP boxD arrS arrR
  rcases hi with hi | hi | hi | hi | hi | hi | hi
  all_goals
    rw [hf0 _ hi]
    unfold famC inR arrS
    simp -dsimp only [aqT, aqU, aqN, aqS, ↓seqK, ↓blkK, ↓loopK, step, stepBin, Nat.add_assoc nid, ↓reduceIte, Option.toList, ← Int.ofNat_tmod, ← Int.ofNat_tdiv, simprocAttr, BEq.rfl, LN_succ, e1, e2, e3, e4, e5, e6, e7, e8, e9, strmC_low, Nat.reduceLT, Nat.lt_irrefl, if_true, if_false]
    refine SR.seq ?_
    simp -dsimp only [aqT, aqU, aqN, aqS, ↓seqK, ↓blkK, ↓loopK, step, stepBin, Nat.add_assoc nid, ↓reduceIte, Option.toList, ← Int.ofNat_tmod, ← Int.ofNat_tdiv, simprocAttr, BEq.rfl, LN_succ, e1, e2, e3, e4, e5, e6, e7, e8, e9, strmC_low]
    refine CallO.pure (itoa_cc R.length _ (by omega)) ?_
    simp -dsimp only [aqT, aqU, aqN, aqS, ↓seqK, ↓blkK, ↓loopK, step, stepBin, Nat.add_assoc nid, ↓reduceIte, Option.toList, ← Int.ofNat_tmod, ← Int.ofNat_tdiv, simprocAttr, BEq.rfl, LN_succ, e1, e2, e3, e4, e5, e6, e7, e8, e9, strmC_low]
    refine ⟨by rw [hdl]; simp, ?_⟩
    refine SR.seqW (ι := {L : List (List UInt8) // L.length = m ∧ ShortRows 2 L}) (fun L => ⟨[(10, .ptr (nid + 28) 0), (30, .int .i64 R.length), (29, .int .i64 (n : Nat)), (8, .fn 82 [.ptr nid 0]), (7, .ptr (nid + 8) 0), (6, .ptr (nid + 4) 0), (3, .ptr nid 0)], [(nid + 28, some (.box 67 [.str (faultN R.length), .sl (nid + 32) 0 L.1.length])), (nid + 32, arrS L.1), (nid, boxP s), (nid + 4, some (.box 29 [.lit true 0 [], .lit true 0 []])), (nid + 8, boxD (nid + 20) G.length (nid + 24) R.length), (nid + 20, arrS G), (s, strmC nl A (q + 2 * m)), (nid + 24, arrR nid R)] ++ famR nid R, nid + 2400, nid⟩) ?_ (fun ⟨L, hL1, hL2⟩ => ?_)
    · refine SR.seqTo ⟨[(40, .int .i64 0), (39, .int .i64 G.length), (38, .sl (nid + 20) 0 G.length), (10, .ptr (nid + 28) 0), (30, .int .i64 R.length), (29, .int .i64 (n : Nat)), (8, .fn 82 [.ptr nid 0]), (7, .ptr (nid + 8) 0), (6, .ptr (nid + 4) 0), (3, .ptr nid 0)], [(nid + 28, some (.box 67 [.str (faultN R.length), .lit true 0 []])), (nid, boxP s), (nid + 4, some (.box 29 [.lit true 0 [], .lit true 0 []])), (nid + 8, boxD (nid + 20) G.length (nid + 24) R.length), (nid + 20, arrS G), (s, strmC nl A q), (nid + 24, arrR nid R)] ++ famR nid R, nid + 1400, nid⟩ ?_ ?_
      · simp -dsimp only [aqT, aqU, aqN, aqS, ↓seqK, ↓blkK, ↓loopK, step, stepBin, Nat.add_assoc nid, ↓reduceIte, Option.toList, ← Int.ofNat_tmod, ← Int.ofNat_tdiv, simprocAttr, BEq.rfl, LN_succ, e1, e2, e3, e4, e5, e6, e7, e8, e9, strmC_low]
        refine Cov.go [(nid + 28, nid + 1224)] [] ?_
        rw [hf0 _ hi]
        simp [retPV, over, keys, List.map_nil, List.map_cons, List.contains_cons, List.contains_nil, Bool.or_false, Bool.or_true, Bool.true_or, Bool.false_or, beq_self_eq_true, cond_true, cond_false, HeapCov, orNil, nilSz, onBlk, srcOf, getH_hit, getH_miss, getH.eq_1, getS_hit, getS_miss, getS.eq_1, BlkCov, PVCovs, PVCov, ColsEq, AColsEq, ACEq, ColEq.refl, liveIds, SlotsCov, List.all_nil, List.all_cons, List.any_nil, List.any_cons, List.nil_append, List.cons_append, inRange, apart, nilBlk, idS1, idS2, readAll, readRes, onAll, step, res, AX.val, List.drop_zero, List.drop_succ_cons, List.take_succ_cons, List.take_zero, e1, e2, e3, e4, e5, e6, e7, e8, e9, strmC, famC, inR, boxP, boxD, arrS, arrR, faultN, -List.getD_eq_getElem?_getD, -List.length_append]
        exact fun j hj => ⟨by first | omega | (rw [show (nid + 28 == nid + (100 + j)) = false by simp; omega]; rfl), by omega⟩
      refine SR.run (t := .mk) ?_
      rw [hf0 _ hi]
      unfold famC inR boxP boxD arrS arrR
      simp -dsimp only [aqT, aqU, aqN, aqS, ↓seqK, ↓blkK, ↓loopK, step, stepBin, Nat.add_assoc nid, ↓reduceIte, Option.toList, ← Int.ofNat_tmod, ← Int.ofNat_tdiv, simprocAttr, BEq.rfl, LN_succ, e1, e2, e3, e4, e5, e6, e7, e8, e9, strmC_low, Nat.reduceLT, Nat.lt_irrefl, if_true, if_false]
      refine LP.mkP (fun L : List (List UInt8) => L.length ≤ m ∧ ShortRows 2 L) (fun L => ⟨[(40, .int .i64 L.length), (39, .int .i64 G.length), (38, .sl (nid + 20) 0 G.length), (10, .ptr (nid + 28) 0), (30, .int .i64 R.length), (29, .int .i64 (n : Nat)), (8, .fn 82 [.ptr nid 0]), (7, .ptr (nid + 8) 0), (6, .ptr (nid + 4) 0), (3, .ptr nid 0)], [(nid + 28, some (.box 67 [.str (faultN R.length), .sl (nid + 32) 0 L.length])), (nid + 32, arrS L), (nid, boxP s), (nid + 4, some (.box 29 [.lit true 0 [], .lit true 0 []])), (nid + 8, boxD (nid + 20) G.length (nid + 24) R.length), (nid + 20, arrS G), (s, strmC nl A (q + 2 * L.length)), (nid + 24, arrR nid R)] ++ famR nid R, nid + 1600, nid⟩) (fun L => m + 1 - L.length) [] ⟨by simp, fun r hr => by simp at hr⟩ (Cov.go [] [(nid + 32, 1)] ?_) (fun L hL => ?_)
      · rw [hf0 _ hi]
        simp [retPV, over, keys, List.map_nil, List.map_cons, List.contains_cons, List.contains_nil, Bool.or_false, Bool.or_true, Bool.true_or, Bool.false_or, beq_self_eq_true, cond_true, cond_false, HeapCov, orNil, nilSz, onBlk, srcOf, getH_hit, getH_miss, getH.eq_1, getS_hit, getS_miss, getS.eq_1, BlkCov, PVCovs, PVCov, ColsEq, AColsEq, ACEq, ColEq.refl, liveIds, SlotsCov, List.all_nil, List.all_cons, List.any_nil, List.any_cons, List.nil_append, List.cons_append, inRange, apart, nilBlk, idS1, idS2, readAll, readRes, onAll, step, res, AX.val, List.drop_zero, List.drop_succ_cons, List.take_succ_cons, List.take_zero, e1, e2, e3, e4, e5, e6, e7, e8, e9, strmC, famC, inR, boxP, boxD, arrS, arrR, faultN, -List.getD_eq_getElem?_getD, -List.length_append]
        exact fun j hj => ⟨by first | omega | (rw [show (nid + 28 == nid + (100 + j)) = false by simp; omega]; rfl), by omega⟩
      obtain ⟨hL1, hL2⟩ := hL
      rw [hf0 _ hi]
      unfold famC inR boxP boxD arrS arrR
      simp -dsimp only [aqT, aqU, aqN, aqS, ↓seqK, ↓blkK, ↓loopK, step, stepBin, Nat.add_assoc nid, ↓reduceIte, Option.toList, ← Int.ofNat_tmod, ← Int.ofNat_tdiv, simprocAttr, BEq.rfl, LN_succ, e1, e2, e3, e4, e5, e6, e7, e8, e9, strmC_low, Nat.reduceLT, Nat.lt_irrefl, if_true, if_false]
      refine S2.dec (fun h3 => ?_) (fun h3 => ?_) <;> simp -dsimp only [aqT, aqU, aqN, aqS, ↓seqK, ↓blkK, ↓loopK, step, stepBin, Nat.add_assoc nid, ↓reduceIte, Option.toList, ← Int.ofNat_tmod, ← Int.ofNat_tdiv, simprocAttr, BEq.rfl, LN_succ, e1, e2, e3, e4, e5, e6, e7, e8, e9, strmC_low]
      · have hLG : L.length < G.length := by omega
        have hgl := hG2.at L.length
        have hal := ansV_len A (q + 2 * L.length)
        refine ⟨⟨by omega, by omega⟩, ?_⟩
        refine CallX.on (ans_c s nid _ nl A (q + 2 * L.length) h (by omega) (by omega) hA) (subH_cons (by simp only [aqT, aqU, aqN, ↓seqK, ↓blkK, ↓loopK, step, stepBin, Nat.reduceBEq, Nat.reduceBeqDiff, Nat.add_assoc nid, Nat.reduceAdd, reduceCtorEq, ↓reduceIte, Nat.reduceLeDiff, Nat.reduceBneDiff, Option.toList, ← Int.ofNat_tmod, ← Int.ofNat_tdiv, Nat.reduceLT, e1, e2, e3, e4, e5, e6, e7, e8, e9, Int.cast_ofNat_Int, Int.reduceBEq, Int.reduceBNe, Int.reduceLT, Int.reduceLE, Int.reduceAdd, Int.reduceSub, Int.reduceMul, Int.reduceToNat, Int.reduceNeg, Int.reduceTMod, Int.reduceEq, not_false_eq_true, Int.reducePow, Int.reduceFDiv, Nat.reducePow, Nat.reduceSub, Nat.reduceMul, Nat.min_eq_left, Nat.reduceEqDiff, BEq.rfl, Int.tdiv_one, LN_succ, boxP]) (subH_get (by simp only [aqT, aqU, aqN, aqS, ↓seqK, ↓blkK, ↓loopK, step, stepBin, Nat.add_assoc nid, ↓reduceIte, Option.toList, ← Int.ofNat_tmod, ← Int.ofNat_tdiv, simprocAttr, BEq.rfl, LN_succ, e1, e2, e3, e4, e5, e6, e7, e8, e9]))) ?_
        simp -dsimp only [aqT, aqU, aqN, aqS, ↓seqK, ↓blkK, ↓loopK, step, stepBin, Nat.add_assoc nid, ↓reduceIte, Option.toList, ← Int.ofNat_tmod, ← Int.ofNat_tdiv, simprocAttr, BEq.rfl, LN_succ, e1, e2, e3, e4, e5, e6, e7, e8, e9, strmC_low]
        refine ⟨by simp, ?_⟩
        refine CallX.some_go (T := 9) (nl := nl) (A := A) (p := q + 2 * L.length + 1) (g := fun i => [G.getD L.length [], G.getD L.length [], ansV A (q + 2 * L.length)].getD i []) (by simp only [aqT, aqU, aqN, aqS, ↓seqK, ↓blkK, ↓loopK, step, stepBin, Nat.add_assoc nid, ↓reduceIte, Option.toList, ← Int.ofNat_tmod, ← Int.ofNat_tdiv, simprocAttr, BEq.rfl, LN_succ, e1, e2, e3, e4, e5, e6, e7, e8, e9]) (by simp only [aqT, aqU, aqN, aqS, ↓seqK, ↓blkK, ↓loopK, step, stepBin, Nat.add_assoc nid, ↓reduceIte, Option.toList, ← Int.ofNat_tmod, ← Int.ofNat_tdiv, simprocAttr, BEq.rfl, LN_succ, e1, e2, e3, e4, e5, e6, e7, e8, e9]) (by simp only [aqT, aqU, aqN, aqS, ↓seqK, ↓blkK, ↓loopK, step, stepBin, Nat.add_assoc nid, ↓reduceIte, Option.toList, ← Int.ofNat_tmod, ← Int.ofNat_tdiv, simprocAttr, BEq.rfl, LN_succ, e1, e2, e3, e4, e5, e6, e7, e8, e9]) (by omega) (by omega) hA (by omega) (by omega) ?_
        have hb := getD_all (P := fun x : List UInt8 => x.length ≤ 2) (l := [G.getD L.length [], G.getD L.length [], ansV A (q + 2 * L.length)]) (d := []) (by intro x hx; simp only [List.mem_cons, List.not_mem_nil, or_false] at hx; rcases hx with rfl | rfl | rfl <;> assumption) (pickI_lt A (q + 2 * L.length + 1) (n := 3) (by omega))
        generalize ([G.getD L.length [], G.getD L.length [], ansV A (q + 2 * L.length)].getD (pickI A (q + 2 * L.length + 1) 3) [] : List UInt8) = v at hb ⊢
        simp -dsimp only [aqT, aqU, aqN, aqS, ↓seqK, ↓blkK, ↓loopK, step, stepBin, Nat.add_assoc nid, ↓reduceIte, Option.toList, ← Int.ofNat_tmod, ← Int.ofNat_tdiv, simprocAttr, BEq.rfl, LN_succ, e1, e2, e3, e4, e5, e6, e7, e8, e9, strmC_low]
        rw [getD_app1 L v rfl]
        have hl : (L ++ [v]).length = L.length + 1 := by simp
        refine ⟨by omega, by unfold inI64; omega, L ++ [v], ⟨⟨by omega, hL2.snoc hb⟩, by omega⟩, Cov.go [(nid + 32, nid + 1656)] [] ?_⟩
        simp [retPV, over, keys, List.map_nil, List.map_cons, List.contains_cons, List.contains_nil, Bool.or_false, Bool.or_true, Bool.true_or, Bool.false_or, beq_self_eq_true, cond_true, cond_false, HeapCov, orNil, nilSz, onBlk, srcOf, getH_hit, getH_miss, getH.eq_1, getS_hit, getS_miss, getS.eq_1, BlkCov, PVCovs, PVCov, ColsEq, AColsEq, ACEq, ColEq.refl, liveIds, SlotsCov, List.all_nil, List.all_cons, List.any_nil, List.any_cons, List.nil_append, List.cons_append, inRange, apart, nilBlk, idS1, idS2, readAll, readRes, onAll, step, res, AX.val, List.drop_zero, List.drop_succ_cons, List.take_succ_cons, List.take_zero, e1, e2, e3, e4, e5, e6, e7, e8, e9, strmC, famC, inR, boxP, boxD, arrS, arrR, faultN, hl, -List.getD_eq_getElem?_getD, -List.length_append]
        exact ⟨by omega, fun j hj => ⟨by rw [show (nid + 32 == nid + (100 + j)) = false by simp; omega]; rfl, by omega⟩⟩
      · have hLm : L.length = m := by omega
        refine ⟨⟨L, hLm, hL2⟩, Cov.go [] [] ?_⟩
        try rw [hf0 _ hi]
        simp [retPV, over, keys, List.map_nil, List.map_cons, List.contains_cons, List.contains_nil, Bool.or_false, Bool.or_true, Bool.true_or, Bool.false_or, beq_self_eq_true, cond_true, cond_false, HeapCov, orNil, nilSz, onBlk, srcOf, getH_hit, getH_miss, getH.eq_1, getS_hit, getS_miss, getS.eq_1, BlkCov, PVCovs, PVCov, ColsEq, AColsEq, ACEq, ColEq.refl, liveIds, SlotsCov, List.all_nil, List.all_cons, List.any_nil, List.any_cons, List.nil_append, List.cons_append, inRange, apart, nilBlk, idS1, idS2, readAll, readRes, onAll, step, res, AX.val, List.drop_zero, List.drop_succ_cons, List.take_succ_cons, List.take_zero, e1, e2, e3, e4, e5, e6, e7, e8, e9, strmC, famC, inR, boxP, boxD, arrS, arrR, faultN, hLm, -List.getD_eq_getElem?_getD, -List.length_append]
        try exact fun j hj => (by omega)
    simp only
    rw [hf0 _ hi]
    unfold famC inR boxP boxD arrS arrR
    refine SR.run (t := .mk) ?_
    simp -dsimp only [aqT, aqU, aqN, aqS, ↓seqK, ↓blkK, ↓loopK, step, stepBin, Nat.add_assoc nid, ↓reduceIte, Option.toList, ← Int.ofNat_tmod, ← Int.ofNat_tdiv, simprocAttr, BEq.rfl, LN_succ, e1, e2, e3, e4, e5, e6, e7, e8, e9, strmC_low, Nat.reduceLT, Nat.lt_irrefl, if_true, if_false]
    have ho1 : ∀ k, k < R.length → rowR (R ++ [(faultN R.length, L)]) k = rowR R k := fun k hk => rowR_old hk
    have ho2 : ∀ k, k < R.length → rowF (R ++ [(faultN R.length, L)]) k = rowF R k := fun k hk => rowF_old hk
    have hn1 : ∀ k, k = R.length → rowR (R ++ [(faultN R.length, L)]) k = L := fun k hk => rowR_new hk
    have hn2 : ∀ k, k = R.length → rowF (R ++ [(faultN R.length, L)]) k = faultN R.length := fun k hk => rowF_new hk
    have hll : (R ++ [(faultN R.length, L)]).length = R.length + 1 := by simp
    refine ⟨by omega, ⟨L, hL1, hL2⟩, Cov.go [(nid + 24, nid + 2416), (nid + (100 + R.length), nid + 32)] [] ?_⟩
    rw [famR_snoc]
    simp only [hll]
    generalize R ++ [(faultN R.length, L)] = R2 at *
    simp [retPV, over, keys, List.map_nil, List.map_cons, List.contains_cons, List.contains_nil, Bool.or_false, Bool.or_true, Bool.true_or, Bool.false_or, beq_self_eq_true, cond_true, cond_false, HeapCov, orNil, nilSz, onBlk, srcOf, getH_hit, getH_miss, getH.eq_1, getS_hit, getS_miss, getS.eq_1, BlkCov, PVCovs, PVCov, ColsEq, AColsEq, ACEq, ColEq.refl, liveIds, SlotsCov, List.all_nil, List.all_cons, List.any_nil, List.any_cons, List.nil_append, List.cons_append, inRange, apart, nilBlk, idS1, idS2, readAll, readRes, onAll, step, res, AX.val, List.drop_zero, List.drop_succ_cons, List.take_succ_cons, List.take_zero, e1, e2, e3, e4, e5, e6, e7, e8, e9, strmC, famC, inR, boxP, boxD, arrS, arrR, hi, ho1, hn1, -List.getD_eq_getElem?_getD, -List.length_append]
    first
      | exact ⟨ColEq.s fun j hj => by
          have e : j = 0 := by omega
          subst e
          rw [hn2 0 (by omega), hi]
          rfl, rfl, rfl⟩
      | refine ⟨ColEq.s fun j hj => ?_, fun j hj => ⟨?_, by omega, ?_⟩⟩
        · by_cases e : j < R.length
          · rw [ho2 j e, if_pos (by omega)]
          · have ej : j = R.length := by omega
            rw [hn2 j ej, if_neg (by omega), ej, hi]
            rfl
        · rw [if_neg (by omega)]
          by_cases e : j < R.length
          · have e2 : (nid + (100 + R.length) == nid + (100 + j)) = false := by simp; omega
            simp only [hi, Nat.reduceAdd] at e2
            rw [e2, if_pos (by omega)]
            rfl
          · have ej : j = R.length := by omega
            have e2 : (nid + (100 + R.length) == nid + (100 + j)) = true := by simp; omega
            simp only [hi, Nat.reduceAdd] at e2
            rw [e2, if_neg (by omega), ej, hi]
            rfl
        · by_cases e : j < R.length
          · rw [ho1 j e, if_pos (by omega)]
          · have ej : j = R.length := by omega
            rw [hn1 j ej, if_neg (by omega), ej, hi]
            rfl
end Go.Proofs.YtpifoghhaohhaaaGreatDoor
namespace Go.Proofs.YtpifoghhaohhaaaGreatDoor
open Go.RowKit Go.Shelf Go.Lib
def SlotsIn (s : Slots) : Slots → Prop
  | [] => True
  | (i, p) :: r => getS s i = p ∧ SlotsIn s r
theorem SlotsIn.get {s : Slots} : ∀ {s' : Slots}, SlotsIn s s' → ∀ i, getS s' i = .any ∨ getS s' i = getS s i
  | [], _, i => .inl rfl
  | (j, p) :: r, h, i => by
    simp only [getS]
    cases hj : j == i
    · exact SlotsIn.get h.2 i
    · have : j = i := by simpa using hj
      subst this
      exact .inr h.1.symm
theorem Cov.drop {s s' : Slots} {H : Heap} {n n' b : Nat} (hn : n ≤ n') (hs : SlotsIn s s') : Cov ⟨s, H, n, b⟩ ⟨s', H, n', b⟩ := fun C nt Y m a w h => by
  refine ⟨Y, m, h.size, h.defers, fun i p hp hne => ?_, h.heap.mono (fun id hid => Nat.le_trans hn hid), h.base⟩
  rcases hs.get i with e | e
  · exact absurd (hp.symm.trans e) hne
  · exact h.slots i p (e.symm.trans hp) hne
theorem fam_at (b : Nat) (R : RowL) (hR : R.length ≤ 7) {k : Nat} (hk : k < R.length) : getH (famR b R) (b + (100 + k)) = arrS (rowR R k) := by
  have : ∀ c, c ≤ 7 → ∀ k, k < c → getH (famC b R c) (b + (100 + k)) = arrS (rowR R k) := fun c hc k hk => by
    have : k = 0 ∨ k = 1 ∨ k = 2 ∨ k = 3 ∨ k = 4 ∨ k = 5 ∨ k = 6 := by omega
    have nb : ∀ x y : Nat, (x == y) = false → (b + x == b + y) = false := fun x y hxy => by
      have : x ≠ y := by simpa using hxy
      simp
      omega
    rcases this with rfl | rfl | rfl | rfl | rfl | rfl | rfl <;> simp only [famC, inR, getH, Nat.reduceAdd, cond_true, cond_false, beq_self_eq_true, if_pos hk, nb 100 101 rfl, nb 100 102 rfl, nb 101 102 rfl, nb 100 103 rfl, nb 101 103 rfl, nb 102 103 rfl, nb 100 104 rfl, nb 101 104 rfl, nb 102 104 rfl, nb 103 104 rfl, nb 100 105 rfl, nb 101 105 rfl, nb 102 105 rfl, nb 103 105 rfl, nb 104 105 rfl, nb 100 106 rfl, nb 101 106 rfl, nb 102 106 rfl, nb 103 106 rfl, nb 104 106 rfl, nb 105 106 rfl]
  exact this _ hR k hk
def dictH (s nid : Nat) (nl : Bool) (A : List Int) (q : Nat) (G : List (List UInt8)) (R : RowL) : Heap := [(nid, boxP s), (nid + 4, some (.box 29 [.lit true 0 [], .lit true 0 []])), (nid + 8, boxD (nid + 20) G.length (nid + 24) R.length), (nid + 20, arrS G), (s, strmC nl A q), (nid + 24, arrR nid R)] ++ famR nid R
theorem dict_at (s nid : Nat) (nl : Bool) (A : List Int) (q : Nat) (G : List (List UInt8)) (R : RowL) (h : s < nid) (hR : R.length ≤ 7) {k : Nat} (hk : k < R.length) : getH (dictH s nid nl A q G R) (nid + (100 + k)) = arrS (rowR R k) := by
  unfold dictH
  have e1 : (nid == nid + (100 + k)) = false := by simp
  have e2 : ∀ c, c < 100 → (nid + c == nid + (100 + k)) = false := fun c hc => by simp; omega
  have e3 : (s == nid + (100 + k)) = false := by simp; omega
  simp only [List.cons_append, List.nil_append, getH, e1, e2 4 (by omega), e2 8 (by omega), e2 20 (by omega), e2 24 (by omega), e3, cond_false]
  exact fam_at nid R hR hk
set_option maxHeartbeats 4000000 in
theorem dict_end (s nid p q q0 tests : Nat) (nl : Bool) (A : List Int) (G : List (List UInt8)) (R : RowL) (h : s < nid) (hB : DictB tests G R) (hq : q ≤ q0) :
    SR Tryz.prog (dropV 6 a14.body) ⟨[(7, .ptr (nid + 8) 0), (6, .ptr (nid + 4) 0)], dictH s nid nl A q G R, nid + 5000, nid⟩ (fun e st => ∃ x : DictX, (DictB tests x.G x.R ∧ x.q ≤ q0) ∧ RetOK a14.res [(s, strmC nl A p)] nid (dictP x.g0 x.r0 x.b x.G x.R) [(s, strmC nl A x.q)] e st) .mk := by
  obtain ⟨e1, e2, e3, e4, e5, e6, e7, e8, e9⟩ := id_all h
  have hat := fun k (hk : k < R.length) => dict_at s nid nl A q G R h hB.rl hk
  refine SR.freezeO [nid + 100, nid + 101, nid + 102, nid + 103, nid + 104, nid + 105, nid + 106] (nid + 24) 67 R.length [.s fun k => rowF R k, .o (fun k => nid + (100 + k)) (fun k => (rowR R k).length)] ?_ ?_ ?_ (fun n1 hn1 => ?_)
  · unfold dictH arrR
    simp only [List.cons_append, List.nil_append, aqT, aqU, aqN, aqS, ↓seqK, ↓blkK, ↓loopK, step, stepBin, Nat.add_assoc nid, ↓reduceIte, Option.toList, ← Int.ofNat_tmod, ← Int.ofNat_tdiv, simprocAttr, BEq.rfl, LN_succ, e1, e2, e3, e4, e5, e6, e7, e8, e9]
  · simp
  · intro c hc
    simp only [List.mem_cons, List.not_mem_nil, or_false] at hc
    rcases hc with rfl | rfl
    · trivial
    · intro k hk
      have hk6 : k = 0 ∨ k = 1 ∨ k = 2 ∨ k = 3 ∨ k = 4 ∨ k = 5 ∨ k = 6 := by have := hB.rl; omega
      refine ⟨?_, _, _, _, hat k hk, rfl⟩
      rcases hk6 with rfl | rfl | rfl | rfl | rfl | rfl | rfl <;> simp
  have hco : ∀ k, k < R.length → colsAt (dictH s nid nl A q G R) (nid + (100 + k)) = [.s fun j => (rowR R k).getD j []] := fun k hk => by
    unfold colsAt
    rw [hat k hk]
    rfl
  simp only [List.map_cons, List.map_nil, oCol]
  generalize hCA : colsAt (dictH s nid nl A q G R) = CA at *
  clear hn1 hat
  refine SR.cov (t' := .mk) (st' := ⟨[(7, .ptr (nid + 8) 0), (6, .ptr (nid + 4) 0)], [(nid + 4, some (.box 29 [.lit true 0 [], .lit true 0 []])), (nid + 8, boxD (nid + 20) G.length (nid + 24) R.length), (nid + 20, arrS G), (s, strmC nl A q), (nid + 24, some (.arr 67 R.length [.s fun k => rowF R k, .l (fun k => n1 (nid + (100 + k))) (fun k => (rowR R k).length) (fun k => [.s fun j => (rowR R k).getD j []])]))], nid + 5000, nid⟩) (Cov.go [] [] ?_) ?_
  · unfold dictH boxP boxD arrS arrR strmC
    simp [retPV, over, keys, List.map_nil, List.map_cons, List.contains_cons, List.contains_nil, Bool.or_false, Bool.or_true, Bool.true_or, Bool.false_or, beq_self_eq_true, cond_true, cond_false, HeapCov, orNil, nilSz, onBlk, srcOf, getH_hit, getH_miss, getH.eq_1, getS_hit, getS_miss, getS.eq_1, BlkCov, PVCovs, PVCov, ColsEq, AColsEq, ACEq, ColEq.refl, liveIds, SlotsCov, List.all_nil, List.all_cons, List.any_nil, List.any_cons, List.nil_append, List.cons_append, inRange, apart, nilBlk, idS1, idS2, readAll, readRes, onAll, step, res, AX.val, List.drop_zero, List.drop_succ_cons, List.take_succ_cons, List.take_zero, e1, e2, e3, e4, e5, e6, e7, e8, e9, frzS, frzH, frzBlk, lends, lend, kill, noOs, -List.getD_eq_getElem?_getD]
    exact ColEq.l fun k hk => ⟨rfl, rfl, by rw [hco k hk]; exact ColsEq.refl _ _⟩
  unfold boxD arrS
  refine SR.freezeB [nid + 20, nid + 24] (fun n2 => ?_)
  simp only [frzS, frzH, frzBlk, lends, lend, kill, strmC, aqT, aqU, aqN, aqS, ↓seqK, ↓blkK, ↓loopK, step, stepBin, Nat.add_assoc nid, ↓reduceIte, Option.toList, ← Int.ofNat_tmod, ← Int.ofNat_tdiv, simprocAttr, BEq.rfl, LN_succ, e1, e2, e3, e4, e5, e6, e7, e8, e9]
  clear hco hCA
  simp only [a14, dropV]
  refine SR.run (t := .mk) ?_
  simp -dsimp only [aqT, aqU, aqN, ↓seqK, ↓blkK, ↓loopK, step, stepBin, Nat.reduceBEq, Nat.reduceBeqDiff, Nat.add_assoc nid, Nat.reduceAdd, reduceCtorEq, ↓reduceIte, Nat.reduceLeDiff, Nat.reduceBneDiff, Option.toList, ← Int.ofNat_tmod, ← Int.ofNat_tdiv, Nat.reduceLT, e1, e2, e3, e4, e5, e6, e7, e8, e9]
  refine ⟨⟨n2 (nid + 20), n2 (nid + 24), fun k => n1 (nid + (100 + k)), G, R, q⟩, ⟨hB, hq⟩, RetOK.go [] [] (.inl rfl) ?_⟩
  simp [a14, retPV, over, keys, List.map_nil, List.map_cons, List.contains_cons, List.contains_nil, Bool.or_false, Bool.or_true, Bool.true_or, Bool.false_or, beq_self_eq_true, cond_true, cond_false, HeapCov, orNil, nilSz, onBlk, srcOf, getH_hit, getH_miss, getH.eq_1, getS_hit, getS_miss, getS.eq_1, BlkCov, PVCovs, PVCov, ColsEq, AColsEq, ACEq, ColEq.refl, liveIds, SlotsCov, List.all_nil, List.all_cons, List.any_nil, List.any_cons, List.nil_append, List.cons_append, inRange, apart, nilBlk, idS1, idS2, readAll, readRes, onAll, step, res, AX.val, List.drop_zero, List.drop_succ_cons, List.take_succ_cons, List.take_zero, e1, e2, e3, e4, e5, e6, e7, e8, e9, strmC, dictP, ColsEq.refl, -List.getD_eq_getElem?_getD]
end Go.Proofs.YtpifoghhaohhaaaGreatDoor
namespace Go.Proofs.YtpifoghhaohhaaaGreatDoor
open Go.RowKit Go.Shelf Go.Lib
def thenV : ACode → ACode
  | .seq _ (.cond _ a _) => a
  | c => c
theorem rowF_set {R : RowL} {I : Nat} (x : List UInt8 × List (List UInt8)) (hI : I < R.length) (j : Nat) : rowF (R.set I x) j = if j = I then x.1 else rowF R j := by
  unfold rowF
  rw [List.getD_eq_getElem?_getD, List.getElem?_set]
  by_cases h : j = I
  · subst h; simp [hI]
  · rw [if_neg (fun e => h e.symm), if_neg h, ← List.getD_eq_getElem?_getD]
theorem rowR_set {R : RowL} {I : Nat} (x : List UInt8 × List (List UInt8)) (hI : I < R.length) (j : Nat) : rowR (R.set I x) j = if j = I then x.2 else rowR R j := by
  unfold rowR
  rw [List.getD_eq_getElem?_getD, List.getElem?_set]
  by_cases h : j = I
  · subst h; simp [hI]
  · rw [if_neg (fun e => h e.symm), if_neg h, ← List.getD_eq_getElem?_getD]
structure SpX where
  G : List (List UInt8)
  R : RowL
  q : Nat
  o : Option Nat
def spU (s nid : Nat) (nl : Bool) (A : List Int) (x : SpX) : Heap := match x.o with
  | none => dictH s nid nl A x.q x.G x.R
  | some I => [(s, strmC nl A x.q), (nid + 24, some (.arr 67 x.R.length [.s fun k => rowF x.R k, .o (fun k => if k = I then nid + 4104 else nid + (100 + k)) (fun k => (rowR x.R k).length)])), (nid + 4104, arrS (rowR x.R I))]
def SpPost (tests q0 : Nat) (G : List (List UInt8)) (R : RowL) (x : SpX) : Prop := DictB tests x.G x.R ∧ x.q ≤ q0 ∧ ∀ I, x.o = some I → I < R.length ∧ x.G = G ∧ x.R = R.set I (rowF R I, rowR R I ++ [[48]])
theorem cloneD_c (nl : Bool) (l : List (List UInt8)) (nid : Nat) (hl : l.length ≤ 1000000000) (hnl : nl = true → l = []) : ACall Tryz.prog 100 [litS nl l] [] nid (.sl nid 0 l.length) [(nid, arrS l)] := by
  refine acall_run c100 (by simp [a100]) ?_
  unfold litS
  simp -dsimp only [aqT, aqU, aqN, ↓seqK, ↓blkK, ↓loopK, step, stepBin, Nat.reduceBEq, Nat.reduceBeqDiff, Nat.add_assoc nid, Nat.reduceAdd, reduceCtorEq, ↓reduceIte, Nat.reduceLeDiff, Nat.reduceBneDiff, Option.toList, ← Int.ofNat_tmod, ← Int.ofNat_tdiv, Nat.reduceLT, a100]
  refine S2.intro (fun h => ?_) (fun h => ?_) <;> simp -dsimp only [aqT, aqU, aqN, ↓seqK, ↓blkK, ↓loopK, step, stepBin, Nat.reduceBEq, Nat.reduceBeqDiff, Nat.add_assoc nid, Nat.reduceAdd, reduceCtorEq, ↓reduceIte, Nat.reduceLeDiff, Nat.reduceBneDiff, Option.toList, ← Int.ofNat_tmod, ← Int.ofNat_tdiv, Nat.reduceLT]
  · refine RetOK.go [] [(nid, 1)] (.inl rfl) ?_
    have := hnl h
    subst this
    simp [a100, retPV, over, keys, List.map_nil, List.map_cons, List.contains_cons, List.contains_nil, Bool.or_false, Bool.or_true, Bool.true_or, Bool.false_or, beq_self_eq_true, cond_true, cond_false, HeapCov, orNil, nilSz, onBlk, srcOf, getH_hit, getH_miss, getH.eq_1, getS_hit, getS_miss, getS.eq_1, BlkCov, PVCovs, PVCov, ColsEq, AColsEq, ACEq, ColEq.refl, liveIds, SlotsCov, List.all_nil, List.all_cons, List.any_nil, List.any_cons, List.nil_append, List.cons_append, inRange, apart, nilBlk, idS1, idS2, readAll, readRes, onAll, step, res, AX.val, List.drop_zero, List.drop_succ_cons, List.take_succ_cons, List.take_zero, arrS]
  · refine ⟨⟨by omega, by omega⟩, RetOK.go [(nid, nid + 20)] [] (.inl rfl) ?_⟩
    simp [a100, retPV, over, keys, List.map_nil, List.map_cons, List.contains_cons, List.contains_nil, Bool.or_false, Bool.or_true, Bool.true_or, Bool.false_or, beq_self_eq_true, cond_true, cond_false, HeapCov, orNil, nilSz, onBlk, srcOf, getH_hit, getH_miss, getH.eq_1, getS_hit, getS_miss, getS.eq_1, BlkCov, PVCovs, PVCov, ColsEq, AColsEq, ACEq, ColEq.refl, liveIds, SlotsCov, List.all_nil, List.all_cons, List.any_nil, List.any_cons, List.nil_append, List.cons_append, inRange, apart, nilBlk, idS1, idS2, readAll, readRes, onAll, step, res, AX.val, List.drop_zero, List.drop_succ_cons, List.take_succ_cons, List.take_zero, arrS]
abbrev SpEnd (s nid : Nat) (nl : Bool) (A : List Int) (tests q0 : Nat) (G : List (List UInt8)) (R : RowL) (H0 : Heap) (e : AEx) (st : ST) : Prop := ∃ x : SpX, SpPost tests q0 G R x ∧ RetOK a85.res H0 (nid + 4104) (.tup []) (spU s nid nl A x) e st
set_option maxHeartbeats 8000000 in
theorem spoil_G (s nid q q0 tests : Nat) (nl : Bool) (A : List Int) (G : List (List UInt8)) (R : RowL) (q1 : Nat) (h : s < nid) (hB : DictB tests G R) (hG0 : 0 < G.length) (ht : tests ≤ 6) (hq : q1 + 10 ≤ q0) (hq1 : q1 ≤ 1099500003000) (hA : A.length ≤ 17592186044416) (K : ST → Prop) :
    SR Tryz.prog (thenV (headV a85.body)) ⟨[(0, .ptr s 0), (1, .ptr (nid + 8) 0)], dictH s nid nl A q1 G R, nid + 4200, nid + 4104⟩ (seqK K (SpEnd s nid nl A tests q0 G R (dictH s nid nl A q G R))) .mk := by
  obtain ⟨e1, e2, e3, e4, e5, e6, e7, e8, e9⟩ := id_all h
  have hgl := hB.gl
  have hrl := hB.rl
  simp only [a85, headV, thenV]
  unfold dictH boxD arrS
  refine SR.seq ?_
  simp -dsimp only [aqT, aqU, aqN, aqS, ↓seqK, ↓blkK, ↓loopK, step, stepBin, Nat.add_assoc nid, ↓reduceIte, Option.toList, ← Int.ofNat_tmod, ← Int.ofNat_tdiv, simprocAttr, BEq.rfl, LN_succ, e1, e2, e3, e4, e5, e6, e7, e8, e9, strmC_low]
  have hnd := nextV_bd A q1 (n := (G.length : Nat)) (by omega)
  obtain ⟨I, hI⟩ : ∃ I : Nat, nextV A q1 ((G.length : Nat) : Int) = I := ⟨_, (Int.toNat_of_nonneg hnd.1).symm⟩
  have hIG : I < G.length := by omega
  refine CallX.on (next_c s _ nl A q1 _ (by omega) (by omega) hA (by omega)) (subH_get (by simp only [aqT, aqU, aqN, aqS, ↓seqK, ↓blkK, ↓loopK, step, stepBin, Nat.add_assoc nid, ↓reduceIte, Option.toList, ← Int.ofNat_tmod, ← Int.ofNat_tdiv, simprocAttr, BEq.rfl, LN_succ, e1, e2, e3, e4, e5, e6, e7, e8, e9])) ?_
  rw [hI]
  simp -dsimp only [aqT, aqU, aqN, aqS, ↓seqK, ↓blkK, ↓loopK, step, stepBin, Nat.add_assoc nid, ↓reduceIte, Option.toList, ← Int.ofNat_tmod, ← Int.ofNat_tdiv, simprocAttr, BEq.rfl, LN_succ, e1, e2, e3, e4, e5, e6, e7, e8, e9, strmC_low]
  refine CallX.pure (repeat_cc [48] 101 _ (by omega) (by simp)) ?_
  have hr48 : (Lib.repeatL [48] 101).length = 101 := by simp [Lib.repeatL]
  generalize Lib.repeatL [48] 101 = z at *
  simp -dsimp only [aqT, aqU, aqN, aqS, ↓seqK, ↓blkK, ↓loopK, step, stepBin, Nat.add_assoc nid, ↓reduceIte, Option.toList, ← Int.ofNat_tmod, ← Int.ofNat_tdiv, simprocAttr, BEq.rfl, LN_succ, e1, e2, e3, e4, e5, e6, e7, e8, e9, strmC_low]
  refine CallX.some_go (T := 9) (nl := nl) (A := A) (p := q1 + 1) (g := fun i => [[], [32], [195, 169], z].getD i []) (by simp only [aqT, aqU, aqN, aqS, ↓seqK, ↓blkK, ↓loopK, step, stepBin, Nat.add_assoc nid, ↓reduceIte, Option.toList, ← Int.ofNat_tmod, ← Int.ofNat_tdiv, simprocAttr, BEq.rfl, LN_succ, e1, e2, e3, e4, e5, e6, e7, e8, e9]) (by simp only [aqT, aqU, aqN, aqS, ↓seqK, ↓blkK, ↓loopK, step, stepBin, Nat.add_assoc nid, ↓reduceIte, Option.toList, ← Int.ofNat_tmod, ← Int.ofNat_tdiv, simprocAttr, BEq.rfl, LN_succ, e1, e2, e3, e4, e5, e6, e7, e8, e9]) (by simp only [aqT, aqU, aqN, aqS, ↓seqK, ↓blkK, ↓loopK, step, stepBin, Nat.add_assoc nid, ↓reduceIte, Option.toList, ← Int.ofNat_tmod, ← Int.ofNat_tdiv, simprocAttr, BEq.rfl, LN_succ, e1, e2, e3, e4, e5, e6, e7, e8, e9]) (by omega) (by omega) hA (by omega) (by omega) ?_
  have hb := getD_all (P := fun x : List UInt8 => x.length ≤ 101) (l := [[], [32], [195, 169], z]) (d := []) (by intro x hx; simp only [List.mem_cons, List.not_mem_nil, or_false] at hx; rcases hx with rfl | rfl | rfl | rfl; simp; simp; simp; omega) (pickI_lt A (q1 + 1) (n := 4) (by omega))
  generalize ([[], [32], [195, 169], z].getD (pickI A (q1 + 1) 4) [] : List UInt8) = v at hb ⊢
  simp -dsimp only [aqT, aqU, aqN, aqS, ↓seqK, ↓blkK, ↓loopK, step, stepBin, Nat.add_assoc nid, ↓reduceIte, Option.toList, ← Int.ofNat_tmod, ← Int.ofNat_tdiv, simprocAttr, BEq.rfl, LN_succ, e1, e2, e3, e4, e5, e6, e7, e8, e9, strmC_low]
  rw [getD_setS G v hIG]
  refine ⟨⟨by omega, by omega⟩, ?_⟩
  refine SR.run (t := .mk) ?_
  simp -dsimp only [aqT, aqU, aqN, aqS, ↓seqK, ↓blkK, ↓loopK, step, stepBin, Nat.add_assoc nid, ↓reduceIte, Option.toList, ← Int.ofNat_tmod, ← Int.ofNat_tdiv, simprocAttr, BEq.rfl, LN_succ, e1, e2, e3, e4, e5, e6, e7, e8, e9, strmC_low]
  have hsl : (G.set I v).length = G.length := List.length_set
  refine ⟨⟨G.set I v, R, q1 + 1 + 1, none⟩, ⟨⟨by rw [hsl]; exact hB.gl, (hB.gs).set I hb, hB.rl, hB.rs⟩, by simp only; omega, fun I h => by cases h⟩, ?_⟩
  have hf0 : ∀ c, R.length = c → famR nid R = famC nid R c := fun c hc => by rw [← hc]; rfl
  simp only [spU, dictH]
  have hi : R.length = 0 ∨ R.length = 1 ∨ R.length = 2 ∨ R.length = 3 ∨ R.length = 4 ∨ R.length = 5 ∨ R.length = 6 ∨ R.length = 7 := by omega
  rcases hi with hi | hi | hi | hi | hi | hi | hi | hi
  all_goals
    rw [hf0 _ hi]
    refine RetOK.go [] [] (.inl rfl) ?_
    simp [a85, retPV, over, keys, List.map_nil, List.map_cons, List.contains_cons, List.contains_nil, Bool.or_false, Bool.or_true, Bool.true_or, Bool.false_or, beq_self_eq_true, cond_true, cond_false, HeapCov, orNil, nilSz, onBlk, srcOf, getH_hit, getH_miss, getH.eq_1, getS_hit, getS_miss, getS.eq_1, BlkCov, PVCovs, PVCov, ColsEq, AColsEq, ACEq, ColEq.refl, liveIds, SlotsCov, List.all_nil, List.all_cons, List.any_nil, List.any_cons, List.nil_append, List.cons_append, inRange, apart, nilBlk, idS1, idS2, readAll, readRes, onAll, step, res, AX.val, List.drop_zero, List.drop_succ_cons, List.take_succ_cons, List.take_zero, e1, e2, e3, e4, e5, e6, e7, e8, e9, strmC, famC, inR, boxP, boxD, arrS, arrR, hsl, -List.getD_eq_getElem?_getD]
    exact ⟨⟨by omega, by omega⟩, by omega, fun j hj => by omega⟩
set_option maxHeartbeats 8000000 in
theorem spoil_R (s nid q q0 tests : Nat) (nl : Bool) (A : List Int) (G : List (List UInt8)) (R : RowL) (q1 : Nat) (h : s < nid) (hB : DictB tests G R) (hR0 : 0 < R.length) (hpos : ∀ y ∈ R, 1 ≤ y.2.length ∧ y.2.length ≤ tests) (ht : tests ≤ 6) (hq : q1 + 10 ≤ q0) (hq1 : q1 ≤ 1099500003000) (hA : A.length ≤ 17592186044416) :
    SR Tryz.prog (dropV 1 a85.body) ⟨[(0, .ptr s 0), (1, .ptr (nid + 8) 0)], dictH s nid nl A q1 G R, nid + 4200, nid + 4104⟩ (SpEnd s nid nl A tests q0 G R (dictH s nid nl A q G R)) .mk := by
  obtain ⟨e1, e2, e3, e4, e5, e6, e7, e8, e9⟩ := id_all h
  have hgl := hB.gl
  have hrl := hB.rl
  simp only [a85, dropV]
  unfold dictH boxD arrR
  refine SR.seq ?_
  simp -dsimp only [aqT, aqU, aqN, aqS, ↓seqK, ↓blkK, ↓loopK, step, stepBin, Nat.add_assoc nid, ↓reduceIte, Option.toList, ← Int.ofNat_tmod, ← Int.ofNat_tdiv, simprocAttr, BEq.rfl, LN_succ, e1, e2, e3, e4, e5, e6, e7, e8, e9, strmC_low]
  have hnd := nextV_bd A q1 (n := (R.length : Nat)) (by omega)
  obtain ⟨I, hI⟩ : ∃ I : Nat, nextV A q1 ((R.length : Nat) : Int) = I := ⟨_, (Int.toNat_of_nonneg hnd.1).symm⟩
  have hIR : I < R.length := by omega
  refine CallX.on (next_c s _ nl A q1 _ (by omega) (by omega) hA (by omega)) (subH_get (by simp only [aqT, aqU, aqN, aqS, ↓seqK, ↓blkK, ↓loopK, step, stepBin, Nat.add_assoc nid, ↓reduceIte, Option.toList, ← Int.ofNat_tmod, ← Int.ofNat_tdiv, simprocAttr, BEq.rfl, LN_succ, e1, e2, e3, e4, e5, e6, e7, e8, e9])) ?_
  rw [hI]
  simp -dsimp only [aqT, aqU, aqN, aqS, ↓seqK, ↓blkK, ↓loopK, step, stepBin, Nat.add_assoc nid, ↓reduceIte, Option.toList, ← Int.ofNat_tmod, ← Int.ofNat_tdiv, simprocAttr, BEq.rfl, LN_succ, e1, e2, e3, e4, e5, e6, e7, e8, e9, strmC_low]
  refine ⟨⟨by omega, by omega⟩, ?_⟩
  refine SR.seq ?_
  simp -dsimp only [aqT, aqU, aqN, aqS, ↓seqK, ↓blkK, ↓loopK, step, stepBin, Nat.add_assoc nid, ↓reduceIte, Option.toList, ← Int.ofNat_tmod, ← Int.ofNat_tdiv, simprocAttr, BEq.rfl, LN_succ, e1, e2, e3, e4, e5, e6, e7, e8, e9, strmC_low]
  have hkd := nextV_bd A (q1 + 1) (n := (3 : Int)) (by omega)
  refine CallO.on (next_c s _ nl A (q1 + 1) 3 (by omega) (by omega) hA (by omega)) (subH_get (by simp only [aqT, aqU, aqN, aqS, ↓seqK, ↓blkK, ↓loopK, step, stepBin, Nat.add_assoc nid, ↓reduceIte, Option.toList, ← Int.ofNat_tmod, ← Int.ofNat_tdiv, simprocAttr, BEq.rfl, LN_succ, e1, e2, e3, e4, e5, e6, e7, e8, e9])) ?_
  have hk : nextV A (q1 + 1) 3 = 0 ∨ nextV A (q1 + 1) 3 = 1 ∨ nextV A (q1 + 1) 3 = 2 := by omega
  have hf0 : ∀ c, R.length = c → famR nid R = famC nid R c := fun c hc => by rw [← hc]; rfl
  have hmem : R.getD I ([], []) ∈ R := by rw [List.getD_eq_getElem?_getD, List.getElem?_eq_getElem hIR]; exact List.getElem_mem hIR
  have hrow := hB.rs _ hmem
  have hrp := hpos _ hmem
  have hlI : rowR R I = (R.getD I ([], [])).2 := rfl
  rw [← hlI] at hrow hrp
  have hF1 := fun v => rowF_set (R := R) (I := I) (v, rowR R I) hIR
  have hi : R.length = 1 ∨ R.length = 2 ∨ R.length = 3 ∨ R.length = 4 ∨ R.length = 5 ∨ R.length = 6 ∨ R.length = 7 := by omega
  have hsl : ∀ x, (R.set I x).length = R.length := fun x => List.length_set
  have hnewB : ∀ x : List UInt8 × List (List UInt8), x.1 ∈ namesL → x.2.length ≤ tests + 1 → ShortRows 101 x.2 → DictB tests G (R.set I x) := fun x h1 h2 h3 => ⟨hB.gl, hB.gs, by rw [hsl]; exact hB.rl, fun y hy => by
    rcases List.mem_or_eq_of_mem_set hy with hy | rfl
    · exact hB.rs y hy
    · exact ⟨h1, h2, h3⟩⟩
  have k1 : ∀ c, c < 100 → (nid + c == nid + (100 + I)) = false := fun c hc => by simp; omega
  have k2 : ∀ c, c < 100 → (nid + (100 + I) == nid + c) = false := fun c hc => by simp; omega
  have k3 : ∀ c, 107 ≤ c → (nid + c == nid + (100 + I)) = false := fun c hc => by simp; omega
  have k4 : ∀ c, 107 ≤ c → (nid + (100 + I) == nid + c) = false := fun c hc => by simp; omega
  have k5 : (nid == nid + (100 + I)) = false := by simp
  have k6 : (nid + (100 + I) == nid) = false := by simp
  have k7 := fam_at nid R hrl hIR
  rcases hk with hk | hk | hk <;> rw [hk] <;> simp -dsimp only [aqT, aqU, aqN, aqS, ↓seqK, ↓blkK, ↓loopK, step, stepBin, Nat.add_assoc nid, ↓reduceIte, Option.toList, ← Int.ofNat_tmod, ← Int.ofNat_tdiv, simprocAttr, BEq.rfl, LN_succ, e1, e2, e3, e4, e5, e6, e7, e8, e9, strmC_low]
  · refine SR.run (t := .mk) ?_
    simp -dsimp only [aqT, aqU, aqN, aqS, ↓seqK, ↓blkK, ↓loopK, step, stepBin, Nat.add_assoc nid, ↓reduceIte, Option.toList, ← Int.ofNat_tmod, ← Int.ofNat_tdiv, simprocAttr, BEq.rfl, LN_succ, e1, e2, e3, e4, e5, e6, e7, e8, e9, strmC_low, Int.reduceBEq]
    refine CallO.some_go (T := 9) (nl := nl) (A := A) (p := q1 + 1 + 1) (g := fun i => [[], [102, 48], [70]].getD i []) (by simp only [aqT, aqU, aqN, aqS, ↓seqK, ↓blkK, ↓loopK, step, stepBin, Nat.add_assoc nid, ↓reduceIte, Option.toList, ← Int.ofNat_tmod, ← Int.ofNat_tdiv, simprocAttr, BEq.rfl, LN_succ, e1, e2, e3, e4, e5, e6, e7, e8, e9]) (by simp only [aqT, aqU, aqN, aqS, ↓seqK, ↓blkK, ↓loopK, step, stepBin, Nat.add_assoc nid, ↓reduceIte, Option.toList, ← Int.ofNat_tmod, ← Int.ofNat_tdiv, simprocAttr, BEq.rfl, LN_succ, e1, e2, e3, e4, e5, e6, e7, e8, e9]) (by simp only [aqT, aqU, aqN, aqS, ↓seqK, ↓blkK, ↓loopK, step, stepBin, Nat.add_assoc nid, ↓reduceIte, Option.toList, ← Int.ofNat_tmod, ← Int.ofNat_tdiv, simprocAttr, BEq.rfl, LN_succ, e1, e2, e3, e4, e5, e6, e7, e8, e9]) (by omega) (by omega) hA (by omega) (by omega) ?_
    have hb := getD_all (P := fun x : List UInt8 => x ∈ namesL) (l := [[], [102, 48], [70]]) (d := []) (by decide) (pickI_lt A (q1 + 1 + 1) (n := 3) (by omega))
    generalize ([[], [102, 48], [70]].getD (pickI A (q1 + 1 + 1) 3) [] : List UInt8) = v at hb ⊢
    simp -dsimp only [aqT, aqU, aqN, aqS, ↓seqK, ↓blkK, ↓loopK, step, stepBin, Nat.add_assoc nid, ↓reduceIte, Option.toList, ← Int.ofNat_tmod, ← Int.ofNat_tdiv, simprocAttr, BEq.rfl, LN_succ, e1, e2, e3, e4, e5, e6, e7, e8, e9, strmC_low]
    have e1' : (fun j => if j = I then v else rowF R j) = rowF (R.set I (v, rowR R I)) := by
      funext j
      rw [rowF_set _ hIR]
    have e2' : ∀ j, rowR (R.set I (v, rowR R I)) j = rowR R j := fun j => by
      rw [rowR_set _ hIR]
      split
      · rename_i e; rw [e]
      · rfl
    rw [e1']
    refine ⟨⟨G, R.set I (v, rowR R I), q1 + 1 + 1 + 1, none⟩, ⟨hnewB _ hb (show (rowR R I).length ≤ tests + 1 by omega) hrow.2.2, by simp only; omega, fun I h => by cases h⟩, ?_⟩
    have hll := hsl (v, rowR R I)
    generalize R.set I (v, rowR R I) = R2 at *
    have hf2 : ∀ c, R2.length = c → famR nid R2 = famC nid R2 c := fun c hc => by rw [← hc]; rfl
    simp only [spU, dictH]
    rcases hi with hi | hi | hi | hi | hi | hi | hi
    all_goals
      rw [hf0 _ hi, hf2 _ (hll.trans hi)]
      refine RetOK.go [] [] (.inr rfl) ?_
      simp [a85, retPV, over, keys, List.map_nil, List.map_cons, List.contains_cons, List.contains_nil, Bool.or_false, Bool.or_true, Bool.true_or, Bool.false_or, beq_self_eq_true, cond_true, cond_false, HeapCov, orNil, nilSz, onBlk, srcOf, getH_hit, getH_miss, getH.eq_1, getS_hit, getS_miss, getS.eq_1, BlkCov, PVCovs, PVCov, ColsEq, AColsEq, ACEq, ColEq.refl, liveIds, SlotsCov, List.all_nil, List.all_cons, List.any_nil, List.any_cons, List.nil_append, List.cons_append, inRange, apart, nilBlk, idS1, idS2, readAll, readRes, onAll, step, res, AX.val, List.drop_zero, List.drop_succ_cons, List.take_succ_cons, List.take_zero, e1, e2, e3, e4, e5, e6, e7, e8, e9, strmC, famC, inR, boxP, boxD, arrS, arrR, hll, e2', -List.getD_eq_getElem?_getD]
      exact ⟨⟨by omega, by omega⟩, by omega, fun j hj => by omega⟩
  · refine SR.run (t := .mk) ?_
    unfold arrS at k7
    simp -dsimp only [aqT, aqU, aqN, aqS, ↓seqK, ↓blkK, ↓loopK, step, stepBin, Nat.add_assoc nid, ↓reduceIte, Option.toList, ← Int.ofNat_tmod, ← Int.ofNat_tdiv, simprocAttr, BEq.rfl, LN_succ, e1, e2, e3, e4, e5, e6, e7, e8, e9, strmC_low, Int.reduceBEq]
    refine CallO.lent [nid + (100 + I)] (fun nl' => by
      simp only [lends, lend, aqT, aqU, aqN, aqS, ↓seqK, ↓blkK, ↓loopK, step, stepBin, Nat.add_assoc nid, ↓reduceIte, Option.toList, ← Int.ofNat_tmod, ← Int.ofNat_tdiv, simprocAttr, BEq.rfl, LN_succ, e1, e2, e3, e4, e5, e6, e7, e8, e9, k1, k2, k3, k4, k5, k6, k7, arrS, Nat.reduceLT, Nat.reduceLeDiff]
      exact ACall.nonnil 0 rfl (fun hn => cloneD_c _ (rowR R I) _ (by omega) (fun e => List.eq_nil_of_length_eq_zero (hn e)))) rfl rfl (by simp only [List.mem_singleton, forall_eq, aqT, aqU, aqN, aqS, ↓seqK, ↓blkK, ↓loopK, step, stepBin, Nat.add_assoc nid, ↓reduceIte, Option.toList, ← Int.ofNat_tmod, ← Int.ofNat_tdiv, simprocAttr, BEq.rfl, LN_succ, k1, k2, k3, k4, k5, k6, Nat.reduceLT, Nat.reduceLeDiff]) ?_
    unfold arrS
    simp -dsimp only [aqT, aqU, aqN, aqS, ↓seqK, ↓blkK, ↓loopK, step, stepBin, Nat.add_assoc nid, ↓reduceIte, Option.toList, ← Int.ofNat_tmod, ← Int.ofNat_tdiv, simprocAttr, BEq.rfl, LN_succ, e1, e2, e3, e4, e5, e6, e7, e8, e9, strmC_low, k1, k2, k3, k4, k5, k6, k7, Nat.reduceLT, Nat.reduceLeDiff]
    rw [getD_app1 (rowR R I) [48] rfl]
    have hlen : (rowR R I ++ [[48]]).length = (rowR R I).length + 1 := by simp
    have fF : ∀ j, rowF (R.set I (rowF R I, rowR R I ++ [[48]])) j = rowF R j := fun j => by
      rw [rowF_set _ hIR]
      split
      · rename_i e; rw [e]
      · rfl
    have fI : rowR (R.set I (rowF R I, rowR R I ++ [[48]])) I = rowR R I ++ [[48]] := by rw [rowR_set _ hIR, if_pos rfl]
    have fL : ∀ j, (rowR (R.set I (rowF R I, rowR R I ++ [[48]])) j).length = if j = I then (rowR R I).length + 1 else (rowR R j).length := fun j => by
      rw [rowR_set _ hIR]
      split
      · exact hlen
      · rfl
    have hll := hsl (rowF R I, rowR R I ++ [[48]])
    refine ⟨by omega, ⟨G, R.set I (rowF R I, rowR R I ++ [[48]]), q1 + 1 + 1, some I⟩, ⟨hnewB _ hrow.1 (show (rowR R I ++ [[48]]).length ≤ tests + 1 by omega) (hrow.2.2.snoc (by simp)), by simp only; omega, fun I' h => by cases h; exact ⟨hIR, rfl, rfl⟩⟩, ?_⟩
    simp only [spU, fI, hll, fF, fL]
    generalize R.set I (rowF R I, rowR R I ++ [[48]]) = R2 at *
    generalize rowR R I ++ [[48]] = L2 at *
    rcases hi with hi | hi | hi | hi | hi | hi | hi
    all_goals
      rw [hf0 _ hi]
      refine RetOK.go [(nid + 4104, nid + 4304)] [] (.inr rfl) ?_
      simp [a85, retPV, over, keys, List.map_nil, List.map_cons, List.contains_cons, List.contains_nil, Bool.or_false, Bool.or_true, Bool.true_or, Bool.false_or, beq_self_eq_true, cond_true, cond_false, HeapCov, orNil, nilSz, onBlk, srcOf, getH_hit, getH_miss, getH.eq_1, getS_hit, getS_miss, getS.eq_1, BlkCov, PVCovs, PVCov, ColsEq, AColsEq, ACEq, ColEq.refl, liveIds, SlotsCov, List.all_nil, List.all_cons, List.any_nil, List.any_cons, List.nil_append, List.cons_append, inRange, apart, nilBlk, idS1, idS2, readAll, readRes, onAll, step, res, AX.val, List.drop_zero, List.drop_succ_cons, List.take_succ_cons, List.take_zero, e1, e2, e3, e4, e5, e6, e7, e8, e9, strmC, famC, inR, boxP, boxD, arrS, arrR, hlen, -List.getD_eq_getElem?_getD]
      exact ⟨⟨by omega, by omega⟩, fun j hj => by
        by_cases e : j = I
        · subst e
          rw [if_pos (fun h => absurd rfl h)]
          simp only [if_true]
          exact ⟨trivial, by omega⟩
        · rw [if_neg (fun h => by have := h e; omega)]
          simp only [if_neg e]
          exact ⟨trivial, by omega⟩, by omega⟩
  · refine SR.run (t := .mk) ?_
    simp -dsimp only [aqT, aqU, aqN, aqS, ↓seqK, ↓blkK, ↓loopK, step, stepBin, Nat.add_assoc nid, ↓reduceIte, Option.toList, ← Int.ofNat_tmod, ← Int.ofNat_tdiv, simprocAttr, BEq.rfl, LN_succ, e1, e2, e3, e4, e5, e6, e7, e8, e9, strmC_low, Int.reduceBEq]
    have hjd := nextV_bd A (q1 + 1 + 1) (n := ((rowR R I).length : Nat)) (by omega)
    obtain ⟨J, hJ⟩ : ∃ J : Nat, nextV A (q1 + 1 + 1) (((rowR R I).length : Nat) : Int) = J := ⟨_, (Int.toNat_of_nonneg hjd.1).symm⟩
    have hJR : J < (rowR R I).length := by omega
    refine CallX.on (next_c s _ nl A (q1 + 1 + 1) _ (by omega) (by omega) hA (by omega)) (subH_get (by simp only [aqT, aqU, aqN, aqS, ↓seqK, ↓blkK, ↓loopK, step, stepBin, Nat.add_assoc nid, ↓reduceIte, Option.toList, ← Int.ofNat_tmod, ← Int.ofNat_tdiv, simprocAttr, BEq.rfl, LN_succ, e1, e2, e3, e4, e5, e6, e7, e8, e9])) ?_
    rw [hJ]
    simp -dsimp only [aqT, aqU, aqN, aqS, ↓seqK, ↓blkK, ↓loopK, step, stepBin, Nat.add_assoc nid, ↓reduceIte, Option.toList, ← Int.ofNat_tmod, ← Int.ofNat_tdiv, simprocAttr, BEq.rfl, LN_succ, e1, e2, e3, e4, e5, e6, e7, e8, e9, strmC_low]
    refine CallX.some_go (T := 9) (nl := nl) (A := A) (p := q1 + 1 + 1 + 1) (g := fun i => [[], [97, 32, 98], [49]].getD i []) (by simp only [aqT, aqU, aqN, aqS, ↓seqK, ↓blkK, ↓loopK, step, stepBin, Nat.add_assoc nid, ↓reduceIte, Option.toList, ← Int.ofNat_tmod, ← Int.ofNat_tdiv, simprocAttr, BEq.rfl, LN_succ, e1, e2, e3, e4, e5, e6, e7, e8, e9]) (by simp only [aqT, aqU, aqN, aqS, ↓seqK, ↓blkK, ↓loopK, step, stepBin, Nat.add_assoc nid, ↓reduceIte, Option.toList, ← Int.ofNat_tmod, ← Int.ofNat_tdiv, simprocAttr, BEq.rfl, LN_succ, e1, e2, e3, e4, e5, e6, e7, e8, e9]) (by simp only [aqT, aqU, aqN, aqS, ↓seqK, ↓blkK, ↓loopK, step, stepBin, Nat.add_assoc nid, ↓reduceIte, Option.toList, ← Int.ofNat_tmod, ← Int.ofNat_tdiv, simprocAttr, BEq.rfl, LN_succ, e1, e2, e3, e4, e5, e6, e7, e8, e9]) (by omega) (by omega) hA (by omega) (by omega) ?_
    have hb := getD_all (P := fun x : List UInt8 => x.length ≤ 101) (l := [[], [97, 32, 98], [49]]) (d := []) (by intro x hx; simp only [List.mem_cons, List.not_mem_nil, or_false] at hx; rcases hx with rfl | rfl | rfl <;> simp) (pickI_lt A (q1 + 1 + 1 + 1) (n := 3) (by omega))
    generalize ([[], [97, 32, 98], [49]].getD (pickI A (q1 + 1 + 1 + 1) 3) [] : List UInt8) = v at hb ⊢
    unfold arrS at k7
    simp -dsimp only [aqT, aqU, aqN, aqS, ↓seqK, ↓blkK, ↓loopK, step, stepBin, Nat.add_assoc nid, ↓reduceIte, Option.toList, ← Int.ofNat_tmod, ← Int.ofNat_tdiv, simprocAttr, BEq.rfl, LN_succ, e1, e2, e3, e4, e5, e6, e7, e8, e9, strmC_low, k1, k2, k3, k4, k5, k6, k7, arrS, Nat.reduceLT, Nat.reduceLeDiff]
    rw [getD_setS (rowR R I) v hJR]
    have hlen : ((rowR R I).set J v).length = (rowR R I).length := List.length_set
    have fF : ∀ j, rowF (R.set I (rowF R I, (rowR R I).set J v)) j = rowF R j := fun j => by
      rw [rowF_set _ hIR]
      split
      · rename_i e; rw [e]
      · rfl
    have fI : rowR (R.set I (rowF R I, (rowR R I).set J v)) I = (rowR R I).set J v := by rw [rowR_set _ hIR, if_pos rfl]
    have fO : ∀ j, j ≠ I → rowR (R.set I (rowF R I, (rowR R I).set J v)) j = rowR R j := fun j hj => by rw [rowR_set _ hIR, if_neg hj]
    have fL : ∀ j, (rowR (R.set I (rowF R I, (rowR R I).set J v)) j).length = (rowR R j).length := fun j => by
      rw [rowR_set _ hIR]
      split
      · rename_i e; rw [e]; exact hlen
      · rfl
    have hll := hsl (rowF R I, (rowR R I).set J v)
    refine ⟨⟨by omega, by omega⟩, ⟨G, R.set I (rowF R I, (rowR R I).set J v), q1 + 1 + 1 + 1 + 1, none⟩, ⟨hnewB _ hrow.1 (show ((rowR R I).set J v).length ≤ tests + 1 by omega) (hrow.2.2.set J hb), by simp only; omega, fun I' h => by cases h⟩, ?_⟩
    generalize R.set I (rowF R I, (rowR R I).set J v) = R2 at *
    generalize (rowR R I).set J v = L2 at *
    have hf2 : ∀ c, R2.length = c → famR nid R2 = famC nid R2 c := fun c hc => by rw [← hc]; rfl
    simp only [spU, dictH]
    clear k1 k2 k3 k4 k5 k6 k7 hmem hlI
    have hI6 : I = 0 ∨ I = 1 ∨ I = 2 ∨ I = 3 ∨ I = 4 ∨ I = 5 ∨ I = 6 := by omega
    rcases hi with hi | hi | hi | hi | hi | hi | hi <;> rcases hI6 with rfl | rfl | rfl | rfl | rfl | rfl | rfl
    all_goals try (exfalso; omega)
    all_goals
      rw [hf0 _ hi, hf2 _ (hll.trans hi)]
      refine RetOK.go [] [] (.inr rfl) ?_
      simp [a85, retPV, over, keys, List.map_nil, List.map_cons, List.contains_cons, List.contains_nil, Bool.or_false, Bool.or_true, Bool.true_or, Bool.false_or, beq_self_eq_true, cond_true, cond_false, HeapCov, orNil, nilSz, onBlk, srcOf, getH_hit, getH_miss, getH.eq_1, getS_hit, getS_miss, getS.eq_1, BlkCov, PVCovs, PVCov, ColsEq, AColsEq, ACEq, ColEq.refl, liveIds, SlotsCov, List.all_nil, List.all_cons, List.any_nil, List.any_cons, List.nil_append, List.cons_append, inRange, apart, nilBlk, idS1, idS2, readAll, readRes, onAll, step, res, AX.val, List.drop_zero, List.drop_succ_cons, List.take_succ_cons, List.take_zero, e1, e2, e3, e4, e5, e6, e7, e8, e9, strmC, famC, inR, boxP, boxD, arrS, arrR, hll, hlen, fF, fI, fO, fL, -List.getD_eq_getElem?_getD]
      exact ⟨⟨by omega, by omega⟩, by omega, fun j hj => by omega⟩
end Go.Proofs.YtpifoghhaohhaaaGreatDoor
namespace Go.Proofs.YtpifoghhaohhaaaGreatDoor
open Go.RowKit Go.Shelf Go.Lib
theorem spoil_seq : a85.body = .seq (headV a85.body) (dropV 1 a85.body) := by kernel_rfl
set_option maxHeartbeats 8000000 in
theorem spoil_I (s nid q q0 tests : Nat) (nl : Bool) (A : List Int) (G : List (List UInt8)) (R : RowL) (h : s < nid) (hB : DictB tests G R) (hG0 : 0 < G.length) (hpos : ∀ y ∈ R, 1 ≤ y.2.length ∧ y.2.length ≤ tests) (ht : tests ≤ 6) (hq : q + 12 ≤ q0) (hq1 : q ≤ 1099500002000) (hA : A.length ≤ 17592186044416) :
    ACallI Tryz.prog 85 [.ptr s 0, .ptr (nid + 8) 0] (dictH s nid nl A q G R) (nid + 4104) (SpPost tests q0 G R) (fun _ => .tup []) (fun x => spU s nid nl A x) := by
  obtain ⟨e1, e2, e3, e4, e5, e6, e7, e8, e9⟩ := id_all h
  have hrl := hB.rl
  have hf0 : ∀ c, R.length = c → famR nid R = famC nid R c := fun c hc => by rw [← hc]; rfl
  refine acallI_sr c85 (by simp [a85]) ?_
  rw [spoil_seq]
  refine SR.seqW (ι := {q1 : Nat // q1 ≤ q + 1 ∧ 0 < R.length}) (fun q1 => ⟨[(0, .ptr s 0), (1, .ptr (nid + 8) 0)], dictH s nid nl A q1.1 G R, nid + 4200, nid + 4104⟩) ?_ (fun ⟨q1, hq2, hR0⟩ => spoil_R s nid q q0 tests nl A G R q1 h hB hR0 hpos ht (by omega) (by omega) hA)
  have hi : R.length = 0 ∨ R.length = 1 ∨ R.length = 2 ∨ R.length = 3 ∨ R.length = 4 ∨ R.length = 5 ∨ R.length = 6 ∨ R.length = 7 := by omega
  refine SR.seqW (ι := {x : Bool × Nat // x.2 ≤ q + 1 ∧ (x.1 = false → 0 < R.length)}) (fun x => ⟨[(14, .bool x.1.1), (0, .ptr s 0), (1, .ptr (nid + 8) 0)], dictH s nid nl A x.1.2 G R, nid + 4200, nid + 4104⟩) ?_ (fun ⟨⟨f, q1⟩, hq2, hR0⟩ => ?_)
  · simp only [a85, headV]
    refine SR.run (t := .mk) ?_
    simp only [argSlots]
    unfold dictH boxD arrR
    simp -dsimp only [aqT, aqU, aqN, aqS, ↓seqK, ↓blkK, ↓loopK, step, stepBin, Nat.add_assoc nid, ↓reduceIte, Option.toList, ← Int.ofNat_tmod, ← Int.ofNat_tdiv, simprocAttr, BEq.rfl, LN_succ, e1, e2, e3, e4, e5, e6, e7, e8, e9, strmC_low]
    refine S2.intro (fun h9 => ?_) (fun h9 => ?_) <;> simp -dsimp only [aqT, aqU, aqN, aqS, ↓seqK, ↓blkK, ↓loopK, step, stepBin, Nat.add_assoc nid, ↓reduceIte, Option.toList, ← Int.ofNat_tmod, ← Int.ofNat_tdiv, simprocAttr, BEq.rfl, LN_succ, e1, e2, e3, e4, e5, e6, e7, e8, e9, strmC_low]
    · refine ⟨⟨(true, q), by simp only; omega, fun hh => by cases hh⟩, Cov.drop (by omega) ?_⟩
      simp only [SlotsIn, aqT, aqU, aqN, ↓seqK, ↓blkK, ↓loopK, step, stepBin, Nat.reduceBEq, Nat.reduceBeqDiff, Nat.add_assoc nid, Nat.reduceAdd, reduceCtorEq, ↓reduceIte, Nat.reduceLeDiff, Nat.reduceBneDiff, Option.toList, ← Int.ofNat_tmod, ← Int.ofNat_tdiv, Nat.reduceLT]
      try simp
    · have hR0 : 0 < R.length := by
        have : ¬ R.length = 0 := by simpa using h9
        omega
      refine CallO.on (flip_c s _ nl A q 4 (by omega) (by omega) hA (by omega)) (subH_get (by simp only [aqT, aqU, aqN, ↓seqK, ↓blkK, ↓loopK, step, stepBin, Nat.reduceBEq, Nat.reduceBeqDiff, Nat.add_assoc nid, Nat.reduceAdd, reduceCtorEq, ↓reduceIte, Nat.reduceLeDiff, Nat.reduceBneDiff, Option.toList, ← Int.ofNat_tmod, ← Int.ofNat_tdiv, Nat.reduceLT, e1, e2, e3, e4, e5, e6, e7, e8, e9, Int.cast_ofNat_Int, Int.reduceBEq, Int.reduceBNe, Int.reduceLT, Int.reduceLE, Int.reduceAdd, Int.reduceSub, Int.reduceMul, Int.reduceToNat, Int.reduceNeg, Int.reduceTMod, Int.reduceEq, not_false_eq_true, Int.reducePow, Int.reduceFDiv, Nat.reducePow, Nat.reduceSub, Nat.reduceMul, Nat.min_eq_left, Nat.reduceEqDiff, BEq.rfl, Int.tdiv_one, LN_succ])) ?_
      simp -dsimp only [aqT, aqU, aqN, aqS, ↓seqK, ↓blkK, ↓loopK, step, stepBin, Nat.add_assoc nid, ↓reduceIte, Option.toList, ← Int.ofNat_tmod, ← Int.ofNat_tdiv, simprocAttr, BEq.rfl, LN_succ, e1, e2, e3, e4, e5, e6, e7, e8, e9, strmC_low]
      refine ⟨⟨(flipV A q 4, q + 1), by simp only; omega, fun _ => hR0⟩, Cov.go [] [] ?_⟩
      simp only [dictH]
      rcases hi with hi | hi | hi | hi | hi | hi | hi | hi
      all_goals
        rw [hf0 _ hi]
        simp [retPV, over, keys, List.map_nil, List.map_cons, List.contains_cons, List.contains_nil, Bool.or_false, Bool.or_true, Bool.true_or, Bool.false_or, beq_self_eq_true, cond_true, cond_false, HeapCov, orNil, nilSz, onBlk, srcOf, getH_hit, getH_miss, getH.eq_1, getS_hit, getS_miss, getS.eq_1, BlkCov, PVCovs, PVCov, ColsEq, AColsEq, ACEq, ColEq.refl, liveIds, SlotsCov, List.all_nil, List.all_cons, List.any_nil, List.any_cons, List.nil_append, List.cons_append, inRange, apart, nilBlk, idS1, idS2, readAll, readRes, onAll, step, res, AX.val, List.drop_zero, List.drop_succ_cons, List.take_succ_cons, List.take_zero, e1, e2, e3, e4, e5, e6, e7, e8, e9, strmC, famC, inR, boxP, boxD, arrS, arrR, -List.getD_eq_getElem?_getD]
        exact fun j hj => by omega
  · refine SR.cond (b := f) (by simp [AX.val, getS]) (fun hf => ?_) (fun hf => ?_)
    · refine SR.cov (t' := .mk) (st' := ⟨[(0, .ptr s 0), (1, .ptr (nid + 8) 0)], dictH s nid nl A q1 G R, nid + 4200, nid + 4104⟩) (Cov.drop (by omega) (by simp [SlotsIn, getS])) ?_
      exact spoil_G s nid q q0 tests nl A G R q1 h hB hG0 ht (by omega) (by omega) hA _
    · refine SR.run (t := .mk) ?_
      simp -dsimp only [aqT, aqU, aqN, aqS, ↓seqK, ↓blkK, ↓loopK, step, stepBin, Nat.add_assoc nid, ↓reduceIte, Option.toList, ← Int.ofNat_tmod, ← Int.ofNat_tdiv, simprocAttr, BEq.rfl, LN_succ, e1, e2, e3, e4, e5, e6, e7, e8, e9, strmC_low]
      refine ⟨⟨q1, hq2, hR0 hf⟩, Cov.drop (by omega) ?_⟩
      simp only [SlotsIn, aqT, aqU, aqN, ↓seqK, ↓blkK, ↓loopK, step, stepBin, Nat.reduceBEq, Nat.reduceBeqDiff, Nat.add_assoc nid, Nat.reduceAdd, reduceCtorEq, ↓reduceIte, Nat.reduceLeDiff, Nat.reduceBneDiff, Option.toList, ← Int.ofNat_tmod, ← Int.ofNat_tdiv, Nat.reduceLT]
      try simp
end Go.Proofs.YtpifoghhaohhaaaGreatDoor
